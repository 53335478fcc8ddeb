/- Somebody's part of a scene. Own work of this seat. -/
import Derived.Test.YtpjbbpilgfihbaaGreatDoorZ3
import Derived.Test.YtpjbbpilgfihbaaGreatDoorK4
import Derived.Test.YtpjbbpilgfihbaaGreatDoorZ2
set_option maxRecDepth 100000
set_option linter.unusedSimpArgs false
set_option linter.unusedVariables false
namespace Go.Proofs.YtpjbbpilgfihbaaGreatDoor
open Go Go.Av Go.RowKit
attribute [local go_sem ↓] br_true br_false dbr_true dbr_false dbri_true dbri_false dbrg_true dbrg_false
attribute [local go_sem] run cont br dbr dx dxc dgrd dyld dres dcall calm fieldPlace? allHas step1 opN grdN resN condN exitN stopN exitIt dOk xop xbin xint xarith xstr xbool xpick xnot xneg xextract xpart xpartOk xindex xfieldF fieldD xnew xbox xalloc xfieldAddr xptrAddIf xindexAddr xloadC xload putCells reElem xstoreB xstore xconv xtext xlen xlen2 xcall xfill xbuild cut rep xbuildSlice xbuildSliceD isRow elemD isU8 ev evs evp Go.Av.put Go.Av.get ofConst yldD yldV notBool_undef args0 cellsOf cond_true cond_false decide_true decide_false decide_eq_true_eq decide_eq_false_iff_not List.getElem?_cons_zero List.getElem?_cons_succ List.getElem?_nil List.getD_cons_zero List.getD_cons_succ List.getD_nil List.set_cons_zero List.set_cons_succ List.length_cons List.length_nil List.cons_append List.nil_append List.append_nil List.all_cons List.all_nil List.map_cons List.map_nil List.take_succ_cons List.take_zero List.drop_succ_cons List.drop_zero Bool.and_true Bool.true_and Bool.and_self Bool.and_false Bool.false_and one Go.Av.frozen beq_self_eq_true true_and and_true forall_const false_implies implies_true and_self Option.map_some Option.map_none Nat.zero_add Nat.add_zero Nat.zero_mul Nat.mul_one Nat.one_mul Int.toNat_zero ne_eq not_false_eq_true not_true_eq_false Bool.true_eq_false Bool.false_eq_true List.toList_toArray inr Go.Av.byteOf isByte decide_eq_decide Bool.not_true Bool.not_false Bool.not_eq_true' Bool.or_true Bool.true_or Bool.or_false Bool.false_or ge_iff_le gt_iff_lt and_assoc Bool.decide_eq_true beq_iff_eq beq_eq_false_iff_ne bne_iff_ne bne_self_eq_false if_true if_false Bool.and_eq_true Bool.or_eq_true Bool.and_eq_false_imp Bool.or_eq_false_iff Bool.not_eq_false' has Option.isSome_some Option.isSome_none Int.toNat_natCast Int.cast_ofNat_Int List.length_append xapp2 xapp xappS xappD xappB notInt srcOf srcB byteAV splice' xcut xcutS xcutF xcutB xcutN xcut0 cutL loOf hiOf evo xmake zelem xmax xcopy2 xcopyS xcopyB xnil xcut3 ixOf xclear2 xclearB List.getElem?_toArray xbin2 xnileq xempty xmkmap xmput xmputB xmputF isKey keyEq mfind xbin3 xeqs xeqop eqFs bothB leafEq xlook xlookB xlookF xbytes beq_c_n beq_n_c bne_c_n bne_n_c one_nil dxi dxic dbri rix dck reader blind opOk refOk Go.Op.operands Go.Call.operands List.contains_cons List.contains_nil dxg dxgc dbrg pck putD List.lookup_cons List.lookup_nil ts2 tb2 zl2 za2 Tryz.underlying2 ts3 tb3 zl3 za3 Tryz.underlying3 ts4 tb4 zl4 za4 Tryz.underlying4 ts5 tb5 zl5 za5 Tryz.underlying5 ts6 tb6 zl6 za6 Tryz.underlying6 ts7 tb7 za7 Tryz.underlying7 ts8 tb8 za8 Tryz.underlying8 ts9 tb9 zl9 za9 Tryz.underlying9 ts10 tb10 zl10 za10 Tryz.underlying10 ts11 tb11 zl11 za11 Tryz.underlying11 ts12 tb12 zl12 za12 Tryz.underlying12 ts13 tb13 za13 Tryz.underlying13 ts14 tb14 za14 Tryz.underlying14 ts18 tb18 za18 Tryz.underlying18 ts19 tb19 za19 Tryz.underlying19 ts21 tb21 zl21 za21 Tryz.underlying21 ts22 tb22 zl22 za22 Tryz.underlying22 ts24 tb24 za24 Tryz.underlying24 ts25 tb25 za25 Tryz.underlying25 ts27 tb27 zl27 za27 Tryz.underlying27 ts35 tb35 zl35 za35 Tryz.underlying35 ts36 tb36 za36 Tryz.underlying36 ts37 tb37 za37 Tryz.underlying37 ts39 tb39 zl39 za39 Tryz.underlying39 ts41 tb41 za41 Tryz.underlying41 ts42 tb42 za42 Tryz.underlying42 ts63 tb63 zl63 za63 Tryz.underlying63 ts64 tb64 zl64 za64 Tryz.underlying64 ts65 tb65 za65 Tryz.underlying65 ts66 tb66 za66 Tryz.underlying66 ts67 tb67 zl67 za67 Tryz.underlying67 ts69 tb69 za69 Tryz.underlying69 ts70 tb70 za70 Tryz.underlying70 ts73 tb73 za73 Tryz.underlying73 ts74 tb74 za74 Tryz.underlying74 ts75 tb75 zl75 za75 Tryz.underlying75 ts82 tb82 zl82 za82 Tryz.underlying82 ts96 tb96 za96 Tryz.underlying96 ts97 tb97 za97 Tryz.underlying97 ts103 tb103 za103 Tryz.underlying103 ts104 tb104 za104 Tryz.underlying104 ts109 tb109 zl109 za109 Tryz.underlying109 ts116 tb116 zl116 za116 Tryz.underlying116 ts117 tb117 za117 Tryz.underlying117 ts118 tb118 za118 Tryz.underlying118 ts120 tb120 zl120 za120 Tryz.underlying120 ts124 tb124 zl124 za124 Tryz.underlying124 ts126 tb126 za126 Tryz.underlying126 ts128 tb128 zl128 za128 Tryz.underlying128 ts130 tb130 za130 Tryz.underlying130 ts131 tb131 za131 Tryz.underlying131 ts153 tb153 zl153 za153 Tryz.underlying153 ts167 tb167 zl167 za167 Tryz.underlying167 ts171 tb171 zl171 za171 Tryz.underlying171 ts177 tb177 zl177 za177 Tryz.underlying177 ts183 tb183 zl183 za183 Tryz.underlying183 ts189 tb189 zl189 za189 Tryz.underlying189 ts191 tb191 zl191 za191 Tryz.underlying191 ts195 tb195 za195 Tryz.underlying195 ts196 tb196 za196 Tryz.underlying196 ts198 tb198 zl198 za198 Tryz.underlying198 ts203 tb203 Tryz.underlying203 ts209 tb209 za209 Tryz.underlying209 ts210 tb210 za210 Tryz.underlying210 ts211 tb211 Tryz.underlying211 ts216 tb216 za216 Tryz.underlying216 ts217 tb217 za217 Tryz.underlying217 ts220 tb220 Tryz.underlying220 ts225 tb225 Tryz.underlying225 ts226 tb226 Tryz.underlying226 ts227 tb227 za227 Tryz.underlying227 ts228 tb228 za228 Tryz.underlying228 ts232 tb232 zl232 za232 Tryz.underlying232 ts233 tb233 zl233 za233 Tryz.underlying233 ts235 tb235 zl235 za235 Tryz.underlying235 ts236 tb236 zl236 za236 Tryz.underlying236 ts237 tb237 za237 Tryz.underlying237 ts238 tb238 za238 Tryz.underlying238

theorem words_len : ∀ (l : List UInt8) (s : Wst), (l.foldl wstep s).out.length ≤ s.out.length + l.length
  | [], s => by simp
  | c :: l, s => by
    have ih := words_len l (wstep s c)
    have : (wstep s c).out.length ≤ s.out.length + 1 := by
      unfold wstep
      split
      · simp
      · split
        · simp
        · simp only; split <;> simp
    simp only [List.foldl_cons, List.length_cons]
    omega
theorem wordsL_len (t : List UInt8) : (wordsL t).length ≤ t.length + 1 := by
  have := words_len (t ++ [32]) ⟨false, [], []⟩
  simpa [wordsL] using this

def GOk (n i : Nat) (out : List (Nat × Nat)) : Prop := i ≤ n ∧ ∀ g ∈ out, g.1 < g.2 ∧ g.2 ≤ i
theorem gstep_ok {n i : Nat} {out : List (Nat × Nat)} {p : Pa} (h : GOk n i out) (hi : i < n) : GOk n (i + 1) (gstep out i p) := by
  refine ⟨by omega, fun g hg => ?_⟩
  unfold gstep at hg
  split at hg
  · by_cases hl : out.length = 0
    · have : out = [] := List.length_eq_zero_iff.1 hl
      subst this
      simp at hg
    · rcases List.mem_or_eq_of_mem_set hg with h1 | h1
      · have := h.2 g h1; omega
      · have hlt : out.length - 1 < out.length := by omega
        have hm : out.getD (out.length - 1) (0, 0) ∈ out := by
          rw [List.getD_eq_getElem?_getD, List.getElem?_eq_getElem hlt]
          exact List.getElem_mem hlt
        have := h.2 _ hm
        rw [h1]
        simp only
        omega
  · rcases List.mem_append.1 hg with h1 | h1
    · have := h.2 g h1; omega
    · rw [List.mem_singleton.1 h1]; simp
theorem gfold_ok {n : Nat} : ∀ {ps : List Pa} {i : Nat} {out : List (Nat × Nat)}, GOk n i out → i + ps.length = n → GOk n n (gfold out i ps)
  | [], i, out, h, hn => by
    simp only [List.length_nil, Nat.add_zero] at hn
    subst hn; exact h
  | p :: r, i, out, h, hn => by
    simp only [List.length_cons] at hn
    show GOk n n (gfold (gstep out i p) (i + 1) r)
    exact gfold_ok (gstep_ok h (by omega)) (by omega)
theorem groups_ok (ps : List Pa) : ∀ g ∈ groupsL ps, g.1 < g.2 ∧ g.2 ≤ ps.length :=
  (gfold_ok (n := ps.length) (ps := ps) (i := 0) (out := []) ⟨by omega, by simp⟩ (by omega)).2
theorem gfold_len : ∀ (ps : List Pa) (i : Nat) (out : List (Nat × Nat)), (gfold out i ps).length ≤ out.length + ps.length
  | [], _, _ => by simp [gfold]
  | p :: r, i, out => by
    have := gfold_len r (i + 1) (gstep out i p)
    have h2 := gstep_len out i p
    simp only [gfold, List.length_cons]
    omega
theorem groups_len (ps : List Pa) : (groupsL ps).length ≤ ps.length := by simpa [groupsL] using gfold_len ps 0 []

def pNo : Pa := ⟨0, []⟩
def isCue (p : Pa) (name : List UInt8) : Bool := p.kind == 2 && p.text == name
def headP (ps : List Pa) (gs : List (Nat × Nat)) (k : Nat) : Pa := ps.getD (gs.getD k (0, 0)).1 pNo
def ownB (ps : List Pa) (name : List UInt8) (ws : List (List UInt8)) (gs : List (Nat × Nat)) (k : Nat) : Bool :=
  isCue (headP ps gs k) name || (((headP ps gs k).kind == 2 && (decide (k + 1 < gs.length) && isCue (headP ps gs (k + 1)) name)) ||
    ((headP ps gs k).kind != 2 && (decide (0 < ws.length) && decide (0 < (foundL (wordsL (headP ps gs k).text) ws).length))))
def cutP (ps : List Pa) (g : Nat × Nat) : List Pa := (ps.take g.2).drop g.1
def partTo (ps : List Pa) (name : List UInt8) (ws : List (List UInt8)) (gs : List (Nat × Nat)) : Nat → List Pa
  | 0 => []
  | k + 1 => partTo ps name ws gs k ++ (if ownB ps name ws gs k then cutP ps (gs.getD k (0, 0)) else [])
def partL (ps : List Pa) (name : List UInt8) : List Pa := partTo ps name (wordsL name) (groupsL ps) (groupsL ps).length
theorem partTo_len (ps : List Pa) (name : List UInt8) (ws : List (List UInt8)) (gs : List (Nat × Nat)) : ∀ k, (partTo ps name ws gs k).length ≤ k * ps.length
  | 0 => by simp [partTo]
  | k + 1 => by
    have := partTo_len ps name ws gs k
    have h2 : (if ownB ps name ws gs k then cutP ps (gs.getD k (0, 0)) else []).length ≤ ps.length := by
      split
      · simp [cutP]; omega
      · simp
    rw [partTo, List.length_append, Nat.succ_mul]
    omega

set_option maxHeartbeats 4000000 in
theorem part_pc (ps : List Pa) (name : List UInt8) (hl : ps.length ≤ 10000) (ht : ∀ p ∈ ps, p.text.length ≤ 2000) (hn : name.length ≤ 2000) (h0 : ∀ p, ps.head? = some p → joins p = false) : Pc Tryz.prog 49 [.fz 2 (ps.map paA), .str name] (· = .fz 2 ((partL ps name).map paA)) := by
  refine pc_intro (ct_intro Tryz.func49 rfl Tryz.ntmps49 hB49 (by simp) fun h ρ w => goF (N := 92) Tryz.ntmps49 300 ?_)
  simp only [go_sem, Nat.reduceAdd, Nat.reduceMul, Nat.reduceSub, Nat.reduceBEq, Nat.reduceLT, Nat.reduceLeDiff, reduceIte, reduceCtorEq, Int.reduceToNat, Int.reduceLE, Int.reduceLT, Int.reduceNe, Int.reduceMul, Int.reduceAdd, Int.reduceSub, Int.reduceDiv, Int.reduceMod, Int.reduceEq, Int.reduceGE, Int.reduceGT, Int.reduceNeg, Int.reduceBEq, Int.reduceBNe, Nat.reduceEqDiff]
  refine pcall1 (groups_pc ps (by omega) h0) rfl (N := 92) Tryz.ntmps49 rfl (goF (N := 92) Tryz.ntmps49 300 ?_)
  simp only [go_sem, Nat.reduceAdd, Nat.reduceMul, Nat.reduceSub, Nat.reduceBEq, Nat.reduceLT, Nat.reduceLeDiff, reduceIte, reduceCtorEq, Int.reduceToNat, Int.reduceLE, Int.reduceLT, Int.reduceNe, Int.reduceMul, Int.reduceAdd, Int.reduceSub, Int.reduceDiv, Int.reduceMod, Int.reduceEq, Int.reduceGE, Int.reduceGT, Int.reduceNeg, Int.reduceBEq, Int.reduceBNe, Nat.reduceEqDiff]
  refine pcall1 (words_pc name (by omega)) rfl (N := 92) Tryz.ntmps49 rfl (goF (N := 92) Tryz.ntmps49 300 ?_)
  simp only [go_sem, Nat.reduceAdd, Nat.reduceMul, Nat.reduceSub, Nat.reduceBEq, Nat.reduceLT, Nat.reduceLeDiff, reduceIte, reduceCtorEq, Int.reduceToNat, Int.reduceLE, Int.reduceLT, Int.reduceNe, Int.reduceMul, Int.reduceAdd, Int.reduceSub, Int.reduceDiv, Int.reduceMod, Int.reduceEq, Int.reduceGE, Int.reduceGT, Int.reduceNeg, Int.reduceBEq, Int.reduceBNe, Nat.reduceEqDiff]
  have hgl := groups_len ps
  have hgo := groups_ok ps
  have hwl := wordsL_len name
  have hfin : partL ps name = partTo ps name (wordsL name) (groupsL ps) (groupsL ps).length := rfl
  generalize groupsL ps = gs at *
  generalize wordsL name = ws at *
  refine aloop (ι := Nat) (fun i => gs.length - i)
    (fun i => [(20, .int .i64 i), (19, .int .i64 gs.length), (18, .fz 2 (gs.map gA)), (7, .fz 1 (ws.map .str)), (6, .fz 2 (gs.map gA)), (5, .sl 0 0 (partTo ps name ws gs i).length (partTo ps name ws gs i).length), (1, .str name), (0, .fz 2 (ps.map paA))])
    (fun i => [.arr 2 ((partTo ps name ws gs i).map paA)]) (fun i => i ≤ gs.length) 0 (by simp) ?_ ?_
  · refine Shift.trans (Shift.nilsl 5 2 rfl) (Shift.weak ?_)
    simp only [wk, go_sem, Nat.reduceAdd, Nat.reduceMul, Nat.reduceSub, Nat.reduceBEq, Nat.reduceLT, Nat.reduceLeDiff, reduceIte, reduceCtorEq, Int.reduceToNat, Int.reduceLE, Int.reduceLT, Int.reduceNe, Int.reduceMul, Int.reduceAdd, Int.reduceSub, Int.reduceDiv, Int.reduceMod, Int.reduceEq, Int.reduceGE, Int.reduceGT, Int.reduceNeg, Int.reduceBEq, Int.reduceBNe, Nat.reduceEqDiff, partTo, List.length_map]
  · intro i g1 J hJ
    by_cases gi : i < gs.length
    · have di : decide ((i : Int) < (gs.length : Int)) = true := by simp; omega
      have hgi := hgo gs[i] (List.getElem_mem gi)
      have hgd : gs.getD i (0, 0) = gs[i] := by simp [List.getD, gi]
      have hgA : List.getD (List.map gA gs) i .any = .agg [.int .i64 gs[i].1, .int .i64 gs[i].2] := by simp [List.getD, gi, gA]
      have hp1 : gs[i].1 < ps.length := by omega
      have hhd : headP ps gs i = ps[gs[i].1] := by rw [headP, hgd]; simp [List.getD, hp1]
      have hpA : List.getD (List.map paA ps) gs[i].1 .any = .agg [.int .i64 ps[gs[i].1].kind, .str ps[gs[i].1].text] := by simp [List.getD, hp1, paA]
      have hsu : partTo ps name ws gs (i + 1) = partTo ps name ws gs i ++ (if ownB ps name ws gs i then cutP ps gs[i] else []) := by rw [partTo, hgd]
      have hpl := partTo_len ps name ws gs i
      unfold ownB isCue at hsu
      rw [hhd] at hsu
      have htx := ht ps[gs[i].1] (List.getElem_mem hp1)
      generalize ps[gs[i].1] = p at *
      generalize gs[i] = g at *
      obtain ⟨a, b⟩ := g
      dsimp only at *
      have eqp : eqPlain Tryz.prog 74 = true := by kernel_rfl
      have hcut : List.drop a (List.take b (List.map paA ps)) = List.map paA (cutP ps (a, b)) := by simp [cutP, List.map_take, List.map_drop]
      have hcl : (cutP ps (a, b)).length ≤ ps.length := by simp [cutP]; omega
      have hb2 : i * ps.length ≤ 10000 * 10000 := Nat.mul_le_mul (by omega) hl
      have fin := hJ (i + 1) (by omega) (by omega)
      by_cases k2 : p.kind = 2
      · have q2 : (p.kind == 2) = true := by simp [k2]
        have q2' : (p.kind != 2) = false := by simp [k2]
        cases q1 : (p.text == name) with
        | true =>
          by_cases hk : i + 1 < gs.length
          · have dk : decide ((i : Int) + 1 < (gs.length : Int)) = true := by simp; omega
            have hgj := hgo gs[i + 1] (List.getElem_mem hk)
            have hgdj : gs.getD (i + 1) (0, 0) = gs[i + 1] := by simp [List.getD, hk]
            have hgB : List.getD (List.map gA gs) ((i : Int) + 1).toNat .any = .agg [.int .i64 gs[i + 1].1, .int .i64 gs[i + 1].2] := by
              rw [show ((i : Int) + 1).toNat = i + 1 by omega]
              simp [List.getD, hk, gA]
            have hp2 : gs[i + 1].1 < ps.length := by omega
            have hh2 : headP ps gs (i + 1) = ps[gs[i + 1].1] := by rw [headP, hgdj]; simp [List.getD, hp2]
            have hpB : List.getD (List.map paA ps) gs[i + 1].1 .any = .agg [.int .i64 ps[gs[i + 1].1].kind, .str ps[gs[i + 1].1].text] := by simp [List.getD, hp2, paA]
            rw [hh2] at hsu
            generalize ps[gs[i + 1].1] = p2 at *
            generalize gs[i + 1] = g2 at *
            obtain ⟨a2, b2⟩ := g2
            dsimp only at *
            refine goF (N := 92) Tryz.ntmps49 300 ?_
            simp only [go_sem, Nat.reduceAdd, Nat.reduceMul, Nat.reduceSub, Nat.reduceBEq, Nat.reduceLT, Nat.reduceLeDiff, reduceIte, reduceCtorEq, Int.reduceToNat, Int.reduceLE, Int.reduceLT, Int.reduceNe, Int.reduceMul, Int.reduceAdd, Int.reduceSub, Int.reduceDiv, Int.reduceMod, Int.reduceEq, Int.reduceGE, Int.reduceGT, Int.reduceNeg, Int.reduceBEq, Int.reduceBNe, Nat.reduceEqDiff, List.length_map, di, hgA, hpA, q2, q2', hcut, q1, dk, hgB, hpB]
            have hs : partTo ps name ws gs (i + 1) = partTo ps name ws gs i ++ cutP ps (a, b) := by rw [hsu, if_pos (by simp [q2, q1])]
            repeat refine And.intro (by first | omega | exact .inl trivial | exact eqp | (simp; done) | (simp; omega)) ?_
            rw [← List.map_append, ← hs, show (partTo ps name ws gs i).length + (cutP ps (a, b)).length = (partTo ps name ws gs (i + 1)).length by rw [hs, List.length_append], show (i : Int) + 1 = ((i + 1 : Nat) : Int) by omega]
            refine ainv fin (Shift.low 1 (by simp) (by simp) ?_ ?_)
            · have := low_all (n := 1) (frozen_paras (partTo ps name ws gs (i + 1)))
              simp only [List.take_succ_cons, List.take_zero, List.all_cons, List.all_nil, lowB, this, Bool.and_self]
            · simp only [wkl, lowV, lowC, Av.get, go_sem, Nat.reduceAdd, Nat.reduceMul, Nat.reduceSub, Nat.reduceBEq, Nat.reduceLT, Nat.reduceLeDiff, reduceIte, reduceCtorEq, Int.reduceToNat, Int.reduceLE, Int.reduceLT, Int.reduceNe, Int.reduceMul, Int.reduceAdd, Int.reduceSub, Int.reduceDiv, Int.reduceMod, Int.reduceEq, Int.reduceGE, Int.reduceGT, Int.reduceNeg, Int.reduceBEq, Int.reduceBNe, Nat.reduceEqDiff]
          · have dk : decide ((i : Int) + 1 < (gs.length : Int)) = false := by simp; omega
            refine goF (N := 92) Tryz.ntmps49 300 ?_
            simp only [go_sem, Nat.reduceAdd, Nat.reduceMul, Nat.reduceSub, Nat.reduceBEq, Nat.reduceLT, Nat.reduceLeDiff, reduceIte, reduceCtorEq, Int.reduceToNat, Int.reduceLE, Int.reduceLT, Int.reduceNe, Int.reduceMul, Int.reduceAdd, Int.reduceSub, Int.reduceDiv, Int.reduceMod, Int.reduceEq, Int.reduceGE, Int.reduceGT, Int.reduceNeg, Int.reduceBEq, Int.reduceBNe, Nat.reduceEqDiff, List.length_map, di, hgA, hpA, q2, q2', hcut, q1, dk]
            have hs : partTo ps name ws gs (i + 1) = partTo ps name ws gs i ++ cutP ps (a, b) := by rw [hsu, if_pos (by simp [q2, q1])]
            repeat refine And.intro (by first | omega | exact .inl trivial | exact eqp | (simp; done) | (simp; omega)) ?_
            rw [← List.map_append, ← hs, show (partTo ps name ws gs i).length + (cutP ps (a, b)).length = (partTo ps name ws gs (i + 1)).length by rw [hs, List.length_append], show (i : Int) + 1 = ((i + 1 : Nat) : Int) by omega]
            refine ainv fin (Shift.low 1 (by simp) (by simp) ?_ ?_)
            · have := low_all (n := 1) (frozen_paras (partTo ps name ws gs (i + 1)))
              simp only [List.take_succ_cons, List.take_zero, List.all_cons, List.all_nil, lowB, this, Bool.and_self]
            · simp only [wkl, lowV, lowC, Av.get, go_sem, Nat.reduceAdd, Nat.reduceMul, Nat.reduceSub, Nat.reduceBEq, Nat.reduceLT, Nat.reduceLeDiff, reduceIte, reduceCtorEq, Int.reduceToNat, Int.reduceLE, Int.reduceLT, Int.reduceNe, Int.reduceMul, Int.reduceAdd, Int.reduceSub, Int.reduceDiv, Int.reduceMod, Int.reduceEq, Int.reduceGE, Int.reduceGT, Int.reduceNeg, Int.reduceBEq, Int.reduceBNe, Nat.reduceEqDiff]
        | false =>
          by_cases hk : i + 1 < gs.length
          · have dk : decide ((i : Int) + 1 < (gs.length : Int)) = true := by simp; omega
            have hgj := hgo gs[i + 1] (List.getElem_mem hk)
            have hgdj : gs.getD (i + 1) (0, 0) = gs[i + 1] := by simp [List.getD, hk]
            have hgB : List.getD (List.map gA gs) ((i : Int) + 1).toNat .any = .agg [.int .i64 gs[i + 1].1, .int .i64 gs[i + 1].2] := by
              rw [show ((i : Int) + 1).toNat = i + 1 by omega]
              simp [List.getD, hk, gA]
            have hp2 : gs[i + 1].1 < ps.length := by omega
            have hh2 : headP ps gs (i + 1) = ps[gs[i + 1].1] := by rw [headP, hgdj]; simp [List.getD, hp2]
            have hpB : List.getD (List.map paA ps) gs[i + 1].1 .any = .agg [.int .i64 ps[gs[i + 1].1].kind, .str ps[gs[i + 1].1].text] := by simp [List.getD, hp2, paA]
            rw [hh2] at hsu
            generalize ps[gs[i + 1].1] = p2 at *
            generalize gs[i + 1] = g2 at *
            obtain ⟨a2, b2⟩ := g2
            dsimp only at *
            cases e3 : p2.kind == 2 with
            | true =>
              cases e4 : p2.text == name with
              | true =>
                refine goF (N := 92) Tryz.ntmps49 300 ?_
                simp only [go_sem, Nat.reduceAdd, Nat.reduceMul, Nat.reduceSub, Nat.reduceBEq, Nat.reduceLT, Nat.reduceLeDiff, reduceIte, reduceCtorEq, Int.reduceToNat, Int.reduceLE, Int.reduceLT, Int.reduceNe, Int.reduceMul, Int.reduceAdd, Int.reduceSub, Int.reduceDiv, Int.reduceMod, Int.reduceEq, Int.reduceGE, Int.reduceGT, Int.reduceNeg, Int.reduceBEq, Int.reduceBNe, Nat.reduceEqDiff, List.length_map, di, hgA, hpA, q2, q2', hcut, q1, dk, hgB, hpB, e3, e4]
                have hs : partTo ps name ws gs (i + 1) = partTo ps name ws gs i ++ cutP ps (a, b) := by rw [hsu, if_pos (by simp [q2, hk, e3, e4])]
                repeat refine And.intro (by first | omega | exact .inl trivial | exact eqp | (simp; done) | (simp; omega)) ?_
                rw [← List.map_append, ← hs, show (partTo ps name ws gs i).length + (cutP ps (a, b)).length = (partTo ps name ws gs (i + 1)).length by rw [hs, List.length_append], show (i : Int) + 1 = ((i + 1 : Nat) : Int) by omega]
                refine ainv fin (Shift.low 1 (by simp) (by simp) ?_ ?_)
                · have := low_all (n := 1) (frozen_paras (partTo ps name ws gs (i + 1)))
                  simp only [List.take_succ_cons, List.take_zero, List.all_cons, List.all_nil, lowB, this, Bool.and_self]
                · simp only [wkl, lowV, lowC, Av.get, go_sem, Nat.reduceAdd, Nat.reduceMul, Nat.reduceSub, Nat.reduceBEq, Nat.reduceLT, Nat.reduceLeDiff, reduceIte, reduceCtorEq, Int.reduceToNat, Int.reduceLE, Int.reduceLT, Int.reduceNe, Int.reduceMul, Int.reduceAdd, Int.reduceSub, Int.reduceDiv, Int.reduceMod, Int.reduceEq, Int.reduceGE, Int.reduceGT, Int.reduceNeg, Int.reduceBEq, Int.reduceBNe, Nat.reduceEqDiff]
              | false =>
                refine goF (N := 92) Tryz.ntmps49 300 ?_
                simp only [go_sem, Nat.reduceAdd, Nat.reduceMul, Nat.reduceSub, Nat.reduceBEq, Nat.reduceLT, Nat.reduceLeDiff, reduceIte, reduceCtorEq, Int.reduceToNat, Int.reduceLE, Int.reduceLT, Int.reduceNe, Int.reduceMul, Int.reduceAdd, Int.reduceSub, Int.reduceDiv, Int.reduceMod, Int.reduceEq, Int.reduceGE, Int.reduceGT, Int.reduceNeg, Int.reduceBEq, Int.reduceBNe, Nat.reduceEqDiff, List.length_map, di, hgA, hpA, q2, q2', hcut, q1, dk, hgB, hpB, e3, e4]
                have hs : partTo ps name ws gs (i + 1) = partTo ps name ws gs i := by rw [hsu, if_neg (by simp [q2, q2', q1, hk, e3, e4]), List.append_nil]
                repeat refine And.intro (by first | omega | exact .inl trivial | exact eqp | (simp; done) | (simp; omega)) ?_
                rw [← hs, show (i : Int) + 1 = ((i + 1 : Nat) : Int) by omega]
                refine ainv fin (Shift.low 1 (by simp) (by simp) ?_ ?_)
                · have := low_all (n := 1) (frozen_paras (partTo ps name ws gs (i + 1)))
                  simp only [List.take_succ_cons, List.take_zero, List.all_cons, List.all_nil, lowB, this, Bool.and_self]
                · simp only [wkl, lowV, lowC, Av.get, go_sem, Nat.reduceAdd, Nat.reduceMul, Nat.reduceSub, Nat.reduceBEq, Nat.reduceLT, Nat.reduceLeDiff, reduceIte, reduceCtorEq, Int.reduceToNat, Int.reduceLE, Int.reduceLT, Int.reduceNe, Int.reduceMul, Int.reduceAdd, Int.reduceSub, Int.reduceDiv, Int.reduceMod, Int.reduceEq, Int.reduceGE, Int.reduceGT, Int.reduceNeg, Int.reduceBEq, Int.reduceBNe, Nat.reduceEqDiff]
            | false =>
              refine goF (N := 92) Tryz.ntmps49 300 ?_
              simp only [go_sem, Nat.reduceAdd, Nat.reduceMul, Nat.reduceSub, Nat.reduceBEq, Nat.reduceLT, Nat.reduceLeDiff, reduceIte, reduceCtorEq, Int.reduceToNat, Int.reduceLE, Int.reduceLT, Int.reduceNe, Int.reduceMul, Int.reduceAdd, Int.reduceSub, Int.reduceDiv, Int.reduceMod, Int.reduceEq, Int.reduceGE, Int.reduceGT, Int.reduceNeg, Int.reduceBEq, Int.reduceBNe, Nat.reduceEqDiff, List.length_map, di, hgA, hpA, q2, q2', hcut, q1, dk, hgB, hpB, e3]
              have hs : partTo ps name ws gs (i + 1) = partTo ps name ws gs i := by rw [hsu, if_neg (by simp [q2, q2', q1, hk, e3]), List.append_nil]
              repeat refine And.intro (by first | omega | exact .inl trivial | exact eqp | (simp; done) | (simp; omega)) ?_
              rw [← hs, show (i : Int) + 1 = ((i + 1 : Nat) : Int) by omega]
              refine ainv fin (Shift.low 1 (by simp) (by simp) ?_ ?_)
              · have := low_all (n := 1) (frozen_paras (partTo ps name ws gs (i + 1)))
                simp only [List.take_succ_cons, List.take_zero, List.all_cons, List.all_nil, lowB, this, Bool.and_self]
              · simp only [wkl, lowV, lowC, Av.get, go_sem, Nat.reduceAdd, Nat.reduceMul, Nat.reduceSub, Nat.reduceBEq, Nat.reduceLT, Nat.reduceLeDiff, reduceIte, reduceCtorEq, Int.reduceToNat, Int.reduceLE, Int.reduceLT, Int.reduceNe, Int.reduceMul, Int.reduceAdd, Int.reduceSub, Int.reduceDiv, Int.reduceMod, Int.reduceEq, Int.reduceGE, Int.reduceGT, Int.reduceNeg, Int.reduceBEq, Int.reduceBNe, Nat.reduceEqDiff]
          · have dk : decide ((i : Int) + 1 < (gs.length : Int)) = false := by simp; omega
            refine goF (N := 92) Tryz.ntmps49 300 ?_
            simp only [go_sem, Nat.reduceAdd, Nat.reduceMul, Nat.reduceSub, Nat.reduceBEq, Nat.reduceLT, Nat.reduceLeDiff, reduceIte, reduceCtorEq, Int.reduceToNat, Int.reduceLE, Int.reduceLT, Int.reduceNe, Int.reduceMul, Int.reduceAdd, Int.reduceSub, Int.reduceDiv, Int.reduceMod, Int.reduceEq, Int.reduceGE, Int.reduceGT, Int.reduceNeg, Int.reduceBEq, Int.reduceBNe, Nat.reduceEqDiff, List.length_map, di, hgA, hpA, q2, q2', hcut, q1, dk]
            have hs : partTo ps name ws gs (i + 1) = partTo ps name ws gs i := by rw [hsu, if_neg (by simp [q2, q2', q1, hk]), List.append_nil]
            repeat refine And.intro (by first | omega | exact .inl trivial | exact eqp | (simp; done) | (simp; omega)) ?_
            rw [← hs, show (i : Int) + 1 = ((i + 1 : Nat) : Int) by omega]
            refine ainv fin (Shift.low 1 (by simp) (by simp) ?_ ?_)
            · have := low_all (n := 1) (frozen_paras (partTo ps name ws gs (i + 1)))
              simp only [List.take_succ_cons, List.take_zero, List.all_cons, List.all_nil, lowB, this, Bool.and_self]
            · simp only [wkl, lowV, lowC, Av.get, go_sem, Nat.reduceAdd, Nat.reduceMul, Nat.reduceSub, Nat.reduceBEq, Nat.reduceLT, Nat.reduceLeDiff, reduceIte, reduceCtorEq, Int.reduceToNat, Int.reduceLE, Int.reduceLT, Int.reduceNe, Int.reduceMul, Int.reduceAdd, Int.reduceSub, Int.reduceDiv, Int.reduceMod, Int.reduceEq, Int.reduceGE, Int.reduceGT, Int.reduceNeg, Int.reduceBEq, Int.reduceBNe, Nat.reduceEqDiff]
      · have q2 : (p.kind == 2) = false := by simp [k2]
        have q2' : (p.kind != 2) = true := by simp [k2]
        by_cases hw : 0 < ws.length
        · have dw : decide ((ws.length : Int) > 0) = true := by simp; omega
          refine goF (N := 92) Tryz.ntmps49 300 ?_
          simp only [go_sem, Nat.reduceAdd, Nat.reduceMul, Nat.reduceSub, Nat.reduceBEq, Nat.reduceLT, Nat.reduceLeDiff, reduceIte, reduceCtorEq, Int.reduceToNat, Int.reduceLE, Int.reduceLT, Int.reduceNe, Int.reduceMul, Int.reduceAdd, Int.reduceSub, Int.reduceDiv, Int.reduceMod, Int.reduceEq, Int.reduceGE, Int.reduceGT, Int.reduceNeg, Int.reduceBEq, Int.reduceBNe, Nat.reduceEqDiff, List.length_map, di, hgA, hpA, q2, q2', hcut, dw]
          repeat refine And.intro (by first | omega | exact .inl trivial | exact eqp | (simp; done) | (simp; omega)) ?_
          refine pcall1 (words_pc p.text (by omega)) rfl (N := 92) Tryz.ntmps49 rfl (goF (N := 92) Tryz.ntmps49 300 ?_)
          have hwp := wordsL_len p.text
          simp only [go_sem, Nat.reduceAdd, Nat.reduceMul, Nat.reduceSub, Nat.reduceBEq, Nat.reduceLT, Nat.reduceLeDiff, reduceIte, reduceCtorEq, Int.reduceToNat, Int.reduceLE, Int.reduceLT, Int.reduceNe, Int.reduceMul, Int.reduceAdd, Int.reduceSub, Int.reduceDiv, Int.reduceMod, Int.reduceEq, Int.reduceGE, Int.reduceGT, Int.reduceNeg, Int.reduceBEq, Int.reduceBNe, Nat.reduceEqDiff, List.length_map, di, hgA, hpA, q2, q2', hcut, dw]
          refine pcall1 (found_pc (wordsL p.text) ws (by omega) (by omega)) rfl (N := 92) Tryz.ntmps49 rfl (goF (N := 92) Tryz.ntmps49 300 ?_)
          by_cases hf : 0 < (foundL (wordsL p.text) ws).length
          · have df : decide (((foundL (wordsL p.text) ws).length : Int) > 0) = true := by simp; omega
            simp only [go_sem, Nat.reduceAdd, Nat.reduceMul, Nat.reduceSub, Nat.reduceBEq, Nat.reduceLT, Nat.reduceLeDiff, reduceIte, reduceCtorEq, Int.reduceToNat, Int.reduceLE, Int.reduceLT, Int.reduceNe, Int.reduceMul, Int.reduceAdd, Int.reduceSub, Int.reduceDiv, Int.reduceMod, Int.reduceEq, Int.reduceGE, Int.reduceGT, Int.reduceNeg, Int.reduceBEq, Int.reduceBNe, Nat.reduceEqDiff, List.length_map, di, hgA, hpA, q2, q2', hcut, dw, df]
            have hs : partTo ps name ws gs (i + 1) = partTo ps name ws gs i ++ cutP ps (a, b) := by rw [hsu, if_pos (by simp [q2', hw, hf])]
            repeat refine And.intro (by first | omega | exact .inl trivial | exact eqp | (simp; done) | (simp; omega)) ?_
            rw [← List.map_append, ← hs, show (partTo ps name ws gs i).length + (cutP ps (a, b)).length = (partTo ps name ws gs (i + 1)).length by rw [hs, List.length_append], show (i : Int) + 1 = ((i + 1 : Nat) : Int) by omega]
            refine ainv fin (Shift.low 1 (by simp) (by simp) ?_ ?_)
            · have := low_all (n := 1) (frozen_paras (partTo ps name ws gs (i + 1)))
              simp only [List.take_succ_cons, List.take_zero, List.all_cons, List.all_nil, lowB, this, Bool.and_self]
            · simp only [wkl, lowV, lowC, Av.get, go_sem, Nat.reduceAdd, Nat.reduceMul, Nat.reduceSub, Nat.reduceBEq, Nat.reduceLT, Nat.reduceLeDiff, reduceIte, reduceCtorEq, Int.reduceToNat, Int.reduceLE, Int.reduceLT, Int.reduceNe, Int.reduceMul, Int.reduceAdd, Int.reduceSub, Int.reduceDiv, Int.reduceMod, Int.reduceEq, Int.reduceGE, Int.reduceGT, Int.reduceNeg, Int.reduceBEq, Int.reduceBNe, Nat.reduceEqDiff]
          · have df : decide (((foundL (wordsL p.text) ws).length : Int) > 0) = false := decide_eq_false (by omega)
            simp only [go_sem, Nat.reduceAdd, Nat.reduceMul, Nat.reduceSub, Nat.reduceBEq, Nat.reduceLT, Nat.reduceLeDiff, reduceIte, reduceCtorEq, Int.reduceToNat, Int.reduceLE, Int.reduceLT, Int.reduceNe, Int.reduceMul, Int.reduceAdd, Int.reduceSub, Int.reduceDiv, Int.reduceMod, Int.reduceEq, Int.reduceGE, Int.reduceGT, Int.reduceNeg, Int.reduceBEq, Int.reduceBNe, Nat.reduceEqDiff, List.length_map, di, hgA, hpA, q2, q2', hcut, dw, df]
            have hs : partTo ps name ws gs (i + 1) = partTo ps name ws gs i := by rw [hsu, if_neg (by simp [q2, q2', hw, hf]), List.append_nil]
            repeat refine And.intro (by first | omega | exact .inl trivial | exact eqp | (simp; done) | (simp; omega)) ?_
            rw [← hs, show (i : Int) + 1 = ((i + 1 : Nat) : Int) by omega]
            refine ainv fin (Shift.low 1 (by simp) (by simp) ?_ ?_)
            · have := low_all (n := 1) (frozen_paras (partTo ps name ws gs (i + 1)))
              simp only [List.take_succ_cons, List.take_zero, List.all_cons, List.all_nil, lowB, this, Bool.and_self]
            · simp only [wkl, lowV, lowC, Av.get, go_sem, Nat.reduceAdd, Nat.reduceMul, Nat.reduceSub, Nat.reduceBEq, Nat.reduceLT, Nat.reduceLeDiff, reduceIte, reduceCtorEq, Int.reduceToNat, Int.reduceLE, Int.reduceLT, Int.reduceNe, Int.reduceMul, Int.reduceAdd, Int.reduceSub, Int.reduceDiv, Int.reduceMod, Int.reduceEq, Int.reduceGE, Int.reduceGT, Int.reduceNeg, Int.reduceBEq, Int.reduceBNe, Nat.reduceEqDiff]
        · have dw : decide ((ws.length : Int) > 0) = false := decide_eq_false (by omega)
          refine goF (N := 92) Tryz.ntmps49 300 ?_
          simp only [go_sem, Nat.reduceAdd, Nat.reduceMul, Nat.reduceSub, Nat.reduceBEq, Nat.reduceLT, Nat.reduceLeDiff, reduceIte, reduceCtorEq, Int.reduceToNat, Int.reduceLE, Int.reduceLT, Int.reduceNe, Int.reduceMul, Int.reduceAdd, Int.reduceSub, Int.reduceDiv, Int.reduceMod, Int.reduceEq, Int.reduceGE, Int.reduceGT, Int.reduceNeg, Int.reduceBEq, Int.reduceBNe, Nat.reduceEqDiff, List.length_map, di, hgA, hpA, q2, q2', hcut, dw]
          have hs : partTo ps name ws gs (i + 1) = partTo ps name ws gs i := by rw [hsu, if_neg (by simp [q2, q2', hw]), List.append_nil]
          repeat refine And.intro (by first | omega | exact .inl trivial | exact eqp | (simp; done) | (simp; omega)) ?_
          rw [← hs, show (i : Int) + 1 = ((i + 1 : Nat) : Int) by omega]
          refine ainv fin (Shift.low 1 (by simp) (by simp) ?_ ?_)
          · have := low_all (n := 1) (frozen_paras (partTo ps name ws gs (i + 1)))
            simp only [List.take_succ_cons, List.take_zero, List.all_cons, List.all_nil, lowB, this, Bool.and_self]
          · simp only [wkl, lowV, lowC, Av.get, go_sem, Nat.reduceAdd, Nat.reduceMul, Nat.reduceSub, Nat.reduceBEq, Nat.reduceLT, Nat.reduceLeDiff, reduceIte, reduceCtorEq, Int.reduceToNat, Int.reduceLE, Int.reduceLT, Int.reduceNe, Int.reduceMul, Int.reduceAdd, Int.reduceSub, Int.reduceDiv, Int.reduceMod, Int.reduceEq, Int.reduceGE, Int.reduceGT, Int.reduceNeg, Int.reduceBEq, Int.reduceBNe, Nat.reduceEqDiff]
    · have di : decide ((i : Int) < (gs.length : Int)) = false := by simp; omega
      have hi : i = gs.length := by omega
      subst hi
      refine goF (N := 92) Tryz.ntmps49 300 ?_
      simp only [go_sem, Nat.reduceAdd, Nat.reduceMul, Nat.reduceSub, Nat.reduceBEq, Nat.reduceLT, Nat.reduceLeDiff, reduceIte, reduceCtorEq, Int.reduceToNat, Int.reduceLE, Int.reduceLT, Int.reduceNe, Int.reduceMul, Int.reduceAdd, Int.reduceSub, Int.reduceDiv, Int.reduceMod, Int.reduceEq, Int.reduceGE, Int.reduceGT, Int.reduceNeg, Int.reduceBEq, Int.reduceBNe, Nat.reduceEqDiff, di]
      refine ARet.shift (Shift.freeze 4 (id := 0) rfl rfl (by simp) (Nat.le_refl _) (frozen_paras _)) (aret [4] rfl ⟨?_, rfl⟩)
      rw [hfin]
      simp [resV, Av.get, Av.put, List.take_of_length_le]
end Go.Proofs.YtpjbbpilgfihbaaGreatDoor
/- Who speaks in a scene; times of scenes. Own work of this seat. -/
set_option maxRecDepth 100000
set_option linter.unusedSimpArgs false
set_option linter.unusedVariables false
namespace Go.Proofs.YtpjbbpilgfihbaaGreatDoor
open Go Go.Av Go.RowKit
attribute [local go_sem ↓] br_true br_false dbr_true dbr_false dbri_true dbri_false dbrg_true dbrg_false
attribute [local go_sem] run cont br dbr dx dxc dgrd dyld dres dcall calm fieldPlace? allHas step1 opN grdN resN condN exitN stopN exitIt dOk xop xbin xint xarith xstr xbool xpick xnot xneg xextract xpart xpartOk xindex xfieldF fieldD xnew xbox xalloc xfieldAddr xptrAddIf xindexAddr xloadC xload putCells reElem xstoreB xstore xconv xtext xlen xlen2 xcall xfill xbuild cut rep xbuildSlice xbuildSliceD isRow elemD isU8 ev evs evp Go.Av.put Go.Av.get ofConst yldD yldV notBool_undef args0 cellsOf cond_true cond_false decide_true decide_false decide_eq_true_eq decide_eq_false_iff_not List.getElem?_cons_zero List.getElem?_cons_succ List.getElem?_nil List.getD_cons_zero List.getD_cons_succ List.getD_nil List.set_cons_zero List.set_cons_succ List.length_cons List.length_nil List.cons_append List.nil_append List.append_nil List.all_cons List.all_nil List.map_cons List.map_nil List.take_succ_cons List.take_zero List.drop_succ_cons List.drop_zero Bool.and_true Bool.true_and Bool.and_self Bool.and_false Bool.false_and one Go.Av.frozen beq_self_eq_true true_and and_true forall_const false_implies implies_true and_self Option.map_some Option.map_none Nat.zero_add Nat.add_zero Nat.zero_mul Nat.mul_one Nat.one_mul Int.toNat_zero ne_eq not_false_eq_true not_true_eq_false Bool.true_eq_false Bool.false_eq_true List.toList_toArray inr Go.Av.byteOf isByte decide_eq_decide Bool.not_true Bool.not_false Bool.not_eq_true' Bool.or_true Bool.true_or Bool.or_false Bool.false_or ge_iff_le gt_iff_lt and_assoc Bool.decide_eq_true beq_iff_eq beq_eq_false_iff_ne bne_iff_ne bne_self_eq_false if_true if_false Bool.and_eq_true Bool.or_eq_true Bool.and_eq_false_imp Bool.or_eq_false_iff Bool.not_eq_false' has Option.isSome_some Option.isSome_none Int.toNat_natCast Int.cast_ofNat_Int List.length_append xapp2 xapp xappS xappD xappB notInt srcOf srcB byteAV splice' xcut xcutS xcutF xcutB xcutN xcut0 cutL loOf hiOf evo xmake zelem xmax xcopy2 xcopyS xcopyB xnil xcut3 ixOf xclear2 xclearB List.getElem?_toArray xbin2 xnileq xempty xmkmap xmput xmputB xmputF isKey keyEq mfind xbin3 xeqs xeqop eqFs bothB leafEq xlook xlookB xlookF xbytes beq_c_n beq_n_c bne_c_n bne_n_c one_nil dxi dxic dbri rix dck reader blind opOk refOk Go.Op.operands Go.Call.operands List.contains_cons List.contains_nil dxg dxgc dbrg pck putD List.lookup_cons List.lookup_nil ts2 tb2 zl2 za2 Tryz.underlying2 ts3 tb3 zl3 za3 Tryz.underlying3 ts4 tb4 zl4 za4 Tryz.underlying4 ts5 tb5 zl5 za5 Tryz.underlying5 ts6 tb6 zl6 za6 Tryz.underlying6 ts7 tb7 za7 Tryz.underlying7 ts8 tb8 za8 Tryz.underlying8 ts9 tb9 zl9 za9 Tryz.underlying9 ts10 tb10 zl10 za10 Tryz.underlying10 ts11 tb11 zl11 za11 Tryz.underlying11 ts12 tb12 zl12 za12 Tryz.underlying12 ts13 tb13 za13 Tryz.underlying13 ts14 tb14 za14 Tryz.underlying14 ts18 tb18 za18 Tryz.underlying18 ts19 tb19 za19 Tryz.underlying19 ts21 tb21 zl21 za21 Tryz.underlying21 ts22 tb22 zl22 za22 Tryz.underlying22 ts24 tb24 za24 Tryz.underlying24 ts25 tb25 za25 Tryz.underlying25 ts27 tb27 zl27 za27 Tryz.underlying27 ts35 tb35 zl35 za35 Tryz.underlying35 ts36 tb36 za36 Tryz.underlying36 ts37 tb37 za37 Tryz.underlying37 ts39 tb39 zl39 za39 Tryz.underlying39 ts41 tb41 za41 Tryz.underlying41 ts42 tb42 za42 Tryz.underlying42 ts63 tb63 zl63 za63 Tryz.underlying63 ts64 tb64 zl64 za64 Tryz.underlying64 ts65 tb65 za65 Tryz.underlying65 ts66 tb66 za66 Tryz.underlying66 ts67 tb67 zl67 za67 Tryz.underlying67 ts69 tb69 za69 Tryz.underlying69 ts70 tb70 za70 Tryz.underlying70 ts73 tb73 za73 Tryz.underlying73 ts74 tb74 za74 Tryz.underlying74 ts75 tb75 zl75 za75 Tryz.underlying75 ts82 tb82 zl82 za82 Tryz.underlying82 ts96 tb96 za96 Tryz.underlying96 ts97 tb97 za97 Tryz.underlying97 ts103 tb103 za103 Tryz.underlying103 ts104 tb104 za104 Tryz.underlying104 ts109 tb109 zl109 za109 Tryz.underlying109 ts116 tb116 zl116 za116 Tryz.underlying116 ts117 tb117 za117 Tryz.underlying117 ts118 tb118 za118 Tryz.underlying118 ts120 tb120 zl120 za120 Tryz.underlying120 ts124 tb124 zl124 za124 Tryz.underlying124 ts126 tb126 za126 Tryz.underlying126 ts128 tb128 zl128 za128 Tryz.underlying128 ts130 tb130 za130 Tryz.underlying130 ts131 tb131 za131 Tryz.underlying131 ts153 tb153 zl153 za153 Tryz.underlying153 ts167 tb167 zl167 za167 Tryz.underlying167 ts171 tb171 zl171 za171 Tryz.underlying171 ts177 tb177 zl177 za177 Tryz.underlying177 ts183 tb183 zl183 za183 Tryz.underlying183 ts189 tb189 zl189 za189 Tryz.underlying189 ts191 tb191 zl191 za191 Tryz.underlying191 ts195 tb195 za195 Tryz.underlying195 ts196 tb196 za196 Tryz.underlying196 ts198 tb198 zl198 za198 Tryz.underlying198 ts203 tb203 Tryz.underlying203 ts209 tb209 za209 Tryz.underlying209 ts210 tb210 za210 Tryz.underlying210 ts211 tb211 Tryz.underlying211 ts216 tb216 za216 Tryz.underlying216 ts217 tb217 za217 Tryz.underlying217 ts220 tb220 Tryz.underlying220 ts225 tb225 Tryz.underlying225 ts226 tb226 Tryz.underlying226 ts227 tb227 za227 Tryz.underlying227 ts228 tb228 za228 Tryz.underlying228 ts232 tb232 zl232 za232 Tryz.underlying232 ts233 tb233 zl233 za233 Tryz.underlying233 ts235 tb235 zl235 za235 Tryz.underlying235 ts236 tb236 zl236 za236 Tryz.underlying236 ts237 tb237 za237 Tryz.underlying237 ts238 tb238 za238 Tryz.underlying238

theorem eqp74 : eqPlain Tryz.prog 74 = true := by kernel_rfl
def eqP (v p : Pa) : Bool := v.kind == p.kind && v.text == p.text
theorem index_para_pc (ps : List Pa) (v : Pa) (hl : ps.length < 1000000) : Pc Tryz.prog 120 [.fz 2 (ps.map paA), paA v] (fun r => ∃ n : Int, r = .int .i64 n ∧ decide (n ≥ 0) = ps.any (eqP v)) := by
  simp only [paA]
  refine pc_intro (ct_intro Tryz.func120 rfl Tryz.ntmps120 hB120 (by simp) fun h ρ w => go (N := 19) Tryz.ntmps120 300 ?_)
  simp only [go_sem, Nat.reduceAdd, Nat.reduceMul, Nat.reduceSub, Nat.reduceBEq, Nat.reduceLT, Nat.reduceLeDiff, reduceIte, reduceCtorEq, Int.reduceToNat, Int.reduceLE, Int.reduceLT, Int.reduceNe, Int.reduceMul, Int.reduceAdd, Int.reduceSub, Int.reduceDiv, Int.reduceMod, Int.reduceEq, Int.reduceGE, Int.reduceGT, Int.reduceNeg, Int.reduceBEq, Int.reduceBNe, Nat.reduceEqDiff, List.length_map]
  refine aloop (ι := Nat) (fun i => ps.length - i) (fun i => [(8, .int .i64 i), (7, .int .i64 ps.length), (3, .ptr 0 1 0 0), (0, .fz 2 (ps.map paA))]) (fun _ => [.arr 2 [.agg [.int .i64 v.kind, .str v.text]]]) (fun i => i ≤ ps.length ∧ (ps.take i).any (eqP v) = false) 0 (by simp) ?_ ?_
  · refine Shift.weak ?_
    simp only [wk, go_sem, Nat.reduceAdd, Nat.reduceMul, Nat.reduceSub, Nat.reduceBEq, Nat.reduceLT, Nat.reduceLeDiff, reduceIte, reduceCtorEq, Int.reduceToNat, Int.reduceLE, Int.reduceLT, Int.reduceNe, Int.reduceMul, Int.reduceAdd, Int.reduceSub, Int.reduceDiv, Int.reduceMod, Int.reduceEq, Int.reduceGE, Int.reduceGT, Int.reduceNeg, Int.reduceBEq, Int.reduceBNe, Nat.reduceEqDiff]
    first | done | exact ⟨rfl, rfl⟩ | rfl
  · rintro i ⟨g1, g2⟩ J hJ
    by_cases gi : i < ps.length
    · have di : decide ((i : Int) < (ps.length : Int)) = true := by simp; omega
      have hg' : List.getD (List.map paA ps) i .any = .agg [.int .i64 ps[i].kind, .str ps[i].text] := by simp [List.getD, gi, paA]
      have again : eqP v ps[i] = false → (ps.take (i + 1)).any (eqP v) = false := fun h => by
        rw [List.take_succ_eq_append_getElem gi, List.any_append, g2]
        simp [h]
      have hit : eqP v ps[i] = true → ps.any (eqP v) = true := fun h => List.any_eq_true.2 ⟨_, List.getElem_mem gi, h⟩
      unfold eqP at again hit
      cases e1 : v.kind == ps[i].kind with
      | true =>
        cases e2 : v.text == ps[i].text with
        | true =>
          refine go (N := 19) Tryz.ntmps120 300 ?_
          simp only [go_sem, Nat.reduceAdd, Nat.reduceMul, Nat.reduceSub, Nat.reduceBEq, Nat.reduceLT, Nat.reduceLeDiff, reduceIte, reduceCtorEq, Int.reduceToNat, Int.reduceLE, Int.reduceLT, Int.reduceNe, Int.reduceMul, Int.reduceAdd, Int.reduceSub, Int.reduceDiv, Int.reduceMod, Int.reduceEq, Int.reduceGE, Int.reduceGT, Int.reduceNeg, Int.reduceBEq, Int.reduceBNe, Nat.reduceEqDiff, di]
          refine adraw [] mixed (by decide) (N := 19) Tryz.ntmps120 (by decide) 100 ?_
          simp only [go_sem, Nat.reduceAdd, Nat.reduceMul, Nat.reduceSub, Nat.reduceBEq, Nat.reduceLT, Nat.reduceLeDiff, reduceIte, reduceCtorEq, Int.reduceToNat, Int.reduceLE, Int.reduceLT, Int.reduceNe, Int.reduceMul, Int.reduceAdd, Int.reduceSub, Int.reduceDiv, Int.reduceMod, Int.reduceEq, Int.reduceGE, Int.reduceGT, Int.reduceNeg, Int.reduceBEq, Int.reduceBNe, Nat.reduceEqDiff, hg', List.length_map, e1, e2]
          repeat refine And.intro (by first | omega | exact eqp74 | simpa using gi) ?_
          refine go (N := 19) Tryz.ntmps120 300 ?_
          simp only [go_sem, Nat.reduceAdd, Nat.reduceMul, Nat.reduceSub, Nat.reduceBEq, Nat.reduceLT, Nat.reduceLeDiff, reduceIte, reduceCtorEq, Int.reduceToNat, Int.reduceLE, Int.reduceLT, Int.reduceNe, Int.reduceMul, Int.reduceAdd, Int.reduceSub, Int.reduceDiv, Int.reduceMod, Int.reduceEq, Int.reduceGE, Int.reduceGT, Int.reduceNeg, Int.reduceBEq, Int.reduceBNe, Nat.reduceEqDiff]
          refine aret [4] rfl ⟨⟨_, rfl, ?_⟩, rfl⟩
          have := hit (by rw [e1, e2]; rfl)
          unfold eqP
          rw [this]
          simp
        | false =>
          refine go (N := 19) Tryz.ntmps120 300 ?_
          simp only [go_sem, Nat.reduceAdd, Nat.reduceMul, Nat.reduceSub, Nat.reduceBEq, Nat.reduceLT, Nat.reduceLeDiff, reduceIte, reduceCtorEq, Int.reduceToNat, Int.reduceLE, Int.reduceLT, Int.reduceNe, Int.reduceMul, Int.reduceAdd, Int.reduceSub, Int.reduceDiv, Int.reduceMod, Int.reduceEq, Int.reduceGE, Int.reduceGT, Int.reduceNeg, Int.reduceBEq, Int.reduceBNe, Nat.reduceEqDiff, di]
          refine adraw [] mixed (by decide) (N := 19) Tryz.ntmps120 (by decide) 100 ?_
          simp only [go_sem, Nat.reduceAdd, Nat.reduceMul, Nat.reduceSub, Nat.reduceBEq, Nat.reduceLT, Nat.reduceLeDiff, reduceIte, reduceCtorEq, Int.reduceToNat, Int.reduceLE, Int.reduceLT, Int.reduceNe, Int.reduceMul, Int.reduceAdd, Int.reduceSub, Int.reduceDiv, Int.reduceMod, Int.reduceEq, Int.reduceGE, Int.reduceGT, Int.reduceNeg, Int.reduceBEq, Int.reduceBNe, Nat.reduceEqDiff, hg', List.length_map, e1, e2]
          repeat refine And.intro (by first | omega | exact eqp74 | simpa using gi) ?_
          refine go (N := 19) Tryz.ntmps120 300 ?_
          simp only [go_sem, Nat.reduceAdd, Nat.reduceMul, Nat.reduceSub, Nat.reduceBEq, Nat.reduceLT, Nat.reduceLeDiff, reduceIte, reduceCtorEq, Int.reduceToNat, Int.reduceLE, Int.reduceLT, Int.reduceNe, Int.reduceMul, Int.reduceAdd, Int.reduceSub, Int.reduceDiv, Int.reduceMod, Int.reduceEq, Int.reduceGE, Int.reduceGT, Int.reduceNeg, Int.reduceBEq, Int.reduceBNe, Nat.reduceEqDiff]
          repeat refine And.intro (by omega) ?_
          rw [show (i : Int) + 1 = ((i + 1 : Nat) : Int) by omega]
          refine ainv (hJ (i + 1) ⟨by omega, again (by rw [e1, e2]; rfl)⟩ (by omega)) (Shift.weak ?_)
          simp only [wk, go_sem, Nat.reduceAdd, Nat.reduceMul, Nat.reduceSub, Nat.reduceBEq, Nat.reduceLT, Nat.reduceLeDiff, reduceIte, reduceCtorEq, Int.reduceToNat, Int.reduceLE, Int.reduceLT, Int.reduceNe, Int.reduceMul, Int.reduceAdd, Int.reduceSub, Int.reduceDiv, Int.reduceMod, Int.reduceEq, Int.reduceGE, Int.reduceGT, Int.reduceNeg, Int.reduceBEq, Int.reduceBNe, Nat.reduceEqDiff]
      | false =>
        refine go (N := 19) Tryz.ntmps120 300 ?_
        simp only [go_sem, Nat.reduceAdd, Nat.reduceMul, Nat.reduceSub, Nat.reduceBEq, Nat.reduceLT, Nat.reduceLeDiff, reduceIte, reduceCtorEq, Int.reduceToNat, Int.reduceLE, Int.reduceLT, Int.reduceNe, Int.reduceMul, Int.reduceAdd, Int.reduceSub, Int.reduceDiv, Int.reduceMod, Int.reduceEq, Int.reduceGE, Int.reduceGT, Int.reduceNeg, Int.reduceBEq, Int.reduceBNe, Nat.reduceEqDiff, di]
        refine adraw [] mixed (by decide) (N := 19) Tryz.ntmps120 (by decide) 100 ?_
        simp only [go_sem, Nat.reduceAdd, Nat.reduceMul, Nat.reduceSub, Nat.reduceBEq, Nat.reduceLT, Nat.reduceLeDiff, reduceIte, reduceCtorEq, Int.reduceToNat, Int.reduceLE, Int.reduceLT, Int.reduceNe, Int.reduceMul, Int.reduceAdd, Int.reduceSub, Int.reduceDiv, Int.reduceMod, Int.reduceEq, Int.reduceGE, Int.reduceGT, Int.reduceNeg, Int.reduceBEq, Int.reduceBNe, Nat.reduceEqDiff, hg', List.length_map, e1]
        repeat refine And.intro (by first | omega | exact eqp74 | simpa using gi) ?_
        refine go (N := 19) Tryz.ntmps120 300 ?_
        simp only [go_sem, Nat.reduceAdd, Nat.reduceMul, Nat.reduceSub, Nat.reduceBEq, Nat.reduceLT, Nat.reduceLeDiff, reduceIte, reduceCtorEq, Int.reduceToNat, Int.reduceLE, Int.reduceLT, Int.reduceNe, Int.reduceMul, Int.reduceAdd, Int.reduceSub, Int.reduceDiv, Int.reduceMod, Int.reduceEq, Int.reduceGE, Int.reduceGT, Int.reduceNeg, Int.reduceBEq, Int.reduceBNe, Nat.reduceEqDiff]
        repeat refine And.intro (by omega) ?_
        rw [show (i : Int) + 1 = ((i + 1 : Nat) : Int) by omega]
        refine ainv (hJ (i + 1) ⟨by omega, again (by rw [e1]; rfl)⟩ (by omega)) (Shift.weak ?_)
        simp only [wk, go_sem, Nat.reduceAdd, Nat.reduceMul, Nat.reduceSub, Nat.reduceBEq, Nat.reduceLT, Nat.reduceLeDiff, reduceIte, reduceCtorEq, Int.reduceToNat, Int.reduceLE, Int.reduceLT, Int.reduceNe, Int.reduceMul, Int.reduceAdd, Int.reduceSub, Int.reduceDiv, Int.reduceMod, Int.reduceEq, Int.reduceGE, Int.reduceGT, Int.reduceNeg, Int.reduceBEq, Int.reduceBNe, Nat.reduceEqDiff]
    · have di : decide ((i : Int) < (ps.length : Int)) = false := by simp; omega
      rw [List.take_of_length_le (by omega)] at g2
      refine go (N := 19) Tryz.ntmps120 300 ?_
      simp only [go_sem, Nat.reduceAdd, Nat.reduceMul, Nat.reduceSub, Nat.reduceBEq, Nat.reduceLT, Nat.reduceLeDiff, reduceIte, reduceCtorEq, Int.reduceToNat, Int.reduceLE, Int.reduceLT, Int.reduceNe, Int.reduceMul, Int.reduceAdd, Int.reduceSub, Int.reduceDiv, Int.reduceMod, Int.reduceEq, Int.reduceGE, Int.reduceGT, Int.reduceNeg, Int.reduceBEq, Int.reduceBNe, Nat.reduceEqDiff, di]
      exact aret [4] rfl ⟨⟨_, rfl, by rw [g2]; rfl⟩, rfl⟩

theorem contains_para_pc (ps : List Pa) (v : Pa) (hl : ps.length < 1000000) : Pc Tryz.prog 75 [.fz 2 (ps.map paA), paA v] (· = .bool (ps.any (eqP v))) := by
  have hi := index_para_pc ps v hl
  simp only [paA] at hi ⊢
  refine pc_intro (ct_intro Tryz.func75 rfl Tryz.ntmps75 hB75 (by simp) fun h ρ w => go (N := 9) Tryz.ntmps75 300 ?_)
  simp only [go_sem, Nat.reduceAdd, Nat.reduceMul, Nat.reduceSub, Nat.reduceBEq, Nat.reduceLT, Nat.reduceLeDiff, reduceIte, reduceCtorEq, Int.reduceToNat, Int.reduceLE, Int.reduceLT, Int.reduceNe, Int.reduceMul, Int.reduceAdd, Int.reduceSub, Int.reduceDiv, Int.reduceMod, Int.reduceEq, Int.reduceGE, Int.reduceGT, Int.reduceNeg, Int.reduceBEq, Int.reduceBNe, Nat.reduceEqDiff]
  refine pcall (hi) rfl (N := 9) Tryz.ntmps75 rfl ?_
  rintro _ ⟨n, rfl, hn⟩
  refine go (N := 9) Tryz.ntmps75 300 ?_
  simp only [go_sem, Nat.reduceAdd, Nat.reduceMul, Nat.reduceSub, Nat.reduceBEq, Nat.reduceLT, Nat.reduceLeDiff, reduceIte, reduceCtorEq, Int.reduceToNat, Int.reduceLE, Int.reduceLT, Int.reduceNe, Int.reduceMul, Int.reduceAdd, Int.reduceSub, Int.reduceDiv, Int.reduceMod, Int.reduceEq, Int.reduceGE, Int.reduceGT, Int.reduceNeg, Int.reduceBEq, Int.reduceBNe, Nat.reduceEqDiff]
  exact aret [4] rfl ⟨by rw [← hn]; rfl, rfl⟩

def hasCueL (x : Sc) (name : List UInt8) : Bool := x.paras.any (eqP ⟨2, name⟩)
theorem hasCue_pc (x : Sc) (name : List UInt8) (hl : x.paras.length < 1000000) : Pc Tryz.prog 40 [scA x, .str name] (· = .bool (hasCueL x name)) := by
  have hi := contains_para_pc x.paras ⟨2, name⟩ hl
  simp only [paA] at hi
  simp only [scA]
  refine pc_intro (ct_intro Tryz.func40 rfl Tryz.ntmps40 hB40 (by simp) fun h ρ w => go (N := 10) Tryz.ntmps40 300 ?_)
  simp only [go_sem, Nat.reduceAdd, Nat.reduceMul, Nat.reduceSub, Nat.reduceBEq, Nat.reduceLT, Nat.reduceLeDiff, reduceIte, reduceCtorEq, Int.reduceToNat, Int.reduceLE, Int.reduceLT, Int.reduceNe, Int.reduceMul, Int.reduceAdd, Int.reduceSub, Int.reduceDiv, Int.reduceMod, Int.reduceEq, Int.reduceGE, Int.reduceGT, Int.reduceNeg, Int.reduceBEq, Int.reduceBNe, Nat.reduceEqDiff]
  refine pcall1 (hi) rfl (N := 10) Tryz.ntmps40 rfl (go (N := 10) Tryz.ntmps40 300 ?_)
  simp only [go_sem, Nat.reduceAdd, Nat.reduceMul, Nat.reduceSub, Nat.reduceBEq, Nat.reduceLT, Nat.reduceLeDiff, reduceIte, reduceCtorEq, Int.reduceToNat, Int.reduceLE, Int.reduceLT, Int.reduceNe, Int.reduceMul, Int.reduceAdd, Int.reduceSub, Int.reduceDiv, Int.reduceMod, Int.reduceEq, Int.reduceGE, Int.reduceGT, Int.reduceNeg, Int.reduceBEq, Int.reduceBNe, Nat.reduceEqDiff]
  exact aret [4] rfl ⟨rfl, rfl⟩

def timesTo (xs : List Sc) : Nat → List Int
  | 0 => []
  | i + 1 => timesTo xs i ++ [if (xs.getD i ⟨[], 0, [], 0, []⟩).time == 5 && decide (i > 0) then (timesTo xs i).getD (i - 1) 0 else (xs.getD i ⟨[], 0, [], 0, []⟩).time]
theorem timesTo_len (xs : List Sc) : ∀ i, (timesTo xs i).length = i
  | 0 => rfl
  | i + 1 => by simp [timesTo, timesTo_len xs i]
theorem frozen_ints (l : List Int) : (flat (l.map (AV.int .i64))).all Av.frozen = true := by
  induction l with
  | nil => rfl
  | cons y l ih => simpa [flat, cellsOf, Av.frozen] using ih

set_option maxHeartbeats 1000000 in
theorem times_pc (x : Sr) (hl : x.scenes.length < 1000000) : Pc Tryz.prog 48 [srA x] (· = .fz 1 ((timesTo x.scenes x.scenes.length).map (.int .i64))) := by
  obtain ⟨ti, xs⟩ := x
  simp only [srA] at hl ⊢
  refine pc_intro (ct_intro Tryz.func48 rfl Tryz.ntmps48 hB48 (by simp) fun h ρ w => goF (N := 34) Tryz.ntmps48 300 ?_)
  simp only [go_sem, Nat.reduceAdd, Nat.reduceMul, Nat.reduceSub, Nat.reduceBEq, Nat.reduceLT, Nat.reduceLeDiff, reduceIte, reduceCtorEq, Int.reduceToNat, Int.reduceLE, Int.reduceLT, Int.reduceNe, Int.reduceMul, Int.reduceAdd, Int.reduceSub, Int.reduceDiv, Int.reduceMod, Int.reduceEq, Int.reduceGE, Int.reduceGT, Int.reduceNeg, Int.reduceBEq, Int.reduceBNe, Nat.reduceEqDiff, List.length_map]
  refine aloop (ι := Nat) (fun i => xs.length - i)
    (fun i => [(10, .int .i64 i), (9, .int .i64 xs.length), (8, .fz 5 (xs.map scA)), (3, .sl 1 0 i i)])
    (fun i => [.arr 2 [.agg [.str ti, .fz 5 (xs.map scA)]], .arr 1 ((timesTo xs i).map (.int .i64))]) (fun i => i ≤ xs.length) 0 (by simp) ?_ ?_
  · refine Shift.trans (Shift.nilsl 3 1 rfl) (Shift.weak ?_)
    simp only [wk, go_sem, Nat.reduceAdd, Nat.reduceMul, Nat.reduceSub, Nat.reduceBEq, Nat.reduceLT, Nat.reduceLeDiff, reduceIte, reduceCtorEq, Int.reduceToNat, Int.reduceLE, Int.reduceLT, Int.reduceNe, Int.reduceMul, Int.reduceAdd, Int.reduceSub, Int.reduceDiv, Int.reduceMod, Int.reduceEq, Int.reduceGE, Int.reduceGT, Int.reduceNeg, Int.reduceBEq, Int.reduceBNe, Nat.reduceEqDiff, timesTo]
  · intro i g1 J hJ
    have htl := timesTo_len xs i
    by_cases gi : i < xs.length
    · have di : decide ((i : Int) < (xs.length : Int)) = true := by simp; omega
      have hgd : xs.getD i ⟨[], 0, [], 0, []⟩ = xs[i] := by simp [List.getD, gi]
      have hg' : List.getD (List.map scA xs) i .any = .agg [.str xs[i].no, .int .i64 xs[i].place, .str xs[i].set, .int .i64 xs[i].time, .fz 2 (xs[i].paras.map paA)] := by simp [List.getD, gi, scA]
      have hsu : timesTo xs (i + 1) = timesTo xs i ++ [if xs[i].time == 5 && decide (i > 0) then (timesTo xs i).getD (i - 1) 0 else xs[i].time] := by rw [timesTo, hgd]
      have fin := hJ (i + 1) (by omega) (by omega)
      have lowT : ∀ k, (flat ((timesTo xs k).map (AV.int .i64))).all (lowC 2) = true := fun k => low_all (frozen_ints _)
      cases e5 : xs[i].time == 5 with
      | true =>
        by_cases h0 : i > 0
        · have d0 : decide ((i : Int) > 0) = true := by simp; omega
          have hlast : List.getD (List.map (AV.int .i64) (timesTo xs i)) ((i : Int) - 1).toNat .any = .int .i64 ((timesTo xs i).getD (i - 1) 0) := by
            rw [show ((i : Int) - 1).toNat = i - 1 by omega]
            simp [List.getD, show i - 1 < (timesTo xs i).length by omega]
          have hs : timesTo xs (i + 1) = timesTo xs i ++ [(timesTo xs i).getD (i - 1) 0] := by rw [hsu, e5]; simp [h0]
          refine goF (N := 34) Tryz.ntmps48 300 ?_
          simp only [go_sem, Nat.reduceAdd, Nat.reduceMul, Nat.reduceSub, Nat.reduceBEq, Nat.reduceLT, Nat.reduceLeDiff, reduceIte, reduceCtorEq, Int.reduceToNat, Int.reduceLE, Int.reduceLT, Int.reduceNe, Int.reduceMul, Int.reduceAdd, Int.reduceSub, Int.reduceDiv, Int.reduceMod, Int.reduceEq, Int.reduceGE, Int.reduceGT, Int.reduceNeg, Int.reduceBEq, Int.reduceBNe, Nat.reduceEqDiff, List.length_map, di, hg', e5, d0, hlast, htl]
          repeat refine And.intro (by first | omega | exact .inl trivial | (simp; done) | (simp; omega)) ?_
          rw [show List.map (AV.int .i64) (timesTo xs i) ++ [.int .i64 ((timesTo xs i).getD (i - 1) 0)] = List.map (AV.int .i64) (timesTo xs (i + 1)) by rw [hs]; simp, show (i : Int) + 1 = ((i + 1 : Nat) : Int) by omega]
          refine ainv fin (Shift.low 2 (by simp) (by simp) ?_ ?_)
          · simp only [List.take_succ_cons, List.take_zero, List.all_cons, List.all_nil, lowB, lowT, flat, cellsOf, lowC, Av.frozen, List.append_nil, Bool.and_self]
          · simp only [wkl, lowV, lowC, Av.get, go_sem, Nat.reduceAdd, Nat.reduceMul, Nat.reduceSub, Nat.reduceBEq, Nat.reduceLT, Nat.reduceLeDiff, reduceIte, reduceCtorEq, Int.reduceToNat, Int.reduceLE, Int.reduceLT, Int.reduceNe, Int.reduceMul, Int.reduceAdd, Int.reduceSub, Int.reduceDiv, Int.reduceMod, Int.reduceEq, Int.reduceGE, Int.reduceGT, Int.reduceNeg, Int.reduceBEq, Int.reduceBNe, Nat.reduceEqDiff]
        · have d0 : decide ((i : Int) > 0) = false := by simp; omega
          have hs : timesTo xs (i + 1) = timesTo xs i ++ [xs[i].time] := by rw [hsu]; simp [h0]
          refine goF (N := 34) Tryz.ntmps48 300 ?_
          simp only [go_sem, Nat.reduceAdd, Nat.reduceMul, Nat.reduceSub, Nat.reduceBEq, Nat.reduceLT, Nat.reduceLeDiff, reduceIte, reduceCtorEq, Int.reduceToNat, Int.reduceLE, Int.reduceLT, Int.reduceNe, Int.reduceMul, Int.reduceAdd, Int.reduceSub, Int.reduceDiv, Int.reduceMod, Int.reduceEq, Int.reduceGE, Int.reduceGT, Int.reduceNeg, Int.reduceBEq, Int.reduceBNe, Nat.reduceEqDiff, List.length_map, di, hg', e5, d0, htl]
          repeat refine And.intro (by first | omega | exact .inl trivial | (simp; done) | (simp; omega)) ?_
          rw [show List.map (AV.int .i64) (timesTo xs i) ++ [.int .i64 xs[i].time] = List.map (AV.int .i64) (timesTo xs (i + 1)) by rw [hs]; simp, show (i : Int) + 1 = ((i + 1 : Nat) : Int) by omega]
          refine ainv fin (Shift.low 2 (by simp) (by simp) ?_ ?_)
          · simp only [List.take_succ_cons, List.take_zero, List.all_cons, List.all_nil, lowB, lowT, flat, cellsOf, lowC, Av.frozen, List.append_nil, Bool.and_self]
          · simp only [wkl, lowV, lowC, Av.get, go_sem, Nat.reduceAdd, Nat.reduceMul, Nat.reduceSub, Nat.reduceBEq, Nat.reduceLT, Nat.reduceLeDiff, reduceIte, reduceCtorEq, Int.reduceToNat, Int.reduceLE, Int.reduceLT, Int.reduceNe, Int.reduceMul, Int.reduceAdd, Int.reduceSub, Int.reduceDiv, Int.reduceMod, Int.reduceEq, Int.reduceGE, Int.reduceGT, Int.reduceNeg, Int.reduceBEq, Int.reduceBNe, Nat.reduceEqDiff]
      | false =>
        have hs : timesTo xs (i + 1) = timesTo xs i ++ [xs[i].time] := by rw [hsu, e5]; simp
        refine goF (N := 34) Tryz.ntmps48 300 ?_
        simp only [go_sem, Nat.reduceAdd, Nat.reduceMul, Nat.reduceSub, Nat.reduceBEq, Nat.reduceLT, Nat.reduceLeDiff, reduceIte, reduceCtorEq, Int.reduceToNat, Int.reduceLE, Int.reduceLT, Int.reduceNe, Int.reduceMul, Int.reduceAdd, Int.reduceSub, Int.reduceDiv, Int.reduceMod, Int.reduceEq, Int.reduceGE, Int.reduceGT, Int.reduceNeg, Int.reduceBEq, Int.reduceBNe, Nat.reduceEqDiff, List.length_map, di, hg', e5, htl]
        repeat refine And.intro (by first | omega | exact .inl trivial | (simp; done) | (simp; omega)) ?_
        rw [show List.map (AV.int .i64) (timesTo xs i) ++ [.int .i64 xs[i].time] = List.map (AV.int .i64) (timesTo xs (i + 1)) by rw [hs]; simp, show (i : Int) + 1 = ((i + 1 : Nat) : Int) by omega]
        refine ainv fin (Shift.low 2 (by simp) (by simp) ?_ ?_)
        · simp only [List.take_succ_cons, List.take_zero, List.all_cons, List.all_nil, lowB, lowT, flat, cellsOf, lowC, Av.frozen, List.append_nil, Bool.and_self]
        · simp only [wkl, lowV, lowC, Av.get, go_sem, Nat.reduceAdd, Nat.reduceMul, Nat.reduceSub, Nat.reduceBEq, Nat.reduceLT, Nat.reduceLeDiff, reduceIte, reduceCtorEq, Int.reduceToNat, Int.reduceLE, Int.reduceLT, Int.reduceNe, Int.reduceMul, Int.reduceAdd, Int.reduceSub, Int.reduceDiv, Int.reduceMod, Int.reduceEq, Int.reduceGE, Int.reduceGT, Int.reduceNeg, Int.reduceBEq, Int.reduceBNe, Nat.reduceEqDiff]
    · have di : decide ((i : Int) < (xs.length : Int)) = false := by simp; omega
      have hi : i = xs.length := by omega
      subst hi
      refine goF (N := 34) Tryz.ntmps48 300 ?_
      simp only [go_sem, Nat.reduceAdd, Nat.reduceMul, Nat.reduceSub, Nat.reduceBEq, Nat.reduceLT, Nat.reduceLeDiff, reduceIte, reduceCtorEq, Int.reduceToNat, Int.reduceLE, Int.reduceLT, Int.reduceNe, Int.reduceMul, Int.reduceAdd, Int.reduceSub, Int.reduceDiv, Int.reduceMod, Int.reduceEq, Int.reduceGE, Int.reduceGT, Int.reduceNeg, Int.reduceBEq, Int.reduceBNe, Nat.reduceEqDiff, di]
      refine ARet.shift (Shift.freeze 2 (id := 1) rfl rfl (by simp [htl]) (Nat.le_refl _) (frozen_ints _)) (aret [2] rfl ⟨?_, rfl⟩)
      simp [resV, Av.get, Av.put, List.take_of_length_le, htl]
end Go.Proofs.YtpjbbpilgfihbaaGreatDoor
/- Draws: a scene. Own work of this seat. -/
set_option maxRecDepth 100000
set_option linter.unusedSimpArgs false
set_option linter.unusedVariables false
namespace Go.Proofs.YtpjbbpilgfihbaaGreatDoor
open Go Go.Av Go.RowKit
attribute [local go_sem ↓] br_true br_false dbr_true dbr_false dbri_true dbri_false dbrg_true dbrg_false
attribute [local go_sem] run cont br dbr dx dxc dgrd dyld dres dcall calm fieldPlace? allHas step1 opN grdN resN condN exitN stopN exitIt dOk xop xbin xint xarith xstr xbool xpick xnot xneg xextract xpart xpartOk xindex xfieldF fieldD xnew xbox xalloc xfieldAddr xptrAddIf xindexAddr xloadC xload putCells reElem xstoreB xstore xconv xtext xlen xlen2 xcall xfill xbuild cut rep xbuildSlice xbuildSliceD isRow elemD isU8 ev evs evp Go.Av.put Go.Av.get ofConst yldD yldV notBool_undef args0 cellsOf cond_true cond_false decide_true decide_false decide_eq_true_eq decide_eq_false_iff_not List.getElem?_cons_zero List.getElem?_cons_succ List.getElem?_nil List.getD_cons_zero List.getD_cons_succ List.getD_nil List.set_cons_zero List.set_cons_succ List.length_cons List.length_nil List.cons_append List.nil_append List.append_nil List.all_cons List.all_nil List.map_cons List.map_nil List.take_succ_cons List.take_zero List.drop_succ_cons List.drop_zero Bool.and_true Bool.true_and Bool.and_self Bool.and_false Bool.false_and one Go.Av.frozen beq_self_eq_true true_and and_true forall_const false_implies implies_true and_self Option.map_some Option.map_none Nat.zero_add Nat.add_zero Nat.zero_mul Nat.mul_one Nat.one_mul Int.toNat_zero ne_eq not_false_eq_true not_true_eq_false Bool.true_eq_false Bool.false_eq_true List.toList_toArray inr Go.Av.byteOf isByte decide_eq_decide Bool.not_true Bool.not_false Bool.not_eq_true' Bool.or_true Bool.true_or Bool.or_false Bool.false_or ge_iff_le gt_iff_lt and_assoc Bool.decide_eq_true beq_iff_eq beq_eq_false_iff_ne bne_iff_ne bne_self_eq_false if_true if_false Bool.and_eq_true Bool.or_eq_true Bool.and_eq_false_imp Bool.or_eq_false_iff Bool.not_eq_false' has Option.isSome_some Option.isSome_none Int.toNat_natCast Int.cast_ofNat_Int List.length_append xapp2 xapp xappS xappD xappB notInt srcOf srcB byteAV splice' xcut xcutS xcutF xcutB xcutN xcut0 cutL loOf hiOf evo xmake zelem xmax xcopy2 xcopyS xcopyB xnil xcut3 ixOf xclear2 xclearB List.getElem?_toArray xbin2 xnileq xempty xmkmap xmput xmputB xmputF isKey keyEq mfind xbin3 xeqs xeqop eqFs bothB leafEq xlook xlookB xlookF xbytes beq_c_n beq_n_c bne_c_n bne_n_c one_nil dxi dxic dbri rix dck reader blind opOk refOk Go.Op.operands Go.Call.operands List.contains_cons List.contains_nil dxg dxgc dbrg pck putD List.lookup_cons List.lookup_nil ts2 tb2 zl2 za2 Tryz.underlying2 ts3 tb3 zl3 za3 Tryz.underlying3 ts4 tb4 zl4 za4 Tryz.underlying4 ts5 tb5 zl5 za5 Tryz.underlying5 ts6 tb6 zl6 za6 Tryz.underlying6 ts7 tb7 za7 Tryz.underlying7 ts8 tb8 za8 Tryz.underlying8 ts9 tb9 zl9 za9 Tryz.underlying9 ts10 tb10 zl10 za10 Tryz.underlying10 ts11 tb11 zl11 za11 Tryz.underlying11 ts12 tb12 zl12 za12 Tryz.underlying12 ts13 tb13 za13 Tryz.underlying13 ts14 tb14 za14 Tryz.underlying14 ts18 tb18 za18 Tryz.underlying18 ts19 tb19 za19 Tryz.underlying19 ts21 tb21 zl21 za21 Tryz.underlying21 ts22 tb22 zl22 za22 Tryz.underlying22 ts24 tb24 za24 Tryz.underlying24 ts25 tb25 za25 Tryz.underlying25 ts27 tb27 zl27 za27 Tryz.underlying27 ts35 tb35 zl35 za35 Tryz.underlying35 ts36 tb36 za36 Tryz.underlying36 ts37 tb37 za37 Tryz.underlying37 ts39 tb39 zl39 za39 Tryz.underlying39 ts41 tb41 za41 Tryz.underlying41 ts42 tb42 za42 Tryz.underlying42 ts63 tb63 zl63 za63 Tryz.underlying63 ts64 tb64 zl64 za64 Tryz.underlying64 ts65 tb65 za65 Tryz.underlying65 ts66 tb66 za66 Tryz.underlying66 ts67 tb67 zl67 za67 Tryz.underlying67 ts69 tb69 za69 Tryz.underlying69 ts70 tb70 za70 Tryz.underlying70 ts73 tb73 za73 Tryz.underlying73 ts74 tb74 za74 Tryz.underlying74 ts75 tb75 zl75 za75 Tryz.underlying75 ts82 tb82 zl82 za82 Tryz.underlying82 ts96 tb96 za96 Tryz.underlying96 ts97 tb97 za97 Tryz.underlying97 ts103 tb103 za103 Tryz.underlying103 ts104 tb104 za104 Tryz.underlying104 ts109 tb109 zl109 za109 Tryz.underlying109 ts116 tb116 zl116 za116 Tryz.underlying116 ts117 tb117 za117 Tryz.underlying117 ts118 tb118 za118 Tryz.underlying118 ts120 tb120 zl120 za120 Tryz.underlying120 ts124 tb124 zl124 za124 Tryz.underlying124 ts126 tb126 za126 Tryz.underlying126 ts128 tb128 zl128 za128 Tryz.underlying128 ts130 tb130 za130 Tryz.underlying130 ts131 tb131 za131 Tryz.underlying131 ts153 tb153 zl153 za153 Tryz.underlying153 ts167 tb167 zl167 za167 Tryz.underlying167 ts171 tb171 zl171 za171 Tryz.underlying171 ts177 tb177 zl177 za177 Tryz.underlying177 ts183 tb183 zl183 za183 Tryz.underlying183 ts189 tb189 zl189 za189 Tryz.underlying189 ts191 tb191 zl191 za191 Tryz.underlying191 ts195 tb195 za195 Tryz.underlying195 ts196 tb196 za196 Tryz.underlying196 ts198 tb198 zl198 za198 Tryz.underlying198 ts203 tb203 Tryz.underlying203 ts209 tb209 za209 Tryz.underlying209 ts210 tb210 za210 Tryz.underlying210 ts211 tb211 Tryz.underlying211 ts216 tb216 za216 Tryz.underlying216 ts217 tb217 za217 Tryz.underlying217 ts220 tb220 Tryz.underlying220 ts225 tb225 Tryz.underlying225 ts226 tb226 Tryz.underlying226 ts227 tb227 za227 Tryz.underlying227 ts228 tb228 za228 Tryz.underlying228 ts232 tb232 zl232 za232 Tryz.underlying232 ts233 tb233 zl233 za233 Tryz.underlying233 ts235 tb235 zl235 za235 Tryz.underlying235 ts236 tb236 zl236 za236 Tryz.underlying236 ts237 tb237 za237 Tryz.underlying237 ts238 tb238 za238 Tryz.underlying238

theorem frz_str (id e : Nat) (l : List AV) (L : List Int) (k : Int) : frz id e l (str L k) = str L k := rfl

/-- a scene that is drawn -/
structure DrawnS (x : Sc) : Prop where
  no : x.no = []
  place : 1 ≤ x.place ∧ x.place ≤ 3
  set : x.set ∈ SetL
  time : 1 ≤ x.time ∧ x.time ≤ 5
  run : ∃ e, runL 0 x.paras = some e ∧ e ≠ 2 ∧ e ≠ 3
  len : x.paras.length ≤ 60
  all : ∀ p ∈ x.paras, DrawnP p

set_option maxHeartbeats 2000000 in
theorem scene_mc (L : List Int) (k : Int) (h3 : 0 ≤ k) (h4 : k ≤ 700000) :
    Mc Tryz.prog 68 2 (str L k) [] (fun r s => ∃ (x : Sc) (k' : Int), r = scA x ∧ DrawnS x ∧ s = str L k' ∧ k ≤ k' ∧ k' ≤ k + 5000) := by
  refine ct_intro Tryz.func68 rfl Tryz.ntmps68 hB68 (by simp) fun h ρ w => goF (N := 27) Tryz.ntmps68 300 ?_
  simp only [go_sem, Nat.reduceAdd, Nat.reduceMul, Nat.reduceSub, Nat.reduceBEq, Nat.reduceLT, Nat.reduceLeDiff, reduceIte, reduceCtorEq, Int.reduceToNat, Int.reduceLE, Int.reduceLT, Int.reduceNe, Int.reduceMul, Int.reduceAdd, Int.reduceSub, Int.reduceDiv, Int.reduceMod, Int.reduceEq, Int.reduceGE, Int.reduceGT, Int.reduceNeg, Int.reduceBEq, Int.reduceBNe, Nat.reduceEqDiff]
  refine mcall (range_mc L k 1 3 (by omega) (by omega) (by omega) (by omega) (by omega)) rfl rfl (id := 0) rfl (N := 27) Tryz.ntmps68 rfl ?_
  rintro _ _ ⟨⟨pl, rfl, hp1, hp2⟩, rfl⟩
  refine goF (N := 27) Tryz.ntmps68 300 ?_
  simp only [go_sem, Nat.reduceAdd, Nat.reduceMul, Nat.reduceSub, Nat.reduceBEq, Nat.reduceLT, Nat.reduceLeDiff, reduceIte, reduceCtorEq, Int.reduceToNat, Int.reduceLE, Int.reduceLT, Int.reduceNe, Int.reduceMul, Int.reduceAdd, Int.reduceSub, Int.reduceDiv, Int.reduceMod, Int.reduceEq, Int.reduceGE, Int.reduceGT, Int.reduceNeg, Int.reduceBEq, Int.reduceBNe, Nat.reduceEqDiff]
  refine pcall1 (sets_pc) rfl (N := 27) Tryz.ntmps68 rfl (go (N := 27) Tryz.ntmps68 300 ?_)
  simp only [go_sem, Nat.reduceAdd, Nat.reduceMul, Nat.reduceSub, Nat.reduceBEq, Nat.reduceLT, Nat.reduceLeDiff, reduceIte, reduceCtorEq, Int.reduceToNat, Int.reduceLE, Int.reduceLT, Int.reduceNe, Int.reduceMul, Int.reduceAdd, Int.reduceSub, Int.reduceDiv, Int.reduceMod, Int.reduceEq, Int.reduceGE, Int.reduceGT, Int.reduceNeg, Int.reduceBEq, Int.reduceBNe, Nat.reduceEqDiff]
  refine mcall (one_mc L (k + 1) SetL (by decide) (by decide) (by omega) (by omega)) rfl rfl (id := 0) rfl (N := 27) Tryz.ntmps68 rfl ?_
  rintro _ _ ⟨⟨st, hst, rfl⟩, rfl⟩
  refine goF (N := 27) Tryz.ntmps68 300 ?_
  simp only [go_sem, Nat.reduceAdd, Nat.reduceMul, Nat.reduceSub, Nat.reduceBEq, Nat.reduceLT, Nat.reduceLeDiff, reduceIte, reduceCtorEq, Int.reduceToNat, Int.reduceLE, Int.reduceLT, Int.reduceNe, Int.reduceMul, Int.reduceAdd, Int.reduceSub, Int.reduceDiv, Int.reduceMod, Int.reduceEq, Int.reduceGE, Int.reduceGT, Int.reduceNeg, Int.reduceBEq, Int.reduceBNe, Nat.reduceEqDiff]
  refine mcall (range_mc L (k + 1 + 1) 1 5 (by omega) (by omega) (by omega) (by omega) (by omega)) rfl rfl (id := 0) rfl (N := 27) Tryz.ntmps68 rfl ?_
  rintro _ _ ⟨⟨tm, rfl, ht1, ht2⟩, rfl⟩
  refine goF (N := 27) Tryz.ntmps68 300 ?_
  simp only [go_sem, Nat.reduceAdd, Nat.reduceMul, Nat.reduceSub, Nat.reduceBEq, Nat.reduceLT, Nat.reduceLeDiff, reduceIte, reduceCtorEq, Int.reduceToNat, Int.reduceLE, Int.reduceLT, Int.reduceNe, Int.reduceMul, Int.reduceAdd, Int.reduceSub, Int.reduceDiv, Int.reduceMod, Int.reduceEq, Int.reduceGE, Int.reduceGT, Int.reduceNeg, Int.reduceBEq, Int.reduceBNe, Nat.reduceEqDiff]
  refine mcall (pick_mc L (k + 1 + 1 + 1) [2, 5, 12] (by decide) (by decide) (by omega) (by omega)) rfl rfl (id := 0) rfl (N := 27) Tryz.ntmps68 rfl ?_
  rintro _ _ ⟨⟨n, hn, rfl⟩, rfl⟩
  have pn : 1 ≤ n ∧ n ≤ 12 := (show ∀ x ∈ [(2 : Int), 5, 12], 1 ≤ x ∧ x ≤ 12 by decide) n hn
  refine goF (N := 27) Tryz.ntmps68 300 ?_
  simp only [go_sem, Nat.reduceAdd, Nat.reduceMul, Nat.reduceSub, Nat.reduceBEq, Nat.reduceLT, Nat.reduceLeDiff, reduceIte, reduceCtorEq, Int.reduceToNat, Int.reduceLE, Int.reduceLT, Int.reduceNe, Int.reduceMul, Int.reduceAdd, Int.reduceSub, Int.reduceDiv, Int.reduceMod, Int.reduceEq, Int.reduceGE, Int.reduceGT, Int.reduceNeg, Int.reduceBEq, Int.reduceBNe, Nat.reduceEqDiff]
  refine mcall (next_mc L (k + 1 + 1 + 1 + 1) n (by omega) (by omega) (by omega) (by omega)) rfl rfl (id := 0) rfl (N := 27) Tryz.ntmps68 rfl ?_
  rintro _ _ ⟨⟨v, rfl, hv0, hv1⟩, rfl⟩
  refine goF (N := 27) Tryz.ntmps68 300 ?_
  simp only [go_sem, Nat.reduceAdd, Nat.reduceMul, Nat.reduceSub, Nat.reduceBEq, Nat.reduceLT, Nat.reduceLeDiff, reduceIte, reduceCtorEq, Int.reduceToNat, Int.reduceLE, Int.reduceLT, Int.reduceNe, Int.reduceMul, Int.reduceAdd, Int.reduceSub, Int.reduceDiv, Int.reduceMod, Int.reduceEq, Int.reduceGE, Int.reduceGT, Int.reduceNeg, Int.reduceBEq, Int.reduceBNe, Nat.reduceEqDiff]
  refine aloop (ι := Int × Int × List Pa) (fun x => (v - x.1).toNat)
    (fun x => [(17, .int .i64 x.1), (16, .int .i64 v), (3, .ptr 2 1 0 0), (2, .ptr 1 1 0 0), (0, .ptr 0 1 0 0)])
    (fun x => [.arr 2 [str L x.2.1], .arr 5 [.agg [.str [], .int .i64 0, .str [], .int .i64 0, .raw (.slice none 0 0)]], .arr 5 [.agg [.str [], .int .i64 pl, .str st, .int .i64 tm, .sl 3 0 x.2.2.length x.2.2.length]], .arr 2 (x.2.2.map paA)])
    (fun x => 0 ≤ x.1 ∧ x.1 ≤ v ∧ k ≤ x.2.1 ∧ x.2.1 ≤ k + 5 + 400 * x.1 ∧ (∃ e, runL 0 x.2.2 = some e ∧ e ≠ 2 ∧ e ≠ 3) ∧ (∀ p ∈ x.2.2, DrawnP p) ∧ (x.2.2.length : Int) ≤ 5 * x.1)
    (0, k + 1 + 1 + 1 + 1 + 1, []) ⟨Int.le_refl _, by simp only; omega, by simp only; omega, by simp only; omega, ⟨0, rfl, by decide, by decide⟩, by simp, by simp⟩ ?_ ?_
  · refine Shift.trans (Shift.cells 2 2 [.agg [.str [], .int .i64 pl, .str st, .int .i64 tm, .sl 3 0 0 0]] rfl rfl (by simp [cellsOf]) ⟨.refl, .refl, .refl, .refl, .sl, trivial⟩) (Shift.weak ?_)
    simp only [wk, go_sem, Nat.reduceAdd, Nat.reduceMul, Nat.reduceSub, Nat.reduceBEq, Nat.reduceLT, Nat.reduceLeDiff, reduceIte, reduceCtorEq, Int.reduceToNat, Int.reduceLE, Int.reduceLT, Int.reduceNe, Int.reduceMul, Int.reduceAdd, Int.reduceSub, Int.reduceDiv, Int.reduceMod, Int.reduceEq, Int.reduceGE, Int.reduceGT, Int.reduceNeg, Int.reduceBEq, Int.reduceBNe, Nat.reduceEqDiff]
  · rintro ⟨i, k', ps⟩ ⟨g1, g2, g3, g4, ⟨e, g5, g6, g7⟩, g8, g9⟩ J hJ
    simp only at g1 g2 g3 g4 g5 g6 g7 g8 g9 hJ ⊢
    by_cases gi : i < v
    · have di : decide (i < v) = true := by simp; omega
      refine go (N := 27) Tryz.ntmps68 300 ?_
      simp only [go_sem, Nat.reduceAdd, Nat.reduceMul, Nat.reduceSub, Nat.reduceBEq, Nat.reduceLT, Nat.reduceLeDiff, reduceIte, reduceCtorEq, Int.reduceToNat, Int.reduceLE, Int.reduceLT, Int.reduceNe, Int.reduceMul, Int.reduceAdd, Int.reduceSub, Int.reduceDiv, Int.reduceMod, Int.reduceEq, Int.reduceGE, Int.reduceGT, Int.reduceNeg, Int.reduceBEq, Int.reduceBNe, Nat.reduceEqDiff, di]
      refine adrawI [3] 0 [] mixed (by decide) (N := 27) Tryz.ntmps68 (by decide) 100 ?_
      simp only [go_sem, Nat.reduceAdd, Nat.reduceMul, Nat.reduceSub, Nat.reduceBEq, Nat.reduceLT, Nat.reduceLeDiff, reduceIte, reduceCtorEq, Int.reduceToNat, Int.reduceLE, Int.reduceLT, Int.reduceNe, Int.reduceMul, Int.reduceAdd, Int.reduceSub, Int.reduceDiv, Int.reduceMod, Int.reduceEq, Int.reduceGE, Int.reduceGT, Int.reduceNeg, Int.reduceBEq, Int.reduceBNe, Nat.reduceEqDiff]
      refine icall (paras_mc L k' (by omega) (by omega)) rfl rfl rfl ⟨_, _, [⟨5, [69, 78, 68]⟩], k', rfl, block_one (drawn_turn (by simp [TurnL])) (.inr rfl), rfl, by omega, by omega⟩ ?_
      rintro _ _ ⟨b, k2, rfl, hb, rfl, t1, t2⟩
      simp only [go_sem, Nat.reduceAdd, Nat.reduceMul, Nat.reduceSub, Nat.reduceBEq, Nat.reduceLT, Nat.reduceLeDiff, reduceIte, reduceCtorEq, Int.reduceToNat, Int.reduceLE, Int.reduceLT, Int.reduceNe, Int.reduceMul, Int.reduceAdd, Int.reduceSub, Int.reduceDiv, Int.reduceMod, Int.reduceEq, Int.reduceGE, Int.reduceGT, Int.reduceNeg, Int.reduceBEq, Int.reduceBNe, Nat.reduceEqDiff]
      refine ⟨by simp, .inl trivial, by simp; have := hb.len.2; omega, by simp; have := hb.len.2; omega, ?_⟩
      refine go (N := 27) Tryz.ntmps68 300 ?_
      simp only [go_sem, Nat.reduceAdd, Nat.reduceMul, Nat.reduceSub, Nat.reduceBEq, Nat.reduceLT, Nat.reduceLeDiff, reduceIte, reduceCtorEq, Int.reduceToNat, Int.reduceLE, Int.reduceLT, Int.reduceNe, Int.reduceMul, Int.reduceAdd, Int.reduceSub, Int.reduceDiv, Int.reduceMod, Int.reduceEq, Int.reduceGE, Int.reduceGT, Int.reduceNeg, Int.reduceBEq, Int.reduceBNe, Nat.reduceEqDiff]
      refine ⟨by omega, by omega, ?_⟩
      rw [← List.map_append, show ps.length + (List.map paA b).length = (ps ++ b).length by simp]
      obtain ⟨e', r1, r2, r3⟩ := hb.run e g6 g7
      have := hb.len
      refine ainv (hJ (i + 1, k2, ps ++ b) ⟨by simp only; omega, by simp only; omega, by simp only; omega, by simp only; omega, ⟨e', by rw [runL_append _ _ _ _ g5]; exact r1, r2, r3⟩, fun p hp => ?_, by simp; omega⟩ (by simp only; omega)) (Shift.weak ?_)
      · rcases List.mem_append.1 hp with hp | hp
        · exact g8 p hp
        · exact hb.all p hp
      · simp only [wk, go_sem, Nat.reduceAdd, Nat.reduceMul, Nat.reduceSub, Nat.reduceBEq, Nat.reduceLT, Nat.reduceLeDiff, reduceIte, reduceCtorEq, Int.reduceToNat, Int.reduceLE, Int.reduceLT, Int.reduceNe, Int.reduceMul, Int.reduceAdd, Int.reduceSub, Int.reduceDiv, Int.reduceMod, Int.reduceEq, Int.reduceGE, Int.reduceGT, Int.reduceNeg, Int.reduceBEq, Int.reduceBNe, Nat.reduceEqDiff, List.length_map]
    · have di : decide (i < v) = false := by simp; omega
      refine AWp.shift (Shift.frz 3 rfl (frozen_paras ps)) ?_
      simp only [↓frz_str, frzE, frz, frz1, frzB, List.map_cons, List.map_nil, List.set_cons_succ, List.set_cons_zero, Nat.reduceBEq, cond_true, cond_false, Bool.false_and, Bool.true_and, List.length_map, Nat.zero_add, decide_true, Nat.le_refl, List.drop_zero]
      have : List.take ps.length (List.map paA ps) = List.map paA ps := List.take_of_length_le (by simp)
      simp only [this]
      refine go (N := 27) Tryz.ntmps68 300 ?_
      simp only [go_sem, Nat.reduceAdd, Nat.reduceMul, Nat.reduceSub, Nat.reduceBEq, Nat.reduceLT, Nat.reduceLeDiff, reduceIte, reduceCtorEq, Int.reduceToNat, Int.reduceLE, Int.reduceLT, Int.reduceNe, Int.reduceMul, Int.reduceAdd, Int.reduceSub, Int.reduceDiv, Int.reduceMod, Int.reduceEq, Int.reduceGE, Int.reduceGT, Int.reduceNeg, Int.reduceBEq, Int.reduceBNe, Nat.reduceEqDiff, di]
      exact aretc [.cell 2 66] rfl [_] ⟨by simp only [go_sem, Nat.reduceAdd, Nat.reduceMul, Nat.reduceSub, Nat.reduceBEq, Nat.reduceLT, Nat.reduceLeDiff, reduceIte, reduceCtorEq, Int.reduceToNat, Int.reduceLE, Int.reduceLT, Int.reduceNe, Int.reduceMul, Int.reduceAdd, Int.reduceSub, Int.reduceDiv, Int.reduceMod, Int.reduceEq, Int.reduceGE, Int.reduceGT, Int.reduceNeg, Int.reduceBEq, Int.reduceBNe, Nat.reduceEqDiff, sideIs], trivial⟩ ⟨_, _, rfl, ⟨⟨[], pl, st, tm, ps⟩, k', rfl, ⟨rfl, ⟨hp1, hp2⟩, hst, ⟨ht1, ht2⟩, ⟨e, g5, g6, g7⟩, by simp only; omega, g8⟩, rfl, g3, by omega⟩, rfl, rfl⟩
end Go.Proofs.YtpjbbpilgfihbaaGreatDoor
/- Draws: a script without numbers. Own work of this seat. -/
set_option maxRecDepth 100000
set_option linter.unusedSimpArgs false
set_option linter.unusedVariables false
namespace Go.Proofs.YtpjbbpilgfihbaaGreatDoor
open Go Go.Av Go.RowKit
attribute [local go_sem ↓] br_true br_false dbr_true dbr_false dbri_true dbri_false dbrg_true dbrg_false
attribute [local go_sem] run cont br dbr dx dxc dgrd dyld dres dcall calm fieldPlace? allHas step1 opN grdN resN condN exitN stopN exitIt dOk xop xbin xint xarith xstr xbool xpick xnot xneg xextract xpart xpartOk xindex xfieldF fieldD xnew xbox xalloc xfieldAddr xptrAddIf xindexAddr xloadC xload putCells reElem xstoreB xstore xconv xtext xlen xlen2 xcall xfill xbuild cut rep xbuildSlice xbuildSliceD isRow elemD isU8 ev evs evp Go.Av.put Go.Av.get ofConst yldD yldV notBool_undef args0 cellsOf cond_true cond_false decide_true decide_false decide_eq_true_eq decide_eq_false_iff_not List.getElem?_cons_zero List.getElem?_cons_succ List.getElem?_nil List.getD_cons_zero List.getD_cons_succ List.getD_nil List.set_cons_zero List.set_cons_succ List.length_cons List.length_nil List.cons_append List.nil_append List.append_nil List.all_cons List.all_nil List.map_cons List.map_nil List.take_succ_cons List.take_zero List.drop_succ_cons List.drop_zero Bool.and_true Bool.true_and Bool.and_self Bool.and_false Bool.false_and one Go.Av.frozen beq_self_eq_true true_and and_true forall_const false_implies implies_true and_self Option.map_some Option.map_none Nat.zero_add Nat.add_zero Nat.zero_mul Nat.mul_one Nat.one_mul Int.toNat_zero ne_eq not_false_eq_true not_true_eq_false Bool.true_eq_false Bool.false_eq_true List.toList_toArray inr Go.Av.byteOf isByte decide_eq_decide Bool.not_true Bool.not_false Bool.not_eq_true' Bool.or_true Bool.true_or Bool.or_false Bool.false_or ge_iff_le gt_iff_lt and_assoc Bool.decide_eq_true beq_iff_eq beq_eq_false_iff_ne bne_iff_ne bne_self_eq_false if_true if_false Bool.and_eq_true Bool.or_eq_true Bool.and_eq_false_imp Bool.or_eq_false_iff Bool.not_eq_false' has Option.isSome_some Option.isSome_none Int.toNat_natCast Int.cast_ofNat_Int List.length_append xapp2 xapp xappS xappD xappB notInt srcOf srcB byteAV splice' xcut xcutS xcutF xcutB xcutN xcut0 cutL loOf hiOf evo xmake zelem xmax xcopy2 xcopyS xcopyB xnil xcut3 ixOf xclear2 xclearB List.getElem?_toArray xbin2 xnileq xempty xmkmap xmput xmputB xmputF isKey keyEq mfind xbin3 xeqs xeqop eqFs bothB leafEq xlook xlookB xlookF xbytes beq_c_n beq_n_c bne_c_n bne_n_c one_nil dxi dxic dbri rix dck reader blind opOk refOk Go.Op.operands Go.Call.operands List.contains_cons List.contains_nil dxg dxgc dbrg pck putD List.lookup_cons List.lookup_nil ts2 tb2 zl2 za2 Tryz.underlying2 ts3 tb3 zl3 za3 Tryz.underlying3 ts4 tb4 zl4 za4 Tryz.underlying4 ts5 tb5 zl5 za5 Tryz.underlying5 ts6 tb6 zl6 za6 Tryz.underlying6 ts7 tb7 za7 Tryz.underlying7 ts8 tb8 za8 Tryz.underlying8 ts9 tb9 zl9 za9 Tryz.underlying9 ts10 tb10 zl10 za10 Tryz.underlying10 ts11 tb11 zl11 za11 Tryz.underlying11 ts12 tb12 zl12 za12 Tryz.underlying12 ts13 tb13 za13 Tryz.underlying13 ts14 tb14 za14 Tryz.underlying14 ts18 tb18 za18 Tryz.underlying18 ts19 tb19 za19 Tryz.underlying19 ts21 tb21 zl21 za21 Tryz.underlying21 ts22 tb22 zl22 za22 Tryz.underlying22 ts24 tb24 za24 Tryz.underlying24 ts25 tb25 za25 Tryz.underlying25 ts27 tb27 zl27 za27 Tryz.underlying27 ts35 tb35 zl35 za35 Tryz.underlying35 ts36 tb36 za36 Tryz.underlying36 ts37 tb37 za37 Tryz.underlying37 ts39 tb39 zl39 za39 Tryz.underlying39 ts41 tb41 za41 Tryz.underlying41 ts42 tb42 za42 Tryz.underlying42 ts63 tb63 zl63 za63 Tryz.underlying63 ts64 tb64 zl64 za64 Tryz.underlying64 ts65 tb65 za65 Tryz.underlying65 ts66 tb66 za66 Tryz.underlying66 ts67 tb67 zl67 za67 Tryz.underlying67 ts69 tb69 za69 Tryz.underlying69 ts70 tb70 za70 Tryz.underlying70 ts73 tb73 za73 Tryz.underlying73 ts74 tb74 za74 Tryz.underlying74 ts75 tb75 zl75 za75 Tryz.underlying75 ts82 tb82 zl82 za82 Tryz.underlying82 ts96 tb96 za96 Tryz.underlying96 ts97 tb97 za97 Tryz.underlying97 ts103 tb103 za103 Tryz.underlying103 ts104 tb104 za104 Tryz.underlying104 ts109 tb109 zl109 za109 Tryz.underlying109 ts116 tb116 zl116 za116 Tryz.underlying116 ts117 tb117 za117 Tryz.underlying117 ts118 tb118 za118 Tryz.underlying118 ts120 tb120 zl120 za120 Tryz.underlying120 ts124 tb124 zl124 za124 Tryz.underlying124 ts126 tb126 za126 Tryz.underlying126 ts128 tb128 zl128 za128 Tryz.underlying128 ts130 tb130 za130 Tryz.underlying130 ts131 tb131 za131 Tryz.underlying131 ts153 tb153 zl153 za153 Tryz.underlying153 ts167 tb167 zl167 za167 Tryz.underlying167 ts171 tb171 zl171 za171 Tryz.underlying171 ts177 tb177 zl177 za177 Tryz.underlying177 ts183 tb183 zl183 za183 Tryz.underlying183 ts189 tb189 zl189 za189 Tryz.underlying189 ts191 tb191 zl191 za191 Tryz.underlying191 ts195 tb195 za195 Tryz.underlying195 ts196 tb196 za196 Tryz.underlying196 ts198 tb198 zl198 za198 Tryz.underlying198 ts203 tb203 Tryz.underlying203 ts209 tb209 za209 Tryz.underlying209 ts210 tb210 za210 Tryz.underlying210 ts211 tb211 Tryz.underlying211 ts216 tb216 za216 Tryz.underlying216 ts217 tb217 za217 Tryz.underlying217 ts220 tb220 Tryz.underlying220 ts225 tb225 Tryz.underlying225 ts226 tb226 Tryz.underlying226 ts227 tb227 za227 Tryz.underlying227 ts228 tb228 za228 Tryz.underlying228 ts232 tb232 zl232 za232 Tryz.underlying232 ts233 tb233 zl233 za233 Tryz.underlying233 ts235 tb235 zl235 za235 Tryz.underlying235 ts236 tb236 zl236 za236 Tryz.underlying236 ts237 tb237 za237 Tryz.underlying237 ts238 tb238 za238 Tryz.underlying238

def TitleL : List (List UInt8) := [[84], [84, 104, 101, 32, 77, 105, 108, 108], [65, 32, 45, 32, 66]]

/-- a script that is drawn, without numbers -/
structure DrawnR (x : Sr) : Prop where
  title : x.title ∈ TitleL
  len : x.scenes.length ≤ 5
  all : ∀ y ∈ x.scenes, DrawnS y
  first : ∀ y, x.scenes.head? = some y → y.time ≠ 5

theorem frozen_scene (x : Sc) : (cellsOf (scA x)).all Av.frozen = true := by simp [scA, cellsOf, Av.frozen]
theorem frozen_scenes (ps : List Sc) : (flat (ps.map scA)).all Av.frozen = true := by
  induction ps with
  | nil => rfl
  | cons y l ih => simpa [flat, cellsOf, scA, Av.frozen] using ih

set_option maxHeartbeats 2000000 in
theorem script_mc (L : List Int) (k : Int) (h3 : 0 ≤ k) (h4 : k ≤ 600000) :
    Mc Tryz.prog 30 2 (str L k) [] (fun r s => ∃ (x : Sr) (k' : Int), r = srA x ∧ DrawnR x ∧ s = str L k' ∧ k ≤ k' ∧ k' ≤ k + 30000) := by
  refine ct_intro Tryz.func30 rfl Tryz.ntmps30 hB30 (by simp) fun h ρ w => goF (N := 33) Tryz.ntmps30 300 ?_
  simp only [go_sem, Nat.reduceAdd, Nat.reduceMul, Nat.reduceSub, Nat.reduceBEq, Nat.reduceLT, Nat.reduceLeDiff, reduceIte, reduceCtorEq, Int.reduceToNat, Int.reduceLE, Int.reduceLT, Int.reduceNe, Int.reduceMul, Int.reduceAdd, Int.reduceSub, Int.reduceDiv, Int.reduceMod, Int.reduceEq, Int.reduceGE, Int.reduceGT, Int.reduceNeg, Int.reduceBEq, Int.reduceBNe, Nat.reduceEqDiff]
  refine mcall (one_mc L k TitleL (by decide) (by decide) (by omega) (by omega)) rfl rfl (id := 0) rfl (N := 33) Tryz.ntmps30 rfl ?_
  rintro _ _ ⟨⟨ti, hti, rfl⟩, rfl⟩
  refine goF (N := 33) Tryz.ntmps30 300 ?_
  simp only [go_sem, Nat.reduceAdd, Nat.reduceMul, Nat.reduceSub, Nat.reduceBEq, Nat.reduceLT, Nat.reduceLeDiff, reduceIte, reduceCtorEq, Int.reduceToNat, Int.reduceLE, Int.reduceLT, Int.reduceNe, Int.reduceMul, Int.reduceAdd, Int.reduceSub, Int.reduceDiv, Int.reduceMod, Int.reduceEq, Int.reduceGE, Int.reduceGT, Int.reduceNeg, Int.reduceBEq, Int.reduceBNe, Nat.reduceEqDiff]
  refine mcall (next_mc L (k + 1) 6 (by omega) (by omega) (by omega) (by omega)) rfl rfl (id := 0) rfl (N := 33) Tryz.ntmps30 rfl ?_
  rintro _ _ ⟨⟨v, rfl, hv0, hv1⟩, rfl⟩
  refine goF (N := 33) Tryz.ntmps30 300 ?_
  simp only [go_sem, Nat.reduceAdd, Nat.reduceMul, Nat.reduceSub, Nat.reduceBEq, Nat.reduceLT, Nat.reduceLeDiff, reduceIte, reduceCtorEq, Int.reduceToNat, Int.reduceLE, Int.reduceLT, Int.reduceNe, Int.reduceMul, Int.reduceAdd, Int.reduceSub, Int.reduceDiv, Int.reduceMod, Int.reduceEq, Int.reduceGE, Int.reduceGT, Int.reduceNeg, Int.reduceBEq, Int.reduceBNe, Nat.reduceEqDiff]
  refine aloop (ι := Int × Int × List Sc) (fun x => (v - x.1).toNat)
    (fun x => [(11, .int .i64 x.1), (10, .int .i64 v), (3, .ptr 2 1 0 0), (2, .ptr 1 1 0 0), (0, .ptr 0 1 0 0)])
    (fun x => [.arr 2 [str L x.2.1], .arr 2 [.agg [.str [], .raw (.slice none 0 0)]], .arr 2 [.agg [.str ti, .sl 3 0 x.2.2.length x.2.2.length]], .arr 5 (x.2.2.map scA)])
    (fun x => 0 ≤ x.1 ∧ x.1 ≤ v ∧ k ≤ x.2.1 ∧ x.2.1 ≤ k + 2 + 5000 * x.1 ∧ (x.2.2.length : Int) = x.1 ∧ (∀ y ∈ x.2.2, DrawnS y) ∧ (∀ y, x.2.2.head? = some y → y.time ≠ 5))
    (0, k + 1 + 1, []) ⟨Int.le_refl _, by simp only; omega, by simp only; omega, by simp only; omega, rfl, by simp, by simp⟩ ?_ ?_
  · refine Shift.trans (Shift.cells 2 5 [.agg [.str ti, .sl 3 0 0 0]] rfl rfl (by simp [cellsOf]) ⟨.refl, .sl, trivial⟩) (Shift.weak ?_)
    simp only [wk, go_sem, Nat.reduceAdd, Nat.reduceMul, Nat.reduceSub, Nat.reduceBEq, Nat.reduceLT, Nat.reduceLeDiff, reduceIte, reduceCtorEq, Int.reduceToNat, Int.reduceLE, Int.reduceLT, Int.reduceNe, Int.reduceMul, Int.reduceAdd, Int.reduceSub, Int.reduceDiv, Int.reduceMod, Int.reduceEq, Int.reduceGE, Int.reduceGT, Int.reduceNeg, Int.reduceBEq, Int.reduceBNe, Nat.reduceEqDiff]
  · rintro ⟨i, k', xs⟩ ⟨g1, g2, g3, g4, g5, g6, g7⟩ J hJ
    simp only at g1 g2 g3 g4 g5 g6 g7 hJ ⊢
    by_cases gi : i < v
    · have di : decide (i < v) = true := by simp; omega
      refine goF (N := 33) Tryz.ntmps30 300 ?_
      simp only [go_sem, Nat.reduceAdd, Nat.reduceMul, Nat.reduceSub, Nat.reduceBEq, Nat.reduceLT, Nat.reduceLeDiff, reduceIte, reduceCtorEq, Int.reduceToNat, Int.reduceLE, Int.reduceLT, Int.reduceNe, Int.reduceMul, Int.reduceAdd, Int.reduceSub, Int.reduceDiv, Int.reduceMod, Int.reduceEq, Int.reduceGE, Int.reduceGT, Int.reduceNeg, Int.reduceBEq, Int.reduceBNe, Nat.reduceEqDiff, di]
      refine mcall (scene_mc L k' (by omega) (by omega)) rfl rfl (id := 0) rfl (N := 33) Tryz.ntmps30 rfl ?_
      rintro _ _ ⟨x, k2, rfl, hx, rfl, t1, t2⟩
      have hlen : (List.map scA xs).length = xs.length := by simp
      have e2 : ∀ a b c d f, List.map scA xs ++ [AV.agg [.str a, .int .i64 b, .str c, .int .i64 d, .fz 2 (List.map paA f)]] = List.map scA (xs ++ [⟨a, b, c, d, f⟩]) := fun _ _ _ _ _ => by simp [scA]
      have e3 : ∀ y : Sc, xs.length + 1 = (xs ++ [y]).length := fun y => by simp
      have fin : ∀ y : Sc, DrawnS y → (xs = [] → y.time ≠ 5) → _ := fun y hy h5 => hJ (i + 1, k2, xs ++ [y]) ⟨by simp only; omega, by simp only; omega, by simp only; omega, by simp only; omega, by simp; omega, fun z hz => by
          rcases List.mem_append.1 hz with hz | hz
          · exact g6 z hz
          · rw [List.mem_singleton.1 hz]; exact hy, fun z hz => by
          cases xs with
          | nil => simp at hz; rw [← hz]; exact h5 rfl
          | cons a r => exact g7 z (by simpa using hz)⟩ (by simp only; omega)
      simp only [scA]
      refine goF (N := 33) Tryz.ntmps30 300 ?_
      by_cases h0 : xs = []
      · have q0 : ((xs.length : Int) == 0) = true := by simp [h0]
        by_cases h5 : x.time = 5
        · have q5 : (x.time == 5) = true := by simpa using h5
          simp only [go_sem, Nat.reduceAdd, Nat.reduceMul, Nat.reduceSub, Nat.reduceBEq, Nat.reduceLT, Nat.reduceLeDiff, reduceIte, reduceCtorEq, Int.reduceToNat, Int.reduceLE, Int.reduceLT, Int.reduceNe, Int.reduceMul, Int.reduceAdd, Int.reduceSub, Int.reduceDiv, Int.reduceMod, Int.reduceEq, Int.reduceGE, Int.reduceGT, Int.reduceNeg, Int.reduceBEq, Int.reduceBNe, Nat.reduceEqDiff, q0, q5]
          refine ⟨by simp, by first | omega | (simp; done) | (simp; omega), by first | omega | (simp; done) | (simp; omega), by first | omega | (simp; done) | (simp; omega), by first | omega | (simp; done) | (simp; omega), by omega, by omega, ?_⟩
          rw [e2, e3 ⟨x.no, x.place, x.set, 2, x.paras⟩]
          refine ainv (fin ⟨x.no, x.place, x.set, 2, x.paras⟩ ⟨hx.no, hx.place, hx.set, by simp, hx.run, hx.len, hx.all⟩ (fun _ => by simp)) (Shift.low 4 (by simp) (by simp) ?_ ?_)
          · have := frozen_scenes (xs ++ [⟨x.no, x.place, x.set, 2, x.paras⟩])
            simp only [List.take_succ_cons, List.take_zero, List.all_cons, List.all_nil, lowB, flat, cellsOf, lowC, str, Av.frozen, decide_true, List.append_nil, List.cons_append, List.nil_append, low_all this, Nat.reduceLT, Bool.and_self]
          · simp only [wkl, lowV, lowC, Av.get, go_sem, Nat.reduceAdd, Nat.reduceMul, Nat.reduceSub, Nat.reduceBEq, Nat.reduceLT, Nat.reduceLeDiff, reduceIte, reduceCtorEq, Int.reduceToNat, Int.reduceLE, Int.reduceLT, Int.reduceNe, Int.reduceMul, Int.reduceAdd, Int.reduceSub, Int.reduceDiv, Int.reduceMod, Int.reduceEq, Int.reduceGE, Int.reduceGT, Int.reduceNeg, Int.reduceBEq, Int.reduceBNe, Nat.reduceEqDiff]
        · have q5 : (x.time == 5) = false := by simpa using h5
          simp only [go_sem, Nat.reduceAdd, Nat.reduceMul, Nat.reduceSub, Nat.reduceBEq, Nat.reduceLT, Nat.reduceLeDiff, reduceIte, reduceCtorEq, Int.reduceToNat, Int.reduceLE, Int.reduceLT, Int.reduceNe, Int.reduceMul, Int.reduceAdd, Int.reduceSub, Int.reduceDiv, Int.reduceMod, Int.reduceEq, Int.reduceGE, Int.reduceGT, Int.reduceNeg, Int.reduceBEq, Int.reduceBNe, Nat.reduceEqDiff, q0, q5]
          refine ⟨by simp, by first | omega | (simp; done) | (simp; omega), by first | omega | (simp; done) | (simp; omega), by first | omega | (simp; done) | (simp; omega), by first | omega | (simp; done) | (simp; omega), by omega, by omega, ?_⟩
          rw [e2, e3 ⟨x.no, x.place, x.set, x.time, x.paras⟩]
          refine ainv (fin ⟨x.no, x.place, x.set, x.time, x.paras⟩ hx (fun _ => h5)) (Shift.low 4 (by simp) (by simp) ?_ ?_)
          · have := frozen_scenes (xs ++ [⟨x.no, x.place, x.set, x.time, x.paras⟩])
            simp only [List.take_succ_cons, List.take_zero, List.all_cons, List.all_nil, lowB, flat, cellsOf, lowC, str, Av.frozen, decide_true, List.append_nil, List.cons_append, List.nil_append, low_all this, Nat.reduceLT, Bool.and_self]
          · simp only [wkl, lowV, lowC, Av.get, go_sem, Nat.reduceAdd, Nat.reduceMul, Nat.reduceSub, Nat.reduceBEq, Nat.reduceLT, Nat.reduceLeDiff, reduceIte, reduceCtorEq, Int.reduceToNat, Int.reduceLE, Int.reduceLT, Int.reduceNe, Int.reduceMul, Int.reduceAdd, Int.reduceSub, Int.reduceDiv, Int.reduceMod, Int.reduceEq, Int.reduceGE, Int.reduceGT, Int.reduceNeg, Int.reduceBEq, Int.reduceBNe, Nat.reduceEqDiff]
      · have q0 : ((xs.length : Int) == 0) = false := by
          have : xs.length ≠ 0 := by simpa using h0
          simp; omega
        simp only [go_sem, Nat.reduceAdd, Nat.reduceMul, Nat.reduceSub, Nat.reduceBEq, Nat.reduceLT, Nat.reduceLeDiff, reduceIte, reduceCtorEq, Int.reduceToNat, Int.reduceLE, Int.reduceLT, Int.reduceNe, Int.reduceMul, Int.reduceAdd, Int.reduceSub, Int.reduceDiv, Int.reduceMod, Int.reduceEq, Int.reduceGE, Int.reduceGT, Int.reduceNeg, Int.reduceBEq, Int.reduceBNe, Nat.reduceEqDiff, q0]
        refine ⟨by simp, by first | omega | (simp; done) | (simp; omega), by first | omega | (simp; done) | (simp; omega), by first | omega | (simp; done) | (simp; omega), by first | omega | (simp; done) | (simp; omega), by omega, by omega, ?_⟩
        rw [e2, e3 ⟨x.no, x.place, x.set, x.time, x.paras⟩]
        refine ainv (fin ⟨x.no, x.place, x.set, x.time, x.paras⟩ hx (fun h => (h0 h).elim)) (Shift.low 4 (by simp) (by simp) ?_ ?_)
        · have := frozen_scenes (xs ++ [⟨x.no, x.place, x.set, x.time, x.paras⟩])
          simp only [List.take_succ_cons, List.take_zero, List.all_cons, List.all_nil, lowB, flat, cellsOf, lowC, str, Av.frozen, decide_true, List.append_nil, List.cons_append, List.nil_append, low_all this, Nat.reduceLT, Bool.and_self]
        · simp only [wkl, lowV, lowC, Av.get, go_sem, Nat.reduceAdd, Nat.reduceMul, Nat.reduceSub, Nat.reduceBEq, Nat.reduceLT, Nat.reduceLeDiff, reduceIte, reduceCtorEq, Int.reduceToNat, Int.reduceLE, Int.reduceLT, Int.reduceNe, Int.reduceMul, Int.reduceAdd, Int.reduceSub, Int.reduceDiv, Int.reduceMod, Int.reduceEq, Int.reduceGE, Int.reduceGT, Int.reduceNeg, Int.reduceBEq, Int.reduceBNe, Nat.reduceEqDiff]
    · have di : decide (i < v) = false := by simp; omega
      refine AWp.shift (Shift.frz 3 rfl (frozen_scenes xs)) ?_
      simp only [↓frz_str, frzE, frz, frz1, frzB, List.map_cons, List.map_nil, List.set_cons_succ, List.set_cons_zero, Nat.reduceBEq, cond_true, cond_false, Bool.false_and, Bool.true_and, List.length_map, Nat.zero_add, decide_true, Nat.le_refl, List.drop_zero]
      have : List.take xs.length (List.map scA xs) = List.map scA xs := List.take_of_length_le (by simp)
      simp only [this]
      refine go (N := 33) Tryz.ntmps30 300 ?_
      simp only [go_sem, Nat.reduceAdd, Nat.reduceMul, Nat.reduceSub, Nat.reduceBEq, Nat.reduceLT, Nat.reduceLeDiff, reduceIte, reduceCtorEq, Int.reduceToNat, Int.reduceLE, Int.reduceLT, Int.reduceNe, Int.reduceMul, Int.reduceAdd, Int.reduceSub, Int.reduceDiv, Int.reduceMod, Int.reduceEq, Int.reduceGE, Int.reduceGT, Int.reduceNeg, Int.reduceBEq, Int.reduceBNe, Nat.reduceEqDiff, di]
      exact aretc [.cell 2 37] rfl [_] ⟨by simp only [go_sem, Nat.reduceAdd, Nat.reduceMul, Nat.reduceSub, Nat.reduceBEq, Nat.reduceLT, Nat.reduceLeDiff, reduceIte, reduceCtorEq, Int.reduceToNat, Int.reduceLE, Int.reduceLT, Int.reduceNe, Int.reduceMul, Int.reduceAdd, Int.reduceSub, Int.reduceDiv, Int.reduceMod, Int.reduceEq, Int.reduceGE, Int.reduceGT, Int.reduceNeg, Int.reduceBEq, Int.reduceBNe, Nat.reduceEqDiff, sideIs], trivial⟩ ⟨_, _, rfl, ⟨⟨ti, xs⟩, k', rfl, ⟨hti, by simp only; omega, g6, g7⟩, rfl, g3, by omega⟩, rfl, rfl⟩
end Go.Proofs.YtpjbbpilgfihbaaGreatDoor
/- Checks of scenes and of scripts. Own work of this seat. -/
set_option maxRecDepth 100000
set_option linter.unusedSimpArgs false
set_option linter.unusedVariables false
namespace Go.Proofs.YtpjbbpilgfihbaaGreatDoor
open Go Go.Av Go.RowKit
attribute [local go_sem ↓] br_true br_false dbr_true dbr_false dbri_true dbri_false dbrg_true dbrg_false
attribute [local go_sem] run cont br dbr dx dxc dgrd dyld dres dcall calm fieldPlace? allHas step1 opN grdN resN condN exitN stopN exitIt dOk xop xbin xint xarith xstr xbool xpick xnot xneg xextract xpart xpartOk xindex xfieldF fieldD xnew xbox xalloc xfieldAddr xptrAddIf xindexAddr xloadC xload putCells reElem xstoreB xstore xconv xtext xlen xlen2 xcall xfill xbuild cut rep xbuildSlice xbuildSliceD isRow elemD isU8 ev evs evp Go.Av.put Go.Av.get ofConst yldD yldV notBool_undef args0 cellsOf cond_true cond_false decide_true decide_false decide_eq_true_eq decide_eq_false_iff_not List.getElem?_cons_zero List.getElem?_cons_succ List.getElem?_nil List.getD_cons_zero List.getD_cons_succ List.getD_nil List.set_cons_zero List.set_cons_succ List.length_cons List.length_nil List.cons_append List.nil_append List.append_nil List.all_cons List.all_nil List.map_cons List.map_nil List.take_succ_cons List.take_zero List.drop_succ_cons List.drop_zero Bool.and_true Bool.true_and Bool.and_self Bool.and_false Bool.false_and one Go.Av.frozen beq_self_eq_true true_and and_true forall_const false_implies implies_true and_self Option.map_some Option.map_none Nat.zero_add Nat.add_zero Nat.zero_mul Nat.mul_one Nat.one_mul Int.toNat_zero ne_eq not_false_eq_true not_true_eq_false Bool.true_eq_false Bool.false_eq_true List.toList_toArray inr Go.Av.byteOf isByte decide_eq_decide Bool.not_true Bool.not_false Bool.not_eq_true' Bool.or_true Bool.true_or Bool.or_false Bool.false_or ge_iff_le gt_iff_lt and_assoc Bool.decide_eq_true beq_iff_eq beq_eq_false_iff_ne bne_iff_ne bne_self_eq_false if_true if_false Bool.and_eq_true Bool.or_eq_true Bool.and_eq_false_imp Bool.or_eq_false_iff Bool.not_eq_false' has Option.isSome_some Option.isSome_none Int.toNat_natCast Int.cast_ofNat_Int List.length_append xapp2 xapp xappS xappD xappB notInt srcOf srcB byteAV splice' xcut xcutS xcutF xcutB xcutN xcut0 cutL loOf hiOf evo xmake zelem xmax xcopy2 xcopyS xcopyB xnil xcut3 ixOf xclear2 xclearB List.getElem?_toArray xbin2 xnileq xempty xmkmap xmput xmputB xmputF isKey keyEq mfind xbin3 xeqs xeqop eqFs bothB leafEq xlook xlookB xlookF xbytes beq_c_n beq_n_c bne_c_n bne_n_c one_nil dxi dxic dbri rix dck reader blind opOk refOk Go.Op.operands Go.Call.operands List.contains_cons List.contains_nil dxg dxgc dbrg pck putD List.lookup_cons List.lookup_nil ts2 tb2 zl2 za2 Tryz.underlying2 ts3 tb3 zl3 za3 Tryz.underlying3 ts4 tb4 zl4 za4 Tryz.underlying4 ts5 tb5 zl5 za5 Tryz.underlying5 ts6 tb6 zl6 za6 Tryz.underlying6 ts7 tb7 za7 Tryz.underlying7 ts8 tb8 za8 Tryz.underlying8 ts9 tb9 zl9 za9 Tryz.underlying9 ts10 tb10 zl10 za10 Tryz.underlying10 ts11 tb11 zl11 za11 Tryz.underlying11 ts12 tb12 zl12 za12 Tryz.underlying12 ts13 tb13 za13 Tryz.underlying13 ts14 tb14 za14 Tryz.underlying14 ts18 tb18 za18 Tryz.underlying18 ts19 tb19 za19 Tryz.underlying19 ts21 tb21 zl21 za21 Tryz.underlying21 ts22 tb22 zl22 za22 Tryz.underlying22 ts24 tb24 za24 Tryz.underlying24 ts25 tb25 za25 Tryz.underlying25 ts27 tb27 zl27 za27 Tryz.underlying27 ts35 tb35 zl35 za35 Tryz.underlying35 ts36 tb36 za36 Tryz.underlying36 ts37 tb37 za37 Tryz.underlying37 ts39 tb39 zl39 za39 Tryz.underlying39 ts41 tb41 za41 Tryz.underlying41 ts42 tb42 za42 Tryz.underlying42 ts63 tb63 zl63 za63 Tryz.underlying63 ts64 tb64 zl64 za64 Tryz.underlying64 ts65 tb65 za65 Tryz.underlying65 ts66 tb66 za66 Tryz.underlying66 ts67 tb67 zl67 za67 Tryz.underlying67 ts69 tb69 za69 Tryz.underlying69 ts70 tb70 za70 Tryz.underlying70 ts73 tb73 za73 Tryz.underlying73 ts74 tb74 za74 Tryz.underlying74 ts75 tb75 zl75 za75 Tryz.underlying75 ts82 tb82 zl82 za82 Tryz.underlying82 ts96 tb96 za96 Tryz.underlying96 ts97 tb97 za97 Tryz.underlying97 ts103 tb103 za103 Tryz.underlying103 ts104 tb104 za104 Tryz.underlying104 ts109 tb109 zl109 za109 Tryz.underlying109 ts116 tb116 zl116 za116 Tryz.underlying116 ts117 tb117 za117 Tryz.underlying117 ts118 tb118 za118 Tryz.underlying118 ts120 tb120 zl120 za120 Tryz.underlying120 ts124 tb124 zl124 za124 Tryz.underlying124 ts126 tb126 za126 Tryz.underlying126 ts128 tb128 zl128 za128 Tryz.underlying128 ts130 tb130 za130 Tryz.underlying130 ts131 tb131 za131 Tryz.underlying131 ts153 tb153 zl153 za153 Tryz.underlying153 ts167 tb167 zl167 za167 Tryz.underlying167 ts171 tb171 zl171 za171 Tryz.underlying171 ts177 tb177 zl177 za177 Tryz.underlying177 ts183 tb183 zl183 za183 Tryz.underlying183 ts189 tb189 zl189 za189 Tryz.underlying189 ts191 tb191 zl191 za191 Tryz.underlying191 ts195 tb195 za195 Tryz.underlying195 ts196 tb196 za196 Tryz.underlying196 ts198 tb198 zl198 za198 Tryz.underlying198 ts203 tb203 Tryz.underlying203 ts209 tb209 za209 Tryz.underlying209 ts210 tb210 za210 Tryz.underlying210 ts211 tb211 Tryz.underlying211 ts216 tb216 za216 Tryz.underlying216 ts217 tb217 za217 Tryz.underlying217 ts220 tb220 Tryz.underlying220 ts225 tb225 Tryz.underlying225 ts226 tb226 Tryz.underlying226 ts227 tb227 za227 Tryz.underlying227 ts228 tb228 za228 Tryz.underlying228 ts232 tb232 zl232 za232 Tryz.underlying232 ts233 tb233 zl233 za233 Tryz.underlying233 ts235 tb235 zl235 za235 Tryz.underlying235 ts236 tb236 zl236 za236 Tryz.underlying236 ts237 tb237 za237 Tryz.underlying237 ts238 tb238 za238 Tryz.underlying238

structure SceneOk (x : Sc) : Prop where
  set : isSetL x.set = true
  len : x.set.length < 1000000
  many : x.paras.length < 1000000
  run : ∃ e, runL 0 x.paras = some e ∧ e ≠ 2 ∧ e ≠ 3

set_option maxHeartbeats 1000000 in
theorem sceneFault_pch {S : Std} (hS : LibOk S) (x : Sc) (hx : SceneOk x) : PcH Tryz.prog S 72 [scA x] (· = .int .i64 0) := by
  obtain ⟨e, hr, h2, h3⟩ := hx.run
  have h4 := hx.many
  simp only [scA]
  refine pch_intro (cth_intro Tryz.func72 rfl Tryz.ntmps72 hB72 (by simp) fun h ρ w hg => go (N := 37) Tryz.ntmps72 300 ?_)
  simp only [go_sem, Nat.reduceAdd, Nat.reduceMul, Nat.reduceSub, Nat.reduceBEq, Nat.reduceLT, Nat.reduceLeDiff, reduceIte, reduceCtorEq, Int.reduceToNat, Int.reduceLE, Int.reduceLT, Int.reduceNe, Int.reduceMul, Int.reduceAdd, Int.reduceSub, Int.reduceDiv, Int.reduceMod, Int.reduceEq, Int.reduceGE, Int.reduceGT, Int.reduceNeg, Int.reduceBEq, Int.reduceBNe, Nat.reduceEqDiff]
  refine pcallH1 hg (isSet_pch hS x.set hx.len) rfl (N := 37) Tryz.ntmps72 rfl (go (N := 37) Tryz.ntmps72 300 ?_)
  rw [hx.set]
  simp only [go_sem, Nat.reduceAdd, Nat.reduceMul, Nat.reduceSub, Nat.reduceBEq, Nat.reduceLT, Nat.reduceLeDiff, reduceIte, reduceCtorEq, Int.reduceToNat, Int.reduceLE, Int.reduceLT, Int.reduceNe, Int.reduceMul, Int.reduceAdd, Int.reduceSub, Int.reduceDiv, Int.reduceMod, Int.reduceEq, Int.reduceGE, Int.reduceGT, Int.reduceNeg, Int.reduceBEq, Int.reduceBNe, Nat.reduceEqDiff]
  refine aloop (ι := Nat × Int) (fun y => x.paras.length - y.1)
    (fun y => [(14, .int .i64 y.1), (13, .int .i64 x.paras.length), (12, .fz 2 (x.paras.map paA)), (3, .int .i64 y.2)])
    (fun _ => [.arr 5 [.agg [.str x.no, .int .i64 x.place, .str x.set, .int .i64 x.time, .fz 2 (x.paras.map paA)]]])
    (fun y => y.1 ≤ x.paras.length ∧ runL y.2 (x.paras.drop y.1) = some e) (0, 0) ⟨by simp, hr⟩ ?_ ?_
  · refine Shift.weak ?_
    simp only [wk, go_sem, Nat.reduceAdd, Nat.reduceMul, Nat.reduceSub, Nat.reduceBEq, Nat.reduceLT, Nat.reduceLeDiff, reduceIte, reduceCtorEq, Int.reduceToNat, Int.reduceLE, Int.reduceLT, Int.reduceNe, Int.reduceMul, Int.reduceAdd, Int.reduceSub, Int.reduceDiv, Int.reduceMod, Int.reduceEq, Int.reduceGE, Int.reduceGT, Int.reduceNeg, Int.reduceBEq, Int.reduceBNe, Nat.reduceEqDiff, List.length_map]
  · rintro ⟨i, l⟩ ⟨g1, g2⟩ J hJ
    simp only at g1 g2 hJ ⊢
    by_cases gi : i < x.paras.length
    · have di : decide ((i : Int) < (x.paras.length : Int)) = true := by simp; omega
      have hd : x.paras.drop i = x.paras[i] :: x.paras.drop (i + 1) := List.drop_eq_getElem_cons gi
      rw [hd] at g2
      simp only [runL] at g2
      split at g2
      rotate_left
      · cases g2
      rename_i hp
      simp only [Bool.and_eq_true] at hp
      have hg' : List.getD (List.map paA x.paras) i .any = .agg [.int .i64 x.paras[i].kind, .str x.paras[i].text] := by simp [List.getD, gi, paA]
      have hpf := paraFault_pch hS x.paras[i] hp.1
      simp only [paA] at hpf
      refine go (N := 37) Tryz.ntmps72 300 ?_
      simp only [go_sem, Nat.reduceAdd, Nat.reduceMul, Nat.reduceSub, Nat.reduceBEq, Nat.reduceLT, Nat.reduceLeDiff, reduceIte, reduceCtorEq, Int.reduceToNat, Int.reduceLE, Int.reduceLT, Int.reduceNe, Int.reduceMul, Int.reduceAdd, Int.reduceSub, Int.reduceDiv, Int.reduceMod, Int.reduceEq, Int.reduceGE, Int.reduceGT, Int.reduceNeg, Int.reduceBEq, Int.reduceBNe, Nat.reduceEqDiff, di, hg']
      refine ⟨by omega, by simpa using gi, by simpa using gi, ?_⟩
      refine pcallH1 hg (hpf) rfl (N := 37) Tryz.ntmps72 rfl (go (N := 37) Tryz.ntmps72 300 ?_)
      simp only [go_sem, Nat.reduceAdd, Nat.reduceMul, Nat.reduceSub, Nat.reduceBEq, Nat.reduceLT, Nat.reduceLeDiff, reduceIte, reduceCtorEq, Int.reduceToNat, Int.reduceLE, Int.reduceLT, Int.reduceNe, Int.reduceMul, Int.reduceAdd, Int.reduceSub, Int.reduceDiv, Int.reduceMod, Int.reduceEq, Int.reduceGE, Int.reduceGT, Int.reduceNeg, Int.reduceBEq, Int.reduceBNe, Nat.reduceEqDiff]
      refine pcall1 (follows_pc x.paras[i].kind l) rfl (N := 37) Tryz.ntmps72 rfl (go (N := 37) Tryz.ntmps72 300 ?_)
      rw [hp.2]
      simp only [go_sem, Nat.reduceAdd, Nat.reduceMul, Nat.reduceSub, Nat.reduceBEq, Nat.reduceLT, Nat.reduceLeDiff, reduceIte, reduceCtorEq, Int.reduceToNat, Int.reduceLE, Int.reduceLT, Int.reduceNe, Int.reduceMul, Int.reduceAdd, Int.reduceSub, Int.reduceDiv, Int.reduceMod, Int.reduceEq, Int.reduceGE, Int.reduceGT, Int.reduceNeg, Int.reduceBEq, Int.reduceBNe, Nat.reduceEqDiff]
      refine ⟨by omega, by omega, ?_⟩
      rw [show (i : Int) + 1 = ((i + 1 : Nat) : Int) by omega]
      refine ainv (hJ (i + 1, x.paras[i].kind) ⟨by simp only; omega, g2⟩ (by simp only; omega)) (Shift.low 1 (by simp) (by simp) ?_ ?_)
      · simp only [List.take_succ_cons, List.take_zero, List.all_cons, List.all_nil, lowB, flat, cellsOf, lowC, Av.frozen, List.append_nil, Bool.and_self]
      · simp only [wkl, lowV, lowC, Av.get, go_sem, Nat.reduceAdd, Nat.reduceMul, Nat.reduceSub, Nat.reduceBEq, Nat.reduceLT, Nat.reduceLeDiff, reduceIte, reduceCtorEq, Int.reduceToNat, Int.reduceLE, Int.reduceLT, Int.reduceNe, Int.reduceMul, Int.reduceAdd, Int.reduceSub, Int.reduceDiv, Int.reduceMod, Int.reduceEq, Int.reduceGE, Int.reduceGT, Int.reduceNeg, Int.reduceBEq, Int.reduceBNe, Nat.reduceEqDiff]
    · have di : decide ((i : Int) < (x.paras.length : Int)) = false := by simp; omega
      have : i = x.paras.length := by omega
      subst this
      rw [List.drop_length] at g2
      simp only [runL, Option.some.injEq] at g2
      subst g2
      have q2 : (l == 2) = false := by simpa using h2
      have q3 : (l == 3) = false := by simpa using h3
      refine go (N := 37) Tryz.ntmps72 300 ?_
      simp only [go_sem, Nat.reduceAdd, Nat.reduceMul, Nat.reduceSub, Nat.reduceBEq, Nat.reduceLT, Nat.reduceLeDiff, reduceIte, reduceCtorEq, Int.reduceToNat, Int.reduceLE, Int.reduceLT, Int.reduceNe, Int.reduceMul, Int.reduceAdd, Int.reduceSub, Int.reduceDiv, Int.reduceMod, Int.reduceEq, Int.reduceGE, Int.reduceGT, Int.reduceNeg, Int.reduceBEq, Int.reduceBNe, Nat.reduceEqDiff, di, q2, q3]
      exact aret [2] rfl ⟨rfl, rfl⟩
end Go.Proofs.YtpjbbpilgfihbaaGreatDoor
/- script.Check of right scripts. Own work of this seat. -/
set_option maxRecDepth 100000
set_option linter.unusedSimpArgs false
set_option linter.unusedVariables false
namespace Go.Proofs.YtpjbbpilgfihbaaGreatDoor
open Go Go.Av Go.RowKit
attribute [local go_sem ↓] br_true br_false dbr_true dbr_false dbri_true dbri_false dbrg_true dbrg_false
attribute [local go_sem] run cont br dbr dx dxc dgrd dyld dres dcall calm fieldPlace? allHas step1 opN grdN resN condN exitN stopN exitIt dOk xop xbin xint xarith xstr xbool xpick xnot xneg xextract xpart xpartOk xindex xfieldF fieldD xnew xbox xalloc xfieldAddr xptrAddIf xindexAddr xloadC xload putCells reElem xstoreB xstore xconv xtext xlen xlen2 xcall xfill xbuild cut rep xbuildSlice xbuildSliceD isRow elemD isU8 ev evs evp Go.Av.put Go.Av.get ofConst yldD yldV notBool_undef args0 cellsOf cond_true cond_false decide_true decide_false decide_eq_true_eq decide_eq_false_iff_not List.getElem?_cons_zero List.getElem?_cons_succ List.getElem?_nil List.getD_cons_zero List.getD_cons_succ List.getD_nil List.set_cons_zero List.set_cons_succ List.length_cons List.length_nil List.cons_append List.nil_append List.append_nil List.all_cons List.all_nil List.map_cons List.map_nil List.take_succ_cons List.take_zero List.drop_succ_cons List.drop_zero Bool.and_true Bool.true_and Bool.and_self Bool.and_false Bool.false_and one Go.Av.frozen beq_self_eq_true true_and and_true forall_const false_implies implies_true and_self Option.map_some Option.map_none Nat.zero_add Nat.add_zero Nat.zero_mul Nat.mul_one Nat.one_mul Int.toNat_zero ne_eq not_false_eq_true not_true_eq_false Bool.true_eq_false Bool.false_eq_true List.toList_toArray inr Go.Av.byteOf isByte decide_eq_decide Bool.not_true Bool.not_false Bool.not_eq_true' Bool.or_true Bool.true_or Bool.or_false Bool.false_or ge_iff_le gt_iff_lt and_assoc Bool.decide_eq_true beq_iff_eq beq_eq_false_iff_ne bne_iff_ne bne_self_eq_false if_true if_false Bool.and_eq_true Bool.or_eq_true Bool.and_eq_false_imp Bool.or_eq_false_iff Bool.not_eq_false' has Option.isSome_some Option.isSome_none Int.toNat_natCast Int.cast_ofNat_Int List.length_append xapp2 xapp xappS xappD xappB notInt srcOf srcB byteAV splice' xcut xcutS xcutF xcutB xcutN xcut0 cutL loOf hiOf evo xmake zelem xmax xcopy2 xcopyS xcopyB xnil xcut3 ixOf xclear2 xclearB List.getElem?_toArray xbin2 xnileq xempty xmkmap xmput xmputB xmputF isKey keyEq mfind xbin3 xeqs xeqop eqFs bothB leafEq xlook xlookB xlookF xbytes beq_c_n beq_n_c bne_c_n bne_n_c one_nil dxi dxic dbri rix dck reader blind opOk refOk Go.Op.operands Go.Call.operands List.contains_cons List.contains_nil dxg dxgc dbrg pck putD List.lookup_cons List.lookup_nil ts2 tb2 zl2 za2 Tryz.underlying2 ts3 tb3 zl3 za3 Tryz.underlying3 ts4 tb4 zl4 za4 Tryz.underlying4 ts5 tb5 zl5 za5 Tryz.underlying5 ts6 tb6 zl6 za6 Tryz.underlying6 ts7 tb7 za7 Tryz.underlying7 ts8 tb8 za8 Tryz.underlying8 ts9 tb9 zl9 za9 Tryz.underlying9 ts10 tb10 zl10 za10 Tryz.underlying10 ts11 tb11 zl11 za11 Tryz.underlying11 ts12 tb12 zl12 za12 Tryz.underlying12 ts13 tb13 za13 Tryz.underlying13 ts14 tb14 za14 Tryz.underlying14 ts18 tb18 za18 Tryz.underlying18 ts19 tb19 za19 Tryz.underlying19 ts21 tb21 zl21 za21 Tryz.underlying21 ts22 tb22 zl22 za22 Tryz.underlying22 ts24 tb24 za24 Tryz.underlying24 ts25 tb25 za25 Tryz.underlying25 ts27 tb27 zl27 za27 Tryz.underlying27 ts35 tb35 zl35 za35 Tryz.underlying35 ts36 tb36 za36 Tryz.underlying36 ts37 tb37 za37 Tryz.underlying37 ts39 tb39 zl39 za39 Tryz.underlying39 ts41 tb41 za41 Tryz.underlying41 ts42 tb42 za42 Tryz.underlying42 ts63 tb63 zl63 za63 Tryz.underlying63 ts64 tb64 zl64 za64 Tryz.underlying64 ts65 tb65 za65 Tryz.underlying65 ts66 tb66 za66 Tryz.underlying66 ts67 tb67 zl67 za67 Tryz.underlying67 ts69 tb69 za69 Tryz.underlying69 ts70 tb70 za70 Tryz.underlying70 ts73 tb73 za73 Tryz.underlying73 ts74 tb74 za74 Tryz.underlying74 ts75 tb75 zl75 za75 Tryz.underlying75 ts82 tb82 zl82 za82 Tryz.underlying82 ts96 tb96 za96 Tryz.underlying96 ts97 tb97 za97 Tryz.underlying97 ts103 tb103 za103 Tryz.underlying103 ts104 tb104 za104 Tryz.underlying104 ts109 tb109 zl109 za109 Tryz.underlying109 ts116 tb116 zl116 za116 Tryz.underlying116 ts117 tb117 za117 Tryz.underlying117 ts118 tb118 za118 Tryz.underlying118 ts120 tb120 zl120 za120 Tryz.underlying120 ts124 tb124 zl124 za124 Tryz.underlying124 ts126 tb126 za126 Tryz.underlying126 ts128 tb128 zl128 za128 Tryz.underlying128 ts130 tb130 za130 Tryz.underlying130 ts131 tb131 za131 Tryz.underlying131 ts153 tb153 zl153 za153 Tryz.underlying153 ts167 tb167 zl167 za167 Tryz.underlying167 ts171 tb171 zl171 za171 Tryz.underlying171 ts177 tb177 zl177 za177 Tryz.underlying177 ts183 tb183 zl183 za183 Tryz.underlying183 ts189 tb189 zl189 za189 Tryz.underlying189 ts191 tb191 zl191 za191 Tryz.underlying191 ts195 tb195 za195 Tryz.underlying195 ts196 tb196 za196 Tryz.underlying196 ts198 tb198 zl198 za198 Tryz.underlying198 ts203 tb203 Tryz.underlying203 ts209 tb209 za209 Tryz.underlying209 ts210 tb210 za210 Tryz.underlying210 ts211 tb211 Tryz.underlying211 ts216 tb216 za216 Tryz.underlying216 ts217 tb217 za217 Tryz.underlying217 ts220 tb220 Tryz.underlying220 ts225 tb225 Tryz.underlying225 ts226 tb226 Tryz.underlying226 ts227 tb227 za227 Tryz.underlying227 ts228 tb228 za228 Tryz.underlying228 ts232 tb232 zl232 za232 Tryz.underlying232 ts233 tb233 zl233 za233 Tryz.underlying233 ts235 tb235 zl235 za235 Tryz.underlying235 ts236 tb236 zl236 za236 Tryz.underlying236 ts237 tb237 za237 Tryz.underlying237 ts238 tb238 za238 Tryz.underlying238

def seenM (ks : List (List UInt8)) : List (AV × AV) := ks.map fun k => (.str k, .bool true)
theorem mfind_out {k : List UInt8} : ∀ {ks : List (List UInt8)} {n : Nat}, k ∉ ks → mfind .string (.str k) (seenM ks) n = some none
  | [], n, _ => rfl
  | a :: r, n, h => by
    simp only [List.mem_cons, not_or] at h
    have : (k == a) = false := by simpa using h.1
    simp only [seenM, List.map_cons, mfind, keyEq, this]
    exact mfind_out h.2
theorem mfind_in {k : List UInt8} : ∀ {ks : List (List UInt8)} {n : Nat}, k ∈ ks → ∃ i, mfind .string (.str k) (seenM ks) n = some (some (n + i, .bool true)) ∧ ks[i]? = some k
  | [], n, h => by simp at h
  | a :: r, n, h => by
    by_cases e : k = a
    · subst e
      exact ⟨0, by simp [seenM, mfind, keyEq], rfl⟩
    · have : (k == a) = false := by simpa using e
      obtain ⟨i, h1, h2⟩ := mfind_in (n := n + 1) ((List.mem_cons.1 h).resolve_left e)
      refine ⟨i + 1, ?_, by simpa using h2⟩
      simp only [seenM, List.map_cons, mfind, keyEq, this]
      rw [show n + (i + 1) = n + 1 + i by omega]
      exact h1
def dd (acc : List (List UInt8)) (k : List UInt8) : List (List UInt8) := if k ∈ acc then acc else acc ++ [k]

/-- right scenes, where the numbers 'acc' have come before -/
def okFrom : List (List UInt8) → Bool → List Sc → Prop
  | _, _, [] => True
  | acc, first, x :: r => (x.no = [] ∨ (numberL x.no = true ∧ x.no.length < 1000000 ∧ x.no ∉ acc)) ∧ (1 ≤ x.place ∧ x.place ≤ 3) ∧ (1 ≤ x.time ∧ x.time ≤ 5) ∧ (first = true → x.time ≠ 5) ∧ SceneOk x ∧ okFrom (dd acc x.no) false r

def paraSum (l : List Sc) : Nat := (l.map fun x => x.paras.length).sum
structure ScriptOk (x : Sr) : Prop where
  title : 1 ≤ x.title.length ∧ x.title.length ≤ 60
  plain : plainL x.title = true
  len : x.scenes.length ≤ 300
  many : paraSum x.scenes ≤ 4000
  ok : okFrom [] true x.scenes
theorem paraSum_take (l : List Sc) (i : Nat) (h : i < l.length) : paraSum (l.take (i + 1)) = paraSum (l.take i) + l[i].paras.length := by
  simp only [paraSum, List.take_add_one, List.map_append, List.sum_append]
  simp [h]
theorem paraSum_take_le (l : List Sc) (i : Nat) : paraSum (l.take i) ≤ paraSum l := by
  have : paraSum l = paraSum (l.take i) + paraSum (l.drop i) := by
    simp only [paraSum]
    rw [← List.sum_append, ← List.map_append, List.take_append_drop]
  omega

theorem seen_frozen (ks : List (List UInt8)) : (seenM ks).all (fun x => Av.frozen x.1 && Av.frozen x.2) = true := by
  induction ks with
  | nil => rfl
  | cons a r ih => simp [seenM, Av.frozen]
theorem low_seen (n : Nat) (ks : List (List UInt8)) : lowB n (.mp (seenM ks)) = true := seen_frozen ks
theorem seen_dd {k : List UInt8} {ks : List (List UInt8)} : (∃ i v, mfind .string (.str k) (seenM ks) 0 = some (some (i, v)) ∧ (seenM ks).set i (.str k, .bool true) = seenM (dd ks k)) ∨
    (mfind .string (.str k) (seenM ks) 0 = some none ∧ seenM ks ++ [(.str k, .bool true)] = seenM (dd ks k)) := by
  by_cases h : k ∈ ks
  · left
    obtain ⟨i, h1, h2⟩ := mfind_in (n := 0) h
    refine ⟨0 + i, _, h1, ?_⟩
    have : (seenM ks)[i]? = some (.str k, .bool true) := by simp [seenM, h2]
    rw [Nat.zero_add]
    have hs : (seenM ks).set i (.str k, .bool true) = seenM ks := by
      apply List.ext_getElem?
      intro j
      rw [List.getElem?_set]
      split
      · rename_i hj
        subst hj
        split
        · exact this.symm
        · rename_i hn
          rw [List.getElem?_eq_none (by omega)] at this
          cases this
      · rfl
    rw [hs]
    simp [dd, h]
  · right
    exact ⟨mfind_out h, by simp [dd, h, seenM]⟩

set_option maxHeartbeats 4000000 in
theorem check_pch {S : Std} (hS : LibOk S) (x : Sr) (hx : ScriptOk x) : PcH Tryz.prog S 35 [srA x] (· = .int .i64 0) := by
  obtain ⟨ti, xs⟩ := x
  have t1 := hx.title
  have t2 := hx.plain
  have t3 := hx.len
  have t4 := hx.many
  have t5 := hx.ok
  simp only at t1 t2 t3 t4 t5
  have d1 : decide ((ti.length : Int) < 1) = false := by simp; omega
  have d2 : decide ((ti.length : Int) > 60) = false := by simp; omega
  simp only [srA]
  refine pch_intro (cth_intro Tryz.func35 rfl Tryz.ntmps35 hB35 (by simp) fun h ρ w hg => go (N := 112) Tryz.ntmps35 300 ?_)
  simp only [go_sem, Nat.reduceAdd, Nat.reduceMul, Nat.reduceSub, Nat.reduceBEq, Nat.reduceLT, Nat.reduceLeDiff, reduceIte, reduceCtorEq, Int.reduceToNat, Int.reduceLE, Int.reduceLT, Int.reduceNe, Int.reduceMul, Int.reduceAdd, Int.reduceSub, Int.reduceDiv, Int.reduceMod, Int.reduceEq, Int.reduceGE, Int.reduceGT, Int.reduceNeg, Int.reduceBEq, Int.reduceBNe, Nat.reduceEqDiff, d1, d2]
  refine pcallH1 hg (plain_pch hS ti (by omega)) rfl (N := 112) Tryz.ntmps35 rfl (go (N := 112) Tryz.ntmps35 300 ?_)
  rw [t2]
  simp only [go_sem, Nat.reduceAdd, Nat.reduceMul, Nat.reduceSub, Nat.reduceBEq, Nat.reduceLT, Nat.reduceLeDiff, reduceIte, reduceCtorEq, Int.reduceToNat, Int.reduceLE, Int.reduceLT, Int.reduceNe, Int.reduceMul, Int.reduceAdd, Int.reduceSub, Int.reduceDiv, Int.reduceMod, Int.reduceEq, Int.reduceGE, Int.reduceGT, Int.reduceNeg, Int.reduceBEq, Int.reduceBNe, Nat.reduceEqDiff]
  refine aloop (ι := Nat) (fun i => xs.length - i)
    (fun i => [(29, .int .i64 i), (28, .int .i64 xs.length), (27, .fz 5 (xs.map scA)), (3, .int .i64 (paraSum (xs.take i))), (1, .ptr 0 1 0 0)])
    (fun _ => [.arr 2 [.agg [.str ti, .fz 5 (xs.map scA)]]]) (fun i => i ≤ xs.length) 0 (by simp) ?_ ?_
  · refine Shift.weak ?_
    simp only [wk, go_sem, Nat.reduceAdd, Nat.reduceMul, Nat.reduceSub, Nat.reduceBEq, Nat.reduceLT, Nat.reduceLeDiff, reduceIte, reduceCtorEq, Int.reduceToNat, Int.reduceLE, Int.reduceLT, Int.reduceNe, Int.reduceMul, Int.reduceAdd, Int.reduceSub, Int.reduceDiv, Int.reduceMod, Int.reduceEq, Int.reduceGE, Int.reduceGT, Int.reduceNeg, Int.reduceBEq, Int.reduceBNe, Nat.reduceEqDiff, List.length_map]
    simp [paraSum]
  · intro i g1 J hJ
    by_cases gi : i < xs.length
    · have di : decide ((i : Int) < (xs.length : Int)) = true := by simp; omega
      have hg' : List.getD (List.map scA xs) i .any = .agg [.str xs[i].no, .int .i64 xs[i].place, .str xs[i].set, .int .i64 xs[i].time, .fz 2 (xs[i].paras.map paA)] := by simp [List.getD, gi, scA]
      have hs := paraSum_take xs i gi
      have hle := paraSum_take_le xs (i + 1)
      refine go (N := 112) Tryz.ntmps35 300 ?_
      simp only [go_sem, Nat.reduceAdd, Nat.reduceMul, Nat.reduceSub, Nat.reduceBEq, Nat.reduceLT, Nat.reduceLeDiff, reduceIte, reduceCtorEq, Int.reduceToNat, Int.reduceLE, Int.reduceLT, Int.reduceNe, Int.reduceMul, Int.reduceAdd, Int.reduceSub, Int.reduceDiv, Int.reduceMod, Int.reduceEq, Int.reduceGE, Int.reduceGT, Int.reduceNeg, Int.reduceBEq, Int.reduceBNe, Nat.reduceEqDiff, di, hg', List.length_map]
      repeat refine And.intro (by first | omega | simpa using gi) ?_
      rw [show (paraSum (xs.take i) : Int) + (xs[i].paras.length : Int) = (paraSum (xs.take (i + 1)) : Int) by omega, show (i : Int) + 1 = ((i + 1 : Nat) : Int) by omega]
      refine ainv (hJ (i + 1) (by omega) (by omega)) (Shift.low 1 (by simp) (by simp) ?_ ?_)
      · simp only [List.take_succ_cons, List.take_zero, List.all_cons, List.all_nil, lowB, flat, cellsOf, lowC, Av.frozen, List.append_nil, Bool.and_self]
      · simp only [wkl, lowV, lowC, Av.get, go_sem, Nat.reduceAdd, Nat.reduceMul, Nat.reduceSub, Nat.reduceBEq, Nat.reduceLT, Nat.reduceLeDiff, reduceIte, reduceCtorEq, Int.reduceToNat, Int.reduceLE, Int.reduceLT, Int.reduceNe, Int.reduceMul, Int.reduceAdd, Int.reduceSub, Int.reduceDiv, Int.reduceMod, Int.reduceEq, Int.reduceGE, Int.reduceGT, Int.reduceNeg, Int.reduceBEq, Int.reduceBNe, Nat.reduceEqDiff]
    · have di : decide ((i : Int) < (xs.length : Int)) = false := by simp; omega
      have : i = xs.length := by omega
      subst this
      rw [List.take_length]
      have d3 : decide ((xs.length : Int) > 300) = false := by simp; omega
      have d4 : decide ((paraSum xs : Int) > 4000) = false := by simp; omega
      refine go (N := 112) Tryz.ntmps35 300 ?_
      simp only [go_sem, Nat.reduceAdd, Nat.reduceMul, Nat.reduceSub, Nat.reduceBEq, Nat.reduceLT, Nat.reduceLeDiff, reduceIte, reduceCtorEq, Int.reduceToNat, Int.reduceLE, Int.reduceLT, Int.reduceNe, Int.reduceMul, Int.reduceAdd, Int.reduceSub, Int.reduceDiv, Int.reduceMod, Int.reduceEq, Int.reduceGE, Int.reduceGT, Int.reduceNeg, Int.reduceBEq, Int.reduceBNe, Nat.reduceEqDiff, di, d3, d4, List.length_map]
      refine aloop (ι := Nat × List (List UInt8)) (fun y => xs.length - y.1)
        (fun y => [(51, .int .i64 y.1), (50, .int .i64 xs.length), (49, .fz 5 (xs.map scA)), (6, .mp 1), (1, .ptr 0 1 0 0)])
        (fun y => [.arr 2 [.agg [.str ti, .fz 5 (xs.map scA)]], .mp (seenM y.2)]) (fun y => y.1 ≤ xs.length ∧ okFrom y.2 (decide (y.1 = 0)) (xs.drop y.1)) (0, []) ⟨by simp, t5⟩ ?_ ?_
      · refine Shift.weak ?_
        simp only [wk, go_sem, Nat.reduceAdd, Nat.reduceMul, Nat.reduceSub, Nat.reduceBEq, Nat.reduceLT, Nat.reduceLeDiff, reduceIte, reduceCtorEq, Int.reduceToNat, Int.reduceLE, Int.reduceLT, Int.reduceNe, Int.reduceMul, Int.reduceAdd, Int.reduceSub, Int.reduceDiv, Int.reduceMod, Int.reduceEq, Int.reduceGE, Int.reduceGT, Int.reduceNeg, Int.reduceBEq, Int.reduceBNe, Nat.reduceEqDiff]
      · clear hJ J
        rintro ⟨i, acc⟩ ⟨g1, g2⟩ J hJ
        simp only at g1 g2 hJ ⊢
        by_cases gi : i < xs.length
        · have di : decide ((i : Int) < (xs.length : Int)) = true := by simp; omega
          have hg' : List.getD (List.map scA xs) i .any = .agg [.str xs[i].no, .int .i64 xs[i].place, .str xs[i].set, .int .i64 xs[i].time, .fz 2 (xs[i].paras.map paA)] := by simp [List.getD, gi, scA]
          have hd : xs.drop i = xs[i] :: xs.drop (i + 1) := List.drop_eq_getElem_cons gi
          rw [hd] at g2
          obtain ⟨c1, c2, c3, c4, c5, c6⟩ := g2
          have e1 : decide (xs[i].place < 1) = false := by simp; omega
          have e2 : decide (xs[i].place > 3) = false := by simp; omega
          have e3 : decide (xs[i].time < 1) = false := by simp; omega
          have e4 : decide (xs[i].time > 5) = false := by simp; omega
          have e5 : ((i : Int) == 0) = false ∨ ((i : Int) == 0) = true ∧ (xs[i].time == 5) = false := by
            by_cases h0 : i = 0
            · exact .inr ⟨by simp [h0], by simpa using c4 (by simp [h0])⟩
            · exact .inl (by simp; omega)
          have hsf := sceneFault_pch hS xs[i] c5
          simp only [scA] at hsf
          have nx : decide (i + 1 = 0) = false := by simp
          generalize hsc : xs[i] = sc at *
          have fin : _ := fun h => hJ (i + 1, dd acc sc.no) ⟨by simp only; omega, by simp only; rw [nx]; exact c6⟩ h
          rcases c1 with h0 | ⟨n1, n2, n3⟩
          · have q0 : (sc.no != []) = false := by simp [h0]
            rcases e5 with e5 | ⟨e5, e6⟩
            · rcases @seen_dd sc.no acc with ⟨j, v, m1, m2⟩ | ⟨m1, m2⟩
              · refine go (N := 112) Tryz.ntmps35 300 ?_
                simp only [go_sem, Nat.reduceAdd, Nat.reduceMul, Nat.reduceSub, Nat.reduceBEq, Nat.reduceLT, Nat.reduceLeDiff, reduceIte, reduceCtorEq, Int.reduceToNat, Int.reduceLE, Int.reduceLT, Int.reduceNe, Int.reduceMul, Int.reduceAdd, Int.reduceSub, Int.reduceDiv, Int.reduceMod, Int.reduceEq, Int.reduceGE, Int.reduceGT, Int.reduceNeg, Int.reduceBEq, Int.reduceBNe, Nat.reduceEqDiff, di, hg', q0, e1, e2, e3, e4, e5, m1, m2]
                repeat refine And.intro (by first | omega | simpa using gi) ?_
                refine pcallH1 hg (hsf) rfl (N := 112) Tryz.ntmps35 rfl (go (N := 112) Tryz.ntmps35 300 ?_)
                simp only [go_sem, Nat.reduceAdd, Nat.reduceMul, Nat.reduceSub, Nat.reduceBEq, Nat.reduceLT, Nat.reduceLeDiff, reduceIte, reduceCtorEq, Int.reduceToNat, Int.reduceLE, Int.reduceLT, Int.reduceNe, Int.reduceMul, Int.reduceAdd, Int.reduceSub, Int.reduceDiv, Int.reduceMod, Int.reduceEq, Int.reduceGE, Int.reduceGT, Int.reduceNeg, Int.reduceBEq, Int.reduceBNe, Nat.reduceEqDiff]
                refine ⟨by omega, by omega, ?_⟩
                rw [show (i : Int) + 1 = ((i + 1 : Nat) : Int) by omega]
                refine ainv (fin (by simp only; omega)) (Shift.low 2 (by simp) (by simp) ?_ ?_)
                · simp only [List.take_succ_cons, List.take_zero, List.all_cons, List.all_nil, lowB, flat, cellsOf, lowC, Av.frozen, List.append_nil, Bool.and_self, ↓low_seen]
                · simp only [wkl, lowV, lowC, Av.get, go_sem, Nat.reduceAdd, Nat.reduceMul, Nat.reduceSub, Nat.reduceBEq, Nat.reduceLT, Nat.reduceLeDiff, reduceIte, reduceCtorEq, Int.reduceToNat, Int.reduceLE, Int.reduceLT, Int.reduceNe, Int.reduceMul, Int.reduceAdd, Int.reduceSub, Int.reduceDiv, Int.reduceMod, Int.reduceEq, Int.reduceGE, Int.reduceGT, Int.reduceNeg, Int.reduceBEq, Int.reduceBNe, Nat.reduceEqDiff]
              · refine go (N := 112) Tryz.ntmps35 300 ?_
                simp only [go_sem, Nat.reduceAdd, Nat.reduceMul, Nat.reduceSub, Nat.reduceBEq, Nat.reduceLT, Nat.reduceLeDiff, reduceIte, reduceCtorEq, Int.reduceToNat, Int.reduceLE, Int.reduceLT, Int.reduceNe, Int.reduceMul, Int.reduceAdd, Int.reduceSub, Int.reduceDiv, Int.reduceMod, Int.reduceEq, Int.reduceGE, Int.reduceGT, Int.reduceNeg, Int.reduceBEq, Int.reduceBNe, Nat.reduceEqDiff, di, hg', q0, e1, e2, e3, e4, e5, m1, m2]
                repeat refine And.intro (by first | omega | simpa using gi) ?_
                refine pcallH1 hg (hsf) rfl (N := 112) Tryz.ntmps35 rfl (go (N := 112) Tryz.ntmps35 300 ?_)
                simp only [go_sem, Nat.reduceAdd, Nat.reduceMul, Nat.reduceSub, Nat.reduceBEq, Nat.reduceLT, Nat.reduceLeDiff, reduceIte, reduceCtorEq, Int.reduceToNat, Int.reduceLE, Int.reduceLT, Int.reduceNe, Int.reduceMul, Int.reduceAdd, Int.reduceSub, Int.reduceDiv, Int.reduceMod, Int.reduceEq, Int.reduceGE, Int.reduceGT, Int.reduceNeg, Int.reduceBEq, Int.reduceBNe, Nat.reduceEqDiff]
                refine ⟨by omega, by omega, ?_⟩
                rw [show (i : Int) + 1 = ((i + 1 : Nat) : Int) by omega]
                refine ainv (fin (by simp only; omega)) (Shift.low 2 (by simp) (by simp) ?_ ?_)
                · simp only [List.take_succ_cons, List.take_zero, List.all_cons, List.all_nil, lowB, flat, cellsOf, lowC, Av.frozen, List.append_nil, Bool.and_self, ↓low_seen]
                · simp only [wkl, lowV, lowC, Av.get, go_sem, Nat.reduceAdd, Nat.reduceMul, Nat.reduceSub, Nat.reduceBEq, Nat.reduceLT, Nat.reduceLeDiff, reduceIte, reduceCtorEq, Int.reduceToNat, Int.reduceLE, Int.reduceLT, Int.reduceNe, Int.reduceMul, Int.reduceAdd, Int.reduceSub, Int.reduceDiv, Int.reduceMod, Int.reduceEq, Int.reduceGE, Int.reduceGT, Int.reduceNeg, Int.reduceBEq, Int.reduceBNe, Nat.reduceEqDiff]
            · rcases @seen_dd sc.no acc with ⟨j, v, m1, m2⟩ | ⟨m1, m2⟩
              · refine go (N := 112) Tryz.ntmps35 300 ?_
                simp only [go_sem, Nat.reduceAdd, Nat.reduceMul, Nat.reduceSub, Nat.reduceBEq, Nat.reduceLT, Nat.reduceLeDiff, reduceIte, reduceCtorEq, Int.reduceToNat, Int.reduceLE, Int.reduceLT, Int.reduceNe, Int.reduceMul, Int.reduceAdd, Int.reduceSub, Int.reduceDiv, Int.reduceMod, Int.reduceEq, Int.reduceGE, Int.reduceGT, Int.reduceNeg, Int.reduceBEq, Int.reduceBNe, Nat.reduceEqDiff, di, hg', q0, e1, e2, e3, e4, e5, e6, m1, m2]
                repeat refine And.intro (by first | omega | simpa using gi) ?_
                refine pcallH1 hg (hsf) rfl (N := 112) Tryz.ntmps35 rfl (go (N := 112) Tryz.ntmps35 300 ?_)
                simp only [go_sem, Nat.reduceAdd, Nat.reduceMul, Nat.reduceSub, Nat.reduceBEq, Nat.reduceLT, Nat.reduceLeDiff, reduceIte, reduceCtorEq, Int.reduceToNat, Int.reduceLE, Int.reduceLT, Int.reduceNe, Int.reduceMul, Int.reduceAdd, Int.reduceSub, Int.reduceDiv, Int.reduceMod, Int.reduceEq, Int.reduceGE, Int.reduceGT, Int.reduceNeg, Int.reduceBEq, Int.reduceBNe, Nat.reduceEqDiff]
                refine ⟨by omega, by omega, ?_⟩
                rw [show (i : Int) + 1 = ((i + 1 : Nat) : Int) by omega]
                refine ainv (fin (by simp only; omega)) (Shift.low 2 (by simp) (by simp) ?_ ?_)
                · simp only [List.take_succ_cons, List.take_zero, List.all_cons, List.all_nil, lowB, flat, cellsOf, lowC, Av.frozen, List.append_nil, Bool.and_self, ↓low_seen]
                · simp only [wkl, lowV, lowC, Av.get, go_sem, Nat.reduceAdd, Nat.reduceMul, Nat.reduceSub, Nat.reduceBEq, Nat.reduceLT, Nat.reduceLeDiff, reduceIte, reduceCtorEq, Int.reduceToNat, Int.reduceLE, Int.reduceLT, Int.reduceNe, Int.reduceMul, Int.reduceAdd, Int.reduceSub, Int.reduceDiv, Int.reduceMod, Int.reduceEq, Int.reduceGE, Int.reduceGT, Int.reduceNeg, Int.reduceBEq, Int.reduceBNe, Nat.reduceEqDiff]
              · refine go (N := 112) Tryz.ntmps35 300 ?_
                simp only [go_sem, Nat.reduceAdd, Nat.reduceMul, Nat.reduceSub, Nat.reduceBEq, Nat.reduceLT, Nat.reduceLeDiff, reduceIte, reduceCtorEq, Int.reduceToNat, Int.reduceLE, Int.reduceLT, Int.reduceNe, Int.reduceMul, Int.reduceAdd, Int.reduceSub, Int.reduceDiv, Int.reduceMod, Int.reduceEq, Int.reduceGE, Int.reduceGT, Int.reduceNeg, Int.reduceBEq, Int.reduceBNe, Nat.reduceEqDiff, di, hg', q0, e1, e2, e3, e4, e5, e6, m1, m2]
                repeat refine And.intro (by first | omega | simpa using gi) ?_
                refine pcallH1 hg (hsf) rfl (N := 112) Tryz.ntmps35 rfl (go (N := 112) Tryz.ntmps35 300 ?_)
                simp only [go_sem, Nat.reduceAdd, Nat.reduceMul, Nat.reduceSub, Nat.reduceBEq, Nat.reduceLT, Nat.reduceLeDiff, reduceIte, reduceCtorEq, Int.reduceToNat, Int.reduceLE, Int.reduceLT, Int.reduceNe, Int.reduceMul, Int.reduceAdd, Int.reduceSub, Int.reduceDiv, Int.reduceMod, Int.reduceEq, Int.reduceGE, Int.reduceGT, Int.reduceNeg, Int.reduceBEq, Int.reduceBNe, Nat.reduceEqDiff]
                refine ⟨by omega, by omega, ?_⟩
                rw [show (i : Int) + 1 = ((i + 1 : Nat) : Int) by omega]
                refine ainv (fin (by simp only; omega)) (Shift.low 2 (by simp) (by simp) ?_ ?_)
                · simp only [List.take_succ_cons, List.take_zero, List.all_cons, List.all_nil, lowB, flat, cellsOf, lowC, Av.frozen, List.append_nil, Bool.and_self, ↓low_seen]
                · simp only [wkl, lowV, lowC, Av.get, go_sem, Nat.reduceAdd, Nat.reduceMul, Nat.reduceSub, Nat.reduceBEq, Nat.reduceLT, Nat.reduceLeDiff, reduceIte, reduceCtorEq, Int.reduceToNat, Int.reduceLE, Int.reduceLT, Int.reduceNe, Int.reduceMul, Int.reduceAdd, Int.reduceSub, Int.reduceDiv, Int.reduceMod, Int.reduceEq, Int.reduceGE, Int.reduceGT, Int.reduceNeg, Int.reduceBEq, Int.reduceBNe, Nat.reduceEqDiff]
          · by_cases h0 : sc.no = []
            · rw [h0] at n1
              exact absurd n1 (by decide)
            have q0 : (sc.no != []) = true := by simp [h0]
            have m1 := @mfind_out sc.no acc 0 n3
            have m2 : seenM acc ++ [(.str sc.no, .bool true)] = seenM (dd acc sc.no) := by simp [dd, n3, seenM]
            rcases e5 with e5 | ⟨e5, e6⟩
            · refine go (N := 112) Tryz.ntmps35 300 ?_
              simp only [go_sem, Nat.reduceAdd, Nat.reduceMul, Nat.reduceSub, Nat.reduceBEq, Nat.reduceLT, Nat.reduceLeDiff, reduceIte, reduceCtorEq, Int.reduceToNat, Int.reduceLE, Int.reduceLT, Int.reduceNe, Int.reduceMul, Int.reduceAdd, Int.reduceSub, Int.reduceDiv, Int.reduceMod, Int.reduceEq, Int.reduceGE, Int.reduceGT, Int.reduceNeg, Int.reduceBEq, Int.reduceBNe, Nat.reduceEqDiff, di, hg', q0, e1, e2, e3, e4, e5, m1, m2]
              repeat refine And.intro (by first | omega | simpa using gi) ?_
              refine pcall1 (isNumber_pc' sc.no n2) rfl (N := 112) Tryz.ntmps35 rfl (go (N := 112) Tryz.ntmps35 300 ?_)
              rw [n1]
              simp only [go_sem, Nat.reduceAdd, Nat.reduceMul, Nat.reduceSub, Nat.reduceBEq, Nat.reduceLT, Nat.reduceLeDiff, reduceIte, reduceCtorEq, Int.reduceToNat, Int.reduceLE, Int.reduceLT, Int.reduceNe, Int.reduceMul, Int.reduceAdd, Int.reduceSub, Int.reduceDiv, Int.reduceMod, Int.reduceEq, Int.reduceGE, Int.reduceGT, Int.reduceNeg, Int.reduceBEq, Int.reduceBNe, Nat.reduceEqDiff, di, hg', q0, e1, e2, e3, e4, e5, m1, m2]
              repeat refine And.intro (by first | omega | simpa using gi) ?_
              refine pcallH1 hg (hsf) rfl (N := 112) Tryz.ntmps35 rfl (go (N := 112) Tryz.ntmps35 300 ?_)
              simp only [go_sem, Nat.reduceAdd, Nat.reduceMul, Nat.reduceSub, Nat.reduceBEq, Nat.reduceLT, Nat.reduceLeDiff, reduceIte, reduceCtorEq, Int.reduceToNat, Int.reduceLE, Int.reduceLT, Int.reduceNe, Int.reduceMul, Int.reduceAdd, Int.reduceSub, Int.reduceDiv, Int.reduceMod, Int.reduceEq, Int.reduceGE, Int.reduceGT, Int.reduceNeg, Int.reduceBEq, Int.reduceBNe, Nat.reduceEqDiff]
              refine ⟨by omega, by omega, ?_⟩
              rw [show (i : Int) + 1 = ((i + 1 : Nat) : Int) by omega]
              refine ainv (fin (by simp only; omega)) (Shift.low 2 (by simp) (by simp) ?_ ?_)
              · simp only [List.take_succ_cons, List.take_zero, List.all_cons, List.all_nil, lowB, flat, cellsOf, lowC, Av.frozen, List.append_nil, Bool.and_self, ↓low_seen]
              · simp only [wkl, lowV, lowC, Av.get, go_sem, Nat.reduceAdd, Nat.reduceMul, Nat.reduceSub, Nat.reduceBEq, Nat.reduceLT, Nat.reduceLeDiff, reduceIte, reduceCtorEq, Int.reduceToNat, Int.reduceLE, Int.reduceLT, Int.reduceNe, Int.reduceMul, Int.reduceAdd, Int.reduceSub, Int.reduceDiv, Int.reduceMod, Int.reduceEq, Int.reduceGE, Int.reduceGT, Int.reduceNeg, Int.reduceBEq, Int.reduceBNe, Nat.reduceEqDiff]
            · refine go (N := 112) Tryz.ntmps35 300 ?_
              simp only [go_sem, Nat.reduceAdd, Nat.reduceMul, Nat.reduceSub, Nat.reduceBEq, Nat.reduceLT, Nat.reduceLeDiff, reduceIte, reduceCtorEq, Int.reduceToNat, Int.reduceLE, Int.reduceLT, Int.reduceNe, Int.reduceMul, Int.reduceAdd, Int.reduceSub, Int.reduceDiv, Int.reduceMod, Int.reduceEq, Int.reduceGE, Int.reduceGT, Int.reduceNeg, Int.reduceBEq, Int.reduceBNe, Nat.reduceEqDiff, di, hg', q0, e1, e2, e3, e4, e5, e6, m1, m2]
              repeat refine And.intro (by first | omega | simpa using gi) ?_
              refine pcall1 (isNumber_pc' sc.no n2) rfl (N := 112) Tryz.ntmps35 rfl (go (N := 112) Tryz.ntmps35 300 ?_)
              rw [n1]
              simp only [go_sem, Nat.reduceAdd, Nat.reduceMul, Nat.reduceSub, Nat.reduceBEq, Nat.reduceLT, Nat.reduceLeDiff, reduceIte, reduceCtorEq, Int.reduceToNat, Int.reduceLE, Int.reduceLT, Int.reduceNe, Int.reduceMul, Int.reduceAdd, Int.reduceSub, Int.reduceDiv, Int.reduceMod, Int.reduceEq, Int.reduceGE, Int.reduceGT, Int.reduceNeg, Int.reduceBEq, Int.reduceBNe, Nat.reduceEqDiff, di, hg', q0, e1, e2, e3, e4, e5, e6, m1, m2]
              repeat refine And.intro (by first | omega | simpa using gi) ?_
              refine pcallH1 hg (hsf) rfl (N := 112) Tryz.ntmps35 rfl (go (N := 112) Tryz.ntmps35 300 ?_)
              simp only [go_sem, Nat.reduceAdd, Nat.reduceMul, Nat.reduceSub, Nat.reduceBEq, Nat.reduceLT, Nat.reduceLeDiff, reduceIte, reduceCtorEq, Int.reduceToNat, Int.reduceLE, Int.reduceLT, Int.reduceNe, Int.reduceMul, Int.reduceAdd, Int.reduceSub, Int.reduceDiv, Int.reduceMod, Int.reduceEq, Int.reduceGE, Int.reduceGT, Int.reduceNeg, Int.reduceBEq, Int.reduceBNe, Nat.reduceEqDiff]
              refine ⟨by omega, by omega, ?_⟩
              rw [show (i : Int) + 1 = ((i + 1 : Nat) : Int) by omega]
              refine ainv (fin (by simp only; omega)) (Shift.low 2 (by simp) (by simp) ?_ ?_)
              · simp only [List.take_succ_cons, List.take_zero, List.all_cons, List.all_nil, lowB, flat, cellsOf, lowC, Av.frozen, List.append_nil, Bool.and_self, ↓low_seen]
              · simp only [wkl, lowV, lowC, Av.get, go_sem, Nat.reduceAdd, Nat.reduceMul, Nat.reduceSub, Nat.reduceBEq, Nat.reduceLT, Nat.reduceLeDiff, reduceIte, reduceCtorEq, Int.reduceToNat, Int.reduceLE, Int.reduceLT, Int.reduceNe, Int.reduceMul, Int.reduceAdd, Int.reduceSub, Int.reduceDiv, Int.reduceMod, Int.reduceEq, Int.reduceGE, Int.reduceGT, Int.reduceNeg, Int.reduceBEq, Int.reduceBNe, Nat.reduceEqDiff]
        · have di : decide ((i : Int) < (xs.length : Int)) = false := by simp; omega
          refine go (N := 112) Tryz.ntmps35 300 ?_
          simp only [go_sem, Nat.reduceAdd, Nat.reduceMul, Nat.reduceSub, Nat.reduceBEq, Nat.reduceLT, Nat.reduceLeDiff, reduceIte, reduceCtorEq, Int.reduceToNat, Int.reduceLE, Int.reduceLT, Int.reduceNe, Int.reduceMul, Int.reduceAdd, Int.reduceSub, Int.reduceDiv, Int.reduceMod, Int.reduceEq, Int.reduceGE, Int.reduceGT, Int.reduceNeg, Int.reduceBEq, Int.reduceBNe, Nat.reduceEqDiff, di]
          exact aret [2] rfl ⟨rfl, rfl⟩
end Go.Proofs.YtpjbbpilgfihbaaGreatDoor
