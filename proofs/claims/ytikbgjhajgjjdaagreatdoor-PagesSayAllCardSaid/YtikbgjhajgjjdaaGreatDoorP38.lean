/- The lines of a scene; eighths. Own work of this seat. -/
import Derived.Test.YtikbgjhajgjjdaaGreatDoorP37
set_option maxRecDepth 100000
set_option linter.unusedSimpArgs false
set_option linter.unusedVariables false
namespace Go.Proofs.YtikbgjhajgjjdaaGreatDoor
open Go Go.Av Go.RowKit
attribute [local go_sem ↓] br_true br_false dbr_true dbr_false dbri_true dbri_false dbrg_true dbrg_false
attribute [local go_sem] run cont br dbr dx dxc dgrd dyld dres dcall calm fieldPlace? allHas step1 opN grdN resN condN exitN stopN exitIt dOk xop xbin xint xarith xstr xbool xpick xnot xneg xextract xpart xpartOk xindex xfieldF fieldD xnew xbox xalloc xfieldAddr xptrAddIf xindexAddr xloadC xload putCells reElem xstoreB xstore xconv xtext xlen xlen2 xcall xfill xbuild cut rep xbuildSlice xbuildSliceD isRow elemD isU8 ev evs evp Go.Av.put Go.Av.get ofConst yldD yldV notBool_undef args0 cellsOf cond_true cond_false decide_true decide_false decide_eq_true_eq decide_eq_false_iff_not List.getElem?_cons_zero List.getElem?_cons_succ List.getElem?_nil List.getD_cons_zero List.getD_cons_succ List.getD_nil List.set_cons_zero List.set_cons_succ List.length_cons List.length_nil List.cons_append List.nil_append List.append_nil List.all_cons List.all_nil List.map_cons List.map_nil List.take_succ_cons List.take_zero List.drop_succ_cons List.drop_zero Bool.and_true Bool.true_and Bool.and_self Bool.and_false Bool.false_and one Go.Av.frozen beq_self_eq_true true_and and_true forall_const false_implies implies_true and_self Option.map_some Option.map_none Nat.zero_add Nat.add_zero Nat.zero_mul Nat.mul_one Nat.one_mul Int.toNat_zero ne_eq not_false_eq_true not_true_eq_false Bool.true_eq_false Bool.false_eq_true List.toList_toArray inr Go.Av.byteOf isByte decide_eq_decide Bool.not_true Bool.not_false Bool.not_eq_true' Bool.or_true Bool.true_or Bool.or_false Bool.false_or ge_iff_le gt_iff_lt and_assoc Bool.decide_eq_true beq_iff_eq beq_eq_false_iff_ne bne_iff_ne bne_self_eq_false if_true if_false Bool.and_eq_true Bool.or_eq_true Bool.and_eq_false_imp Bool.or_eq_false_iff Bool.not_eq_false' has Option.isSome_some Option.isSome_none Int.toNat_natCast Int.cast_ofNat_Int List.length_append xapp2 xapp xappS xappD xappB notInt srcOf srcB byteAV splice' xcut xcutS xcutF xcutB xcutN xcut0 cutL loOf hiOf evo xmake zelem xmax xcopy2 xcopyS xcopyB xnil xcut3 ixOf xclear2 xclearB List.getElem?_toArray xbin2 xnileq xempty xmkmap xmput xmputB xmputF isKey keyEq mfind xbin3 xeqs xeqop eqFs bothB leafEq xlook xlookB xlookF xbytes beq_c_n beq_n_c bne_c_n bne_n_c one_nil dxi dxic dbri rix dck reader blind opOk refOk Go.Op.operands Go.Call.operands List.contains_cons List.contains_nil dxg dxgc dbrg pck putD List.lookup_cons List.lookup_nil ts2 tb2 zl2 za2 Tryz.underlying2 ts3 tb3 zl3 za3 Tryz.underlying3 ts4 tb4 zl4 za4 Tryz.underlying4 ts5 tb5 zl5 za5 Tryz.underlying5 ts6 tb6 zl6 za6 Tryz.underlying6 ts7 tb7 za7 Tryz.underlying7 ts8 tb8 za8 Tryz.underlying8 ts9 tb9 zl9 za9 Tryz.underlying9 ts10 tb10 zl10 za10 Tryz.underlying10 ts11 tb11 zl11 za11 Tryz.underlying11 ts12 tb12 zl12 za12 Tryz.underlying12 ts13 tb13 za13 Tryz.underlying13 ts14 tb14 za14 Tryz.underlying14 ts18 tb18 za18 Tryz.underlying18 ts19 tb19 za19 Tryz.underlying19 ts21 tb21 zl21 za21 Tryz.underlying21 ts22 tb22 zl22 za22 Tryz.underlying22 ts24 tb24 za24 Tryz.underlying24 ts25 tb25 za25 Tryz.underlying25 ts26 tb26 zl26 za26 Tryz.underlying26 ts27 tb27 za27 Tryz.underlying27 ts28 tb28 za28 Tryz.underlying28 ts30 tb30 zl30 za30 Tryz.underlying30 ts31 tb31 zl31 za31 Tryz.underlying31 ts34 tb34 zl34 za34 Tryz.underlying34 ts35 tb35 zl35 za35 Tryz.underlying35 ts36 tb36 za36 Tryz.underlying36 ts37 tb37 za37 Tryz.underlying37 ts46 tb46 za46 Tryz.underlying46 ts47 tb47 za47 Tryz.underlying47 ts61 tb61 zl61 za61 Tryz.underlying61 ts62 tb62 za62 Tryz.underlying62 ts63 tb63 za63 Tryz.underlying63 ts66 tb66 zl66 za66 Tryz.underlying66 ts68 tb68 zl68 za68 Tryz.underlying68 ts74 tb74 za74 Tryz.underlying74 ts75 tb75 za75 Tryz.underlying75 ts77 tb77 zl77 za77 Tryz.underlying77 ts81 tb81 zl81 za81 Tryz.underlying81 ts82 tb82 za82 Tryz.underlying82 ts83 tb83 za83 Tryz.underlying83 ts86 tb86 zl86 za86 Tryz.underlying86 ts102 tb102 za102 Tryz.underlying102 ts103 tb103 za103 Tryz.underlying103 ts106 tb106 za106 Tryz.underlying106 ts107 tb107 za107 Tryz.underlying107 ts114 tb114 zl114 za114 Tryz.underlying114 ts117 tb117 zl117 za117 Tryz.underlying117 ts120 tb120 zl120 za120 Tryz.underlying120 ts133 tb133 zl133 za133 Tryz.underlying133 ts144 tb144 zl144 za144 Tryz.underlying144 ts151 tb151 zl151 za151 Tryz.underlying151 ts156 tb156 zl156 za156 Tryz.underlying156 ts160 tb160 Tryz.underlying160 ts169 tb169 za169 Tryz.underlying169 ts170 tb170 za170 Tryz.underlying170 ts175 tb175 Tryz.underlying175 ts180 tb180 za180 Tryz.underlying180 ts181 tb181 za181 Tryz.underlying181 ts185 tb185 za185 Tryz.underlying185 ts186 tb186 za186 Tryz.underlying186 ts187 tb187 Tryz.underlying187 ts189 tb189 Tryz.underlying189 ts190 tb190 Tryz.underlying190 ts191 tb191 za191 Tryz.underlying191 ts192 tb192 za192 Tryz.underlying192 ts196 tb196 zl196 za196 Tryz.underlying196 ts197 tb197 zl197 za197 Tryz.underlying197 ts199 tb199 zl199 za199 Tryz.underlying199 ts200 tb200 zl200 za200 Tryz.underlying200 ts201 tb201 za201 Tryz.underlying201 ts202 tb202 za202 Tryz.underlying202

theorem bfold_bound : ∀ (ps : List Pa) (s : List Bl × Bl) (B : Nat), (∀ b ∈ s.1 ++ [s.2], b.lines.length ≤ B + 3000) → (∀ p ∈ ps, p.text.length ≤ 2000) →
    (∀ b ∈ (ps.foldl bstep s).1 ++ [(ps.foldl bstep s).2], b.lines.length ≤ B + 3000 + 2100 * ps.length) ∧ ((ps.foldl bstep s).1).length ≤ s.1.length + ps.length
  | [], s, B, h, _ => by simpa using h
  | p :: r, s, B, h, hp => by
    have hpl := hp p (by simp)
    have hstep : (∀ b ∈ (bstep s p).1 ++ [(bstep s p).2], b.lines.length ≤ (B + 2100) + 3000) ∧ (bstep s p).1.length ≤ s.1.length + 1 := by
      unfold bstep
      split
      · refine ⟨fun b hb => ?_, by simp⟩
        rcases List.mem_append.1 hb with hb | hb
        · have := h b (by simp at hb ⊢; exact .inl hb); omega
        · rw [List.mem_singleton.1 hb]
          have := (moreB_len s.2 p).1
          have := h s.2 (by simp)
          simp only; omega
      · refine ⟨fun b hb => ?_, by simp⟩
        rcases List.mem_append.1 hb with hb | hb
        · have := h b hb; omega
        · rw [List.mem_singleton.1 hb]
          have := (newB_len p).1
          simp only; omega
    obtain ⟨h1, h2⟩ := bfold_bound r (bstep s p) (B + 2100) hstep.1 (fun q hq => hp q (by simp [hq]))
    rw [List.foldl_cons]
    refine ⟨fun b hb => ?_, ?_⟩
    · have := h1 b hb
      simp only [List.length_cons]; omega
    · have := hstep.2
      simp only [List.length_cons]; omega
theorem blocks_bound {x : Sc} (hp : ∀ p ∈ x.paras, p.text.length ≤ 2000) (hh : (headL x).length < 2000000) (hl : x.paras.length ≤ 4000) : (∀ b ∈ blocksL x, b.lines.length ≤ 11000000) ∧ (blocksL x).length ≤ 4001 := by
  have := bfold_bound x.paras ([], ⟨0, wrapL 60 (headL x), [], []⟩) 2000000 (by
    intro b hb
    simp at hb
    subst hb
    have := (wrapL_le 60 (headL x)).1
    simp only; omega) hp
  refine ⟨fun b hb => ?_, ?_⟩
  · have := this.1 b hb; omega
  · have := this.2
    simp only [blocksL, blocksS, List.length_append, List.length_cons, List.length_nil] at this ⊢
    omega

def gapN (b : Bl) : Nat := if b.kind == 0 then 2 else 1
def blockLines (b : Bl) : List (List UInt8) := List.replicate (gapN b) [] ++ b.lines
def linesL (x : Sc) : List (List UInt8) := ((blocksL x).map blockLines).flatten
def linesTo (bs : List Bl) (i : Nat) : List (List UInt8) := ((bs.take i).map blockLines).flatten
theorem linesTo_step {bs : List Bl} {i : Nat} (h : i < bs.length) : linesTo bs (i + 1) = linesTo bs i ++ List.replicate (gapN bs[i]) [] ++ bs[i].lines := by
  simp only [linesTo, List.take_succ_eq_append_getElem h, List.map_append, List.flatten_append, List.map_cons, List.map_nil, List.flatten_cons, List.flatten_nil, List.append_nil, blockLines, List.append_assoc]
/-- what is asked of a scene whose lines are laid -/
structure LineOk (x : Sc) : Prop where
  sc : SceneOk x
  place : 1 ≤ x.place ∧ x.place ≤ 3
  time : 1 ≤ x.time ∧ x.time ≤ 5
  no : x.no.length < 1000000
  few : x.paras.length ≤ 4000
theorem set_len {x : Sc} (h : SceneOk x) : x.set.length < 10000 := by
  have := h.set
  simp only [isSetL, properL, Bool.and_eq_true, Bool.not_eq_true', decide_eq_false_iff_not] at this
  have := this.1.2.1
  omega
theorem LineOk.head {x : Sc} (h : LineOk x) : (headL x).length < 2000000 := by
  have l1 := placeI_len x.place
  have l2 := timeI_len x.time
  have l3 := set_len h.sc
  have l4 := h.no
  unfold headL headLine
  split <;> simp <;> omega
theorem LineOk.bound {x : Sc} (h : LineOk x) : (∀ b ∈ blocksL x, b.lines.length ≤ 11000000) ∧ (blocksL x).length ≤ 4001 := by
  obtain ⟨e, hr, _, _⟩ := h.sc.run
  exact blocks_bound (fun p hp => para_len (run_all _ _ _ hr p hp)) h.head h.few
theorem linesTo_len {bs : List Bl} (h : ∀ b ∈ bs, b.lines.length ≤ 11000000) : ∀ i, i ≤ bs.length → (linesTo bs i).length ≤ 11000002 * i
  | 0, _ => by simp [linesTo]
  | i + 1, hi => by
    have hl : i < bs.length := by omega
    have ih := linesTo_len h i (by omega)
    have hb := h bs[i] (List.getElem_mem hl)
    have hg : gapN bs[i] ≤ 2 := by unfold gapN; split <;> omega
    rw [linesTo_step hl]
    simp only [List.length_append, List.length_replicate]
    omega
theorem linesL_to (x : Sc) : linesL x = linesTo (blocksL x) (blocksL x).length := by simp [linesL, linesTo]
theorem LineOk.lines {x : Sc} (h : LineOk x) : (linesL x).length ≤ 44100000000 := by
  rw [linesL_to]
  have := linesTo_len h.bound.1 _ (Nat.le_refl _)
  have := h.bound.2
  omega

set_option maxHeartbeats 4000000 in
theorem lines_pch {St : Std} (hS : LibOk St) (x : Sc) (hx : LineOk x) : PcH Tryz.prog St 30 [scA x] (· = .fz 1 ((linesL x).map .str)) := by
  have hb := blocks_pch hS x hx.sc hx.place hx.time hx.no (set_len hx.sc) hx.few
  have hbd := hx.bound
  rw [linesL_to]
  generalize blocksL x = bs at *
  simp only [scA] at hb ⊢
  refine pch_intro (cth_intro Tryz.func30 rfl Tryz.ntmps30 hB30 (by simp) fun h ρ w hg => goF (N := 27) Tryz.ntmps30 300 ?_)
  simp only [go_sem, Nat.reduceAdd, Nat.reduceMul, Nat.reduceBEq, Nat.reduceLT, Nat.reduceLeDiff, reduceIte, reduceCtorEq, Int.reduceToNat, Int.reduceLT, Int.reduceGT, Int.reduceNeg, Int.reduceBEq, Int.reduceBNe]
  refine pcallH1 hg (hb) rfl (N := 27) Tryz.ntmps30 rfl (goF (N := 27) Tryz.ntmps30 300 ?_)
  simp only [go_sem, Nat.reduceAdd, Nat.reduceMul, Nat.reduceBEq, Nat.reduceLT, Nat.reduceLeDiff, reduceIte, reduceCtorEq, Int.reduceToNat, Int.reduceLT, Int.reduceGT, Int.reduceNeg, Int.reduceBEq, Int.reduceBNe, List.length_map]
  refine aloop (ι := Nat) (fun i => bs.length - i)
    (fun i => [(9, .int .i64 i), (8, .int .i64 bs.length), (7, .fz 4 (bs.map blA)), (3, .sl 1 0 (linesTo bs i).length (linesTo bs i).length)])
    (fun i => [.arr 5 [scA x], .arr 1 ((linesTo bs i).map .str)]) (fun i => i ≤ bs.length) 0 (by simp) ?_ ?_
  · refine Shift.trans (Shift.nilsl 3 1 rfl) (Shift.weakS ?_ rfl)
    simp only [wk, go_sem, Nat.reduceAdd, Nat.reduceMul, Nat.reduceBEq, Nat.reduceLT, Nat.reduceLeDiff, reduceIte, reduceCtorEq, Int.reduceToNat, Int.reduceLT, Int.reduceGT, Int.reduceNeg, Int.reduceBEq, Int.reduceBNe, linesTo]
    first | done | simp
  · intro i g1 J hJ
    have hll := linesTo_len hbd.1 i g1
    by_cases gi : i < bs.length
    · have di : decide ((i : Int) < (bs.length : Int)) = true := by simp; omega
      have hg' : List.getD (List.map blA bs) i .any = .agg [.int .i64 bs[i].kind, .fz 1 (bs[i].lines.map .str), .fz 1 (bs[i].kinds.map (.int .i64)), .str bs[i].name] := by simp [List.getD, gi, blA]
      have hgap := gap_pc bs[i]
      have hst := linesTo_step gi
      have hbl := hbd.1 bs[i] (List.getElem_mem gi)
      have hgn : (if bs[i].kind == 0 then (2 : Int) else 1) = (gapN bs[i] : Nat) := by unfold gapN; split <;> rfl
      have hg2 : gapN bs[i] ≤ 2 := by unfold gapN; split <;> omega
      rw [hgn] at hgap
      have hJ' := hJ (i + 1) (by omega) (by omega)
      simp only [blA] at hgap
      refine goF (N := 27) Tryz.ntmps30 300 ?_
      simp only [go_sem, Nat.reduceAdd, Nat.reduceMul, Nat.reduceBEq, Nat.reduceLT, Nat.reduceLeDiff, reduceIte, reduceCtorEq, Int.reduceToNat, Int.reduceLT, Int.reduceGT, Int.reduceNeg, Int.reduceBEq, Int.reduceBNe, di, hg', List.length_map]
      repeat refine And.intro (by first | omega | exact .inl trivial | rfl | (simp; done) | (simp; omega)) ?_
      refine pcall1 (hgap) rfl (N := 27) Tryz.ntmps30 rfl (goF (N := 27) Tryz.ntmps30 300 ?_)
      simp only [go_sem, Nat.reduceAdd, Nat.reduceMul, Nat.reduceBEq, Nat.reduceLT, Nat.reduceLeDiff, reduceIte, reduceCtorEq, Int.reduceToNat, Int.reduceLT, Int.reduceGT, Int.reduceNeg, Int.reduceBEq, Int.reduceBNe]
      generalize hL : linesTo bs i = L at *
      generalize bs[i] = b at *
      refine aloop (ι := Nat) (fun k => gapN b - k)
        (fun k => [(15, .int .i64 k), (14, .int .i64 (gapN b : Nat)), (9, .int .i64 i), (8, .int .i64 bs.length), (7, .fz 4 (bs.map blA)), (5, .ptr 2 1 0 0), (3, .sl 1 0 (L.length + k) (L.length + k))])
        (fun k => [.arr 5 [scA x], .arr 1 ((L ++ List.replicate k []).map .str), .arr 4 [blA b]]) (fun k => k ≤ gapN b) 0 (by simp) ?_ ?_
      · refine Shift.weakS ?_ ?_
        · simp only [wk, go_sem, Nat.reduceAdd, Nat.reduceMul, Nat.reduceBEq, Nat.reduceLT, Nat.reduceLeDiff, reduceIte, reduceCtorEq, Int.reduceToNat, Int.reduceLT, Int.reduceGT, Int.reduceNeg, Int.reduceBEq, Int.reduceBNe]
        · simp [scA, blA]
      · intro k f1 J2 hJ2
        by_cases gk : k < gapN b
        · have dk : decide ((k : Int) < ((gapN b : Nat) : Int)) = true := by simp; omega
          have hlm : (List.map AV.str (L ++ List.replicate k [])).length = L.length + k := by simp
          have e1 : List.map AV.str (L ++ List.replicate k []) ++ [.str []] = List.map AV.str (L ++ List.replicate (k + 1) []) := by rw [List.replicate_succ']; simp
          refine goF (N := 27) Tryz.ntmps30 300 ?_
          simp only [go_sem, Nat.reduceAdd, Nat.reduceMul, Nat.reduceBEq, Nat.reduceLT, Nat.reduceLeDiff, reduceIte, reduceCtorEq, Int.reduceToNat, Int.reduceLT, Int.reduceGT, Int.reduceNeg, Int.reduceBEq, Int.reduceBNe, dk, hlm]
          repeat refine And.intro (by first | omega | exact .inl trivial | rfl | (simp; done) | (simp; omega)) ?_
          rw [e1, show (k : Int) + 1 = ((k + 1 : Nat) : Int) by omega]
          refine ainv (hJ2 (k + 1) (by omega) (by omega)) (Shift.weakS ?_ ?_)
          · simp only [wk, go_sem, Nat.reduceAdd, Nat.reduceMul, Nat.reduceBEq, Nat.reduceLT, Nat.reduceLeDiff, reduceIte, reduceCtorEq, Int.reduceToNat, Int.reduceLT, Int.reduceGT, Int.reduceNeg, Int.reduceBEq, Int.reduceBNe]
            first | done | rfl
          · rfl
        · have dk : decide ((k : Int) < ((gapN b : Nat) : Int)) = false := by simp; omega
          have hk : k = gapN b := by omega
          subst hk
          have hlm : (List.map AV.str (L ++ List.replicate (gapN b) [])).length = L.length + gapN b := by simp
          simp only [blA]
          refine goF (N := 27) Tryz.ntmps30 300 ?_
          simp only [go_sem, Nat.reduceAdd, Nat.reduceMul, Nat.reduceBEq, Nat.reduceLT, Nat.reduceLeDiff, reduceIte, reduceCtorEq, Int.reduceToNat, Int.reduceLT, Int.reduceGT, Int.reduceNeg, Int.reduceBEq, Int.reduceBNe, dk, hlm, List.length_map]
          repeat refine And.intro (by first | omega | exact .inl trivial | rfl | (simp; done) | (simp; omega)) ?_
          have e2 : List.map AV.str (L ++ List.replicate (gapN b) []) ++ List.map AV.str b.lines = List.map AV.str (linesTo bs (i + 1)) := by rw [hst]; simp
          have e3 : L.length + gapN b + b.lines.length = (linesTo bs (i + 1)).length := by rw [hst]; simp; omega
          rw [e2, e3, show (i : Int) + 1 = ((i + 1 : Nat) : Int) by omega]
          refine ainv hJ' (Shift.low 2 (by simp) (by simp) ?_ ?_)
          · simp only [List.take_succ_cons, List.take_zero, List.all_cons, List.all_nil, low_sc, low_strs, Bool.and_self]
          · simp only [wkl, lowV, lowC, Av.get, go_sem, Nat.reduceAdd, Nat.reduceMul, Nat.reduceBEq, Nat.reduceLT, Nat.reduceLeDiff, reduceIte, reduceCtorEq, Int.reduceToNat, Int.reduceLT, Int.reduceGT, Int.reduceNeg, Int.reduceBEq, Int.reduceBNe]
    · have di : decide ((i : Int) < (bs.length : Int)) = false := by simp; omega
      have hi : i = bs.length := by omega
      subst hi
      refine goF (N := 27) Tryz.ntmps30 300 ?_
      simp only [go_sem, Nat.reduceAdd, Nat.reduceMul, Nat.reduceBEq, Nat.reduceLT, Nat.reduceLeDiff, reduceIte, reduceCtorEq, Int.reduceToNat, Int.reduceLT, Int.reduceGT, Int.reduceNeg, Int.reduceBEq, Int.reduceBNe, di]
      refine ARet.shift (Shift.freeze 2 (id := 1) rfl rfl (by simp) (Nat.le_refl _) (frozen_strs _)) (aret [2] rfl ⟨?_, rfl⟩)
      simp [resV, Av.get, Av.put, List.take_of_length_le]

def nx (n : Nat) : Int := ((16 * n + 54) / 108 : Nat)
theorem ok_line : ∀ (l : List Sc) (acc : List (List UInt8)) (f : Bool), okFrom acc f l → paraSum l ≤ 4000 → ∀ x ∈ l, LineOk x
  | [], _, _, _, _, x, hx => by simp at hx
  | a :: r, acc, f, h, hs, x, hx => by
    have hsum : paraSum (a :: r) = a.paras.length + paraSum r := by simp [paraSum]
    rcases List.mem_cons.1 hx with rfl | hx
    · refine ⟨h.2.2.2.2.1, h.2.1, h.2.2.1, ?_, by omega⟩
      rcases h.1 with h1 | ⟨_, h1, _⟩
      · rw [h1]; simp
      · exact h1
    · exact ok_line r _ _ h.2.2.2.2.2 (by omega) x hx

end Go.Proofs.YtikbgjhajgjjdaaGreatDoor
