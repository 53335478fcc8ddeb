/- Lay, walked. Own work of this seat. -/
import Derived.Test.YtikbgjhajgjjdaaGreatDoorP46
set_option maxRecDepth 100000
set_option linter.unusedSimpArgs false
set_option linter.unusedVariables false
namespace Go.Proofs.YtikbgjhajgjjdaaGreatDoor
open Go Go.Av Go.RowKit
attribute [local go_sem ↓] br_true br_false dbr_true dbr_false dbri_true dbri_false dbrg_true dbrg_false
attribute [local go_sem] run cont br dbr dx dxc dgrd dyld dres dcall calm fieldPlace? allHas step1 opN grdN resN condN exitN stopN exitIt dOk xop xbin xint xarith xstr xbool xpick xnot xneg xextract xpart xpartOk xindex xfieldF fieldD xnew xbox xalloc xfieldAddr xptrAddIf xindexAddr xloadC xload putCells reElem xstoreB xstore xconv xtext xlen xlen2 xcall xfill xbuild cut rep xbuildSlice xbuildSliceD isRow elemD isU8 ev evs evp Go.Av.put Go.Av.get ofConst yldD yldV notBool_undef args0 cellsOf cond_true cond_false decide_true decide_false decide_eq_true_eq decide_eq_false_iff_not List.getElem?_cons_zero List.getElem?_cons_succ List.getElem?_nil List.getD_cons_zero List.getD_cons_succ List.getD_nil List.set_cons_zero List.set_cons_succ List.length_cons List.length_nil List.cons_append List.nil_append List.append_nil List.all_cons List.all_nil List.map_cons List.map_nil List.take_succ_cons List.take_zero List.drop_succ_cons List.drop_zero Bool.and_true Bool.true_and Bool.and_self Bool.and_false Bool.false_and one Go.Av.frozen beq_self_eq_true true_and and_true forall_const false_implies implies_true and_self Option.map_some Option.map_none Nat.zero_add Nat.add_zero Nat.zero_mul Nat.mul_one Nat.one_mul Int.toNat_zero ne_eq not_false_eq_true not_true_eq_false Bool.true_eq_false Bool.false_eq_true List.toList_toArray inr Go.Av.byteOf isByte decide_eq_decide Bool.not_true Bool.not_false Bool.not_eq_true' Bool.or_true Bool.true_or Bool.or_false Bool.false_or ge_iff_le gt_iff_lt and_assoc Bool.decide_eq_true beq_iff_eq beq_eq_false_iff_ne bne_iff_ne bne_self_eq_false if_true if_false Bool.and_eq_true Bool.or_eq_true Bool.and_eq_false_imp Bool.or_eq_false_iff Bool.not_eq_false' has Option.isSome_some Option.isSome_none Int.toNat_natCast Int.cast_ofNat_Int List.length_append xapp2 xapp xappS xappD xappB notInt srcOf srcB byteAV splice' xcut xcutS xcutF xcutB xcutN xcut0 cutL loOf hiOf evo xmake zelem xmax xcopy2 xcopyS xcopyB xnil xcut3 ixOf xclear2 xclearB List.getElem?_toArray xbin2 xnileq xempty xmkmap xmput xmputB xmputF isKey keyEq mfind xbin3 xeqs xeqop eqFs bothB leafEq xlook xlookB xlookF xbytes beq_c_n beq_n_c bne_c_n bne_n_c one_nil dxi dxic dbri rix dck reader blind opOk refOk Go.Op.operands Go.Call.operands List.contains_cons List.contains_nil dxg dxgc dbrg pck putD List.lookup_cons List.lookup_nil ts2 tb2 zl2 za2 Tryz.underlying2 ts3 tb3 zl3 za3 Tryz.underlying3 ts4 tb4 zl4 za4 Tryz.underlying4 ts5 tb5 zl5 za5 Tryz.underlying5 ts6 tb6 zl6 za6 Tryz.underlying6 ts7 tb7 za7 Tryz.underlying7 ts8 tb8 za8 Tryz.underlying8 ts9 tb9 zl9 za9 Tryz.underlying9 ts10 tb10 zl10 za10 Tryz.underlying10 ts11 tb11 zl11 za11 Tryz.underlying11 ts12 tb12 zl12 za12 Tryz.underlying12 ts13 tb13 za13 Tryz.underlying13 ts14 tb14 za14 Tryz.underlying14 ts18 tb18 za18 Tryz.underlying18 ts19 tb19 za19 Tryz.underlying19 ts21 tb21 zl21 za21 Tryz.underlying21 ts22 tb22 zl22 za22 Tryz.underlying22 ts24 tb24 za24 Tryz.underlying24 ts25 tb25 za25 Tryz.underlying25 ts26 tb26 zl26 za26 Tryz.underlying26 ts27 tb27 za27 Tryz.underlying27 ts28 tb28 za28 Tryz.underlying28 ts30 tb30 zl30 za30 Tryz.underlying30 ts31 tb31 zl31 za31 Tryz.underlying31 ts34 tb34 zl34 za34 Tryz.underlying34 ts35 tb35 zl35 za35 Tryz.underlying35 ts36 tb36 za36 Tryz.underlying36 ts37 tb37 za37 Tryz.underlying37 ts46 tb46 za46 Tryz.underlying46 ts47 tb47 za47 Tryz.underlying47 ts61 tb61 zl61 za61 Tryz.underlying61 ts62 tb62 za62 Tryz.underlying62 ts63 tb63 za63 Tryz.underlying63 ts66 tb66 zl66 za66 Tryz.underlying66 ts68 tb68 zl68 za68 Tryz.underlying68 ts74 tb74 za74 Tryz.underlying74 ts75 tb75 za75 Tryz.underlying75 ts77 tb77 zl77 za77 Tryz.underlying77 ts81 tb81 zl81 za81 Tryz.underlying81 ts82 tb82 za82 Tryz.underlying82 ts83 tb83 za83 Tryz.underlying83 ts86 tb86 zl86 za86 Tryz.underlying86 ts102 tb102 za102 Tryz.underlying102 ts103 tb103 za103 Tryz.underlying103 ts106 tb106 za106 Tryz.underlying106 ts107 tb107 za107 Tryz.underlying107 ts114 tb114 zl114 za114 Tryz.underlying114 ts117 tb117 zl117 za117 Tryz.underlying117 ts120 tb120 zl120 za120 Tryz.underlying120 ts133 tb133 zl133 za133 Tryz.underlying133 ts144 tb144 zl144 za144 Tryz.underlying144 ts151 tb151 zl151 za151 Tryz.underlying151 ts156 tb156 zl156 za156 Tryz.underlying156 ts160 tb160 Tryz.underlying160 ts169 tb169 za169 Tryz.underlying169 ts170 tb170 za170 Tryz.underlying170 ts175 tb175 Tryz.underlying175 ts180 tb180 za180 Tryz.underlying180 ts181 tb181 za181 Tryz.underlying181 ts185 tb185 za185 Tryz.underlying185 ts186 tb186 za186 Tryz.underlying186 ts187 tb187 Tryz.underlying187 ts189 tb189 Tryz.underlying189 ts190 tb190 Tryz.underlying190 ts191 tb191 za191 Tryz.underlying191 ts192 tb192 za192 Tryz.underlying192 ts196 tb196 zl196 za196 Tryz.underlying196 ts197 tb197 zl197 za197 Tryz.underlying197 ts199 tb199 zl199 za199 Tryz.underlying199 ts200 tb200 zl200 za200 Tryz.underlying200 ts201 tb201 za201 Tryz.underlying201 ts202 tb202 za202 Tryz.underlying202

set_option maxHeartbeats 8000000 in
theorem lay_pc (bs : List Bl) (hb : ∀ b ∈ bs, BlFit b) (hk : ∀ b ∈ bs, BlOk b) (hc : costTo bs bs.length ≤ 1000000000000) (hl : bs.length ≤ 1000000) :
    Pc Tryz.prog 29 [.fz 4 (bs.map blA)] (· = .agg [.fz 1 ((layL bs).pages.map pgA), .fz 1 ((layL bs).firsts.map (.int .i64)), .fz 1 ((layL bs).starts.map (.int .i64))]) := by
  have hlay := lay_inv (bs := bs) (fun b h => (hk b h).own)
  refine pc_intro (ct_intro Tryz.func29 rfl Tryz.ntmps29 hB29 (by simp) fun h ρ w => goF (N := 104) Tryz.ntmps29 300 ?_)
  simp only [go_sem, Nat.reduceAdd, Nat.reduceMul, Nat.reduceBEq, Nat.reduceLT, Nat.reduceLeDiff, reduceIte, reduceCtorEq, Int.reduceToNat, Int.reduceLT, Int.reduceGT, Int.reduceNeg, Int.reduceBEq, Int.reduceBNe, List.length_map]
  refine aloop (ι := Nat) (fun i => bs.length - i)
    (fun i => [(15, .int .i64 i), (14, .int .i64 bs.length), (13, .fz 4 (bs.map blA)), (6, .fn (.func 67) [.ptr 1 1 0 0, .ptr 2 1 0 0, .ptr 3 1 0 0]), (5, .ptr 3 1 0 0), (4, .ptr 2 1 0 0), (3, .ptr 1 1 0 0), (2, .ptr 0 1 0 0), (0, .fz 4 (bs.map blA))])
    (fun i => layS (layTo bs i) []) (fun i => i ≤ bs.length ∧ (layTo bs i).pages.length ≤ costTo bs i ∧ (layTo bs i).firsts.length = (layTo bs i).pages.length ∧ (layTo bs i).starts.length = i) 0 ⟨by omega, by simp [layTo], rfl, rfl⟩ ?_ ?_
  · refine Shift.trans (Shift.cells 1 1 [.agg [.sl 4 0 0 0, .raw (.slice none 0 0), .raw (.slice none 0 0)]] rfl rfl (by simp [cellsOf]) ⟨.sl, .refl, .refl, trivial⟩) ?_
    refine Shift.trans (Shift.cells 1 1 [.agg [.sl 4 0 0 0, .sl 5 0 0 0, .raw (.slice none 0 0)]] rfl rfl (by simp [cellsOf]) ⟨.refl, .sl, .refl, trivial⟩) ?_
    refine Shift.trans (Shift.cells 1 1 [.agg [.sl 4 0 0 0, .sl 5 0 0 0, .sl 6 0 0 0]] rfl rfl (by simp [cellsOf]) ⟨.refl, .refl, .sl, trivial⟩) ?_
    refine Shift.trans (Shift.cells 2 1 [.sl 7 0 0 0] rfl rfl (by simp [cellsOf]) ⟨.sl, trivial⟩) ?_
    refine Shift.weakS ?_ rfl
    simp only [wk, go_sem, Nat.reduceAdd, Nat.reduceMul, Nat.reduceBEq, Nat.reduceLT, Nat.reduceLeDiff, reduceIte, reduceCtorEq, Int.reduceToNat, Int.reduceLT, Int.reduceGT, Int.reduceNeg, Int.reduceBEq, Int.reduceBNe]
  · rintro i ⟨g1, g2, g3, g4⟩ J hJ
    obtain ⟨w0, hP, _⟩ := hlay i g1
    by_cases gi : i < bs.length
    · have di : decide ((i : Int) < (bs.length : Int)) = true := by simp; omega
      have hg' : List.getD (List.map blA bs) i .any = .agg [.int .i64 bs[i].kind, .fz 1 (bs[i].lines.map .str), .fz 1 (bs[i].kinds.map (.int .i64)), .str bs[i].name] := by simp [List.getD, gi, blA]
      have hbi := hb _ (List.getElem_mem gi)
      have hgap := gap_pc bs[i]
      have hhead := head_pc bs i gi hb (by omega)
      simp only [blA] at hgap
      have hgn : (if bs[i].kind == 0 then (2 : Int) else 1) = ((gapN bs[i] : Nat) : Int) := by unfold gapN; split <;> rfl
      rw [hgn] at hgap
      have hcm := costTo_mono bs g1
      have hpl := hP.len
      generalize hs : layTo bs i = s at g2 g3 g4 hP hpl ⊢
      simp only [layS, layT]
      refine goF (N := 104) Tryz.ntmps29 300 ?_
      simp only [go_sem, Nat.reduceAdd, Nat.reduceMul, Nat.reduceBEq, Nat.reduceLT, Nat.reduceLeDiff, reduceIte, reduceCtorEq, Int.reduceToNat, Int.reduceLT, Int.reduceGT, Int.reduceNeg, Int.reduceBEq, Int.reduceBNe, di, hg', List.length_map]
      repeat refine And.intro (by first | omega | exact .inl trivial | rfl | (simp; done) | (simp; omega)) ?_
      refine pcall1 (hgap) rfl (N := 104) Tryz.ntmps29 rfl (goF (N := 104) Tryz.ntmps29 4 ?_)
      simp only [go_sem, Nat.reduceAdd, Nat.reduceMul, Nat.reduceBEq, Nat.reduceLT, Nat.reduceLeDiff, reduceIte, reduceCtorEq, Int.reduceToNat, Int.reduceLT, Int.reduceGT, Int.reduceNeg, Int.reduceBEq, Int.reduceBNe]
      have hbA : Blk.arr 4 [AV.agg [.int .i64 bs[i].kind, .fz 1 (bs[i].lines.map .str), .fz 1 (bs[i].kinds.map (.int .i64)), .str bs[i].name]] = .arr 4 [blA bs[i]] := rfl
      refine acut (ι := Unit)
        (fun _ => [(9, .int .i64 (gapN bs[i] : Nat)), (7, .int .i64 i), (8, .ptr 8 1 0 0), (15, .int .i64 i), (14, .int .i64 bs.length), (13, .fz 4 (bs.map blA)), (6, .fn (.func 67) [.ptr 1 1 0 0, .ptr 2 1 0 0, .ptr 3 1 0 0]), (5, .ptr 3 1 0 0), (4, .ptr 2 1 0 0), (3, .ptr 1 1 0 0), (2, .ptr 0 1 0 0), (0, .fz 4 (bs.map blA))])
        (fun _ => layS (turnS bs i bs[i] s) [.arr 4 [blA bs[i]]]) (fun _ => True) ?_ ?_
      · intro Jc hJc
        have fc := hJc () trivial
        by_cases p0 : s.page = []
        · have dp : decide ((s.page.length : Int) > 0) = false := by rw [p0]; rfl
          have ht : turnS bs i bs[i] s = s := by unfold turnS; rw [if_neg (fun h => h.1 p0)]
          rw [ht] at fc
          refine goF (N := 104) Tryz.ntmps29 300 ?_
          simp only [go_sem, Nat.reduceAdd, Nat.reduceMul, Nat.reduceBEq, Nat.reduceLT, Nat.reduceLeDiff, reduceIte, reduceCtorEq, Int.reduceToNat, Int.reduceLT, Int.reduceGT, Int.reduceNeg, Int.reduceBEq, Int.reduceBNe]
          refine adraw [] mixed (by decide) (N := 104) Tryz.ntmps29 (by decide) 100 ?_
          simp only [go_sem, Nat.reduceAdd, Nat.reduceMul, Nat.reduceBEq, Nat.reduceLT, Nat.reduceLeDiff, reduceIte, reduceCtorEq, Int.reduceToNat, Int.reduceLT, Int.reduceGT, Int.reduceNeg, Int.reduceBEq, Int.reduceBNe, dp]
          repeat refine And.intro (by first | omega | exact .inl trivial | rfl | (simp; done) | (simp; omega)) ?_
          refine goF (N := 104) Tryz.ntmps29 300 ?_
          simp only [go_sem, Nat.reduceAdd, Nat.reduceMul, Nat.reduceBEq, Nat.reduceLT, Nat.reduceLeDiff, reduceIte, reduceCtorEq, Int.reduceToNat, Int.reduceLT, Int.reduceGT, Int.reduceNeg, Int.reduceBEq, Int.reduceBNe]
          refine ainv fc (Shift.weakS ?_ rfl)
          simp only [wk, go_sem, Nat.reduceAdd, Nat.reduceMul, Nat.reduceBEq, Nat.reduceLT, Nat.reduceLeDiff, reduceIte, reduceCtorEq, Int.reduceToNat, Int.reduceLT, Int.reduceGT, Int.reduceNeg, Int.reduceBEq, Int.reduceBNe]
        · have hp1 : 0 < s.page.length := by
            cases hq : s.page with
            | nil => exact (p0 hq).elim
            | cons a r => simp
          have dp : decide ((s.page.length : Int) > 0) = true := by simp; omega
          have hle : leastL bs[i] ≤ bs[i].lines.length + 2 := least_le _
          have hfit := hbi.len
          have hhd := headN_le (bs := bs) (i := i) (b := bs[i]) (M := 50000000) (fun d hd => (hb d hd).len)
          have hgl : gapN bs[i] ≤ 2 := by unfold gapN; split <;> omega
          by_cases hov : s.page.length + gapN bs[i] + headN bs i bs[i] > 54
          · have dov : decide ((s.page.length : Int) + (gapN bs[i] : Nat) + (headN bs i bs[i] : Nat) > 54) = true := by simp; omega
            have ht : turnS bs i bs[i] s = flushS s := by unfold turnS; rw [if_pos ⟨p0, hov⟩]
            rw [ht] at fc
            refine goF (N := 104) Tryz.ntmps29 300 ?_
            simp only [go_sem, Nat.reduceAdd, Nat.reduceMul, Nat.reduceBEq, Nat.reduceLT, Nat.reduceLeDiff, reduceIte, reduceCtorEq, Int.reduceToNat, Int.reduceLT, Int.reduceGT, Int.reduceNeg, Int.reduceBEq, Int.reduceBNe]
            refine adraw [.int .i64 ((headN bs i bs[i] : Nat) : Int)] mixed (by decide) (N := 104) Tryz.ntmps29 (by decide) 100 ?_
            simp only [go_sem, Nat.reduceAdd, Nat.reduceMul, Nat.reduceBEq, Nat.reduceLT, Nat.reduceLeDiff, reduceIte, reduceCtorEq, Int.reduceToNat, Int.reduceLT, Int.reduceGT, Int.reduceNeg, Int.reduceBEq, Int.reduceBNe, dp]
            repeat refine And.intro (by first | omega | exact hhead.at | exact .inl trivial | rfl | (simp; done) | (simp; omega)) ?_
            refine goF (N := 104) Tryz.ntmps29 300 ?_
            simp only [go_sem, Nat.reduceAdd, Nat.reduceMul, Nat.reduceBEq, Nat.reduceLT, Nat.reduceLeDiff, reduceIte, reduceCtorEq, Int.reduceToNat, Int.reduceLT, Int.reduceGT, Int.reduceNeg, Int.reduceBEq, Int.reduceBNe, dov]
            refine acall (flush_ct s [.arr 4 [blA bs[i]]] (fun _ => rfl) (by omega) (by omega)) (N := 104) Tryz.ntmps29 rfl ?_
            rintro _ _ ⟨rfl, rfl⟩
            refine goF (N := 104) Tryz.ntmps29 300 ?_
            simp only [go_sem, Nat.reduceAdd, Nat.reduceMul, Nat.reduceBEq, Nat.reduceLT, Nat.reduceLeDiff, reduceIte, reduceCtorEq, Int.reduceToNat, Int.reduceLT, Int.reduceGT, Int.reduceNeg, Int.reduceBEq, Int.reduceBNe]
            refine ainv fc (refill_shift rfl (flushS s) bs[i] rfl ?_)
            simp only [wk, renE, renV, ren1, idx, go_sem, Nat.reduceAdd, Nat.reduceMul, Nat.reduceBEq, Nat.reduceLT, Nat.reduceLeDiff, reduceIte, reduceCtorEq, Int.reduceToNat, Int.reduceLT, Int.reduceGT, Int.reduceNeg, Int.reduceBEq, Int.reduceBNe]
          · have dov : decide ((s.page.length : Int) + (gapN bs[i] : Nat) + (headN bs i bs[i] : Nat) > 54) = false := by simp; omega
            have ht : turnS bs i bs[i] s = s := by unfold turnS; rw [if_neg (fun h => hov h.2)]
            rw [ht] at fc
            refine goF (N := 104) Tryz.ntmps29 300 ?_
            simp only [go_sem, Nat.reduceAdd, Nat.reduceMul, Nat.reduceBEq, Nat.reduceLT, Nat.reduceLeDiff, reduceIte, reduceCtorEq, Int.reduceToNat, Int.reduceLT, Int.reduceGT, Int.reduceNeg, Int.reduceBEq, Int.reduceBNe]
            refine adraw [.int .i64 ((headN bs i bs[i] : Nat) : Int)] mixed (by decide) (N := 104) Tryz.ntmps29 (by decide) 100 ?_
            simp only [go_sem, Nat.reduceAdd, Nat.reduceMul, Nat.reduceBEq, Nat.reduceLT, Nat.reduceLeDiff, reduceIte, reduceCtorEq, Int.reduceToNat, Int.reduceLT, Int.reduceGT, Int.reduceNeg, Int.reduceBEq, Int.reduceBNe, dp]
            repeat refine And.intro (by first | omega | exact hhead.at | exact .inl trivial | rfl | (simp; done) | (simp; omega)) ?_
            refine goF (N := 104) Tryz.ntmps29 300 ?_
            simp only [go_sem, Nat.reduceAdd, Nat.reduceMul, Nat.reduceBEq, Nat.reduceLT, Nat.reduceLeDiff, reduceIte, reduceCtorEq, Int.reduceToNat, Int.reduceLT, Int.reduceGT, Int.reduceNeg, Int.reduceBEq, Int.reduceBNe, dov]
            refine ainv fc (Shift.weakS ?_ rfl)
            simp only [wk, go_sem, Nat.reduceAdd, Nat.reduceMul, Nat.reduceBEq, Nat.reduceLT, Nat.reduceLeDiff, reduceIte, reduceCtorEq, Int.reduceToNat, Int.reduceLT, Int.reduceGT, Int.reduceNeg, Int.reduceBEq, Int.reduceBNe]
      · rintro ⟨⟩ _
        obtain ⟨hP1, hfit1⟩ := turn_inv (bs := bs) (i := i) (b := bs[i]) hP
        obtain ⟨hm1, hm2, hm3⟩ := turn_many bs i bs[i] s
        have hm2 := hm2.2 g3
        have htarget : layTo bs (i + 1) = placeB bs[i] (bs[i].lines.length + 1) 0 (gapS bs[i] (firstS i (turnS bs i bs[i] s))) := by
          simp only [layTo, List.getElem?_eq_getElem gi, hs, openS]
        obtain ⟨g0, _, hPo, hRo⟩ := open_inv (bs := bs) (i := i) (b := bs[i]) hP
        rw [openS] at hPo hRo
        generalize turnS bs i bs[i] s = s1 at hP1 hfit1 hm1 hm2 hm3 htarget hPo hRo ⊢
        have hgl : gapN bs[i] ≤ 2 := by unfold gapN; split <;> omega
        simp only [layS, layT]
        refine goF (N := 104) Tryz.ntmps29 1 ?_
        simp only [go_sem, Nat.reduceAdd, Nat.reduceMul, Nat.reduceBEq, Nat.reduceLT, Nat.reduceLeDiff, reduceIte, reduceCtorEq, Int.reduceToNat, Int.reduceLT, Int.reduceGT, Int.reduceNeg, Int.reduceBEq, Int.reduceBNe]
        refine acut (ι := Unit)
          (fun _ => [(9, .int .i64 (gapN bs[i] : Nat)), (7, .int .i64 i), (8, .ptr 8 1 0 0), (15, .int .i64 i), (14, .int .i64 bs.length), (13, .fz 4 (bs.map blA)), (6, .fn (.func 67) [.ptr 1 1 0 0, .ptr 2 1 0 0, .ptr 3 1 0 0]), (5, .ptr 3 1 0 0), (4, .ptr 2 1 0 0), (3, .ptr 1 1 0 0), (2, .ptr 0 1 0 0), (0, .fz 4 (bs.map blA))])
          (fun _ => layS (firstS i s1) [.arr 4 [blA bs[i]]]) (fun _ => True) ?_ ?_
        · intro Jc hJc
          have fc := hJc () trivial
          by_cases p1 : s1.page = []
          · have hf1 : firstS i s1 = ⟨s1.pages, s1.firsts, s1.starts, s1.page, i⟩ := by unfold firstS; rw [if_pos p1]
            have dp : ((s1.page.length : Int) == 0) = true := by rw [p1]; rfl
            rw [hf1] at fc
            refine goF (N := 104) Tryz.ntmps29 300 ?_
            simp only [go_sem, Nat.reduceAdd, Nat.reduceMul, Nat.reduceBEq, Nat.reduceLT, Nat.reduceLeDiff, reduceIte, reduceCtorEq, Int.reduceToNat, Int.reduceLT, Int.reduceGT, Int.reduceNeg, Int.reduceBEq, Int.reduceBNe, dp]
            repeat refine And.intro (by first | omega | exact .inl trivial | rfl | (simp; done) | (simp; omega)) ?_
            refine ainv fc (Shift.weakS ?_ rfl)
            simp only [wk, go_sem, Nat.reduceAdd, Nat.reduceMul, Nat.reduceBEq, Nat.reduceLT, Nat.reduceLeDiff, reduceIte, reduceCtorEq, Int.reduceToNat, Int.reduceLT, Int.reduceGT, Int.reduceNeg, Int.reduceBEq, Int.reduceBNe]
          · have hf1 : firstS i s1 = s1 := by unfold firstS; rw [if_neg p1]
            have dp : ((s1.page.length : Int) == 0) = false := by
              rw [beq_eq_false_iff_ne]
              intro e
              exact p1 (List.eq_nil_of_length_eq_zero (by omega))
            rw [hf1] at fc
            refine goF (N := 104) Tryz.ntmps29 300 ?_
            simp only [go_sem, Nat.reduceAdd, Nat.reduceMul, Nat.reduceBEq, Nat.reduceLT, Nat.reduceLeDiff, reduceIte, reduceCtorEq, Int.reduceToNat, Int.reduceLT, Int.reduceGT, Int.reduceNeg, Int.reduceBEq, Int.reduceBNe, dp]
            repeat refine And.intro (by first | omega | exact .inl trivial | rfl | (simp; done) | (simp; omega)) ?_
            refine ainv fc (Shift.weakS ?_ rfl)
            simp only [wk, go_sem, Nat.reduceAdd, Nat.reduceMul, Nat.reduceBEq, Nat.reduceLT, Nat.reduceLeDiff, reduceIte, reduceCtorEq, Int.reduceToNat, Int.reduceLT, Int.reduceGT, Int.reduceNeg, Int.reduceBEq, Int.reduceBNe]
        · rintro ⟨⟩ _
          have hfp : (firstS i s1).page = s1.page ∧ (firstS i s1).pages = s1.pages ∧ (firstS i s1).firsts = s1.firsts ∧ (firstS i s1).starts = s1.starts := by unfold firstS; split <;> exact ⟨rfl, rfl, rfl, rfl⟩
          have hl1 := hP1.len
          generalize firstS i s1 = s2 at hfp htarget hPo hRo ⊢
          have q1 : s2.page.length ≤ 54 := by rw [hfp.1]; exact hl1
          have q2 : s2.pages.length ≤ costTo bs i + 1 := by rw [hfp.2.1]; omega
          have q3 : s2.firsts.length = s2.pages.length := by rw [hfp.2.1, hfp.2.2.1]; exact hm2
          have q4 : s2.starts.length = i := by rw [hfp.2.2.2, hm3]; exact g4
          have hmul : (gapN bs[i] : Int) * (if (1 : Int) < (s2.page.length : Int) then 1 else (s2.page.length : Int)) = ((gapN bs[i] * min s2.page.length 1 : Nat) : Int) := by
            rw [Int.natCast_mul]
            congr 1
            split <;> omega
          generalize hGG : gapN bs[i] * min s2.page.length 1 = G at hmul
          have hG2 : G ≤ 2 := by
            rw [← hGG]
            have : min s2.page.length 1 ≤ 1 := Nat.min_le_right _ _
            calc gapN bs[i] * min s2.page.length 1 ≤ gapN bs[i] * 1 := Nat.mul_le_mul_left _ this
              _ ≤ 2 := by omega
          simp only [layS, layT]
          refine goF (N := 104) Tryz.ntmps29 300 ?_
          simp only [go_sem, Nat.reduceAdd, Nat.reduceMul, Nat.reduceBEq, Nat.reduceLT, Nat.reduceLeDiff, reduceIte, reduceCtorEq, Int.reduceToNat, Int.reduceLT, Int.reduceGT, Int.reduceNeg, Int.reduceBEq, Int.reduceBNe, hmul]
          repeat refine And.intro (by first | omega | exact .inl trivial | rfl | (simp; done) | (simp; omega)) ?_
          refine aloop (ι := Nat) (fun j => G - j) (fun j => [(47, .int .i64 j), (46, .int .i64 G), (7, .int .i64 i), (8, .ptr 8 1 0 0), (15, .int .i64 i), (14, .int .i64 bs.length), (13, .fz 4 (bs.map blA)), (6, .fn (.func 67) [.ptr 1 1 0 0, .ptr 2 1 0 0, .ptr 3 1 0 0]), (5, .ptr 3 1 0 0), (4, .ptr 2 1 0 0), (3, .ptr 1 1 0 0), (2, .ptr 0 1 0 0), (0, .fz 4 (bs.map blA))])
            (fun j => layT s2 (.sl 7 0 (s2.page.length + j) (s2.page.length + j)) (.arr 1 ((s2.page ++ List.replicate j []).map .str)) [.arr 4 [blA bs[i]]]) (fun j => j ≤ G) 0 (by omega) ?_ ?_
          · refine Shift.weakS ?_ (by simp [layT])
            simp only [wk, go_sem, Nat.reduceAdd, Nat.reduceMul, Nat.reduceBEq, Nat.reduceLT, Nat.reduceLeDiff, reduceIte, reduceCtorEq, Int.reduceToNat, Int.reduceLT, Int.reduceGT, Int.reduceNeg, Int.reduceBEq, Int.reduceBNe]
          · intro j gj1 J2 hJ2
            by_cases gj : j < G
            · have dj : decide ((j : Int) < (G : Int)) = true := by simp; omega
              simp only [layT]
              refine goF (N := 104) Tryz.ntmps29 300 ?_
              simp only [go_sem, Nat.reduceAdd, Nat.reduceMul, Nat.reduceBEq, Nat.reduceLT, Nat.reduceLeDiff, reduceIte, reduceCtorEq, Int.reduceToNat, Int.reduceLT, Int.reduceGT, Int.reduceNeg, Int.reduceBEq, Int.reduceBNe, dj, List.length_map, List.length_append, List.length_replicate]
              repeat refine And.intro (by first | omega | exact .inl trivial | rfl | (simp; done) | (simp; omega)) ?_
              first | done | rw [show (j : Int) + 1 = ((j + 1 : Nat) : Int) by omega] | trace_state
              refine ainv (hJ2 (j + 1) (by omega) (by omega)) ?_
              refine Shift.weakS ?_ (by simp [layT, List.replicate_succ', Nat.add_assoc])
              simp only [wk, go_sem, Nat.reduceAdd, Nat.reduceMul, Nat.reduceBEq, Nat.reduceLT, Nat.reduceLeDiff, reduceIte, reduceCtorEq, Int.reduceToNat, Int.reduceLT, Int.reduceGT, Int.reduceNeg, Int.reduceBEq, Int.reduceBNe]
            · have dj : decide ((j : Int) < (G : Int)) = false := by simp; omega
              have hj : j = G := by omega
              subst hj
              have hcs := costTo_step gi
              have hcm2 := costTo_mono bs (show i + 1 ≤ bs.length from gi)
              simp only [layT]
              refine goF (N := 104) Tryz.ntmps29 300 ?_
              simp only [go_sem, Nat.reduceAdd, Nat.reduceMul, Nat.reduceBEq, Nat.reduceLT, Nat.reduceLeDiff, reduceIte, reduceCtorEq, Int.reduceToNat, Int.reduceLT, Int.reduceGT, Int.reduceNeg, Int.reduceBEq, Int.reduceBNe, dj, List.length_map, List.length_append, List.length_replicate]
              repeat refine And.intro (by first | omega | exact .inl trivial | rfl | (simp; done) | (simp; omega)) ?_
              refine aloop (ι := Nat × LS) (fun y => bs[i].lines.length - y.1) (fun y => [(10, .int .i64 y.1), (7, .int .i64 i), (8, .ptr 8 1 0 0), (15, .int .i64 i), (14, .int .i64 bs.length), (13, .fz 4 (bs.map blA)), (6, .fn (.func 67) [.ptr 1 1 0 0, .ptr 2 1 0 0, .ptr 3 1 0 0]), (5, .ptr 3 1 0 0), (4, .ptr 2 1 0 0), (3, .ptr 1 1 0 0), (2, .ptr 0 1 0 0), (0, .fz 4 (bs.map blA))])
                (fun y => layS y.2 [.arr 4 [blA bs[i]]])
                (fun y => y.1 ≤ bs[i].lines.length ∧ (∃ w, PInv y.2 w) ∧ RoomOk bs[i] y.1 (54 - y.2.page.length) ∧ y.2.firsts.length = y.2.pages.length ∧ y.2.starts.length = i + 1 ∧ y.2.pages.length + (bs[i].lines.length - y.1) ≤ costTo bs i + 1 + bs[i].lines.length ∧ ∃ f, bs[i].lines.length - y.1 < f ∧ placeB bs[i] f y.1 y.2 = layTo bs (i + 1))
                (0, gapS bs[i] s2) ⟨by simp only; omega, ⟨_, hPo⟩, hRo, q3, by simp only [gapS, List.length_append, List.length_cons, List.length_nil, q4], by simp only [gapS]; omega, _, by simp only; omega, htarget.symm⟩ ?_ ?_
              · refine Shift.weakS ?_ (by simp [layS, layT, gapS, hGG])
                simp only [wk, go_sem, Nat.reduceAdd, Nat.reduceMul, Nat.reduceBEq, Nat.reduceLT, Nat.reduceLeDiff, reduceIte, reduceCtorEq, Int.reduceToNat, Int.reduceLT, Int.reduceGT, Int.reduceNeg, Int.reduceBEq, Int.reduceBNe]
              · rintro ⟨fr, st⟩ ⟨r1, ⟨wst, r2⟩, r3, r4, r5, r6, f, r7, r8⟩ J3 hJ3
                simp only at r1 r2 r3 r4 r5 r6 r7 r8 hJ3 ⊢
                have rl := r2.len
                have hroom : (54 : Int) - (st.page.length : Int) = ((54 - st.page.length : Nat) : Int) := by omega
                have hstop := stop_pc bs[i] hbi fr (54 - st.page.length) r1 r3 (by omega)
                have hspec := stop_spec r3 r1
                have hps := place_step (hk _ (List.getElem_mem gi)).own r2 r1 r3
                have hnl := hbi.len
                cases f with
                | zero => omega
                | succ f =>
                  simp only [placeB] at r8
                  generalize hz : stopL bs[i] fr (54 - st.page.length) = tz at hstop hspec hps r8
                  have hzl : fr ≤ tz ∧ tz ≤ bs[i].lines.length := by omega
                  have hpart : List.drop fr (List.take tz (bs[i].lines.map AV.str)) = (partL' bs[i] fr tz).map AV.str := by
                    rw [partL', List.map_drop, List.map_take]
                  have hpln : (partL' bs[i] fr tz).length = tz - fr := partLn_len _ hzl.2
                  simp only [blA] at hstop
                  simp only [layS, layT, blA]
                  refine goF (N := 104) Tryz.ntmps29 300 ?_
                  simp only [go_sem, Nat.reduceAdd, Nat.reduceMul, Nat.reduceBEq, Nat.reduceLT, Nat.reduceLeDiff, reduceIte, reduceCtorEq, Int.reduceToNat, Int.reduceLT, Int.reduceGT, Int.reduceNeg, Int.reduceBEq, Int.reduceBNe, hroom, List.length_map]
                  repeat refine And.intro (by first | omega | exact .inl trivial | rfl | (simp; done) | (simp; omega)) ?_
                  refine pcall1 (hstop) rfl (N := 104) Tryz.ntmps29 rfl (goF (N := 104) Tryz.ntmps29 300 ?_)
                  simp only [go_sem, Nat.reduceAdd, Nat.reduceMul, Nat.reduceBEq, Nat.reduceLT, Nat.reduceLeDiff, reduceIte, reduceCtorEq, Int.reduceToNat, Int.reduceLT, Int.reduceGT, Int.reduceNeg, Int.reduceBEq, Int.reduceBNe, List.length_map]
                  refine adraw [] mixed (by decide) (N := 104) Tryz.ntmps29 (by decide) 100 ?_
                  simp only [go_sem, Nat.reduceAdd, Nat.reduceMul, Nat.reduceBEq, Nat.reduceLT, Nat.reduceLeDiff, reduceIte, reduceCtorEq, Int.reduceToNat, Int.reduceLT, Int.reduceGT, Int.reduceNeg, Int.reduceBEq, Int.reduceBNe, hpart, hpln, List.length_map, List.length_append]
                  repeat refine And.intro (by first | omega | exact .inl trivial | rfl | (simp; done) | (simp; omega)) ?_
                  have el : (st.page ++ partL' bs[i] fr tz).length = st.page.length + (tz - fr) := by rw [List.length_append, hpln]
                  rw [← el, ← List.map_append]
                  refine AWp.shift (e' := [(11, .int .i64 tz), (10, .int .i64 fr), (7, .int .i64 i), (8, .ptr 8 1 0 0), (15, .int .i64 i), (14, .int .i64 bs.length), (13, .fz 4 (bs.map blA)), (6, .fn (.func 67) [.ptr 1 1 0 0, .ptr 2 1 0 0, .ptr 3 1 0 0]), (5, .ptr 3 1 0 0), (4, .ptr 2 1 0 0), (3, .ptr 1 1 0 0), (2, .ptr 0 1 0 0), (0, .fz 4 (bs.map blA))]) (s' := layS (addS st (partL' bs[i] fr tz)) [.arr 4 [blA bs[i]]]) (Shift.weakS ?_ rfl) ?_
                  · simp only [wk, go_sem, Nat.reduceAdd, Nat.reduceMul, Nat.reduceBEq, Nat.reduceLT, Nat.reduceLeDiff, reduceIte, reduceCtorEq, Int.reduceToNat, Int.reduceLT, Int.reduceGT, Int.reduceNeg, Int.reduceBEq, Int.reduceBNe]
                  have hsp : (addS st (partL' bs[i] fr tz)).pages = st.pages ∧ (addS st (partL' bs[i] fr tz)).firsts = st.firsts ∧ (addS st (partL' bs[i] fr tz)).starts = st.starts ∧ (addS st (partL' bs[i] fr tz)).page.length ≤ 54 + bs[i].lines.length := ⟨rfl, rfl, rfl, by simp only [addS]; rw [el]; omega⟩
                  generalize addS st (partL' bs[i] fr tz) = st1 at r8 hps hsp ⊢
                  by_cases hzn : tz = bs[i].lines.length
                  · have dz : ((tz : Int) == (bs[i].lines.length : Int)) = true := by rw [hzn]; simp
                    rw [if_pos hzn] at r8
                    have fin := hJ (i + 1) ⟨gi, by rw [← r8, hsp.1]; omega, by rw [← r8, hsp.1, hsp.2.1]; exact r4, by rw [← r8, hsp.2.2.1]; exact r5⟩ (by omega)
                    rw [← r8] at fin
                    simp only [layS, layT, blA] at fin ⊢
                    refine goF (N := 104) Tryz.ntmps29 300 ?_
                    simp only [go_sem, Nat.reduceAdd, Nat.reduceMul, Nat.reduceBEq, Nat.reduceLT, Nat.reduceLeDiff, reduceIte, reduceCtorEq, Int.reduceToNat, Int.reduceLT, Int.reduceGT, Int.reduceNeg, Int.reduceBEq, Int.reduceBNe, dz, List.length_map]
                    repeat refine And.intro (by first | omega | exact .inl trivial | rfl | (simp; done) | (simp; omega)) ?_
                    rw [show (i : Int) + 1 = ((i + 1 : Nat) : Int) by omega]
                    refine ainv fin ?_
                    refine drop_shift rfl st1 (.arr 4 [blA bs[i]]) ?_
                    simp only [wkl, lowV, lowC, Av.get, go_sem, Nat.reduceAdd, Nat.reduceMul, Nat.reduceBEq, Nat.reduceLT, Nat.reduceLeDiff, reduceIte, reduceCtorEq, Int.reduceToNat, Int.reduceLT, Int.reduceGT, Int.reduceNeg, Int.reduceBEq, Int.reduceBNe]
                    first | done | trace_state
                  · have dz : ((tz : Int) == (bs[i].lines.length : Int)) = false := by rw [beq_eq_false_iff_ne]; omega
                    rw [if_neg hzn] at r8
                    obtain ⟨z1, z2, z3, z4⟩ := hps hzn
                    simp only [layS, layT, blA]
                    refine goF (N := 104) Tryz.ntmps29 18 ?_
                    simp only [go_sem, Nat.reduceAdd, Nat.reduceMul, Nat.reduceBEq, Nat.reduceLT, Nat.reduceLeDiff, reduceIte, reduceCtorEq, Int.reduceToNat, Int.reduceLT, Int.reduceGT, Int.reduceNeg, Int.reduceBEq, Int.reduceBNe, dz, List.length_map]
                    repeat refine And.intro (by first | omega | exact .inl trivial | rfl | (simp; done) | (simp; omega)) ?_
                    have hgo := goesOn_pc bs[i] (by have := hbi.name; omega)
                    simp only [blA] at hgo
                    refine acut (ι := Unit) (fun _ => [(11, .int .i64 tz), (10, .int .i64 fr), (7, .int .i64 i), (8, .ptr 8 1 0 0), (15, .int .i64 i), (14, .int .i64 bs.length), (13, .fz 4 (bs.map blA)), (6, .fn (.func 67) [.ptr 1 1 0 0, .ptr 2 1 0 0, .ptr 3 1 0 0]), (5, .ptr 3 1 0 0), (4, .ptr 2 1 0 0), (3, .ptr 1 1 0 0), (2, .ptr 0 1 0 0), (0, .fz 4 (bs.map blA))])
                      (fun _ => layS (addS st1 (if bs[i].kind == 3 then [moreLn] else [])) [.arr 4 [blA bs[i]]]) (fun _ => True) ?_ ?_
                    · intro Jc hJc
                      have fc := hJc () trivial
                      cases k3 : bs[i].kind == 3 with
                      | true =>
                        simp only [k3, if_true] at fc
                        refine goF (N := 104) Tryz.ntmps29 300 ?_
                        simp only [go_sem, Nat.reduceAdd, Nat.reduceMul, Nat.reduceBEq, Nat.reduceLT, Nat.reduceLeDiff, reduceIte, reduceCtorEq, Int.reduceToNat, Int.reduceLT, Int.reduceGT, Int.reduceNeg, Int.reduceBEq, Int.reduceBNe, k3]
                        refine adraw [.str moreLn] mixed (by decide) (N := 104) Tryz.ntmps29 (by decide) 100 ?_
                        simp only [go_sem, Nat.reduceAdd, Nat.reduceMul, Nat.reduceBEq, Nat.reduceLT, Nat.reduceLeDiff, reduceIte, reduceCtorEq, Int.reduceToNat, Int.reduceLT, Int.reduceGT, Int.reduceNeg, Int.reduceBEq, Int.reduceBNe]
                        repeat refine And.intro (by first | omega | exact more_pc.at | exact .inl trivial | rfl | (simp; done) | (simp; omega)) ?_
                        refine goF (N := 104) Tryz.ntmps29 300 ?_
                        simp only [go_sem, Nat.reduceAdd, Nat.reduceMul, Nat.reduceBEq, Nat.reduceLT, Nat.reduceLeDiff, reduceIte, reduceCtorEq, Int.reduceToNat, Int.reduceLT, Int.reduceGT, Int.reduceNeg, Int.reduceBEq, Int.reduceBNe]
                        refine ainv fc ?_
                        refine Shift.weakS ?_ (by simp [layS, layT, addS, blA])
                        simp only [wk, go_sem, Nat.reduceAdd, Nat.reduceMul, Nat.reduceBEq, Nat.reduceLT, Nat.reduceLeDiff, reduceIte, reduceCtorEq, Int.reduceToNat, Int.reduceLT, Int.reduceGT, Int.reduceNeg, Int.reduceBEq, Int.reduceBNe]
                      | false =>
                        have hn : addS st1 [] = st1 := by simp [addS]
                        simp only [k3, Bool.false_eq_true, if_false, hn] at fc
                        refine goF (N := 104) Tryz.ntmps29 300 ?_
                        simp only [go_sem, Nat.reduceAdd, Nat.reduceMul, Nat.reduceBEq, Nat.reduceLT, Nat.reduceLeDiff, reduceIte, reduceCtorEq, Int.reduceToNat, Int.reduceLT, Int.reduceGT, Int.reduceNeg, Int.reduceBEq, Int.reduceBNe, k3]
                        refine ainv fc (Shift.weakS ?_ rfl)
                        simp only [wk, go_sem, Nat.reduceAdd, Nat.reduceMul, Nat.reduceBEq, Nat.reduceLT, Nat.reduceLeDiff, reduceIte, reduceCtorEq, Int.reduceToNat, Int.reduceLT, Int.reduceGT, Int.reduceNeg, Int.reduceBEq, Int.reduceBNe]
                    · rintro ⟨⟩ _
                      have hJ4 := hJ3 (tz, breakS bs[i] st1)
                      have hbr : breakS bs[i] st1 = addS (flushS (addS st1 (if bs[i].kind == 3 then [moreLn] else []))) (if bs[i].kind == 3 then [goesLn bs[i]] else []) := rfl
                      have hst2 : (addS st1 (if bs[i].kind == 3 then [moreLn] else [])).pages = st1.pages ∧ (addS st1 (if bs[i].kind == 3 then [moreLn] else [])).firsts = st1.firsts ∧ (addS st1 (if bs[i].kind == 3 then [moreLn] else [])).starts = st1.starts := ⟨rfl, rfl, rfl⟩
                      generalize addS st1 (if bs[i].kind == 3 then [moreLn] else []) = st2 at hbr hst2 ⊢
                      have fin := hJ4 ⟨by simp only; omega, z3, z4, by rw [hbr]; simp only [addS, flushS, List.length_append, List.length_cons, List.length_nil, hst2.1, hst2.2.1, hsp.1, hsp.2.1, r4], by rw [hbr]; simp only [addS, flushS, hst2.2.2, hsp.2.2.1, r5], by rw [hbr]; simp only [addS, flushS, List.length_append, List.length_cons, List.length_nil, hst2.1, hsp.1]; omega, f, by simp only; omega, r8⟩ (by simp only; omega)
                      rw [hbr] at fin
                      simp only [layS, layT]
                      refine goF (N := 104) Tryz.ntmps29 300 ?_
                      simp only [go_sem, Nat.reduceAdd, Nat.reduceMul, Nat.reduceBEq, Nat.reduceLT, Nat.reduceLeDiff, reduceIte, reduceCtorEq, Int.reduceToNat, Int.reduceLT, Int.reduceGT, Int.reduceNeg, Int.reduceBEq, Int.reduceBNe]
                      refine acall (flush_ct st2 [.arr 4 [blA bs[i]]] (fun _ => rfl) (by rw [hst2.1, hsp.1]; omega) (by rw [hst2.2.1, hsp.2.1]; omega)) (N := 104) Tryz.ntmps29 rfl ?_
                      rintro _ _ ⟨rfl, rfl⟩
                      refine AWp.shift (refill_shift rfl (flushS st2) bs[i] rfl (e' := [(11, .int .i64 tz), (10, .int .i64 fr), (7, .int .i64 i), (8, .ptr 8 1 0 0), (15, .int .i64 i), (14, .int .i64 bs.length), (13, .fz 4 (bs.map blA)), (6, .fn (.func 67) [.ptr 1 1 0 0, .ptr 2 1 0 0, .ptr 3 1 0 0]), (5, .ptr 3 1 0 0), (4, .ptr 2 1 0 0), (3, .ptr 1 1 0 0), (2, .ptr 0 1 0 0), (0, .fz 4 (bs.map blA))]) ?_) ?_
                      · simp only [wk, renE, renV, ren1, idx, go_sem, Nat.reduceAdd, Nat.reduceMul, Nat.reduceBEq, Nat.reduceLT, Nat.reduceLeDiff, reduceIte, reduceCtorEq, Int.reduceToNat, Int.reduceLT, Int.reduceGT, Int.reduceNeg, Int.reduceBEq, Int.reduceBNe]
                      cases k3 : bs[i].kind == 3 with
                      | true =>
                        simp only [k3, if_true] at fin
                        simp only [layS, layT, blA]
                        refine goF (N := 104) Tryz.ntmps29 300 ?_
                        simp only [go_sem, Nat.reduceAdd, Nat.reduceMul, Nat.reduceBEq, Nat.reduceLT, Nat.reduceLeDiff, reduceIte, reduceCtorEq, Int.reduceToNat, Int.reduceLT, Int.reduceGT, Int.reduceNeg, Int.reduceBEq, Int.reduceBNe, k3]
                        have hfz : (flushS st2).page = [] := rfl
                        refine adraw [.str (goesLn bs[i])] mixed (by decide) (N := 104) Tryz.ntmps29 (by decide) 100 ?_
                        simp only [go_sem, Nat.reduceAdd, Nat.reduceMul, Nat.reduceBEq, Nat.reduceLT, Nat.reduceLeDiff, reduceIte, reduceCtorEq, Int.reduceToNat, Int.reduceLT, Int.reduceGT, Int.reduceNeg, Int.reduceBEq, Int.reduceBNe, hfz, List.map_nil, List.length_nil]
                        repeat refine And.intro (by first | omega | exact hgo.at | exact .inl trivial | rfl | (simp; done) | (simp; omega)) ?_
                        refine goF (N := 104) Tryz.ntmps29 300 ?_
                        simp only [go_sem, Nat.reduceAdd, Nat.reduceMul, Nat.reduceBEq, Nat.reduceLT, Nat.reduceLeDiff, reduceIte, reduceCtorEq, Int.reduceToNat, Int.reduceLT, Int.reduceGT, Int.reduceNeg, Int.reduceBEq, Int.reduceBNe]
                        refine ainv fin ?_
                        refine Shift.weakS ?_ (by simp [layS, layT, addS, blA, hfz])
                        simp only [wk, go_sem, Nat.reduceAdd, Nat.reduceMul, Nat.reduceBEq, Nat.reduceLT, Nat.reduceLeDiff, reduceIte, reduceCtorEq, Int.reduceToNat, Int.reduceLT, Int.reduceGT, Int.reduceNeg, Int.reduceBEq, Int.reduceBNe]
                      | false =>
                        have hn : ∀ s : LS, addS s [] = s := fun s => by simp [addS]
                        simp only [k3, Bool.false_eq_true, if_false, hn] at fin
                        simp only [layS, layT, blA]
                        refine goF (N := 104) Tryz.ntmps29 300 ?_
                        simp only [go_sem, Nat.reduceAdd, Nat.reduceMul, Nat.reduceBEq, Nat.reduceLT, Nat.reduceLeDiff, reduceIte, reduceCtorEq, Int.reduceToNat, Int.reduceLT, Int.reduceGT, Int.reduceNeg, Int.reduceBEq, Int.reduceBNe, k3]
                        refine ainv fin (Shift.weakS ?_ rfl)
                        simp only [wk, go_sem, Nat.reduceAdd, Nat.reduceMul, Nat.reduceBEq, Nat.reduceLT, Nat.reduceLeDiff, reduceIte, reduceCtorEq, Int.reduceToNat, Int.reduceLT, Int.reduceGT, Int.reduceNeg, Int.reduceBEq, Int.reduceBNe]
    · have di : decide ((i : Int) < (bs.length : Int)) = false := by simp; omega
      have hi : i = bs.length := by omega
      subst hi
      have hLL : layL bs = (if (layTo bs bs.length).page ≠ [] then flushS (layTo bs bs.length) else layTo bs bs.length) := rfl
      have hcm := costTo_mono bs (Nat.le_refl bs.length)
      rw [hLL]
      generalize layTo bs bs.length = s at g2 g3 g4 ⊢
      by_cases p0 : s.page = []
      · have dp : decide ((s.page.length : Int) > 0) = false := by rw [p0]; rfl
        rw [if_neg (by simpa using p0)]
        unfold layS
        refine AWp.shift (fin_shift s (e' := [(15, .int .i64 (bs.length : Nat)), (14, .int .i64 bs.length), (13, .fz 4 (bs.map blA)), (6, .fn (.func 67) [.ptr 1 1 0 0, .ptr 2 1 0 0, .ptr 3 1 0 0]), (5, .ptr 3 1 0 0), (4, .ptr 2 1 0 0), (3, .ptr 1 1 0 0), (2, .ptr 0 1 0 0)]) (fun id l h => ?_) (fun id l h => ?_) ?_) ?_
        · have : (7 == id) = false := by rw [beq_eq_false_iff_ne]; omega
          simp [frz, frz1, this]
        · simp only [frzB]
          rw [frz_map (fun _ => rfl)]
        · simp only [wk, frzE, frz, frz1, go_sem, Nat.reduceAdd, Nat.reduceMul, Nat.reduceBEq, Nat.reduceLT, Nat.reduceLeDiff, reduceIte, reduceCtorEq, Int.reduceToNat, Int.reduceLT, Int.reduceGT, Int.reduceNeg, Int.reduceBEq, Int.reduceBNe]
        simp only [layF]
        refine goF (N := 104) Tryz.ntmps29 300 ?_
        simp only [go_sem, Nat.reduceAdd, Nat.reduceMul, Nat.reduceBEq, Nat.reduceLT, Nat.reduceLeDiff, reduceIte, reduceCtorEq, Int.reduceToNat, Int.reduceLT, Int.reduceGT, Int.reduceNeg, Int.reduceBEq, Int.reduceBNe, di, dp, List.length_map]
        repeat refine And.intro (by first | omega | exact .inl trivial | rfl | (simp; done) | (simp; omega)) ?_
        exact aretc [.cell 2 47] rfl [_] ⟨by simp only [go_sem, Nat.reduceAdd, Nat.reduceMul, Nat.reduceBEq, Nat.reduceLT, Nat.reduceLeDiff, reduceIte, reduceCtorEq, Int.reduceToNat, Int.reduceLT, Int.reduceGT, Int.reduceNeg, Int.reduceBEq, Int.reduceBNe, sideIs], trivial⟩ ⟨rfl, rfl⟩
      · have hp1 : 0 < s.page.length := by
          cases hq : s.page with
          | nil => exact (p0 hq).elim
          | cons a r => simp
        have dp : decide ((s.page.length : Int) > 0) = true := by simp; omega
        rw [if_pos (by simpa using p0)]
        simp only [layS, layT]
        refine goF (N := 104) Tryz.ntmps29 300 ?_
        simp only [go_sem, Nat.reduceAdd, Nat.reduceMul, Nat.reduceBEq, Nat.reduceLT, Nat.reduceLeDiff, reduceIte, reduceCtorEq, Int.reduceToNat, Int.reduceLT, Int.reduceGT, Int.reduceNeg, Int.reduceBEq, Int.reduceBNe, di, dp, List.length_map]
        repeat refine And.intro (by first | omega | exact .inl trivial | rfl | (simp; done) | (simp; omega)) ?_
        refine acall (flush_ct s [] (fun _ => rfl) (by omega) (by omega)) (N := 104) Tryz.ntmps29 rfl ?_
        rintro _ _ ⟨rfl, rfl⟩
        refine AWp.shift (fin_shift (flushS s) (e' := [(15, .int .i64 (bs.length : Nat)), (14, .int .i64 bs.length), (13, .fz 4 (bs.map blA)), (6, .fn (.func 67) [.ptr 1 1 0 0, .ptr 2 1 0 0, .ptr 3 1 0 0]), (5, .ptr 3 1 0 0), (4, .ptr 2 1 0 0), (3, .ptr 1 1 0 0), (2, .ptr 0 1 0 0)]) (fun id l h => rfl) (fun id l h => rfl) ?_) ?_
        · simp only [wk, frzE, frz, frz1, go_sem, Nat.reduceAdd, Nat.reduceMul, Nat.reduceBEq, Nat.reduceLT, Nat.reduceLeDiff, reduceIte, reduceCtorEq, Int.reduceToNat, Int.reduceLT, Int.reduceGT, Int.reduceNeg, Int.reduceBEq, Int.reduceBNe]
        simp only [layF]
        refine goF (N := 104) Tryz.ntmps29 300 ?_
        simp only [go_sem, Nat.reduceAdd, Nat.reduceMul, Nat.reduceBEq, Nat.reduceLT, Nat.reduceLeDiff, reduceIte, reduceCtorEq, Int.reduceToNat, Int.reduceLT, Int.reduceGT, Int.reduceNeg, Int.reduceBEq, Int.reduceBNe]
        repeat refine And.intro (by first | omega | exact .inl trivial | rfl | (simp; done) | (simp; omega)) ?_
        exact aretc [.cell 2 47] rfl [_] ⟨by simp only [go_sem, Nat.reduceAdd, Nat.reduceMul, Nat.reduceBEq, Nat.reduceLT, Nat.reduceLeDiff, reduceIte, reduceCtorEq, Int.reduceToNat, Int.reduceLT, Int.reduceGT, Int.reduceNeg, Int.reduceBEq, Int.reduceBNe, sideIs], trivial⟩ ⟨rfl, rfl⟩
end Go.Proofs.YtikbgjhajgjjdaaGreatDoor
