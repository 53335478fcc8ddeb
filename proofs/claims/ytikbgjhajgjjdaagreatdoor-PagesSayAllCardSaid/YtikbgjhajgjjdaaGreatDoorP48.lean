/- What pages say, and what scenes say: walked. Own work of this seat. -/
import Derived.Test.YtikbgjhajgjjdaaGreatDoorP47
import Derived.Test.YtikbgjhajgjjdaaGreatDoorP28
set_option maxRecDepth 100000
set_option linter.unusedSimpArgs false
set_option linter.unusedVariables false
namespace Go.Proofs.YtikbgjhajgjjdaaGreatDoor
open Go Go.Av Go.RowKit
attribute [local go_sem ↓] br_true br_false dbr_true dbr_false dbri_true dbri_false dbrg_true dbrg_false
attribute [local go_sem] run cont br dbr dx dxc dgrd dyld dres dcall calm fieldPlace? allHas step1 opN grdN resN condN exitN stopN exitIt dOk xop xbin xint xarith xstr xbool xpick xnot xneg xextract xpart xpartOk xindex xfieldF fieldD xnew xbox xalloc xfieldAddr xptrAddIf xindexAddr xloadC xload putCells reElem xstoreB xstore xconv xtext xlen xlen2 xcall xfill xbuild cut rep xbuildSlice xbuildSliceD isRow elemD isU8 ev evs evp Go.Av.put Go.Av.get ofConst yldD yldV notBool_undef args0 cellsOf cond_true cond_false decide_true decide_false decide_eq_true_eq decide_eq_false_iff_not List.getElem?_cons_zero List.getElem?_cons_succ List.getElem?_nil List.getD_cons_zero List.getD_cons_succ List.getD_nil List.set_cons_zero List.set_cons_succ List.length_cons List.length_nil List.cons_append List.nil_append List.append_nil List.all_cons List.all_nil List.map_cons List.map_nil List.take_succ_cons List.take_zero List.drop_succ_cons List.drop_zero Bool.and_true Bool.true_and Bool.and_self Bool.and_false Bool.false_and one Go.Av.frozen beq_self_eq_true true_and and_true forall_const false_implies implies_true and_self Option.map_some Option.map_none Nat.zero_add Nat.add_zero Nat.zero_mul Nat.mul_one Nat.one_mul Int.toNat_zero ne_eq not_false_eq_true not_true_eq_false Bool.true_eq_false Bool.false_eq_true List.toList_toArray inr Go.Av.byteOf isByte decide_eq_decide Bool.not_true Bool.not_false Bool.not_eq_true' Bool.or_true Bool.true_or Bool.or_false Bool.false_or ge_iff_le gt_iff_lt and_assoc Bool.decide_eq_true beq_iff_eq beq_eq_false_iff_ne bne_iff_ne bne_self_eq_false if_true if_false Bool.and_eq_true Bool.or_eq_true Bool.and_eq_false_imp Bool.or_eq_false_iff Bool.not_eq_false' has Option.isSome_some Option.isSome_none Int.toNat_natCast Int.cast_ofNat_Int List.length_append xapp2 xapp xappS xappD xappB notInt srcOf srcB byteAV splice' xcut xcutS xcutF xcutB xcutN xcut0 cutL loOf hiOf evo xmake zelem xmax xcopy2 xcopyS xcopyB xnil xcut3 ixOf xclear2 xclearB List.getElem?_toArray xbin2 xnileq xempty xmkmap xmput xmputB xmputF isKey keyEq mfind xbin3 xeqs xeqop eqFs bothB leafEq xlook xlookB xlookF xbytes beq_c_n beq_n_c bne_c_n bne_n_c one_nil dxi dxic dbri rix dck reader blind opOk refOk Go.Op.operands Go.Call.operands List.contains_cons List.contains_nil dxg dxgc dbrg pck putD List.lookup_cons List.lookup_nil ts2 tb2 zl2 za2 Tryz.underlying2 ts3 tb3 zl3 za3 Tryz.underlying3 ts4 tb4 zl4 za4 Tryz.underlying4 ts5 tb5 zl5 za5 Tryz.underlying5 ts6 tb6 zl6 za6 Tryz.underlying6 ts7 tb7 za7 Tryz.underlying7 ts8 tb8 za8 Tryz.underlying8 ts9 tb9 zl9 za9 Tryz.underlying9 ts10 tb10 zl10 za10 Tryz.underlying10 ts11 tb11 zl11 za11 Tryz.underlying11 ts12 tb12 zl12 za12 Tryz.underlying12 ts13 tb13 za13 Tryz.underlying13 ts14 tb14 za14 Tryz.underlying14 ts18 tb18 za18 Tryz.underlying18 ts19 tb19 za19 Tryz.underlying19 ts21 tb21 zl21 za21 Tryz.underlying21 ts22 tb22 zl22 za22 Tryz.underlying22 ts24 tb24 za24 Tryz.underlying24 ts25 tb25 za25 Tryz.underlying25 ts26 tb26 zl26 za26 Tryz.underlying26 ts27 tb27 za27 Tryz.underlying27 ts28 tb28 za28 Tryz.underlying28 ts30 tb30 zl30 za30 Tryz.underlying30 ts31 tb31 zl31 za31 Tryz.underlying31 ts34 tb34 zl34 za34 Tryz.underlying34 ts35 tb35 zl35 za35 Tryz.underlying35 ts36 tb36 za36 Tryz.underlying36 ts37 tb37 za37 Tryz.underlying37 ts46 tb46 za46 Tryz.underlying46 ts47 tb47 za47 Tryz.underlying47 ts61 tb61 zl61 za61 Tryz.underlying61 ts62 tb62 za62 Tryz.underlying62 ts63 tb63 za63 Tryz.underlying63 ts66 tb66 zl66 za66 Tryz.underlying66 ts68 tb68 zl68 za68 Tryz.underlying68 ts74 tb74 za74 Tryz.underlying74 ts75 tb75 za75 Tryz.underlying75 ts77 tb77 zl77 za77 Tryz.underlying77 ts81 tb81 zl81 za81 Tryz.underlying81 ts82 tb82 za82 Tryz.underlying82 ts83 tb83 za83 Tryz.underlying83 ts86 tb86 zl86 za86 Tryz.underlying86 ts102 tb102 za102 Tryz.underlying102 ts103 tb103 za103 Tryz.underlying103 ts106 tb106 za106 Tryz.underlying106 ts107 tb107 za107 Tryz.underlying107 ts114 tb114 zl114 za114 Tryz.underlying114 ts117 tb117 zl117 za117 Tryz.underlying117 ts120 tb120 zl120 za120 Tryz.underlying120 ts133 tb133 zl133 za133 Tryz.underlying133 ts144 tb144 zl144 za144 Tryz.underlying144 ts151 tb151 zl151 za151 Tryz.underlying151 ts156 tb156 zl156 za156 Tryz.underlying156 ts160 tb160 Tryz.underlying160 ts169 tb169 za169 Tryz.underlying169 ts170 tb170 za170 Tryz.underlying170 ts175 tb175 Tryz.underlying175 ts180 tb180 za180 Tryz.underlying180 ts181 tb181 za181 Tryz.underlying181 ts185 tb185 za185 Tryz.underlying185 ts186 tb186 za186 Tryz.underlying186 ts187 tb187 Tryz.underlying187 ts189 tb189 Tryz.underlying189 ts190 tb190 Tryz.underlying190 ts191 tb191 za191 Tryz.underlying191 ts192 tb192 za192 Tryz.underlying192 ts196 tb196 zl196 za196 Tryz.underlying196 ts197 tb197 zl197 za197 Tryz.underlying197 ts199 tb199 zl199 za199 Tryz.underlying199 ts200 tb200 zl200 za200 Tryz.underlying200 ts201 tb201 za201 Tryz.underlying201 ts202 tb202 za202 Tryz.underlying202

def keepAt (n : Nat) (l : Ln) (i : Nat) : Bool := l != [] && (!addedL l i n && !Lib.hasSuffix l omitW)
theorem said_snoc (n : Nat) (x : Ln) : ∀ (l : List Ln) (i : Nat), saidGo n i (l ++ [x]) = saidGo n i l ++ (if keepAt n x (i + l.length) then [x] else [])
  | [], i => by simp [saidGo, keepAt]
  | y :: r, i => by
    have ih := said_snoc n x r (i + 1)
    simp only [List.cons_append, saidGo, ih, List.length_cons, show i + (r.length + 1) = i + 1 + r.length by omega]
    by_cases hk : (y != [] && (!addedL y i n && !Lib.hasSuffix y omitW)) = true
    · simp only [hk, if_true, List.cons_append]
    · simp only [hk, if_false]
      rfl
theorem said_len (n : Nat) : ∀ (l : List Ln) (i : Nat), (saidGo n i l).length ≤ l.length
  | [], _ => by simp [saidGo]
  | y :: r, i => by
    have ih := said_len n r (i + 1)
    simp only [saidGo]
    split <;> simp only [List.length_cons] <;> omega
def saidTo (ps : List (List Ln)) (i : Nat) : List Ln := (ps.take i).flatMap saidP
theorem saidTo_step {ps : List (List Ln)} {i : Nat} (h : i < ps.length) : saidTo ps (i + 1) = saidTo ps i ++ saidP ps[i] := by
  unfold saidTo
  rw [List.take_succ_eq_append_getElem h, List.flatMap_append, List.flatMap_cons, List.flatMap_nil, List.append_nil]
theorem saidTo_len {ps : List (List Ln)} (h : ∀ p ∈ ps, p.length ≤ 54) : ∀ i, i ≤ ps.length → (saidTo ps i).length ≤ 54 * i
  | 0, _ => by simp [saidTo]
  | i + 1, hi => by
    have ih := saidTo_len h i (by omega)
    have h2 := h _ (List.getElem_mem (show i < ps.length by omega))
    have h3 := said_len ps[i].length ps[i] 0
    rw [saidTo_step (by omega), List.length_append]
    unfold saidP
    omega

set_option maxHeartbeats 4000000 in
theorem said_pch {St : Std} (hS : LibOk St) (ps : List (List Ln)) (hp : ∀ p ∈ ps, p.length ≤ 54) (hl : ∀ p ∈ ps, ∀ l ∈ p, l.length < 100000000) (hn : ps.length ≤ 10000000000) : PcH Tryz.prog St 9 [.fz 1 (ps.map pgA)] (· = .fz 1 ((ps.flatMap saidP).map .str)) := by
  have hr := repeat_pc [32] 20 (by simp) (by omega)
  have hbl := blanks_len 20
  refine pch_intro (cth_intro Tryz.func9 rfl Tryz.ntmps9 hB9 (by simp) fun h ρ w hg => goF (N := 64) Tryz.ntmps9 300 ?_)
  simp only [go_sem, Nat.reduceAdd, Nat.reduceMul, Nat.reduceBEq, Nat.reduceLT, Nat.reduceLeDiff, reduceIte, reduceCtorEq, Int.reduceToNat, Int.reduceLT, Int.reduceGT, Int.reduceNeg, Int.reduceBEq, Int.reduceBNe, List.length_map]
  refine aloop (ι := Nat) (fun i => ps.length - i) (fun i => [(11, .int .i64 i), (10, .int .i64 ps.length), (9, .fz 1 (ps.map pgA)), (3, .sl 0 0 (saidTo ps i).length (saidTo ps i).length)])
    (fun i => [.arr 1 ((saidTo ps i).map .str)]) (fun i => i ≤ ps.length) 0 (by omega) ?_ ?_
  · refine Shift.trans (Shift.nilsl 3 1 rfl) (Shift.weakS ?_ rfl)
    simp only [wk, go_sem, Nat.reduceAdd, Nat.reduceMul, Nat.reduceBEq, Nat.reduceLT, Nat.reduceLeDiff, reduceIte, reduceCtorEq, Int.reduceToNat, Int.reduceLT, Int.reduceGT, Int.reduceNeg, Int.reduceBEq, Int.reduceBNe]
    rfl
  · intro i g1 J hJ
    by_cases gi : i < ps.length
    · have di : decide ((i : Int) < (ps.length : Int)) = true := by simp; omega
      have hg' : List.getD (List.map pgA ps) i .any = .fz 1 (ps[i].map .str) := by simp [List.getD, gi, pgA]
      have fin := hJ (i + 1) (by omega) (by omega)
      rw [saidTo_step gi] at fin
      have hpi := hp _ (List.getElem_mem gi)
      have hli := hl _ (List.getElem_mem gi)
      have hsl := saidTo_len hp i g1
      generalize saidTo ps i = dn at fin hsl ⊢
      generalize hpp : ps[i] = p at hg' fin hpi hli
      refine goF (N := 64) Tryz.ntmps9 300 ?_
      simp only [go_sem, Nat.reduceAdd, Nat.reduceMul, Nat.reduceBEq, Nat.reduceLT, Nat.reduceLeDiff, reduceIte, reduceCtorEq, Int.reduceToNat, Int.reduceLT, Int.reduceGT, Int.reduceNeg, Int.reduceBEq, Int.reduceBNe, di, hg', List.length_map]
      repeat refine And.intro (by first | omega | exact .inl trivial | rfl | (simp; done) | (simp; omega)) ?_
      refine aloop (ι := Nat) (fun k => p.length - k) (fun k => [(17, .int .i64 k), (16, .int .i64 p.length), (15, .fz 1 (p.map .str)), (5, .fz 1 (p.map .str)), (11, .int .i64 i), (10, .int .i64 ps.length), (9, .fz 1 (ps.map pgA)), (3, .sl 0 0 (dn.length + (saidGo p.length 0 (p.take k)).length) (dn.length + (saidGo p.length 0 (p.take k)).length))])
        (fun k => [.arr 1 ((dn ++ saidGo p.length 0 (p.take k)).map .str)]) (fun k => k ≤ p.length) 0 (by omega) ?_ ?_
      · refine Shift.weakS ?_ (by simp [saidGo])
        simp only [wk, go_sem, Nat.reduceAdd, Nat.reduceMul, Nat.reduceBEq, Nat.reduceLT, Nat.reduceLeDiff, reduceIte, reduceCtorEq, Int.reduceToNat, Int.reduceLT, Int.reduceGT, Int.reduceNeg, Int.reduceBEq, Int.reduceBNe, List.take_zero, saidGo, List.length_nil, Nat.add_zero]
      · intro k g2 J2 hJ2
        by_cases gk : k < p.length
        · have dk : decide ((k : Int) < (p.length : Int)) = true := by simp; omega
          have hgk : List.getD (List.map AV.str p) k .any = .str p[k] := by simp [List.getD, gk]
          have fin2 := hJ2 (k + 1) (by omega) (by omega)
          rw [List.take_succ_eq_append_getElem gk, said_snoc, Nat.zero_add, show (p.take k).length = k by simp; omega] at fin2
          have hlk := hli _ (List.getElem_mem gk)
          have hsk := said_len p.length (p.take k) 0
          rw [show (p.take k).length = k by simp; omega] at hsk
          generalize saidGo p.length 0 (p.take k) = sk at fin2 hsk ⊢
          generalize p[k] = l at hgk fin2 hlk
          refine goF (N := 64) Tryz.ntmps9 25 ?_
          simp only [go_sem, Nat.reduceAdd, Nat.reduceMul, Nat.reduceBEq, Nat.reduceLT, Nat.reduceLeDiff, reduceIte, reduceCtorEq, Int.reduceToNat, Int.reduceLT, Int.reduceGT, Int.reduceNeg, Int.reduceBEq, Int.reduceBNe, dk, hgk, List.length_map]
          repeat refine And.intro (by first | omega | exact .inl trivial | rfl | (simp; done) | (simp; omega)) ?_
          have hk1 : ((k : Int) == (p.length : Int) - 1) = (k + 1 == p.length) := by rw [Bool.eq_iff_iff, beq_iff_eq, beq_iff_eq]; omega
          have hzk : (k == 0) = ((k : Int) == 0) := by rw [Bool.eq_iff_iff, beq_iff_eq, beq_iff_eq]; omega
          refine acut (ι := Unit) (fun _ => [(8, .bool (addedL l k p.length)), (7, .str l), (17, .int .i64 k), (16, .int .i64 p.length), (15, .fz 1 (p.map .str)), (5, .fz 1 (p.map .str)), (11, .int .i64 i), (10, .int .i64 ps.length), (9, .fz 1 (ps.map pgA)), (3, .sl 0 0 (dn.length + sk.length) (dn.length + sk.length))]) (fun _ => [.arr 1 ((dn ++ sk).map .str)]) (fun _ => True) ?_ ?_
          · intro Jc hJc
            have fc := hJc () trivial
            cases m1 : (l == Lib.repeatL [32] 20 ++ [40, 77, 79, 82, 69, 41]) with
            | false =>
              have m1' : (l == moreLn) = false := m1
              cases z : ((k : Int) == 0) with
              | false =>
                have had : addedL l k p.length = false := by unfold addedL; rw [hzk, m1']; simp [z]
                rw [had] at fc
                refine goF (N := 64) Tryz.ntmps9 300 ?_
                simp only [go_sem, Nat.reduceAdd, Nat.reduceMul, Nat.reduceBEq, Nat.reduceLT, Nat.reduceLeDiff, reduceIte, reduceCtorEq, Int.reduceToNat, Int.reduceLT, Int.reduceGT, Int.reduceNeg, Int.reduceBEq, Int.reduceBNe]
                repeat refine And.intro (by first | omega | exact .inl trivial | rfl | (simp; done) | (simp; omega)) ?_
                refine pcall1 (hr) rfl (N := 64) Tryz.ntmps9 rfl (goF (N := 64) Tryz.ntmps9 300 ?_)
                simp only [go_sem, Nat.reduceAdd, Nat.reduceMul, Nat.reduceBEq, Nat.reduceLT, Nat.reduceLeDiff, reduceIte, reduceCtorEq, Int.reduceToNat, Int.reduceLT, Int.reduceGT, Int.reduceNeg, Int.reduceBEq, Int.reduceBNe, m1, z, List.length_map]
                repeat refine And.intro (by first | omega | exact .inl trivial | rfl | (simp; done) | (simp; omega)) ?_
                refine ainv fc (Shift.weak ?_)
                simp only [wk, go_sem, Nat.reduceAdd, Nat.reduceMul, Nat.reduceBEq, Nat.reduceLT, Nat.reduceLeDiff, reduceIte, reduceCtorEq, Int.reduceToNat, Int.reduceLT, Int.reduceGT, Int.reduceNeg, Int.reduceBEq, Int.reduceBNe]
              | true =>
                cases hsf : Lib.hasSuffix l contW with
                | false =>
                  have had : addedL l k p.length = false := by unfold addedL; rw [hzk, m1', hsf]; simp
                  rw [had] at fc
                  refine goF (N := 64) Tryz.ntmps9 300 ?_
                  simp only [go_sem, Nat.reduceAdd, Nat.reduceMul, Nat.reduceBEq, Nat.reduceLT, Nat.reduceLeDiff, reduceIte, reduceCtorEq, Int.reduceToNat, Int.reduceLT, Int.reduceGT, Int.reduceNeg, Int.reduceBEq, Int.reduceBNe]
                  repeat refine And.intro (by first | omega | exact .inl trivial | rfl | (simp; done) | (simp; omega)) ?_
                  refine pcall1 (hr) rfl (N := 64) Tryz.ntmps9 rfl (goF (N := 64) Tryz.ntmps9 300 ?_)
                  simp only [go_sem, Nat.reduceAdd, Nat.reduceMul, Nat.reduceBEq, Nat.reduceLT, Nat.reduceLeDiff, reduceIte, reduceCtorEq, Int.reduceToNat, Int.reduceLT, Int.reduceGT, Int.reduceNeg, Int.reduceBEq, Int.reduceBNe, m1, z, List.length_map]
                  repeat refine And.intro (by first | omega | exact .inl trivial | rfl | (simp; done) | (simp; omega)) ?_
                  refine pcall1 (hasSuffix_pc l contW (by omega)) rfl (N := 64) Tryz.ntmps9 rfl (goF (N := 64) Tryz.ntmps9 300 ?_)
                  simp only [go_sem, Nat.reduceAdd, Nat.reduceMul, Nat.reduceBEq, Nat.reduceLT, Nat.reduceLeDiff, reduceIte, reduceCtorEq, Int.reduceToNat, Int.reduceLT, Int.reduceGT, Int.reduceNeg, Int.reduceBEq, Int.reduceBNe, hsf]
                  repeat refine And.intro (by first | omega | exact .inl trivial | rfl | (simp; done) | (simp; omega)) ?_
                  refine ainv fc (Shift.weak ?_)
                  simp only [wk, go_sem, Nat.reduceAdd, Nat.reduceMul, Nat.reduceBEq, Nat.reduceLT, Nat.reduceLeDiff, reduceIte, reduceCtorEq, Int.reduceToNat, Int.reduceLT, Int.reduceGT, Int.reduceNeg, Int.reduceBEq, Int.reduceBNe]
                | true =>
                  cases hpf : Lib.hasPrefix l (Lib.repeatL [32] 20) with
                  | false =>
                    have had : addedL l k p.length = false := by unfold addedL; rw [hzk, m1', hsf, ← blanks20_eq, hpf, z]; rfl
                    rw [had] at fc
                    refine goF (N := 64) Tryz.ntmps9 300 ?_
                    simp only [go_sem, Nat.reduceAdd, Nat.reduceMul, Nat.reduceBEq, Nat.reduceLT, Nat.reduceLeDiff, reduceIte, reduceCtorEq, Int.reduceToNat, Int.reduceLT, Int.reduceGT, Int.reduceNeg, Int.reduceBEq, Int.reduceBNe]
                    repeat refine And.intro (by first | omega | exact .inl trivial | rfl | (simp; done) | (simp; omega)) ?_
                    refine pcall1 (hr) rfl (N := 64) Tryz.ntmps9 rfl (goF (N := 64) Tryz.ntmps9 300 ?_)
                    simp only [go_sem, Nat.reduceAdd, Nat.reduceMul, Nat.reduceBEq, Nat.reduceLT, Nat.reduceLeDiff, reduceIte, reduceCtorEq, Int.reduceToNat, Int.reduceLT, Int.reduceGT, Int.reduceNeg, Int.reduceBEq, Int.reduceBNe, m1, z, List.length_map]
                    repeat refine And.intro (by first | omega | exact .inl trivial | rfl | (simp; done) | (simp; omega)) ?_
                    refine pcall1 (hasSuffix_pc l contW (by omega)) rfl (N := 64) Tryz.ntmps9 rfl (goF (N := 64) Tryz.ntmps9 300 ?_)
                    simp only [go_sem, Nat.reduceAdd, Nat.reduceMul, Nat.reduceBEq, Nat.reduceLT, Nat.reduceLeDiff, reduceIte, reduceCtorEq, Int.reduceToNat, Int.reduceLT, Int.reduceGT, Int.reduceNeg, Int.reduceBEq, Int.reduceBNe, hsf]
                    repeat refine And.intro (by first | omega | exact .inl trivial | rfl | (simp; done) | (simp; omega)) ?_
                    refine pcall1 (hr) rfl (N := 64) Tryz.ntmps9 rfl (goF (N := 64) Tryz.ntmps9 300 ?_)
                    simp only [go_sem, Nat.reduceAdd, Nat.reduceMul, Nat.reduceBEq, Nat.reduceLT, Nat.reduceLeDiff, reduceIte, reduceCtorEq, Int.reduceToNat, Int.reduceLT, Int.reduceGT, Int.reduceNeg, Int.reduceBEq, Int.reduceBNe]
                    repeat refine And.intro (by first | omega | exact .inl trivial | rfl | (simp; done) | (simp; omega)) ?_
                    refine pcall1 (hasPrefix_pc l (Lib.repeatL [32] 20)) rfl (N := 64) Tryz.ntmps9 rfl (goF (N := 64) Tryz.ntmps9 300 ?_)
                    simp only [go_sem, Nat.reduceAdd, Nat.reduceMul, Nat.reduceBEq, Nat.reduceLT, Nat.reduceLeDiff, reduceIte, reduceCtorEq, Int.reduceToNat, Int.reduceLT, Int.reduceGT, Int.reduceNeg, Int.reduceBEq, Int.reduceBNe, hpf]
                    repeat refine And.intro (by first | omega | exact .inl trivial | rfl | (simp; done) | (simp; omega)) ?_
                    refine ainv fc (Shift.weak ?_)
                    simp only [wk, go_sem, Nat.reduceAdd, Nat.reduceMul, Nat.reduceBEq, Nat.reduceLT, Nat.reduceLeDiff, reduceIte, reduceCtorEq, Int.reduceToNat, Int.reduceLT, Int.reduceGT, Int.reduceNeg, Int.reduceBEq, Int.reduceBNe]
                  | true =>
                    have had : addedL l k p.length = true := by unfold addedL; rw [hzk, m1', hsf, ← blanks20_eq, hpf, z]; rfl
                    rw [had] at fc
                    refine goF (N := 64) Tryz.ntmps9 300 ?_
                    simp only [go_sem, Nat.reduceAdd, Nat.reduceMul, Nat.reduceBEq, Nat.reduceLT, Nat.reduceLeDiff, reduceIte, reduceCtorEq, Int.reduceToNat, Int.reduceLT, Int.reduceGT, Int.reduceNeg, Int.reduceBEq, Int.reduceBNe]
                    repeat refine And.intro (by first | omega | exact .inl trivial | rfl | (simp; done) | (simp; omega)) ?_
                    refine pcall1 (hr) rfl (N := 64) Tryz.ntmps9 rfl (goF (N := 64) Tryz.ntmps9 300 ?_)
                    simp only [go_sem, Nat.reduceAdd, Nat.reduceMul, Nat.reduceBEq, Nat.reduceLT, Nat.reduceLeDiff, reduceIte, reduceCtorEq, Int.reduceToNat, Int.reduceLT, Int.reduceGT, Int.reduceNeg, Int.reduceBEq, Int.reduceBNe, m1, z, List.length_map]
                    repeat refine And.intro (by first | omega | exact .inl trivial | rfl | (simp; done) | (simp; omega)) ?_
                    refine pcall1 (hasSuffix_pc l contW (by omega)) rfl (N := 64) Tryz.ntmps9 rfl (goF (N := 64) Tryz.ntmps9 300 ?_)
                    simp only [go_sem, Nat.reduceAdd, Nat.reduceMul, Nat.reduceBEq, Nat.reduceLT, Nat.reduceLeDiff, reduceIte, reduceCtorEq, Int.reduceToNat, Int.reduceLT, Int.reduceGT, Int.reduceNeg, Int.reduceBEq, Int.reduceBNe, hsf]
                    repeat refine And.intro (by first | omega | exact .inl trivial | rfl | (simp; done) | (simp; omega)) ?_
                    refine pcall1 (hr) rfl (N := 64) Tryz.ntmps9 rfl (goF (N := 64) Tryz.ntmps9 300 ?_)
                    simp only [go_sem, Nat.reduceAdd, Nat.reduceMul, Nat.reduceBEq, Nat.reduceLT, Nat.reduceLeDiff, reduceIte, reduceCtorEq, Int.reduceToNat, Int.reduceLT, Int.reduceGT, Int.reduceNeg, Int.reduceBEq, Int.reduceBNe]
                    repeat refine And.intro (by first | omega | exact .inl trivial | rfl | (simp; done) | (simp; omega)) ?_
                    refine pcall1 (hasPrefix_pc l (Lib.repeatL [32] 20)) rfl (N := 64) Tryz.ntmps9 rfl (goF (N := 64) Tryz.ntmps9 300 ?_)
                    simp only [go_sem, Nat.reduceAdd, Nat.reduceMul, Nat.reduceBEq, Nat.reduceLT, Nat.reduceLeDiff, reduceIte, reduceCtorEq, Int.reduceToNat, Int.reduceLT, Int.reduceGT, Int.reduceNeg, Int.reduceBEq, Int.reduceBNe, hpf]
                    repeat refine And.intro (by first | omega | exact .inl trivial | rfl | (simp; done) | (simp; omega)) ?_
                    refine ainv fc (Shift.weak ?_)
                    simp only [wk, go_sem, Nat.reduceAdd, Nat.reduceMul, Nat.reduceBEq, Nat.reduceLT, Nat.reduceLeDiff, reduceIte, reduceCtorEq, Int.reduceToNat, Int.reduceLT, Int.reduceGT, Int.reduceNeg, Int.reduceBEq, Int.reduceBNe]
            | true =>
              have m1' : (l == moreLn) = true := m1
              cases m2 : ((k : Int) == (p.length : Int) - 1) with
              | false =>
                have m2' : (k + 1 == p.length) = false := by rw [← hk1, m2]
                cases z : ((k : Int) == 0) with
                | false =>
                  have had : addedL l k p.length = false := by unfold addedL; rw [hzk, m1', m2']; simp [z]
                  rw [had] at fc
                  refine goF (N := 64) Tryz.ntmps9 300 ?_
                  simp only [go_sem, Nat.reduceAdd, Nat.reduceMul, Nat.reduceBEq, Nat.reduceLT, Nat.reduceLeDiff, reduceIte, reduceCtorEq, Int.reduceToNat, Int.reduceLT, Int.reduceGT, Int.reduceNeg, Int.reduceBEq, Int.reduceBNe]
                  repeat refine And.intro (by first | omega | exact .inl trivial | rfl | (simp; done) | (simp; omega)) ?_
                  refine pcall1 (hr) rfl (N := 64) Tryz.ntmps9 rfl (goF (N := 64) Tryz.ntmps9 300 ?_)
                  simp only [go_sem, Nat.reduceAdd, Nat.reduceMul, Nat.reduceBEq, Nat.reduceLT, Nat.reduceLeDiff, reduceIte, reduceCtorEq, Int.reduceToNat, Int.reduceLT, Int.reduceGT, Int.reduceNeg, Int.reduceBEq, Int.reduceBNe, m1, m2, z, List.length_map]
                  repeat refine And.intro (by first | omega | exact .inl trivial | rfl | (simp; done) | (simp; omega)) ?_
                  refine ainv fc (Shift.weak ?_)
                  simp only [wk, go_sem, Nat.reduceAdd, Nat.reduceMul, Nat.reduceBEq, Nat.reduceLT, Nat.reduceLeDiff, reduceIte, reduceCtorEq, Int.reduceToNat, Int.reduceLT, Int.reduceGT, Int.reduceNeg, Int.reduceBEq, Int.reduceBNe]
                | true =>
                  cases hsf : Lib.hasSuffix l contW with
                  | false =>
                    have had : addedL l k p.length = false := by unfold addedL; rw [hzk, m1', m2', hsf]; simp
                    rw [had] at fc
                    refine goF (N := 64) Tryz.ntmps9 300 ?_
                    simp only [go_sem, Nat.reduceAdd, Nat.reduceMul, Nat.reduceBEq, Nat.reduceLT, Nat.reduceLeDiff, reduceIte, reduceCtorEq, Int.reduceToNat, Int.reduceLT, Int.reduceGT, Int.reduceNeg, Int.reduceBEq, Int.reduceBNe]
                    repeat refine And.intro (by first | omega | exact .inl trivial | rfl | (simp; done) | (simp; omega)) ?_
                    refine pcall1 (hr) rfl (N := 64) Tryz.ntmps9 rfl (goF (N := 64) Tryz.ntmps9 300 ?_)
                    simp only [go_sem, Nat.reduceAdd, Nat.reduceMul, Nat.reduceBEq, Nat.reduceLT, Nat.reduceLeDiff, reduceIte, reduceCtorEq, Int.reduceToNat, Int.reduceLT, Int.reduceGT, Int.reduceNeg, Int.reduceBEq, Int.reduceBNe, m1, m2, z, List.length_map]
                    repeat refine And.intro (by first | omega | exact .inl trivial | rfl | (simp; done) | (simp; omega)) ?_
                    refine pcall1 (hasSuffix_pc l contW (by omega)) rfl (N := 64) Tryz.ntmps9 rfl (goF (N := 64) Tryz.ntmps9 300 ?_)
                    simp only [go_sem, Nat.reduceAdd, Nat.reduceMul, Nat.reduceBEq, Nat.reduceLT, Nat.reduceLeDiff, reduceIte, reduceCtorEq, Int.reduceToNat, Int.reduceLT, Int.reduceGT, Int.reduceNeg, Int.reduceBEq, Int.reduceBNe, hsf]
                    repeat refine And.intro (by first | omega | exact .inl trivial | rfl | (simp; done) | (simp; omega)) ?_
                    refine ainv fc (Shift.weak ?_)
                    simp only [wk, go_sem, Nat.reduceAdd, Nat.reduceMul, Nat.reduceBEq, Nat.reduceLT, Nat.reduceLeDiff, reduceIte, reduceCtorEq, Int.reduceToNat, Int.reduceLT, Int.reduceGT, Int.reduceNeg, Int.reduceBEq, Int.reduceBNe]
                  | true =>
                    cases hpf : Lib.hasPrefix l (Lib.repeatL [32] 20) with
                    | false =>
                      have had : addedL l k p.length = false := by unfold addedL; rw [hzk, m1', m2', hsf, ← blanks20_eq, hpf, z]; rfl
                      rw [had] at fc
                      refine goF (N := 64) Tryz.ntmps9 300 ?_
                      simp only [go_sem, Nat.reduceAdd, Nat.reduceMul, Nat.reduceBEq, Nat.reduceLT, Nat.reduceLeDiff, reduceIte, reduceCtorEq, Int.reduceToNat, Int.reduceLT, Int.reduceGT, Int.reduceNeg, Int.reduceBEq, Int.reduceBNe]
                      repeat refine And.intro (by first | omega | exact .inl trivial | rfl | (simp; done) | (simp; omega)) ?_
                      refine pcall1 (hr) rfl (N := 64) Tryz.ntmps9 rfl (goF (N := 64) Tryz.ntmps9 300 ?_)
                      simp only [go_sem, Nat.reduceAdd, Nat.reduceMul, Nat.reduceBEq, Nat.reduceLT, Nat.reduceLeDiff, reduceIte, reduceCtorEq, Int.reduceToNat, Int.reduceLT, Int.reduceGT, Int.reduceNeg, Int.reduceBEq, Int.reduceBNe, m1, m2, z, List.length_map]
                      repeat refine And.intro (by first | omega | exact .inl trivial | rfl | (simp; done) | (simp; omega)) ?_
                      refine pcall1 (hasSuffix_pc l contW (by omega)) rfl (N := 64) Tryz.ntmps9 rfl (goF (N := 64) Tryz.ntmps9 300 ?_)
                      simp only [go_sem, Nat.reduceAdd, Nat.reduceMul, Nat.reduceBEq, Nat.reduceLT, Nat.reduceLeDiff, reduceIte, reduceCtorEq, Int.reduceToNat, Int.reduceLT, Int.reduceGT, Int.reduceNeg, Int.reduceBEq, Int.reduceBNe, hsf]
                      repeat refine And.intro (by first | omega | exact .inl trivial | rfl | (simp; done) | (simp; omega)) ?_
                      refine pcall1 (hr) rfl (N := 64) Tryz.ntmps9 rfl (goF (N := 64) Tryz.ntmps9 300 ?_)
                      simp only [go_sem, Nat.reduceAdd, Nat.reduceMul, Nat.reduceBEq, Nat.reduceLT, Nat.reduceLeDiff, reduceIte, reduceCtorEq, Int.reduceToNat, Int.reduceLT, Int.reduceGT, Int.reduceNeg, Int.reduceBEq, Int.reduceBNe]
                      repeat refine And.intro (by first | omega | exact .inl trivial | rfl | (simp; done) | (simp; omega)) ?_
                      refine pcall1 (hasPrefix_pc l (Lib.repeatL [32] 20)) rfl (N := 64) Tryz.ntmps9 rfl (goF (N := 64) Tryz.ntmps9 300 ?_)
                      simp only [go_sem, Nat.reduceAdd, Nat.reduceMul, Nat.reduceBEq, Nat.reduceLT, Nat.reduceLeDiff, reduceIte, reduceCtorEq, Int.reduceToNat, Int.reduceLT, Int.reduceGT, Int.reduceNeg, Int.reduceBEq, Int.reduceBNe, hpf]
                      repeat refine And.intro (by first | omega | exact .inl trivial | rfl | (simp; done) | (simp; omega)) ?_
                      refine ainv fc (Shift.weak ?_)
                      simp only [wk, go_sem, Nat.reduceAdd, Nat.reduceMul, Nat.reduceBEq, Nat.reduceLT, Nat.reduceLeDiff, reduceIte, reduceCtorEq, Int.reduceToNat, Int.reduceLT, Int.reduceGT, Int.reduceNeg, Int.reduceBEq, Int.reduceBNe]
                    | true =>
                      have had : addedL l k p.length = true := by unfold addedL; rw [hzk, m1', m2', hsf, ← blanks20_eq, hpf, z]; rfl
                      rw [had] at fc
                      refine goF (N := 64) Tryz.ntmps9 300 ?_
                      simp only [go_sem, Nat.reduceAdd, Nat.reduceMul, Nat.reduceBEq, Nat.reduceLT, Nat.reduceLeDiff, reduceIte, reduceCtorEq, Int.reduceToNat, Int.reduceLT, Int.reduceGT, Int.reduceNeg, Int.reduceBEq, Int.reduceBNe]
                      repeat refine And.intro (by first | omega | exact .inl trivial | rfl | (simp; done) | (simp; omega)) ?_
                      refine pcall1 (hr) rfl (N := 64) Tryz.ntmps9 rfl (goF (N := 64) Tryz.ntmps9 300 ?_)
                      simp only [go_sem, Nat.reduceAdd, Nat.reduceMul, Nat.reduceBEq, Nat.reduceLT, Nat.reduceLeDiff, reduceIte, reduceCtorEq, Int.reduceToNat, Int.reduceLT, Int.reduceGT, Int.reduceNeg, Int.reduceBEq, Int.reduceBNe, m1, m2, z, List.length_map]
                      repeat refine And.intro (by first | omega | exact .inl trivial | rfl | (simp; done) | (simp; omega)) ?_
                      refine pcall1 (hasSuffix_pc l contW (by omega)) rfl (N := 64) Tryz.ntmps9 rfl (goF (N := 64) Tryz.ntmps9 300 ?_)
                      simp only [go_sem, Nat.reduceAdd, Nat.reduceMul, Nat.reduceBEq, Nat.reduceLT, Nat.reduceLeDiff, reduceIte, reduceCtorEq, Int.reduceToNat, Int.reduceLT, Int.reduceGT, Int.reduceNeg, Int.reduceBEq, Int.reduceBNe, hsf]
                      repeat refine And.intro (by first | omega | exact .inl trivial | rfl | (simp; done) | (simp; omega)) ?_
                      refine pcall1 (hr) rfl (N := 64) Tryz.ntmps9 rfl (goF (N := 64) Tryz.ntmps9 300 ?_)
                      simp only [go_sem, Nat.reduceAdd, Nat.reduceMul, Nat.reduceBEq, Nat.reduceLT, Nat.reduceLeDiff, reduceIte, reduceCtorEq, Int.reduceToNat, Int.reduceLT, Int.reduceGT, Int.reduceNeg, Int.reduceBEq, Int.reduceBNe]
                      repeat refine And.intro (by first | omega | exact .inl trivial | rfl | (simp; done) | (simp; omega)) ?_
                      refine pcall1 (hasPrefix_pc l (Lib.repeatL [32] 20)) rfl (N := 64) Tryz.ntmps9 rfl (goF (N := 64) Tryz.ntmps9 300 ?_)
                      simp only [go_sem, Nat.reduceAdd, Nat.reduceMul, Nat.reduceBEq, Nat.reduceLT, Nat.reduceLeDiff, reduceIte, reduceCtorEq, Int.reduceToNat, Int.reduceLT, Int.reduceGT, Int.reduceNeg, Int.reduceBEq, Int.reduceBNe, hpf]
                      repeat refine And.intro (by first | omega | exact .inl trivial | rfl | (simp; done) | (simp; omega)) ?_
                      refine ainv fc (Shift.weak ?_)
                      simp only [wk, go_sem, Nat.reduceAdd, Nat.reduceMul, Nat.reduceBEq, Nat.reduceLT, Nat.reduceLeDiff, reduceIte, reduceCtorEq, Int.reduceToNat, Int.reduceLT, Int.reduceGT, Int.reduceNeg, Int.reduceBEq, Int.reduceBNe]
              | true =>
                have m2' : (k + 1 == p.length) = true := by rw [← hk1, m2]
                have had : addedL l k p.length = true := by unfold addedL; rw [m1', m2']; rfl
                rw [had] at fc
                refine goF (N := 64) Tryz.ntmps9 300 ?_
                simp only [go_sem, Nat.reduceAdd, Nat.reduceMul, Nat.reduceBEq, Nat.reduceLT, Nat.reduceLeDiff, reduceIte, reduceCtorEq, Int.reduceToNat, Int.reduceLT, Int.reduceGT, Int.reduceNeg, Int.reduceBEq, Int.reduceBNe]
                repeat refine And.intro (by first | omega | exact .inl trivial | rfl | (simp; done) | (simp; omega)) ?_
                refine pcall1 (hr) rfl (N := 64) Tryz.ntmps9 rfl (goF (N := 64) Tryz.ntmps9 300 ?_)
                simp only [go_sem, Nat.reduceAdd, Nat.reduceMul, Nat.reduceBEq, Nat.reduceLT, Nat.reduceLeDiff, reduceIte, reduceCtorEq, Int.reduceToNat, Int.reduceLT, Int.reduceGT, Int.reduceNeg, Int.reduceBEq, Int.reduceBNe, m1, m2, List.length_map]
                repeat refine And.intro (by first | omega | exact .inl trivial | rfl | (simp; done) | (simp; omega)) ?_
                refine ainv fc (Shift.weak ?_)
                simp only [wk, go_sem, Nat.reduceAdd, Nat.reduceMul, Nat.reduceBEq, Nat.reduceLT, Nat.reduceLeDiff, reduceIte, reduceCtorEq, Int.reduceToNat, Int.reduceLT, Int.reduceGT, Int.reduceNeg, Int.reduceBEq, Int.reduceBNe]
          · rintro ⟨⟩ _
            have hka : keepAt p.length l k = (l != [] && (!addedL l k p.length && !Lib.hasSuffix l omitW)) := rfl
            cases e1 : (l != []) with
            | false =>
              rw [hka, e1, Bool.false_and, if_neg (by simp), List.append_nil] at fin2
              refine goF (N := 64) Tryz.ntmps9 300 ?_
              simp only [go_sem, Nat.reduceAdd, Nat.reduceMul, Nat.reduceBEq, Nat.reduceLT, Nat.reduceLeDiff, reduceIte, reduceCtorEq, Int.reduceToNat, Int.reduceLT, Int.reduceGT, Int.reduceNeg, Int.reduceBEq, Int.reduceBNe, e1]
              repeat refine And.intro (by first | omega | exact .inl trivial | rfl | (simp; done) | (simp; omega)) ?_
              rw [show (k : Int) + 1 = ((k + 1 : Nat) : Int) by omega]
              refine ainv fin2 (Shift.weakS ?_ rfl)
              simp only [wk, go_sem, Nat.reduceAdd, Nat.reduceMul, Nat.reduceBEq, Nat.reduceLT, Nat.reduceLeDiff, reduceIte, reduceCtorEq, Int.reduceToNat, Int.reduceLT, Int.reduceGT, Int.reduceNeg, Int.reduceBEq, Int.reduceBNe]
            | true =>
              cases e2 : addedL l k p.length with
              | true =>
                rw [hka, e1, e2, if_neg (by simp), List.append_nil] at fin2
                refine goF (N := 64) Tryz.ntmps9 300 ?_
                simp only [go_sem, Nat.reduceAdd, Nat.reduceMul, Nat.reduceBEq, Nat.reduceLT, Nat.reduceLeDiff, reduceIte, reduceCtorEq, Int.reduceToNat, Int.reduceLT, Int.reduceGT, Int.reduceNeg, Int.reduceBEq, Int.reduceBNe, e1, e2]
                repeat refine And.intro (by first | omega | exact .inl trivial | rfl | (simp; done) | (simp; omega)) ?_
                rw [show (k : Int) + 1 = ((k + 1 : Nat) : Int) by omega]
                refine ainv fin2 (Shift.weakS ?_ rfl)
                simp only [wk, go_sem, Nat.reduceAdd, Nat.reduceMul, Nat.reduceBEq, Nat.reduceLT, Nat.reduceLeDiff, reduceIte, reduceCtorEq, Int.reduceToNat, Int.reduceLT, Int.reduceGT, Int.reduceNeg, Int.reduceBEq, Int.reduceBNe]
              | false =>
                cases e3 : Lib.hasSuffix l omitW with
                | true =>
                  rw [hka, e1, e2, e3, if_neg (by simp), List.append_nil] at fin2
                  refine goF (N := 64) Tryz.ntmps9 300 ?_
                  simp only [go_sem, Nat.reduceAdd, Nat.reduceMul, Nat.reduceBEq, Nat.reduceLT, Nat.reduceLeDiff, reduceIte, reduceCtorEq, Int.reduceToNat, Int.reduceLT, Int.reduceGT, Int.reduceNeg, Int.reduceBEq, Int.reduceBNe, e1, e2]
                  repeat refine And.intro (by first | omega | exact .inl trivial | rfl | (simp; done) | (simp; omega)) ?_
                  refine pcall1 (hasSuffix_pc l omitW (by omega)) rfl (N := 64) Tryz.ntmps9 rfl (goF (N := 64) Tryz.ntmps9 300 ?_)
                  simp only [go_sem, Nat.reduceAdd, Nat.reduceMul, Nat.reduceBEq, Nat.reduceLT, Nat.reduceLeDiff, reduceIte, reduceCtorEq, Int.reduceToNat, Int.reduceLT, Int.reduceGT, Int.reduceNeg, Int.reduceBEq, Int.reduceBNe, e3]
                  repeat refine And.intro (by first | omega | exact .inl trivial | rfl | (simp; done) | (simp; omega)) ?_
                  rw [show (k : Int) + 1 = ((k + 1 : Nat) : Int) by omega]
                  refine ainv fin2 (Shift.weakS ?_ rfl)
                  simp only [wk, go_sem, Nat.reduceAdd, Nat.reduceMul, Nat.reduceBEq, Nat.reduceLT, Nat.reduceLeDiff, reduceIte, reduceCtorEq, Int.reduceToNat, Int.reduceLT, Int.reduceGT, Int.reduceNeg, Int.reduceBEq, Int.reduceBNe]
                | false =>
                  rw [hka, e1, e2, e3, if_pos (by simp)] at fin2
                  refine goF (N := 64) Tryz.ntmps9 300 ?_
                  simp only [go_sem, Nat.reduceAdd, Nat.reduceMul, Nat.reduceBEq, Nat.reduceLT, Nat.reduceLeDiff, reduceIte, reduceCtorEq, Int.reduceToNat, Int.reduceLT, Int.reduceGT, Int.reduceNeg, Int.reduceBEq, Int.reduceBNe, e1, e2]
                  repeat refine And.intro (by first | omega | exact .inl trivial | rfl | (simp; done) | (simp; omega)) ?_
                  refine pcall1 (hasSuffix_pc l omitW (by omega)) rfl (N := 64) Tryz.ntmps9 rfl (goF (N := 64) Tryz.ntmps9 300 ?_)
                  simp only [go_sem, Nat.reduceAdd, Nat.reduceMul, Nat.reduceBEq, Nat.reduceLT, Nat.reduceLeDiff, reduceIte, reduceCtorEq, Int.reduceToNat, Int.reduceLT, Int.reduceGT, Int.reduceNeg, Int.reduceBEq, Int.reduceBNe, e3, List.length_map, List.length_append]
                  repeat refine And.intro (by first | omega | exact .inl trivial | rfl | (simp; done) | (simp; omega)) ?_
                  rw [show (k : Int) + 1 = ((k + 1 : Nat) : Int) by omega]
                  refine ainv fin2 ?_
                  refine Shift.weakS ?_ (by simp)
                  simp only [wk, go_sem, Nat.reduceAdd, Nat.reduceMul, Nat.reduceBEq, Nat.reduceLT, Nat.reduceLeDiff, reduceIte, reduceCtorEq, Int.reduceToNat, Int.reduceLT, Int.reduceGT, Int.reduceNeg, Int.reduceBEq, Int.reduceBNe, List.length_append, List.length_cons, List.length_nil, Nat.add_assoc]
        · have dk : decide ((k : Int) < (p.length : Int)) = false := by simp; omega
          have hk : k = p.length := by omega
          subst hk
          rw [List.take_length]
          refine goF (N := 64) Tryz.ntmps9 300 ?_
          simp only [go_sem, Nat.reduceAdd, Nat.reduceMul, Nat.reduceBEq, Nat.reduceLT, Nat.reduceLeDiff, reduceIte, reduceCtorEq, Int.reduceToNat, Int.reduceLT, Int.reduceGT, Int.reduceNeg, Int.reduceBEq, Int.reduceBNe, dk]
          repeat refine And.intro (by first | omega | exact .inl trivial | rfl | (simp; done) | (simp; omega)) ?_
          rw [show (i : Int) + 1 = ((i + 1 : Nat) : Int) by omega]
          refine ainv fin ?_
          refine Shift.weakS ?_ rfl
          simp only [wk, go_sem, Nat.reduceAdd, Nat.reduceMul, Nat.reduceBEq, Nat.reduceLT, Nat.reduceLeDiff, reduceIte, reduceCtorEq, Int.reduceToNat, Int.reduceLT, Int.reduceGT, Int.reduceNeg, Int.reduceBEq, Int.reduceBNe, saidP, List.length_append]
    · have di : decide ((i : Int) < (ps.length : Int)) = false := by simp; omega
      have hi : i = ps.length := by omega
      subst hi
      have ha : saidTo ps ps.length = ps.flatMap saidP := by unfold saidTo; rw [List.take_length]
      rw [ha]
      refine goF (N := 64) Tryz.ntmps9 300 ?_
      simp only [go_sem, Nat.reduceAdd, Nat.reduceMul, Nat.reduceBEq, Nat.reduceLT, Nat.reduceLeDiff, reduceIte, reduceCtorEq, Int.reduceToNat, Int.reduceLT, Int.reduceGT, Int.reduceNeg, Int.reduceBEq, Int.reduceBNe, di]
      exact ARet.shift (Shift.freeze 2 (id := 0) rfl rfl (by simp) (Nat.le_refl _) (frozen_lns _)) (aret [2] rfl ⟨by simp only [resV, Av.get, put, go_sem, Nat.reduceAdd, Nat.reduceMul, Nat.reduceBEq, Nat.reduceLT, Nat.reduceLeDiff, reduceIte, reduceCtorEq, Int.reduceToNat, Int.reduceLT, Int.reduceGT, Int.reduceNeg, Int.reduceBEq, Int.reduceBNe]; simp [List.take_of_length_le], rfl⟩)
end Go.Proofs.YtikbgjhajgjjdaaGreatDoor
