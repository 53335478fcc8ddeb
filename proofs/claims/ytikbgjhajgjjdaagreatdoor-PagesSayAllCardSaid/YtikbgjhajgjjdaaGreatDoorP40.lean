/- What the layout of pages asks of a block. Own work of this seat. -/
import Derived.Test.YtikbgjhajgjjdaaGreatDoorP39
import Derived.Test.YtikbgjhajgjjdaaGreatDoorP32
import Derived.Test.YtikbgjhajgjjdaaGreatDoorP26
import Derived.Lib.AppendIntMem
set_option maxRecDepth 100000
set_option linter.unusedSimpArgs false
set_option linter.unusedVariables false
namespace Go.Proofs.YtikbgjhajgjjdaaGreatDoor
open Go Go.Av Go.RowKit
attribute [local go_sem ↓] br_true br_false dbr_true dbr_false dbri_true dbri_false dbrg_true dbrg_false
attribute [local go_sem] run cont br dbr dx dxc dgrd dyld dres dcall calm fieldPlace? allHas step1 opN grdN resN condN exitN stopN exitIt dOk xop xbin xint xarith xstr xbool xpick xnot xneg xextract xpart xpartOk xindex xfieldF fieldD xnew xbox xalloc xfieldAddr xptrAddIf xindexAddr xloadC xload putCells reElem xstoreB xstore xconv xtext xlen xlen2 xcall xfill xbuild cut rep xbuildSlice xbuildSliceD isRow elemD isU8 ev evs evp Go.Av.put Go.Av.get ofConst yldD yldV notBool_undef args0 cellsOf cond_true cond_false decide_true decide_false decide_eq_true_eq decide_eq_false_iff_not List.getElem?_cons_zero List.getElem?_cons_succ List.getElem?_nil List.getD_cons_zero List.getD_cons_succ List.getD_nil List.set_cons_zero List.set_cons_succ List.length_cons List.length_nil List.cons_append List.nil_append List.append_nil List.all_cons List.all_nil List.map_cons List.map_nil List.take_succ_cons List.take_zero List.drop_succ_cons List.drop_zero Bool.and_true Bool.true_and Bool.and_self Bool.and_false Bool.false_and one Go.Av.frozen beq_self_eq_true true_and and_true forall_const false_implies implies_true and_self Option.map_some Option.map_none Nat.zero_add Nat.add_zero Nat.zero_mul Nat.mul_one Nat.one_mul Int.toNat_zero ne_eq not_false_eq_true not_true_eq_false Bool.true_eq_false Bool.false_eq_true List.toList_toArray inr Go.Av.byteOf isByte decide_eq_decide Bool.not_true Bool.not_false Bool.not_eq_true' Bool.or_true Bool.true_or Bool.or_false Bool.false_or ge_iff_le gt_iff_lt and_assoc Bool.decide_eq_true beq_iff_eq beq_eq_false_iff_ne bne_iff_ne bne_self_eq_false if_true if_false Bool.and_eq_true Bool.or_eq_true Bool.and_eq_false_imp Bool.or_eq_false_iff Bool.not_eq_false' has Option.isSome_some Option.isSome_none Int.toNat_natCast Int.cast_ofNat_Int List.length_append xapp2 xapp xappS xappD xappB notInt srcOf srcB byteAV splice' xcut xcutS xcutF xcutB xcutN xcut0 cutL loOf hiOf evo xmake zelem xmax xcopy2 xcopyS xcopyB xnil xcut3 ixOf xclear2 xclearB List.getElem?_toArray xbin2 xnileq xempty xmkmap xmput xmputB xmputF isKey keyEq mfind xbin3 xeqs xeqop eqFs bothB leafEq xlook xlookB xlookF xbytes beq_c_n beq_n_c bne_c_n bne_n_c one_nil dxi dxic dbri rix dck reader blind opOk refOk Go.Op.operands Go.Call.operands List.contains_cons List.contains_nil dxg dxgc dbrg pck putD List.lookup_cons List.lookup_nil ts2 tb2 zl2 za2 Tryz.underlying2 ts3 tb3 zl3 za3 Tryz.underlying3 ts4 tb4 zl4 za4 Tryz.underlying4 ts5 tb5 zl5 za5 Tryz.underlying5 ts6 tb6 zl6 za6 Tryz.underlying6 ts7 tb7 za7 Tryz.underlying7 ts8 tb8 za8 Tryz.underlying8 ts9 tb9 zl9 za9 Tryz.underlying9 ts10 tb10 zl10 za10 Tryz.underlying10 ts11 tb11 zl11 za11 Tryz.underlying11 ts12 tb12 zl12 za12 Tryz.underlying12 ts13 tb13 za13 Tryz.underlying13 ts14 tb14 za14 Tryz.underlying14 ts18 tb18 za18 Tryz.underlying18 ts19 tb19 za19 Tryz.underlying19 ts21 tb21 zl21 za21 Tryz.underlying21 ts22 tb22 zl22 za22 Tryz.underlying22 ts24 tb24 za24 Tryz.underlying24 ts25 tb25 za25 Tryz.underlying25 ts26 tb26 zl26 za26 Tryz.underlying26 ts27 tb27 za27 Tryz.underlying27 ts28 tb28 za28 Tryz.underlying28 ts30 tb30 zl30 za30 Tryz.underlying30 ts31 tb31 zl31 za31 Tryz.underlying31 ts34 tb34 zl34 za34 Tryz.underlying34 ts35 tb35 zl35 za35 Tryz.underlying35 ts36 tb36 za36 Tryz.underlying36 ts37 tb37 za37 Tryz.underlying37 ts46 tb46 za46 Tryz.underlying46 ts47 tb47 za47 Tryz.underlying47 ts61 tb61 zl61 za61 Tryz.underlying61 ts62 tb62 za62 Tryz.underlying62 ts63 tb63 za63 Tryz.underlying63 ts66 tb66 zl66 za66 Tryz.underlying66 ts68 tb68 zl68 za68 Tryz.underlying68 ts74 tb74 za74 Tryz.underlying74 ts75 tb75 za75 Tryz.underlying75 ts77 tb77 zl77 za77 Tryz.underlying77 ts81 tb81 zl81 za81 Tryz.underlying81 ts82 tb82 za82 Tryz.underlying82 ts83 tb83 za83 Tryz.underlying83 ts86 tb86 zl86 za86 Tryz.underlying86 ts102 tb102 za102 Tryz.underlying102 ts103 tb103 za103 Tryz.underlying103 ts106 tb106 za106 Tryz.underlying106 ts107 tb107 za107 Tryz.underlying107 ts114 tb114 zl114 za114 Tryz.underlying114 ts117 tb117 zl117 za117 Tryz.underlying117 ts120 tb120 zl120 za120 Tryz.underlying120 ts133 tb133 zl133 za133 Tryz.underlying133 ts144 tb144 zl144 za144 Tryz.underlying144 ts151 tb151 zl151 za151 Tryz.underlying151 ts156 tb156 zl156 za156 Tryz.underlying156 ts160 tb160 Tryz.underlying160 ts169 tb169 za169 Tryz.underlying169 ts170 tb170 za170 Tryz.underlying170 ts175 tb175 Tryz.underlying175 ts180 tb180 za180 Tryz.underlying180 ts181 tb181 za181 Tryz.underlying181 ts185 tb185 za185 Tryz.underlying185 ts186 tb186 za186 Tryz.underlying186 ts187 tb187 Tryz.underlying187 ts189 tb189 Tryz.underlying189 ts190 tb190 Tryz.underlying190 ts191 tb191 za191 Tryz.underlying191 ts192 tb192 za192 Tryz.underlying192 ts196 tb196 zl196 za196 Tryz.underlying196 ts197 tb197 zl197 za197 Tryz.underlying197 ts199 tb199 zl199 za199 Tryz.underlying199 ts200 tb200 zl200 za200 Tryz.underlying200 ts201 tb201 za201 Tryz.underlying201 ts202 tb202 za202 Tryz.underlying202

theorem more_pc : Pc Tryz.prog 71 [] (· = .str moreLn) := by
  have hr := repeat_pc [32] 20 (by simp) (by omega)
  have hbl := blanks_len 20
  refine pc_intro (ct_intro Tryz.func71 rfl Tryz.ntmps71 hB71 (by simp) fun h ρ w => go (N := 3) Tryz.ntmps71 300 ?_)
  simp only [go_sem, Nat.reduceAdd, Nat.reduceMul, Nat.reduceBEq, Nat.reduceLT, Nat.reduceLeDiff, reduceIte, reduceCtorEq, Int.reduceToNat, Int.reduceLT, Int.reduceGT, Int.reduceNeg, Int.reduceBEq, Int.reduceBNe]
  refine pcall1 (hr) rfl (N := 3) Tryz.ntmps71 rfl (go (N := 3) Tryz.ntmps71 300 ?_)
  simp only [go_sem, Nat.reduceAdd, Nat.reduceMul, Nat.reduceBEq, Nat.reduceLT, Nat.reduceLeDiff, reduceIte, reduceCtorEq, Int.reduceToNat, Int.reduceLT, Int.reduceGT, Int.reduceNeg, Int.reduceBEq, Int.reduceBNe]
  repeat refine And.intro (by first | omega | exact .inl trivial | rfl | (simp; done) | (simp; omega)) ?_
  exact aret [0] rfl ⟨rfl, rfl⟩

theorem goesOn_pc (b : Bl) (hl : b.name.length < 1000000) : Pc Tryz.prog 72 [blA b] (· = .str (goesLn b)) := by
  have hr := repeat_pc [32] 20 (by simp) (by omega)
  have hbl := blanks_len 20
  simp only [blA]
  refine pc_intro (ct_intro Tryz.func72 rfl Tryz.ntmps72 hB72 (by simp) fun h ρ w => go (N := 8) Tryz.ntmps72 300 ?_)
  simp only [go_sem, Nat.reduceAdd, Nat.reduceMul, Nat.reduceBEq, Nat.reduceLT, Nat.reduceLeDiff, reduceIte, reduceCtorEq, Int.reduceToNat, Int.reduceLT, Int.reduceGT, Int.reduceNeg, Int.reduceBEq, Int.reduceBNe]
  refine adraw [.str (Lib.repeatL [32] 20)] mixed (by decide) (N := 8) Tryz.ntmps72 (by decide) 100 ?_
  simp only [go_sem, Nat.reduceAdd, Nat.reduceMul, Nat.reduceBEq, Nat.reduceLT, Nat.reduceLeDiff, reduceIte, reduceCtorEq, Int.reduceToNat, Int.reduceLT, Int.reduceGT, Int.reduceNeg, Int.reduceBEq, Int.reduceBNe]
  repeat refine And.intro (by first | omega | exact hr.at | exact .inl trivial | rfl | (simp; done) | (simp; omega)) ?_
  refine go (N := 8) Tryz.ntmps72 300 ?_
  simp only [go_sem, Nat.reduceAdd, Nat.reduceMul, Nat.reduceBEq, Nat.reduceLT, Nat.reduceLeDiff, reduceIte, reduceCtorEq, Int.reduceToNat, Int.reduceLT, Int.reduceGT, Int.reduceNeg, Int.reduceBEq, Int.reduceBNe]
  exact aret [2] rfl ⟨rfl, rfl⟩

set_option maxHeartbeats 1000000 in
theorem breaks_pc (b : Bl) (fr k : Nat) (h1 : 1 ≤ k) (hk : b.kind = 3 → k ≤ b.kinds.length) (hn : b.lines.length ≤ 100000000) (hf : fr ≤ 100000000) (hk2 : k ≤ 100000000) : Pc Tryz.prog 103 [blA b, .int .i64 (fr : Int), .int .i64 (k : Int)] (· = .bool (breaksL b fr k)) := by
  unfold breaksL
  simp only [blA]
  cases k1 : b.kind == 1 with
  | true =>
    simp only [if_true]
    cases d1 : decide ((k : Int) - fr ≥ 2) with
    | true =>
      refine pc_intro (ct_intro Tryz.func103 rfl Tryz.ntmps103 hB103 (by simp) fun h ρ w => go (N := 48) Tryz.ntmps103 300 ?_)
      simp only [go_sem, Nat.reduceAdd, Nat.reduceMul, Nat.reduceBEq, Nat.reduceLT, Nat.reduceLeDiff, reduceIte, reduceCtorEq, Int.reduceToNat, Int.reduceLT, Int.reduceGT, Int.reduceNeg, Int.reduceBEq, Int.reduceBNe]
      refine adraw [] mixed (by decide) (N := 48) Tryz.ntmps103 (by decide) 100 ?_
      simp only [go_sem, Nat.reduceAdd, Nat.reduceMul, Nat.reduceBEq, Nat.reduceLT, Nat.reduceLeDiff, reduceIte, reduceCtorEq, Int.reduceToNat, Int.reduceLT, Int.reduceGT, Int.reduceNeg, Int.reduceBEq, Int.reduceBNe, List.length_map]
      repeat refine And.intro (by first | omega | exact .inl trivial | rfl | (simp; done) | (simp; omega)) ?_
      refine go (N := 48) Tryz.ntmps103 300 ?_
      simp only [go_sem, Nat.reduceAdd, Nat.reduceMul, Nat.reduceBEq, Nat.reduceLT, Nat.reduceLeDiff, reduceIte, reduceCtorEq, Int.reduceToNat, Int.reduceLT, Int.reduceGT, Int.reduceNeg, Int.reduceBEq, Int.reduceBNe, k1, d1]
      exact aret [6] rfl ⟨rfl, rfl⟩
    | false =>
      refine pc_intro (ct_intro Tryz.func103 rfl Tryz.ntmps103 hB103 (by simp) fun h ρ w => go (N := 48) Tryz.ntmps103 300 ?_)
      simp only [go_sem, Nat.reduceAdd, Nat.reduceMul, Nat.reduceBEq, Nat.reduceLT, Nat.reduceLeDiff, reduceIte, reduceCtorEq, Int.reduceToNat, Int.reduceLT, Int.reduceGT, Int.reduceNeg, Int.reduceBEq, Int.reduceBNe]
      refine adraw [] mixed (by decide) (N := 48) Tryz.ntmps103 (by decide) 100 ?_
      simp only [go_sem, Nat.reduceAdd, Nat.reduceMul, Nat.reduceBEq, Nat.reduceLT, Nat.reduceLeDiff, reduceIte, reduceCtorEq, Int.reduceToNat, Int.reduceLT, Int.reduceGT, Int.reduceNeg, Int.reduceBEq, Int.reduceBNe, List.length_map]
      repeat refine And.intro (by first | omega | exact .inl trivial | rfl | (simp; done) | (simp; omega)) ?_
      refine go (N := 48) Tryz.ntmps103 300 ?_
      simp only [go_sem, Nat.reduceAdd, Nat.reduceMul, Nat.reduceBEq, Nat.reduceLT, Nat.reduceLeDiff, reduceIte, reduceCtorEq, Int.reduceToNat, Int.reduceLT, Int.reduceGT, Int.reduceNeg, Int.reduceBEq, Int.reduceBNe, k1, d1]
      exact aret [6] rfl ⟨rfl, rfl⟩
  | false =>
    simp only [Bool.false_eq_true, if_false]
    cases k3 : b.kind == 3 with
    | false =>
      refine pc_intro (ct_intro Tryz.func103 rfl Tryz.ntmps103 hB103 (by simp) fun h ρ w => go (N := 48) Tryz.ntmps103 300 ?_)
      simp only [go_sem, Nat.reduceAdd, Nat.reduceMul, Nat.reduceBEq, Nat.reduceLT, Nat.reduceLeDiff, reduceIte, reduceCtorEq, Int.reduceToNat, Int.reduceLT, Int.reduceGT, Int.reduceNeg, Int.reduceBEq, Int.reduceBNe]
      refine adraw [] mixed (by decide) (N := 48) Tryz.ntmps103 (by decide) 100 ?_
      simp only [go_sem, Nat.reduceAdd, Nat.reduceMul, Nat.reduceBEq, Nat.reduceLT, Nat.reduceLeDiff, reduceIte, reduceCtorEq, Int.reduceToNat, Int.reduceLT, Int.reduceGT, Int.reduceNeg, Int.reduceBEq, Int.reduceBNe, List.length_map]
      repeat refine And.intro (by first | omega | exact .inl trivial | rfl | (simp; done) | (simp; omega)) ?_
      refine go (N := 48) Tryz.ntmps103 300 ?_
      simp only [go_sem, Nat.reduceAdd, Nat.reduceMul, Nat.reduceBEq, Nat.reduceLT, Nat.reduceLeDiff, reduceIte, reduceCtorEq, Int.reduceToNat, Int.reduceLT, Int.reduceGT, Int.reduceNeg, Int.reduceBEq, Int.reduceBNe, k1, k3]
      exact aret [6] rfl ⟨rfl, rfl⟩
    | true =>
      simp only [if_true]
      have hkk := hk (by simpa using k3)
      have hi : ((k : Int) - 1).toNat = k - 1 := by omega
      have hg : List.getD (b.kinds.map (AV.int .i64)) (k - 1) .any = .int .i64 (b.kinds.getD (k - 1) 0) := by
        have : k - 1 < b.kinds.length := by omega
        simp [List.getD, this]
      have e1 : (k : Int) - 1 = ((k - 1 : Nat) : Int) := by omega
      by_cases f0 : fr = 0
      · have d0 : ((fr : Int) == 0) = true := by simp [f0]
        simp only [f0, if_true, Int.natCast_zero]
        rw [f0] at d0
        cases q1 : b.kinds.getD (k - 1) 0 == 2 with
        | false =>
          refine pc_intro (ct_intro Tryz.func103 rfl Tryz.ntmps103 hB103 (by simp) fun h ρ w => go (N := 48) Tryz.ntmps103 300 ?_)
          simp only [go_sem, Nat.reduceAdd, Nat.reduceMul, Nat.reduceBEq, Nat.reduceLT, Nat.reduceLeDiff, reduceIte, reduceCtorEq, Int.reduceToNat, Int.reduceLT, Int.reduceGT, Int.reduceNeg, Int.reduceBEq, Int.reduceBNe]
          refine adraw [] mixed (by decide) (N := 48) Tryz.ntmps103 (by decide) 100 ?_
          simp only [go_sem, Nat.reduceAdd, Nat.reduceMul, Nat.reduceBEq, Nat.reduceLT, Nat.reduceLeDiff, reduceIte, reduceCtorEq, Int.reduceToNat, Int.reduceLT, Int.reduceGT, Int.reduceNeg, Int.reduceBEq, Int.reduceBNe, List.length_map]
          repeat refine And.intro (by first | omega | exact .inl trivial | rfl | (simp; done) | (simp; omega)) ?_
          refine go (N := 48) Tryz.ntmps103 300 ?_
          simp only [go_sem, Nat.reduceAdd, Nat.reduceMul, Nat.reduceBEq, Nat.reduceLT, Nat.reduceLeDiff, reduceIte, reduceCtorEq, Int.reduceToNat, Int.reduceLT, Int.reduceGT, Int.reduceNeg, Int.reduceBEq, Int.reduceBNe, k1, k3, d0, hi, hg, q1, List.length_map]
          repeat refine And.intro (by first | omega | exact .inl trivial | rfl | (simp; done) | (simp; omega)) ?_
          exact aret [6] rfl ⟨rfl, rfl⟩
        | true =>
          cases d1 : decide ((k : Int) - 0 - 1 ≥ 2) with
          | false =>
            refine pc_intro (ct_intro Tryz.func103 rfl Tryz.ntmps103 hB103 (by simp) fun h ρ w => go (N := 48) Tryz.ntmps103 300 ?_)
            simp only [go_sem, Nat.reduceAdd, Nat.reduceMul, Nat.reduceBEq, Nat.reduceLT, Nat.reduceLeDiff, reduceIte, reduceCtorEq, Int.reduceToNat, Int.reduceLT, Int.reduceGT, Int.reduceNeg, Int.reduceBEq, Int.reduceBNe]
            refine adraw [] mixed (by decide) (N := 48) Tryz.ntmps103 (by decide) 100 ?_
            simp only [go_sem, Nat.reduceAdd, Nat.reduceMul, Nat.reduceBEq, Nat.reduceLT, Nat.reduceLeDiff, reduceIte, reduceCtorEq, Int.reduceToNat, Int.reduceLT, Int.reduceGT, Int.reduceNeg, Int.reduceBEq, Int.reduceBNe, List.length_map]
            repeat refine And.intro (by first | omega | exact .inl trivial | rfl | (simp; done) | (simp; omega)) ?_
            refine go (N := 48) Tryz.ntmps103 300 ?_
            simp only [go_sem, Nat.reduceAdd, Nat.reduceMul, Nat.reduceBEq, Nat.reduceLT, Nat.reduceLeDiff, reduceIte, reduceCtorEq, Int.reduceToNat, Int.reduceLT, Int.reduceGT, Int.reduceNeg, Int.reduceBEq, Int.reduceBNe, k1, k3, d0, hi, hg, q1, d1, List.length_map]
            repeat refine And.intro (by first | omega | exact .inl trivial | rfl | (simp; done) | (simp; omega)) ?_
            exact aret [6] rfl ⟨rfl, rfl⟩
          | true =>
            refine pc_intro (ct_intro Tryz.func103 rfl Tryz.ntmps103 hB103 (by simp) fun h ρ w => go (N := 48) Tryz.ntmps103 300 ?_)
            simp only [go_sem, Nat.reduceAdd, Nat.reduceMul, Nat.reduceBEq, Nat.reduceLT, Nat.reduceLeDiff, reduceIte, reduceCtorEq, Int.reduceToNat, Int.reduceLT, Int.reduceGT, Int.reduceNeg, Int.reduceBEq, Int.reduceBNe]
            refine adraw [] mixed (by decide) (N := 48) Tryz.ntmps103 (by decide) 100 ?_
            simp only [go_sem, Nat.reduceAdd, Nat.reduceMul, Nat.reduceBEq, Nat.reduceLT, Nat.reduceLeDiff, reduceIte, reduceCtorEq, Int.reduceToNat, Int.reduceLT, Int.reduceGT, Int.reduceNeg, Int.reduceBEq, Int.reduceBNe, List.length_map]
            repeat refine And.intro (by first | omega | exact .inl trivial | rfl | (simp; done) | (simp; omega)) ?_
            refine go (N := 48) Tryz.ntmps103 300 ?_
            simp only [go_sem, Nat.reduceAdd, Nat.reduceMul, Nat.reduceBEq, Nat.reduceLT, Nat.reduceLeDiff, reduceIte, reduceCtorEq, Int.reduceToNat, Int.reduceLT, Int.reduceGT, Int.reduceNeg, Int.reduceBEq, Int.reduceBNe, k1, k3, d0, hi, hg, q1, d1, List.length_map]
            repeat refine And.intro (by first | omega | exact .inl trivial | rfl | (simp; done) | (simp; omega)) ?_
            exact aret [6] rfl ⟨rfl, rfl⟩
      · have d0 : ((fr : Int) == 0) = false := by rw [beq_eq_false_iff_ne]; omega
        simp only [f0, if_false, Int.sub_zero]
        cases q1 : b.kinds.getD (k - 1) 0 == 2 with
        | false =>
          refine pc_intro (ct_intro Tryz.func103 rfl Tryz.ntmps103 hB103 (by simp) fun h ρ w => go (N := 48) Tryz.ntmps103 300 ?_)
          simp only [go_sem, Nat.reduceAdd, Nat.reduceMul, Nat.reduceBEq, Nat.reduceLT, Nat.reduceLeDiff, reduceIte, reduceCtorEq, Int.reduceToNat, Int.reduceLT, Int.reduceGT, Int.reduceNeg, Int.reduceBEq, Int.reduceBNe]
          refine adraw [] mixed (by decide) (N := 48) Tryz.ntmps103 (by decide) 100 ?_
          simp only [go_sem, Nat.reduceAdd, Nat.reduceMul, Nat.reduceBEq, Nat.reduceLT, Nat.reduceLeDiff, reduceIte, reduceCtorEq, Int.reduceToNat, Int.reduceLT, Int.reduceGT, Int.reduceNeg, Int.reduceBEq, Int.reduceBNe, List.length_map]
          repeat refine And.intro (by first | omega | exact .inl trivial | rfl | (simp; done) | (simp; omega)) ?_
          refine go (N := 48) Tryz.ntmps103 300 ?_
          simp only [go_sem, Nat.reduceAdd, Nat.reduceMul, Nat.reduceBEq, Nat.reduceLT, Nat.reduceLeDiff, reduceIte, reduceCtorEq, Int.reduceToNat, Int.reduceLT, Int.reduceGT, Int.reduceNeg, Int.reduceBEq, Int.reduceBNe, k1, k3, d0, hi, hg, q1, List.length_map]
          repeat refine And.intro (by first | omega | exact .inl trivial | rfl | (simp; done) | (simp; omega)) ?_
          exact aret [6] rfl ⟨rfl, rfl⟩
        | true =>
          cases d1 : decide ((k : Int) - fr ≥ 2) with
          | false =>
            refine pc_intro (ct_intro Tryz.func103 rfl Tryz.ntmps103 hB103 (by simp) fun h ρ w => go (N := 48) Tryz.ntmps103 300 ?_)
            simp only [go_sem, Nat.reduceAdd, Nat.reduceMul, Nat.reduceBEq, Nat.reduceLT, Nat.reduceLeDiff, reduceIte, reduceCtorEq, Int.reduceToNat, Int.reduceLT, Int.reduceGT, Int.reduceNeg, Int.reduceBEq, Int.reduceBNe]
            refine adraw [] mixed (by decide) (N := 48) Tryz.ntmps103 (by decide) 100 ?_
            simp only [go_sem, Nat.reduceAdd, Nat.reduceMul, Nat.reduceBEq, Nat.reduceLT, Nat.reduceLeDiff, reduceIte, reduceCtorEq, Int.reduceToNat, Int.reduceLT, Int.reduceGT, Int.reduceNeg, Int.reduceBEq, Int.reduceBNe, List.length_map]
            repeat refine And.intro (by first | omega | exact .inl trivial | rfl | (simp; done) | (simp; omega)) ?_
            refine go (N := 48) Tryz.ntmps103 300 ?_
            simp only [go_sem, Nat.reduceAdd, Nat.reduceMul, Nat.reduceBEq, Nat.reduceLT, Nat.reduceLeDiff, reduceIte, reduceCtorEq, Int.reduceToNat, Int.reduceLT, Int.reduceGT, Int.reduceNeg, Int.reduceBEq, Int.reduceBNe, k1, k3, d0, hi, hg, q1, d1, List.length_map]
            repeat refine And.intro (by first | omega | exact .inl trivial | rfl | (simp; done) | (simp; omega)) ?_
            exact aret [6] rfl ⟨rfl, rfl⟩
          | true =>
            refine pc_intro (ct_intro Tryz.func103 rfl Tryz.ntmps103 hB103 (by simp) fun h ρ w => go (N := 48) Tryz.ntmps103 300 ?_)
            simp only [go_sem, Nat.reduceAdd, Nat.reduceMul, Nat.reduceBEq, Nat.reduceLT, Nat.reduceLeDiff, reduceIte, reduceCtorEq, Int.reduceToNat, Int.reduceLT, Int.reduceGT, Int.reduceNeg, Int.reduceBEq, Int.reduceBNe]
            refine adraw [] mixed (by decide) (N := 48) Tryz.ntmps103 (by decide) 100 ?_
            simp only [go_sem, Nat.reduceAdd, Nat.reduceMul, Nat.reduceBEq, Nat.reduceLT, Nat.reduceLeDiff, reduceIte, reduceCtorEq, Int.reduceToNat, Int.reduceLT, Int.reduceGT, Int.reduceNeg, Int.reduceBEq, Int.reduceBNe, List.length_map]
            repeat refine And.intro (by first | omega | exact .inl trivial | rfl | (simp; done) | (simp; omega)) ?_
            refine go (N := 48) Tryz.ntmps103 300 ?_
            simp only [go_sem, Nat.reduceAdd, Nat.reduceMul, Nat.reduceBEq, Nat.reduceLT, Nat.reduceLeDiff, reduceIte, reduceCtorEq, Int.reduceToNat, Int.reduceLT, Int.reduceGT, Int.reduceNeg, Int.reduceBEq, Int.reduceBNe, k1, k3, d0, hi, hg, q1, d1, List.length_map]
            repeat refine And.intro (by first | omega | exact .inl trivial | rfl | (simp; done) | (simp; omega)) ?_
            exact aret [6] rfl ⟨rfl, rfl⟩
end Go.Proofs.YtikbgjhajgjjdaaGreatDoor
/- Numbers of scenes: the next one, the one between two others. Own work of this seat. -/
set_option maxRecDepth 100000
set_option linter.unusedSimpArgs false
set_option linter.unusedVariables false
namespace Go.Proofs.YtikbgjhajgjjdaaGreatDoor
open Go Go.Av Go.RowKit

theorem itoa_pch {S : Std} (hS : LibOk S) (n : Int) (h0 : -9223372036854775808 ≤ n) (h1 : n ≤ 9223372036854775807) : PcH Tryz.prog S 44 [.int .i64 n] (· = .str (Lib.itoa n)) :=
  pch_lib [_] (.string ⟨(Lib.itoa n).toArray⟩) hB44 (one_int .i64 n) (fun h => .str _) fun w H => by
    obtain ⟨t, z, hp⟩ := hS.pow10
    refine (Any.strconv_Itoa Tryz.laysM171 n h0 h1 w ?_).mono fun e w' ⟨e1, k, os, e2⟩ => ⟨e1, e2 ▸ same_below (Lib.below_grow _ _ (Nat.le_refl _) _ _)⟩
    show w.var? _ _ = _
    have hg : Tryz.prog.globalNamed "internal/strconv.uint64pow10" = some 3 := by kernel_rfl
    simp only [World.var?, hg, Option.bind_some, H _ _ hp]

/-- at most three digits -/
def dig3 (d : Int) : List UInt8 :=
  if d.toNat < 10 then [UInt8.ofNat (48 + d.toNat)] else if d.toNat < 100 then [UInt8.ofNat (48 + d.toNat / 10), UInt8.ofNat (48 + d.toNat % 10)]
  else [UInt8.ofNat (48 + d.toNat / 100), UInt8.ofNat (48 + d.toNat / 10 % 10), UInt8.ofNat (48 + d.toNat % 10)]
theorem itoa_dig3 {d : Int} (h0 : 0 ≤ d) (h1 : d ≤ 999) : Lib.itoa d = dig3 d := by
  unfold Lib.itoa dig3
  rw [if_neg (by omega)]
  generalize hu : d.toNat = u
  have hu1 : u ≤ 999 := by omega
  by_cases h10 : u < 10
  · rw [if_pos h10, Lib.decDigits_one h10]
  · rw [if_neg h10]
    by_cases h100 : u < 100
    · rw [if_pos h100, Lib.decDigits_two h10 h100]
    · rw [if_neg h100, Lib.decDigits, dif_neg h10, Lib.decDigits_two (by omega) (by omega)]
      simp [Nat.div_div_eq_div_mul]
end Go.Proofs.YtikbgjhajgjjdaaGreatDoor
