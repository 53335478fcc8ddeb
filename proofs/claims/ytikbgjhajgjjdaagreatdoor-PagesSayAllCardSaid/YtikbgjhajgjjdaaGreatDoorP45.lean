/- Where a block of lines may stand on a page: walked. Own work of this seat. -/
import Derived.Test.YtikbgjhajgjjdaaGreatDoorP40
import Derived.Test.YtikbgjhajgjjdaaGreatDoorP44
set_option maxRecDepth 100000
set_option linter.unusedSimpArgs false
set_option linter.unusedVariables false
namespace Go.Proofs.YtikbgjhajgjjdaaGreatDoor
open Go Go.Av Go.RowKit
attribute [local go_sem ↓] br_true br_false dbr_true dbr_false dbri_true dbri_false dbrg_true dbrg_false
attribute [local go_sem] run cont br dbr dx dxc dgrd dyld dres dcall calm fieldPlace? allHas step1 opN grdN resN condN exitN stopN exitIt dOk xop xbin xint xarith xstr xbool xpick xnot xneg xextract xpart xpartOk xindex xfieldF fieldD xnew xbox xalloc xfieldAddr xptrAddIf xindexAddr xloadC xload putCells reElem xstoreB xstore xconv xtext xlen xlen2 xcall xfill xbuild cut rep xbuildSlice xbuildSliceD isRow elemD isU8 ev evs evp Go.Av.put Go.Av.get ofConst yldD yldV notBool_undef args0 cellsOf cond_true cond_false decide_true decide_false decide_eq_true_eq decide_eq_false_iff_not List.getElem?_cons_zero List.getElem?_cons_succ List.getElem?_nil List.getD_cons_zero List.getD_cons_succ List.getD_nil List.set_cons_zero List.set_cons_succ List.length_cons List.length_nil List.cons_append List.nil_append List.append_nil List.all_cons List.all_nil List.map_cons List.map_nil List.take_succ_cons List.take_zero List.drop_succ_cons List.drop_zero Bool.and_true Bool.true_and Bool.and_self Bool.and_false Bool.false_and one Go.Av.frozen beq_self_eq_true true_and and_true forall_const false_implies implies_true and_self Option.map_some Option.map_none Nat.zero_add Nat.add_zero Nat.zero_mul Nat.mul_one Nat.one_mul Int.toNat_zero ne_eq not_false_eq_true not_true_eq_false Bool.true_eq_false Bool.false_eq_true List.toList_toArray inr Go.Av.byteOf isByte decide_eq_decide Bool.not_true Bool.not_false Bool.not_eq_true' Bool.or_true Bool.true_or Bool.or_false Bool.false_or ge_iff_le gt_iff_lt and_assoc Bool.decide_eq_true beq_iff_eq beq_eq_false_iff_ne bne_iff_ne bne_self_eq_false if_true if_false Bool.and_eq_true Bool.or_eq_true Bool.and_eq_false_imp Bool.or_eq_false_iff Bool.not_eq_false' has Option.isSome_some Option.isSome_none Int.toNat_natCast Int.cast_ofNat_Int List.length_append xapp2 xapp xappS xappD xappB notInt srcOf srcB byteAV splice' xcut xcutS xcutF xcutB xcutN xcut0 cutL loOf hiOf evo xmake zelem xmax xcopy2 xcopyS xcopyB xnil xcut3 ixOf xclear2 xclearB List.getElem?_toArray xbin2 xnileq xempty xmkmap xmput xmputB xmputF isKey keyEq mfind xbin3 xeqs xeqop eqFs bothB leafEq xlook xlookB xlookF xbytes beq_c_n beq_n_c bne_c_n bne_n_c one_nil dxi dxic dbri rix dck reader blind opOk refOk Go.Op.operands Go.Call.operands List.contains_cons List.contains_nil dxg dxgc dbrg pck putD List.lookup_cons List.lookup_nil ts2 tb2 zl2 za2 Tryz.underlying2 ts3 tb3 zl3 za3 Tryz.underlying3 ts4 tb4 zl4 za4 Tryz.underlying4 ts5 tb5 zl5 za5 Tryz.underlying5 ts6 tb6 zl6 za6 Tryz.underlying6 ts7 tb7 za7 Tryz.underlying7 ts8 tb8 za8 Tryz.underlying8 ts9 tb9 zl9 za9 Tryz.underlying9 ts10 tb10 zl10 za10 Tryz.underlying10 ts11 tb11 zl11 za11 Tryz.underlying11 ts12 tb12 zl12 za12 Tryz.underlying12 ts13 tb13 za13 Tryz.underlying13 ts14 tb14 za14 Tryz.underlying14 ts18 tb18 za18 Tryz.underlying18 ts19 tb19 za19 Tryz.underlying19 ts21 tb21 zl21 za21 Tryz.underlying21 ts22 tb22 zl22 za22 Tryz.underlying22 ts24 tb24 za24 Tryz.underlying24 ts25 tb25 za25 Tryz.underlying25 ts26 tb26 zl26 za26 Tryz.underlying26 ts27 tb27 za27 Tryz.underlying27 ts28 tb28 za28 Tryz.underlying28 ts30 tb30 zl30 za30 Tryz.underlying30 ts31 tb31 zl31 za31 Tryz.underlying31 ts34 tb34 zl34 za34 Tryz.underlying34 ts35 tb35 zl35 za35 Tryz.underlying35 ts36 tb36 za36 Tryz.underlying36 ts37 tb37 za37 Tryz.underlying37 ts46 tb46 za46 Tryz.underlying46 ts47 tb47 za47 Tryz.underlying47 ts61 tb61 zl61 za61 Tryz.underlying61 ts62 tb62 za62 Tryz.underlying62 ts63 tb63 za63 Tryz.underlying63 ts66 tb66 zl66 za66 Tryz.underlying66 ts68 tb68 zl68 za68 Tryz.underlying68 ts74 tb74 za74 Tryz.underlying74 ts75 tb75 za75 Tryz.underlying75 ts77 tb77 zl77 za77 Tryz.underlying77 ts81 tb81 zl81 za81 Tryz.underlying81 ts82 tb82 za82 Tryz.underlying82 ts83 tb83 za83 Tryz.underlying83 ts86 tb86 zl86 za86 Tryz.underlying86 ts102 tb102 za102 Tryz.underlying102 ts103 tb103 za103 Tryz.underlying103 ts106 tb106 za106 Tryz.underlying106 ts107 tb107 za107 Tryz.underlying107 ts114 tb114 zl114 za114 Tryz.underlying114 ts117 tb117 zl117 za117 Tryz.underlying117 ts120 tb120 zl120 za120 Tryz.underlying120 ts133 tb133 zl133 za133 Tryz.underlying133 ts144 tb144 zl144 za144 Tryz.underlying144 ts151 tb151 zl151 za151 Tryz.underlying151 ts156 tb156 zl156 za156 Tryz.underlying156 ts160 tb160 Tryz.underlying160 ts169 tb169 za169 Tryz.underlying169 ts170 tb170 za170 Tryz.underlying170 ts175 tb175 Tryz.underlying175 ts180 tb180 za180 Tryz.underlying180 ts181 tb181 za181 Tryz.underlying181 ts185 tb185 za185 Tryz.underlying185 ts186 tb186 za186 Tryz.underlying186 ts187 tb187 Tryz.underlying187 ts189 tb189 Tryz.underlying189 ts190 tb190 Tryz.underlying190 ts191 tb191 za191 Tryz.underlying191 ts192 tb192 za192 Tryz.underlying192 ts196 tb196 zl196 za196 Tryz.underlying196 ts197 tb197 zl197 za197 Tryz.underlying197 ts199 tb199 zl199 za199 Tryz.underlying199 ts200 tb200 zl200 za200 Tryz.underlying200 ts201 tb201 za201 Tryz.underlying201 ts202 tb202 za202 Tryz.underlying202

/-- a block of a bounded size, whose groups have the kinds of their lines -/
structure BlFit (b : Bl) : Prop where
  kinds : b.kind = 3 → b.kinds.length = b.lines.length
  len : b.lines.length ≤ 50000000
  name : b.name.length ≤ 500000

theorem firstB_le (b : Bl) : ∀ (n k j : Nat), firstB b n k = some j → j < k + n
  | 0, _, _, h => by cases h
  | n + 1, k, j, h => by
    simp only [firstB] at h
    split at h
    · simp at h; omega
    · have := firstB_le b n (k + 1) j h; omega
theorem least_le (b : Bl) : leastL b ≤ b.lines.length + 2 := by
  unfold leastL
  split
  · omega
  · split
    · split
      · rename_i k hk
        have := firstB_le b _ _ _ hk
        omega
      · omega
    · omega

set_option maxHeartbeats 1000000 in
theorem least_pc (b : Bl) (hb : BlFit b) : Pc Tryz.prog 102 [blA b] (· = .int .i64 ((leastL b : Nat) : Int)) := by
  have hn := hb.len
  have hbr := fun k h1 h2 => breaks_pc b 0 k h1 (fun h => by rw [hb.kinds h]; exact h2) (by omega) (by omega) (by omega)
  unfold leastL
  simp only [blA] at hbr ⊢
  cases k1 : b.kind == 1 && decide ((b.lines.length : Int) > 3) with
  | true =>
    simp only [Bool.and_eq_true] at k1
    obtain ⟨k1, d1⟩ := k1
    refine pc_intro (ct_intro Tryz.func102 rfl Tryz.ntmps102 hB102 (by simp) fun h ρ w => go (N := 35) Tryz.ntmps102 300 ?_)
    simp only [go_sem, Nat.reduceAdd, Nat.reduceMul, Nat.reduceBEq, Nat.reduceLT, Nat.reduceLeDiff, reduceIte, reduceCtorEq, Int.reduceToNat, Int.reduceLT, Int.reduceGT, Int.reduceNeg, Int.reduceBEq, Int.reduceBNe, k1, d1, List.length_map]
    exact aret [2] rfl ⟨rfl, rfl⟩
  | false =>
    simp only [Bool.false_eq_true, if_false]
    have step1 : ∀ (Q : Prop), ((b.kind == 1) = false → Q) → ((b.kind == 1) = true → decide ((b.lines.length : Int) > 3) = false → Q) → Q := fun Q h1 h2 => by
      cases q : b.kind == 1 with
      | false => exact h1 q
      | true => rw [q, Bool.true_and] at k1; exact h2 q k1
    cases k3 : b.kind == 3 && decide ((b.lines.length : Int) > 4) with
    | false =>
      simp only [Bool.false_eq_true, if_false]
      refine step1 _ (fun q1 => ?_) (fun q1 q2 => ?_)
      · cases q3 : b.kind == 3 with
        | false =>
          refine pc_intro (ct_intro Tryz.func102 rfl Tryz.ntmps102 hB102 (by simp) fun h ρ w => go (N := 35) Tryz.ntmps102 300 ?_)
          simp only [go_sem, Nat.reduceAdd, Nat.reduceMul, Nat.reduceBEq, Nat.reduceLT, Nat.reduceLeDiff, reduceIte, reduceCtorEq, Int.reduceToNat, Int.reduceLT, Int.reduceGT, Int.reduceNeg, Int.reduceBEq, Int.reduceBNe, q1, q3, List.length_map]
          exact aret [2] rfl ⟨rfl, rfl⟩
        | true =>
          rw [q3, Bool.true_and] at k3
          refine pc_intro (ct_intro Tryz.func102 rfl Tryz.ntmps102 hB102 (by simp) fun h ρ w => go (N := 35) Tryz.ntmps102 300 ?_)
          simp only [go_sem, Nat.reduceAdd, Nat.reduceMul, Nat.reduceBEq, Nat.reduceLT, Nat.reduceLeDiff, reduceIte, reduceCtorEq, Int.reduceToNat, Int.reduceLT, Int.reduceGT, Int.reduceNeg, Int.reduceBEq, Int.reduceBNe, q1, q3, k3, List.length_map]
          exact aret [2] rfl ⟨rfl, rfl⟩
      · have q3 : (b.kind == 3) = false := by
          have : b.kind = 1 := by simpa using q1
          rw [this]; rfl
        refine pc_intro (ct_intro Tryz.func102 rfl Tryz.ntmps102 hB102 (by simp) fun h ρ w => go (N := 35) Tryz.ntmps102 300 ?_)
        simp only [go_sem, Nat.reduceAdd, Nat.reduceMul, Nat.reduceBEq, Nat.reduceLT, Nat.reduceLeDiff, reduceIte, reduceCtorEq, Int.reduceToNat, Int.reduceLT, Int.reduceGT, Int.reduceNeg, Int.reduceBEq, Int.reduceBNe, q1, q2, q3, List.length_map]
        exact aret [2] rfl ⟨rfl, rfl⟩
    | true =>
      simp only [if_true]
      simp only [Bool.and_eq_true] at k3
      obtain ⟨k3, d4⟩ := k3
      have q1 : (b.kind == 1) = false := by
        have : b.kind = 3 := by simpa using k3
        rw [this]; rfl
      have hlen : 4 < b.lines.length := by
        have := of_decide_eq_true d4
        omega
      generalize hX : firstB b (b.lines.length - 1) 1 = X
      refine pc_intro (ct_intro Tryz.func102 rfl Tryz.ntmps102 hB102 (by simp) fun h ρ w => go (N := 35) Tryz.ntmps102 300 ?_)
      simp only [go_sem, Nat.reduceAdd, Nat.reduceMul, Nat.reduceBEq, Nat.reduceLT, Nat.reduceLeDiff, reduceIte, reduceCtorEq, Int.reduceToNat, Int.reduceLT, Int.reduceGT, Int.reduceNeg, Int.reduceBEq, Int.reduceBNe, q1, k3, d4, List.length_map]
      refine aloop (ι := Nat) (fun k => b.lines.length - k) (fun k => [(4, .int .i64 k), (3, .int .i64 b.lines.length), (1, .ptr 0 1 0 0)])
        (fun _ => [.arr 4 [.agg [.int .i64 b.kind, .fz 1 (b.lines.map .str), .fz 1 (b.kinds.map (.int .i64)), .str b.name]]]) (fun k => 1 ≤ k ∧ k ≤ b.lines.length ∧ firstB b (b.lines.length - k) k = X) 1 ⟨by omega, by omega, hX⟩ ?_ ?_
      · refine Shift.weak ?_
        simp only [wk, go_sem, Nat.reduceAdd, Nat.reduceMul, Nat.reduceBEq, Nat.reduceLT, Nat.reduceLeDiff, reduceIte, reduceCtorEq, Int.reduceToNat, Int.reduceLT, Int.reduceGT, Int.reduceNeg, Int.reduceBEq, Int.reduceBNe]
        first | done | simp
      · rintro k ⟨g1, g2, g3⟩ J hJ
        by_cases gk : k < b.lines.length
        · have dk : decide ((k : Int) < (b.lines.length : Int)) = true := by simp; omega
          rw [show b.lines.length - k = (b.lines.length - (k + 1)) + 1 by omega] at g3
          simp only [firstB] at g3
          refine go (N := 35) Tryz.ntmps102 300 ?_
          simp only [go_sem, Nat.reduceAdd, Nat.reduceMul, Nat.reduceBEq, Nat.reduceLT, Nat.reduceLeDiff, reduceIte, reduceCtorEq, Int.reduceToNat, Int.reduceLT, Int.reduceGT, Int.reduceNeg, Int.reduceBEq, Int.reduceBNe, dk]
          refine pcall1 (hbr k g1 (by omega)) rfl (N := 35) Tryz.ntmps102 rfl (go (N := 35) Tryz.ntmps102 300 ?_)
          cases hq : breaksL b 0 k with
          | true =>
            rw [hq] at g3
            simp only [if_true] at g3
            subst g3
            simp only [go_sem, Nat.reduceAdd, Nat.reduceMul, Nat.reduceBEq, Nat.reduceLT, Nat.reduceLeDiff, reduceIte, reduceCtorEq, Int.reduceToNat, Int.reduceLT, Int.reduceGT, Int.reduceNeg, Int.reduceBEq, Int.reduceBNe]
            repeat refine And.intro (by first | omega | exact .inl trivial | rfl | (simp; done) | (simp; omega)) ?_
            exact aret [2] rfl ⟨by simp [resV, Av.get], rfl⟩
          | false =>
            rw [hq] at g3
            simp only [Bool.false_eq_true, if_false] at g3
            simp only [go_sem, Nat.reduceAdd, Nat.reduceMul, Nat.reduceBEq, Nat.reduceLT, Nat.reduceLeDiff, reduceIte, reduceCtorEq, Int.reduceToNat, Int.reduceLT, Int.reduceGT, Int.reduceNeg, Int.reduceBEq, Int.reduceBNe]
            repeat refine And.intro (by first | omega | exact .inl trivial | rfl | (simp; done) | (simp; omega)) ?_
            rw [show (k : Int) + 1 = ((k + 1 : Nat) : Int) by omega]
            refine ainv (hJ (k + 1) ⟨by omega, by omega, g3⟩ (by omega)) (Shift.weak ?_)
            simp only [wk, go_sem, Nat.reduceAdd, Nat.reduceMul, Nat.reduceBEq, Nat.reduceLT, Nat.reduceLeDiff, reduceIte, reduceCtorEq, Int.reduceToNat, Int.reduceLT, Int.reduceGT, Int.reduceNeg, Int.reduceBEq, Int.reduceBNe]
        · have dk : decide ((k : Int) < (b.lines.length : Int)) = false := by simp; omega
          rw [show b.lines.length - k = 0 by omega] at g3
          simp only [firstB] at g3
          subst g3
          refine go (N := 35) Tryz.ntmps102 300 ?_
          simp only [go_sem, Nat.reduceAdd, Nat.reduceMul, Nat.reduceBEq, Nat.reduceLT, Nat.reduceLeDiff, reduceIte, reduceCtorEq, Int.reduceToNat, Int.reduceLT, Int.reduceGT, Int.reduceNeg, Int.reduceBEq, Int.reduceBNe, dk]
          exact aret [2] rfl ⟨rfl, rfl⟩

set_option maxHeartbeats 1000000 in
theorem head_pc (bs : List Bl) (i : Nat) (hi : i < bs.length) (hb : ∀ b ∈ bs, BlFit b) (hl : bs.length ≤ 100000000) : Pc Tryz.prog 69 [.fz 4 (bs.map blA), .int .i64 (i : Int)] (· = .int .i64 ((headN bs i bs[i] : Nat) : Int)) := by
  have hg : List.getD (bs.map blA) i .any = .agg [.int .i64 bs[i].kind, .fz 1 (bs[i].lines.map .str), .fz 1 (bs[i].kinds.map (.int .i64)), .str bs[i].name] := by simp [List.getD, hi, blA]
  have h1 := least_pc bs[i] (hb _ (List.getElem_mem hi))
  have hle := least_le bs[i]
  have hfi := (hb _ (List.getElem_mem hi)).len
  simp only [blA] at h1
  have e1 : (i : Int) + 1 = ((i + 1 : Nat) : Int) := by omega
  unfold headN
  cases k0 : bs[i].kind == 0 with
  | false =>
    simp only [Bool.false_eq_true, if_false, Nat.add_zero]
    refine pc_intro (ct_intro Tryz.func69 rfl Tryz.ntmps69 hB69 (by simp) fun h ρ w => go (N := 43) Tryz.ntmps69 300 ?_)
    simp only [go_sem, Nat.reduceAdd, Nat.reduceMul, Nat.reduceBEq, Nat.reduceLT, Nat.reduceLeDiff, reduceIte, reduceCtorEq, Int.reduceToNat, Int.reduceLT, Int.reduceGT, Int.reduceNeg, Int.reduceBEq, Int.reduceBNe, hg, List.length_map]
    repeat refine And.intro (by first | omega | exact .inl trivial | rfl | (simp; done) | (simp; omega)) ?_
    refine pcall1 (h1) rfl (N := 43) Tryz.ntmps69 rfl (go (N := 43) Tryz.ntmps69 300 ?_)
    simp only [go_sem, Nat.reduceAdd, Nat.reduceMul, Nat.reduceBEq, Nat.reduceLT, Nat.reduceLeDiff, reduceIte, reduceCtorEq, Int.reduceToNat, Int.reduceLT, Int.reduceGT, Int.reduceNeg, Int.reduceBEq, Int.reduceBNe, hg, k0, List.length_map]
    repeat refine And.intro (by first | omega | exact .inl trivial | rfl | (simp; done) | (simp; omega)) ?_
    exact aret [4] rfl ⟨rfl, rfl⟩
  | true =>
    simp only [if_true]
    by_cases h2 : i + 1 < bs.length
    · have d2 : decide (((i + 1 : Nat) : Int) < (bs.length : Int)) = true := by simp; omega
      have hg2 : List.getD (bs.map blA) (i + 1) .any = .agg [.int .i64 bs[i + 1].kind, .fz 1 (bs[i + 1].lines.map .str), .fz 1 (bs[i + 1].kinds.map (.int .i64)), .str bs[i + 1].name] := by simp [List.getD, h2, blA]
      have h3 := least_pc bs[i + 1] (hb _ (List.getElem_mem h2))
      have hle2 := least_le bs[i + 1]
      have hfi2 := (hb _ (List.getElem_mem h2)).len
      simp only [blA] at h3
      simp only [List.getElem?_eq_getElem h2]
      cases k2 : bs[i + 1].kind == 0 with
      | true =>
        have k2' : (bs[i + 1].kind != 0) = false := by simpa using k2
        simp only [if_true, Nat.add_zero]
        refine pc_intro (ct_intro Tryz.func69 rfl Tryz.ntmps69 hB69 (by simp) fun h ρ w => go (N := 43) Tryz.ntmps69 300 ?_)
        simp only [go_sem, Nat.reduceAdd, Nat.reduceMul, Nat.reduceBEq, Nat.reduceLT, Nat.reduceLeDiff, reduceIte, reduceCtorEq, Int.reduceToNat, Int.reduceLT, Int.reduceGT, Int.reduceNeg, Int.reduceBEq, Int.reduceBNe, hg, List.length_map]
        repeat refine And.intro (by first | omega | exact .inl trivial | rfl | (simp; done) | (simp; omega)) ?_
        refine pcall1 (h1) rfl (N := 43) Tryz.ntmps69 rfl (go (N := 43) Tryz.ntmps69 300 ?_)
        simp only [go_sem, Nat.reduceAdd, Nat.reduceMul, Nat.reduceBEq, Nat.reduceLT, Nat.reduceLeDiff, reduceIte, reduceCtorEq, Int.reduceToNat, Int.reduceLT, Int.reduceGT, Int.reduceNeg, Int.reduceBEq, Int.reduceBNe, hg, k0, e1, d2, hg2, k2', List.length_map]
        repeat refine And.intro (by first | omega | exact .inl trivial | rfl | (simp; done) | (simp; omega)) ?_
        exact aret [4] rfl ⟨rfl, rfl⟩
      | false =>
        have k2' : (bs[i + 1].kind != 0) = true := by simpa using k2
        simp only [Bool.false_eq_true, if_false]
        refine pc_intro (ct_intro Tryz.func69 rfl Tryz.ntmps69 hB69 (by simp) fun h ρ w => go (N := 43) Tryz.ntmps69 300 ?_)
        simp only [go_sem, Nat.reduceAdd, Nat.reduceMul, Nat.reduceBEq, Nat.reduceLT, Nat.reduceLeDiff, reduceIte, reduceCtorEq, Int.reduceToNat, Int.reduceLT, Int.reduceGT, Int.reduceNeg, Int.reduceBEq, Int.reduceBNe, hg, List.length_map]
        repeat refine And.intro (by first | omega | exact .inl trivial | rfl | (simp; done) | (simp; omega)) ?_
        refine pcall1 (h1) rfl (N := 43) Tryz.ntmps69 rfl (go (N := 43) Tryz.ntmps69 300 ?_)
        simp only [go_sem, Nat.reduceAdd, Nat.reduceMul, Nat.reduceBEq, Nat.reduceLT, Nat.reduceLeDiff, reduceIte, reduceCtorEq, Int.reduceToNat, Int.reduceLT, Int.reduceGT, Int.reduceNeg, Int.reduceBEq, Int.reduceBNe, hg, k0, e1, d2, hg2, k2', List.length_map]
        repeat refine And.intro (by first | omega | exact .inl trivial | rfl | (simp; done) | (simp; omega)) ?_
        refine pcall1 (h3) rfl (N := 43) Tryz.ntmps69 rfl (go (N := 43) Tryz.ntmps69 300 ?_)
        simp only [go_sem, Nat.reduceAdd, Nat.reduceMul, Nat.reduceBEq, Nat.reduceLT, Nat.reduceLeDiff, reduceIte, reduceCtorEq, Int.reduceToNat, Int.reduceLT, Int.reduceGT, Int.reduceNeg, Int.reduceBEq, Int.reduceBNe]
        repeat refine And.intro (by first | omega | exact .inl trivial | rfl | (simp; done) | (simp; omega)) ?_
        exact aret [4] rfl ⟨by simp [resV, Av.get], rfl⟩
    · have d2 : decide (((i + 1 : Nat) : Int) < (bs.length : Int)) = false := by simp; omega
      simp only [List.getElem?_eq_none (by omega : bs.length ≤ i + 1), Nat.add_zero]
      refine pc_intro (ct_intro Tryz.func69 rfl Tryz.ntmps69 hB69 (by simp) fun h ρ w => go (N := 43) Tryz.ntmps69 300 ?_)
      simp only [go_sem, Nat.reduceAdd, Nat.reduceMul, Nat.reduceBEq, Nat.reduceLT, Nat.reduceLeDiff, reduceIte, reduceCtorEq, Int.reduceToNat, Int.reduceLT, Int.reduceGT, Int.reduceNeg, Int.reduceBEq, Int.reduceBNe, hg, List.length_map]
      repeat refine And.intro (by first | omega | exact .inl trivial | rfl | (simp; done) | (simp; omega)) ?_
      refine pcall1 (h1) rfl (N := 43) Tryz.ntmps69 rfl (go (N := 43) Tryz.ntmps69 300 ?_)
      simp only [go_sem, Nat.reduceAdd, Nat.reduceMul, Nat.reduceBEq, Nat.reduceLT, Nat.reduceLeDiff, reduceIte, reduceCtorEq, Int.reduceToNat, Int.reduceLT, Int.reduceGT, Int.reduceNeg, Int.reduceBEq, Int.reduceBNe, hg, k0, e1, d2, List.length_map]
      repeat refine And.intro (by first | omega | exact .inl trivial | rfl | (simp; done) | (simp; omega)) ?_
      exact aret [4] rfl ⟨rfl, rfl⟩

set_option maxHeartbeats 2000000 in
theorem stop_pc (b : Bl) (hb : BlFit b) (fr room : Nat) (hf : fr ≤ b.lines.length) (hr : RoomOk b fr room) (hr2 : room ≤ 100) : Pc Tryz.prog 70 [blA b, .int .i64 (fr : Int), .int .i64 (room : Int)] (· = .int .i64 ((stopL b fr room : Nat) : Int)) := by
  have hn := hb.len
  have hbr := fun k h1 h2 => breaks_pc b fr k h1 (fun h => by rw [hb.kinds h]; exact h2) (by omega) (by omega) (by omega)
  unfold stopL
  simp only [blA] at hbr ⊢
  by_cases h0 : b.lines.length - fr ≤ room
  · have d0 : decide ((b.lines.length : Int) - fr ≤ (room : Int)) = true := by simp; omega
    rw [if_pos h0]
    refine pc_intro (ct_intro Tryz.func70 rfl Tryz.ntmps70 hB70 (by simp) fun h ρ w => go (N := 48) Tryz.ntmps70 300 ?_)
    simp only [go_sem, Nat.reduceAdd, Nat.reduceMul, Nat.reduceBEq, Nat.reduceLT, Nat.reduceLeDiff, reduceIte, reduceCtorEq, Int.reduceToNat, Int.reduceLT, Int.reduceGT, Int.reduceNeg, Int.reduceBEq, Int.reduceBNe, d0, List.length_map]
    repeat refine And.intro (by first | omega | exact .inl trivial | rfl | (simp; done) | (simp; omega)) ?_
    exact aret [6] rfl ⟨rfl, rfl⟩
  · have d0 : decide ((b.lines.length : Int) - fr ≤ (room : Int)) = false := by simp; omega
    rw [if_neg h0]
    cases k3 : b.kind == 3 with
    | true =>
      have hg : grp b = 1 := by unfold grp; rw [k3]; rfl
      have hr1 : 2 ≤ room := by
        rcases hr with hr | hr
        · omega
        · rw [hg] at hr; omega
      rw [hg]
      have hK : (fr : Int) + room - 1 = ((fr + room - 1 : Nat) : Int) := by omega
      have hN : (b.lines.length : Int) - 1 = ((b.lines.length - 1 : Nat) : Int) := by omega
      generalize hKK : fr + room - 1 = K at hK ⊢
      have hmin : (if ((b.lines.length - 1 : Nat) : Int) < (K : Int) then ((b.lines.length - 1 : Nat) : Int) else (K : Int)) = ((min K (b.lines.length - 1) : Nat) : Int) := by split <;> omega
      generalize hM : min K (b.lines.length - 1) = M at hmin ⊢
      have hmax : (if (M : Int) < (fr : Int) + 1 then (fr : Int) + 1 else (M : Int)) = ((max M (fr + 1) : Nat) : Int) := by split <;> omega
      generalize hX : lastB b fr M = X
      refine pc_intro (ct_intro Tryz.func70 rfl Tryz.ntmps70 hB70 (by simp) fun h ρ w => go (N := 48) Tryz.ntmps70 300 ?_)
      simp only [go_sem, Nat.reduceAdd, Nat.reduceMul, Nat.reduceBEq, Nat.reduceLT, Nat.reduceLeDiff, reduceIte, reduceCtorEq, Int.reduceToNat, Int.reduceLT, Int.reduceGT, Int.reduceNeg, Int.reduceBEq, Int.reduceBNe, d0, k3, hK, hN, hmin, List.length_map]
      repeat refine And.intro (by first | omega | exact .inl trivial | rfl | (simp; done) | (simp; omega)) ?_
      refine aloop (ι := Nat) (fun j => j) (fun j => [(9, .int .i64 j), (8, .int .i64 K), (7, .int .i64 b.lines.length), (1, .int .i64 fr), (3, .ptr 0 1 0 0)])
        (fun _ => [.arr 4 [.agg [.int .i64 b.kind, .fz 1 (b.lines.map .str), .fz 1 (b.kinds.map (.int .i64)), .str b.name]]]) (fun j => j ≤ b.lines.length - 1 ∧ lastB b fr j = X) M ⟨by omega, hX⟩ ?_ ?_
      · refine Shift.weak ?_
        simp only [wk, go_sem, Nat.reduceAdd, Nat.reduceMul, Nat.reduceBEq, Nat.reduceLT, Nat.reduceLeDiff, reduceIte, reduceCtorEq, Int.reduceToNat, Int.reduceLT, Int.reduceGT, Int.reduceNeg, Int.reduceBEq, Int.reduceBNe]
      · rintro j ⟨g2, g3⟩ J hJ
        by_cases gj : fr < j
        · have dj : decide ((j : Int) > (fr : Int)) = true := by simp; omega
          rw [show j = (j - 1) + 1 by omega] at g3
          simp only [lastB] at g3
          rw [if_pos (by omega), show j - 1 + 1 = j by omega] at g3
          refine go (N := 48) Tryz.ntmps70 300 ?_
          simp only [go_sem, Nat.reduceAdd, Nat.reduceMul, Nat.reduceBEq, Nat.reduceLT, Nat.reduceLeDiff, reduceIte, reduceCtorEq, Int.reduceToNat, Int.reduceLT, Int.reduceGT, Int.reduceNeg, Int.reduceBEq, Int.reduceBNe, dj]
          refine pcall1 (hbr j (by omega) (by omega)) rfl (N := 48) Tryz.ntmps70 rfl (go (N := 48) Tryz.ntmps70 300 ?_)
          cases hq : breaksL b fr j with
          | true =>
            rw [hq, if_pos rfl] at g3
            subst g3
            simp only [go_sem, Nat.reduceAdd, Nat.reduceMul, Nat.reduceBEq, Nat.reduceLT, Nat.reduceLeDiff, reduceIte, reduceCtorEq, Int.reduceToNat, Int.reduceLT, Int.reduceGT, Int.reduceNeg, Int.reduceBEq, Int.reduceBNe]
            exact aret [6] rfl ⟨rfl, rfl⟩
          | false =>
            rw [hq, if_neg (by simp)] at g3
            simp only [go_sem, Nat.reduceAdd, Nat.reduceMul, Nat.reduceBEq, Nat.reduceLT, Nat.reduceLeDiff, reduceIte, reduceCtorEq, Int.reduceToNat, Int.reduceLT, Int.reduceGT, Int.reduceNeg, Int.reduceBEq, Int.reduceBNe]
            repeat refine And.intro (by first | omega | exact .inl trivial | rfl | (simp; done) | (simp; omega)) ?_
            rw [show (j : Int) - 1 = ((j - 1 : Nat) : Int) by omega]
            refine ainv (hJ (j - 1) ⟨by omega, g3⟩ (by omega)) (Shift.weak ?_)
            simp only [wk, go_sem, Nat.reduceAdd, Nat.reduceMul, Nat.reduceBEq, Nat.reduceLT, Nat.reduceLeDiff, reduceIte, reduceCtorEq, Int.reduceToNat, Int.reduceLT, Int.reduceGT, Int.reduceNeg, Int.reduceBEq, Int.reduceBNe]
        · have dj : decide ((j : Int) > (fr : Int)) = false := by simp; omega
          have hnone : X = none := by
            rw [← g3]
            cases j with
            | zero => rfl
            | succ j => simp only [lastB]; rw [if_neg gj]
          subst hnone
          refine go (N := 48) Tryz.ntmps70 300 ?_
          simp only [go_sem, Nat.reduceAdd, Nat.reduceMul, Nat.reduceBEq, Nat.reduceLT, Nat.reduceLeDiff, reduceIte, reduceCtorEq, Int.reduceToNat, Int.reduceLT, Int.reduceGT, Int.reduceNeg, Int.reduceBEq, Int.reduceBNe, dj, hN, hmin, hmax]
          repeat refine And.intro (by first | omega | exact .inl trivial | rfl | (simp; done) | (simp; omega)) ?_
          exact aret [6] rfl ⟨rfl, rfl⟩
    | false =>
      have hg : grp b = 0 := by unfold grp; rw [k3]; rfl
      have hr1 : 1 ≤ room := by
        rcases hr with hr | hr
        · omega
        · rw [hg] at hr; omega
      rw [hg]
      have hK : (fr : Int) + room = ((fr + room - 0 : Nat) : Int) := by omega
      have hN : (b.lines.length : Int) - 1 = ((b.lines.length - 1 : Nat) : Int) := by omega
      generalize hKK : fr + room - 0 = K at hK ⊢
      have hmin : (if ((b.lines.length - 1 : Nat) : Int) < (K : Int) then ((b.lines.length - 1 : Nat) : Int) else (K : Int)) = ((min K (b.lines.length - 1) : Nat) : Int) := by split <;> omega
      generalize hM : min K (b.lines.length - 1) = M at hmin ⊢
      have hmax : (if (M : Int) < (fr : Int) + 1 then (fr : Int) + 1 else (M : Int)) = ((max M (fr + 1) : Nat) : Int) := by split <;> omega
      generalize hX : lastB b fr M = X
      refine pc_intro (ct_intro Tryz.func70 rfl Tryz.ntmps70 hB70 (by simp) fun h ρ w => go (N := 48) Tryz.ntmps70 300 ?_)
      simp only [go_sem, Nat.reduceAdd, Nat.reduceMul, Nat.reduceBEq, Nat.reduceLT, Nat.reduceLeDiff, reduceIte, reduceCtorEq, Int.reduceToNat, Int.reduceLT, Int.reduceGT, Int.reduceNeg, Int.reduceBEq, Int.reduceBNe, d0, k3, hK, hN, hmin, List.length_map]
      repeat refine And.intro (by first | omega | exact .inl trivial | rfl | (simp; done) | (simp; omega)) ?_
      refine aloop (ι := Nat) (fun j => j) (fun j => [(9, .int .i64 j), (8, .int .i64 K), (7, .int .i64 b.lines.length), (1, .int .i64 fr), (3, .ptr 0 1 0 0)])
        (fun _ => [.arr 4 [.agg [.int .i64 b.kind, .fz 1 (b.lines.map .str), .fz 1 (b.kinds.map (.int .i64)), .str b.name]]]) (fun j => j ≤ b.lines.length - 1 ∧ lastB b fr j = X) M ⟨by omega, hX⟩ ?_ ?_
      · refine Shift.weak ?_
        simp only [wk, go_sem, Nat.reduceAdd, Nat.reduceMul, Nat.reduceBEq, Nat.reduceLT, Nat.reduceLeDiff, reduceIte, reduceCtorEq, Int.reduceToNat, Int.reduceLT, Int.reduceGT, Int.reduceNeg, Int.reduceBEq, Int.reduceBNe]
      · rintro j ⟨g2, g3⟩ J hJ
        by_cases gj : fr < j
        · have dj : decide ((j : Int) > (fr : Int)) = true := by simp; omega
          rw [show j = (j - 1) + 1 by omega] at g3
          simp only [lastB] at g3
          rw [if_pos (by omega), show j - 1 + 1 = j by omega] at g3
          refine go (N := 48) Tryz.ntmps70 300 ?_
          simp only [go_sem, Nat.reduceAdd, Nat.reduceMul, Nat.reduceBEq, Nat.reduceLT, Nat.reduceLeDiff, reduceIte, reduceCtorEq, Int.reduceToNat, Int.reduceLT, Int.reduceGT, Int.reduceNeg, Int.reduceBEq, Int.reduceBNe, dj]
          refine pcall1 (hbr j (by omega) (by omega)) rfl (N := 48) Tryz.ntmps70 rfl (go (N := 48) Tryz.ntmps70 300 ?_)
          cases hq : breaksL b fr j with
          | true =>
            rw [hq, if_pos rfl] at g3
            subst g3
            simp only [go_sem, Nat.reduceAdd, Nat.reduceMul, Nat.reduceBEq, Nat.reduceLT, Nat.reduceLeDiff, reduceIte, reduceCtorEq, Int.reduceToNat, Int.reduceLT, Int.reduceGT, Int.reduceNeg, Int.reduceBEq, Int.reduceBNe]
            exact aret [6] rfl ⟨rfl, rfl⟩
          | false =>
            rw [hq, if_neg (by simp)] at g3
            simp only [go_sem, Nat.reduceAdd, Nat.reduceMul, Nat.reduceBEq, Nat.reduceLT, Nat.reduceLeDiff, reduceIte, reduceCtorEq, Int.reduceToNat, Int.reduceLT, Int.reduceGT, Int.reduceNeg, Int.reduceBEq, Int.reduceBNe]
            repeat refine And.intro (by first | omega | exact .inl trivial | rfl | (simp; done) | (simp; omega)) ?_
            rw [show (j : Int) - 1 = ((j - 1 : Nat) : Int) by omega]
            refine ainv (hJ (j - 1) ⟨by omega, g3⟩ (by omega)) (Shift.weak ?_)
            simp only [wk, go_sem, Nat.reduceAdd, Nat.reduceMul, Nat.reduceBEq, Nat.reduceLT, Nat.reduceLeDiff, reduceIte, reduceCtorEq, Int.reduceToNat, Int.reduceLT, Int.reduceGT, Int.reduceNeg, Int.reduceBEq, Int.reduceBNe]
        · have dj : decide ((j : Int) > (fr : Int)) = false := by simp; omega
          have hnone : X = none := by
            rw [← g3]
            cases j with
            | zero => rfl
            | succ j => simp only [lastB]; rw [if_neg gj]
          subst hnone
          refine go (N := 48) Tryz.ntmps70 300 ?_
          simp only [go_sem, Nat.reduceAdd, Nat.reduceMul, Nat.reduceBEq, Nat.reduceLT, Nat.reduceLeDiff, reduceIte, reduceCtorEq, Int.reduceToNat, Int.reduceLT, Int.reduceGT, Int.reduceNeg, Int.reduceBEq, Int.reduceBNe, dj, hN, hmin, hmax]
          repeat refine And.intro (by first | omega | exact .inl trivial | rfl | (simp; done) | (simp; omega)) ?_
          exact aret [6] rfl ⟨rfl, rfl⟩
end Go.Proofs.YtikbgjhajgjjdaaGreatDoor
