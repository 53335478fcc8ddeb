/- What scenes say: walked. Own work of this seat. -/
import Derived.Test.YtikbgjhajgjjdaaGreatDoorP48
set_option maxRecDepth 100000
set_option linter.unusedSimpArgs false
set_option linter.unusedVariables false
namespace Go.Proofs.YtikbgjhajgjjdaaGreatDoor
open Go Go.Av Go.RowKit
attribute [local go_sem ↓] br_true br_false dbr_true dbr_false dbri_true dbri_false dbrg_true dbrg_false
attribute [local go_sem] run cont br dbr dx dxc dgrd dyld dres dcall calm fieldPlace? allHas step1 opN grdN resN condN exitN stopN exitIt dOk xop xbin xint xarith xstr xbool xpick xnot xneg xextract xpart xpartOk xindex xfieldF fieldD xnew xbox xalloc xfieldAddr xptrAddIf xindexAddr xloadC xload putCells reElem xstoreB xstore xconv xtext xlen xlen2 xcall xfill xbuild cut rep xbuildSlice xbuildSliceD isRow elemD isU8 ev evs evp Go.Av.put Go.Av.get ofConst yldD yldV notBool_undef args0 cellsOf cond_true cond_false decide_true decide_false decide_eq_true_eq decide_eq_false_iff_not List.getElem?_cons_zero List.getElem?_cons_succ List.getElem?_nil List.getD_cons_zero List.getD_cons_succ List.getD_nil List.set_cons_zero List.set_cons_succ List.length_cons List.length_nil List.cons_append List.nil_append List.append_nil List.all_cons List.all_nil List.map_cons List.map_nil List.take_succ_cons List.take_zero List.drop_succ_cons List.drop_zero Bool.and_true Bool.true_and Bool.and_self Bool.and_false Bool.false_and one Go.Av.frozen beq_self_eq_true true_and and_true forall_const false_implies implies_true and_self Option.map_some Option.map_none Nat.zero_add Nat.add_zero Nat.zero_mul Nat.mul_one Nat.one_mul Int.toNat_zero ne_eq not_false_eq_true not_true_eq_false Bool.true_eq_false Bool.false_eq_true List.toList_toArray inr Go.Av.byteOf isByte decide_eq_decide Bool.not_true Bool.not_false Bool.not_eq_true' Bool.or_true Bool.true_or Bool.or_false Bool.false_or ge_iff_le gt_iff_lt and_assoc Bool.decide_eq_true beq_iff_eq beq_eq_false_iff_ne bne_iff_ne bne_self_eq_false if_true if_false Bool.and_eq_true Bool.or_eq_true Bool.and_eq_false_imp Bool.or_eq_false_iff Bool.not_eq_false' has Option.isSome_some Option.isSome_none Int.toNat_natCast Int.cast_ofNat_Int List.length_append xapp2 xapp xappS xappD xappB notInt srcOf srcB byteAV splice' xcut xcutS xcutF xcutB xcutN xcut0 cutL loOf hiOf evo xmake zelem xmax xcopy2 xcopyS xcopyB xnil xcut3 ixOf xclear2 xclearB List.getElem?_toArray xbin2 xnileq xempty xmkmap xmput xmputB xmputF isKey keyEq mfind xbin3 xeqs xeqop eqFs bothB leafEq xlook xlookB xlookF xbytes beq_c_n beq_n_c bne_c_n bne_n_c one_nil dxi dxic dbri rix dck reader blind opOk refOk Go.Op.operands Go.Call.operands List.contains_cons List.contains_nil dxg dxgc dbrg pck putD List.lookup_cons List.lookup_nil ts2 tb2 zl2 za2 Tryz.underlying2 ts3 tb3 zl3 za3 Tryz.underlying3 ts4 tb4 zl4 za4 Tryz.underlying4 ts5 tb5 zl5 za5 Tryz.underlying5 ts6 tb6 zl6 za6 Tryz.underlying6 ts7 tb7 za7 Tryz.underlying7 ts8 tb8 za8 Tryz.underlying8 ts9 tb9 zl9 za9 Tryz.underlying9 ts10 tb10 zl10 za10 Tryz.underlying10 ts11 tb11 zl11 za11 Tryz.underlying11 ts12 tb12 zl12 za12 Tryz.underlying12 ts13 tb13 za13 Tryz.underlying13 ts14 tb14 za14 Tryz.underlying14 ts18 tb18 za18 Tryz.underlying18 ts19 tb19 za19 Tryz.underlying19 ts21 tb21 zl21 za21 Tryz.underlying21 ts22 tb22 zl22 za22 Tryz.underlying22 ts24 tb24 za24 Tryz.underlying24 ts25 tb25 za25 Tryz.underlying25 ts26 tb26 zl26 za26 Tryz.underlying26 ts27 tb27 za27 Tryz.underlying27 ts28 tb28 za28 Tryz.underlying28 ts30 tb30 zl30 za30 Tryz.underlying30 ts31 tb31 zl31 za31 Tryz.underlying31 ts34 tb34 zl34 za34 Tryz.underlying34 ts35 tb35 zl35 za35 Tryz.underlying35 ts36 tb36 za36 Tryz.underlying36 ts37 tb37 za37 Tryz.underlying37 ts46 tb46 za46 Tryz.underlying46 ts47 tb47 za47 Tryz.underlying47 ts61 tb61 zl61 za61 Tryz.underlying61 ts62 tb62 za62 Tryz.underlying62 ts63 tb63 za63 Tryz.underlying63 ts66 tb66 zl66 za66 Tryz.underlying66 ts68 tb68 zl68 za68 Tryz.underlying68 ts74 tb74 za74 Tryz.underlying74 ts75 tb75 za75 Tryz.underlying75 ts77 tb77 zl77 za77 Tryz.underlying77 ts81 tb81 zl81 za81 Tryz.underlying81 ts82 tb82 za82 Tryz.underlying82 ts83 tb83 za83 Tryz.underlying83 ts86 tb86 zl86 za86 Tryz.underlying86 ts102 tb102 za102 Tryz.underlying102 ts103 tb103 za103 Tryz.underlying103 ts106 tb106 za106 Tryz.underlying106 ts107 tb107 za107 Tryz.underlying107 ts114 tb114 zl114 za114 Tryz.underlying114 ts117 tb117 zl117 za117 Tryz.underlying117 ts120 tb120 zl120 za120 Tryz.underlying120 ts133 tb133 zl133 za133 Tryz.underlying133 ts144 tb144 zl144 za144 Tryz.underlying144 ts151 tb151 zl151 za151 Tryz.underlying151 ts156 tb156 zl156 za156 Tryz.underlying156 ts160 tb160 Tryz.underlying160 ts169 tb169 za169 Tryz.underlying169 ts170 tb170 za170 Tryz.underlying170 ts175 tb175 Tryz.underlying175 ts180 tb180 za180 Tryz.underlying180 ts181 tb181 za181 Tryz.underlying181 ts185 tb185 za185 Tryz.underlying185 ts186 tb186 za186 Tryz.underlying186 ts187 tb187 Tryz.underlying187 ts189 tb189 Tryz.underlying189 ts190 tb190 Tryz.underlying190 ts191 tb191 za191 Tryz.underlying191 ts192 tb192 za192 Tryz.underlying192 ts196 tb196 zl196 za196 Tryz.underlying196 ts197 tb197 zl197 za197 Tryz.underlying197 ts199 tb199 zl199 za199 Tryz.underlying199 ts200 tb200 zl200 za200 Tryz.underlying200 ts201 tb201 za201 Tryz.underlying201 ts202 tb202 za202 Tryz.underlying202

def sizB (b : Bl) : Prop := b.name.length ≤ 2000 ∧ ∀ l ∈ b.lines, l.length ≤ 3000000
theorem indent_len (n : Nat) (l : List UInt8) : (indent n l).length = n + l.length := by
  rw [indent, List.length_append, blanks_len]
theorem newB_siz {p : Pa} (h : p.text.length ≤ 2000) : sizB (newB p) := by
  unfold newB
  split
  · exact ⟨by simp, fun l hl => by have := (wrapL_le 60 p.text).2 l hl; omega⟩
  · split
    · refine ⟨by simp, fun l hl => ?_⟩
      rw [List.mem_singleton.1 hl, turnLine, List.length_append, blanks_len, List.length_append]
      simp; omega
    · refine ⟨h, fun l hl => ?_⟩
      rw [List.mem_singleton.1 hl, indent_len]; omega
theorem moreB_siz {b : Bl} {p : Pa} (hb : sizB b) (h : p.text.length ≤ 2000) : sizB (moreB b p) := by
  have key : ∀ (kd : Int) (n : Nat) (ls : List (List UInt8)), n ≤ 20 → (∀ l ∈ ls, l.length ≤ 2010) → sizB (addB b kd n ls) := fun kd n ls hn hl => by
    refine ⟨hb.1, fun l hq => ?_⟩
    simp only [addB] at hq
    rcases List.mem_append.1 hq with hq | hq
    · exact hb.2 l hq
    · obtain ⟨m, hm, rfl⟩ := List.mem_map.1 hq
      rw [indent_len]
      have := hl m hm
      omega
  unfold moreB
  split
  · refine key _ _ _ (by omega) fun l hl => ?_
    have := (wrapL_le 30 (asideT p.text)).2 l hl
    simp [asideT] at this; omega
  · refine key _ _ _ (by omega) fun l hl => ?_
    have := (wrapL_le 35 p.text).2 l hl
    omega
theorem blocks_siz {x : Sc} (h : LineOk x) : ∀ b ∈ blocksL x, sizB b := by
  obtain ⟨e, hr, _, _⟩ := h.sc.run
  have ht : ∀ p ∈ x.paras, p.text.length ≤ 2000 := fun p hp => para_len (run_all _ _ _ hr p hp)
  have hh := h.head
  have h0 : sizB ⟨0, wrapL 60 (headL x), [], []⟩ := ⟨by simp, fun l hl => by have := (wrapL_le 60 (headL x)).2 l hl; omega⟩
  have hi : (∀ b ∈ (blocksS x).1, sizB b) ∧ sizB (blocksS x).2 := foldl_inv (P := fun (s : List Bl × Bl) => (∀ b ∈ s.1, sizB b) ∧ sizB s.2) (Q := fun (p : Pa) => p.text.length ≤ 2000) (fun s p h1 h2 => by
    unfold bstep
    split
    · exact ⟨h1.1, moreB_siz h1.2 h2⟩
    · refine ⟨fun b hb => ?_, newB_siz h2⟩
      rcases List.mem_append.1 hb with hb | hb
      · exact h1.1 b hb
      · rw [List.mem_singleton.1 hb]; exact h1.2) _ _ ⟨by simp, h0⟩ ht
  intro b hb
  unfold blocksL at hb
  rcases List.mem_append.1 hb with hb | hb
  · exact hi.1 b hb
  · rw [List.mem_singleton.1 hb]; exact hi.2
theorem lines_siz {x : Sc} (h : LineOk x) : ∀ l ∈ linesL x, l.length ≤ 3000000 := fun l hl => by
  unfold linesL at hl
  obtain ⟨ls, h1, h2⟩ := List.mem_flatten.1 hl
  obtain ⟨b, hb, rfl⟩ := List.mem_map.1 h1
  unfold blockLines at h2
  rcases List.mem_append.1 h2 with h2 | h2
  · rw [List.eq_of_mem_replicate h2]; simp
  · exact (blocks_siz h b hb).2 l h2

theorem linesOf_pch {St : Std} (hS : LibOk St) (x : Sr) (hx : ScriptOk x) (k : Nat) (hk : k < x.scenes.length) : PcH Tryz.prog St 15 [srA x, .int .i64 (k : Int)] (· = .tup [.fz 1 ((linesL x.scenes[k]).map .str), .int .i64 0]) := by
  have hck := check_pch hS x hx
  have hli := lines_pch hS x.scenes[k] (ok_line _ _ _ hx.ok hx.many _ (List.getElem_mem hk))
  have hlen := hx.len
  obtain ⟨ti, xs⟩ := x
  simp only at hk hlen hli
  have hg' : List.getD (List.map scA xs) k .any = .agg [.str xs[k].no, .int .i64 xs[k].place, .str xs[k].set, .int .i64 xs[k].time, .fz 2 (xs[k].paras.map paA)] := by simp [List.getD, hk, scA]
  have d0 : decide ((k : Int) < 0) = false := by simp
  have d1 : decide ((k : Int) ≥ (xs.length : Int)) = false := by simp; omega
  simp only [srA, scA] at hck hli ⊢
  refine pch_intro (cth_intro Tryz.func15 rfl Tryz.ntmps15 hB15 (by simp) fun h ρ w hg => goF (N := 27) Tryz.ntmps15 300 ?_)
  simp only [go_sem, Nat.reduceAdd, Nat.reduceMul, Nat.reduceBEq, Nat.reduceLT, Nat.reduceLeDiff, reduceIte, reduceCtorEq, Int.reduceToNat, Int.reduceLT, Int.reduceGT, Int.reduceNeg, Int.reduceBEq, Int.reduceBNe]
  refine pcallH1 hg (hck) rfl (N := 27) Tryz.ntmps15 rfl (goF (N := 27) Tryz.ntmps15 300 ?_)
  simp only [go_sem, Nat.reduceAdd, Nat.reduceMul, Nat.reduceBEq, Nat.reduceLT, Nat.reduceLeDiff, reduceIte, reduceCtorEq, Int.reduceToNat, Int.reduceLT, Int.reduceGT, Int.reduceNeg, Int.reduceBEq, Int.reduceBNe, d0, d1, hg', List.length_map]
  repeat refine And.intro (by first | omega | exact .inl trivial | rfl | (simp; done) | (simp; omega)) ?_
  refine pcallH1 hg (hli) rfl (N := 27) Tryz.ntmps15 rfl (goF (N := 27) Tryz.ntmps15 300 ?_)
  simp only [go_sem, Nat.reduceAdd, Nat.reduceMul, Nat.reduceBEq, Nat.reduceLT, Nat.reduceLeDiff, reduceIte, reduceCtorEq, Int.reduceToNat, Int.reduceLT, Int.reduceGT, Int.reduceNeg, Int.reduceBEq, Int.reduceBNe]
  exact aret [4, 5] rfl ⟨rfl, rfl⟩

def spokenTo (xs : List Sc) (i : Nat) : List Ln := ((xs.take i).flatMap linesL).filter keepL
theorem spokenTo_step {xs : List Sc} {i : Nat} (h : i < xs.length) : spokenTo xs (i + 1) = spokenTo xs i ++ (linesL xs[i]).filter keepL := by
  unfold spokenTo
  rw [List.take_succ_eq_append_getElem h, List.flatMap_append, List.flatMap_cons, List.flatMap_nil, List.append_nil, List.filter_append]
theorem spokenTo_len {xs : List Sc} (h : ∀ x ∈ xs, (linesL x).length ≤ 44100000000) : ∀ i, i ≤ xs.length → (spokenTo xs i).length ≤ 44100000000 * i
  | 0, _ => by simp [spokenTo]
  | i + 1, hi => by
    have ih := spokenTo_len h i (by omega)
    have h2 := h _ (List.getElem_mem (show i < xs.length by omega))
    have h3 := List.length_filter_le keepL (linesL xs[i])
    rw [spokenTo_step (by omega), List.length_append]
    omega

set_option maxHeartbeats 4000000 in
theorem spoken_pch {St : Std} (hS : LibOk St) (x : Sr) (hx : ScriptOk x) (h5 : x.scenes.length ≤ 10) : PcH Tryz.prog St 6 [srA x] (· = .tup [.fz 1 (((x.scenes.flatMap linesL).filter keepL).map .str), .bool true]) := by
  have hlk := ok_line _ _ _ hx.ok hx.many
  have hlo := fun k hk => linesOf_pch hS x hx k hk
  obtain ⟨ti, xs⟩ := x
  simp only at h5 hlk hlo
  have hbd := spokenTo_len (fun y hy => (hlk y hy).lines)
  simp only [srA] at hlo ⊢
  refine pch_intro (cth_intro Tryz.func6 rfl Tryz.ntmps6 hB6 (by simp) fun h ρ w hg => goF (N := 44) Tryz.ntmps6 300 ?_)
  simp only [go_sem, Nat.reduceAdd, Nat.reduceMul, Nat.reduceBEq, Nat.reduceLT, Nat.reduceLeDiff, reduceIte, reduceCtorEq, Int.reduceToNat, Int.reduceLT, Int.reduceGT, Int.reduceNeg, Int.reduceBEq, Int.reduceBNe, List.length_map]
  refine aloop (ι := Nat) (fun i => xs.length - i) (fun i => [(13, .int .i64 i), (12, .int .i64 xs.length), (4, .sl 1 0 (spokenTo xs i).length (spokenTo xs i).length), (1, .ptr 0 1 0 0)])
    (fun i => [.arr 2 [.agg [.str ti, .fz 5 (xs.map scA)]], .arr 1 ((spokenTo xs i).map .str)]) (fun i => i ≤ xs.length) 0 (by omega) ?_ ?_
  · refine Shift.trans (Shift.nilsl 4 1 rfl) (Shift.weakS ?_ rfl)
    simp only [wk, go_sem, Nat.reduceAdd, Nat.reduceMul, Nat.reduceBEq, Nat.reduceLT, Nat.reduceLeDiff, reduceIte, reduceCtorEq, Int.reduceToNat, Int.reduceLT, Int.reduceGT, Int.reduceNeg, Int.reduceBEq, Int.reduceBNe]
    rfl
  · intro i g1 J hJ
    by_cases gi : i < xs.length
    · have di : decide ((i : Int) < (xs.length : Int)) = true := by simp; omega
      have hlo' := hlo i gi
      have fin := hJ (i + 1) (by omega) (by omega)
      rw [spokenTo_step gi] at fin
      have hsl := hbd i g1
      have hll := (hlk _ (List.getElem_mem gi)).lines
      have hls := lines_siz (hlk _ (List.getElem_mem gi))
      generalize spokenTo xs i = dn at fin hsl ⊢
      generalize linesL xs[i] = p at hlo' fin hll hls
      refine goF (N := 44) Tryz.ntmps6 300 ?_
      simp only [go_sem, Nat.reduceAdd, Nat.reduceMul, Nat.reduceBEq, Nat.reduceLT, Nat.reduceLeDiff, reduceIte, reduceCtorEq, Int.reduceToNat, Int.reduceLT, Int.reduceGT, Int.reduceNeg, Int.reduceBEq, Int.reduceBNe, di, List.length_map]
      repeat refine And.intro (by first | omega | exact .inl trivial | rfl | (simp; done) | (simp; omega)) ?_
      refine pcallH1 hg (hlo') rfl (N := 44) Tryz.ntmps6 rfl (goF (N := 44) Tryz.ntmps6 300 ?_)
      simp only [go_sem, Nat.reduceAdd, Nat.reduceMul, Nat.reduceBEq, Nat.reduceLT, Nat.reduceLeDiff, reduceIte, reduceCtorEq, Int.reduceToNat, Int.reduceLT, Int.reduceGT, Int.reduceNeg, Int.reduceBEq, Int.reduceBNe, List.length_map]
      repeat refine And.intro (by first | omega | exact .inl trivial | rfl | (simp; done) | (simp; omega)) ?_
      refine aloop (ι := Nat) (fun k => p.length - k) (fun k => [(26, .int .i64 k), (25, .int .i64 p.length), (24, .fz 1 (p.map .str)), (13, .int .i64 i), (12, .int .i64 xs.length), (4, .sl 1 0 (dn.length + ((p.take k).filter keepL).length) (dn.length + ((p.take k).filter keepL).length)), (1, .ptr 0 1 0 0)])
        (fun k => [.arr 2 [.agg [.str ti, .fz 5 (xs.map scA)]], .arr 1 ((dn ++ (p.take k).filter keepL).map .str)]) (fun k => k ≤ p.length) 0 (by omega) ?_ ?_
      · refine Shift.weakS ?_ (by simp)
        simp only [wk, go_sem, Nat.reduceAdd, Nat.reduceMul, Nat.reduceBEq, Nat.reduceLT, Nat.reduceLeDiff, reduceIte, reduceCtorEq, Int.reduceToNat, Int.reduceLT, Int.reduceGT, Int.reduceNeg, Int.reduceBEq, Int.reduceBNe, List.take_zero, List.filter_nil, List.length_nil, Nat.add_zero]
      · intro k g2 J2 hJ2
        by_cases gk : k < p.length
        · have dk : decide ((k : Int) < (p.length : Int)) = true := by simp; omega
          have hgk : List.getD (List.map AV.str p) k .any = .str p[k] := by simp [List.getD, gk]
          have fin2 := hJ2 (k + 1) (by omega) (by omega)
          rw [List.take_succ_eq_append_getElem gk, List.filter_append, List.filter_cons] at fin2
          have hlk2 := hls _ (List.getElem_mem gk)
          have hsk := List.length_filter_le keepL (p.take k)
          rw [show (p.take k).length = k by simp; omega] at hsk
          generalize (p.take k).filter keepL = sk at fin2 hsk ⊢
          generalize p[k] = l at hgk fin2 hlk2
          have hka : keepL l = (l != [] && !Lib.hasSuffix l omitW) := rfl
          cases e1 : (l != []) with
          | false =>
            rw [hka, e1, Bool.false_and, if_neg (by simp), List.filter_nil, List.append_nil] at fin2
            refine goF (N := 44) Tryz.ntmps6 300 ?_
            simp only [go_sem, Nat.reduceAdd, Nat.reduceMul, Nat.reduceBEq, Nat.reduceLT, Nat.reduceLeDiff, reduceIte, reduceCtorEq, Int.reduceToNat, Int.reduceLT, Int.reduceGT, Int.reduceNeg, Int.reduceBEq, Int.reduceBNe, dk, hgk, e1, List.length_map]
            repeat refine And.intro (by first | omega | exact .inl trivial | rfl | (simp; done) | (simp; omega)) ?_
            rw [show (k : Int) + 1 = ((k + 1 : Nat) : Int) by omega]
            refine ainv fin2 (Shift.weakS ?_ rfl)
            simp only [wk, go_sem, Nat.reduceAdd, Nat.reduceMul, Nat.reduceBEq, Nat.reduceLT, Nat.reduceLeDiff, reduceIte, reduceCtorEq, Int.reduceToNat, Int.reduceLT, Int.reduceGT, Int.reduceNeg, Int.reduceBEq, Int.reduceBNe]
          | true =>
            cases e3 : Lib.hasSuffix l omitW with
            | true =>
              rw [hka, e1, e3, if_neg (by simp), List.filter_nil, List.append_nil] at fin2
              refine goF (N := 44) Tryz.ntmps6 300 ?_
              simp only [go_sem, Nat.reduceAdd, Nat.reduceMul, Nat.reduceBEq, Nat.reduceLT, Nat.reduceLeDiff, reduceIte, reduceCtorEq, Int.reduceToNat, Int.reduceLT, Int.reduceGT, Int.reduceNeg, Int.reduceBEq, Int.reduceBNe, dk, hgk, e1, List.length_map]
              repeat refine And.intro (by first | omega | exact .inl trivial | rfl | (simp; done) | (simp; omega)) ?_
              refine pcall1 (hasSuffix_pc l omitW (by omega)) rfl (N := 44) Tryz.ntmps6 rfl (goF (N := 44) Tryz.ntmps6 300 ?_)
              simp only [go_sem, Nat.reduceAdd, Nat.reduceMul, Nat.reduceBEq, Nat.reduceLT, Nat.reduceLeDiff, reduceIte, reduceCtorEq, Int.reduceToNat, Int.reduceLT, Int.reduceGT, Int.reduceNeg, Int.reduceBEq, Int.reduceBNe, e3]
              repeat refine And.intro (by first | omega | exact .inl trivial | rfl | (simp; done) | (simp; omega)) ?_
              rw [show (k : Int) + 1 = ((k + 1 : Nat) : Int) by omega]
              refine ainv fin2 (Shift.weakS ?_ rfl)
              simp only [wk, go_sem, Nat.reduceAdd, Nat.reduceMul, Nat.reduceBEq, Nat.reduceLT, Nat.reduceLeDiff, reduceIte, reduceCtorEq, Int.reduceToNat, Int.reduceLT, Int.reduceGT, Int.reduceNeg, Int.reduceBEq, Int.reduceBNe]
            | false =>
              rw [hka, e1, e3, if_pos (by simp), List.filter_nil] at fin2
              refine goF (N := 44) Tryz.ntmps6 300 ?_
              simp only [go_sem, Nat.reduceAdd, Nat.reduceMul, Nat.reduceBEq, Nat.reduceLT, Nat.reduceLeDiff, reduceIte, reduceCtorEq, Int.reduceToNat, Int.reduceLT, Int.reduceGT, Int.reduceNeg, Int.reduceBEq, Int.reduceBNe, dk, hgk, e1, List.length_map]
              repeat refine And.intro (by first | omega | exact .inl trivial | rfl | (simp; done) | (simp; omega)) ?_
              refine pcall1 (hasSuffix_pc l omitW (by omega)) rfl (N := 44) Tryz.ntmps6 rfl (goF (N := 44) Tryz.ntmps6 300 ?_)
              simp only [go_sem, Nat.reduceAdd, Nat.reduceMul, Nat.reduceBEq, Nat.reduceLT, Nat.reduceLeDiff, reduceIte, reduceCtorEq, Int.reduceToNat, Int.reduceLT, Int.reduceGT, Int.reduceNeg, Int.reduceBEq, Int.reduceBNe, e3, List.length_map, List.length_append]
              repeat refine And.intro (by first | omega | exact .inl trivial | rfl | (simp; done) | (simp; omega)) ?_
              rw [show (k : Int) + 1 = ((k + 1 : Nat) : Int) by omega]
              refine ainv fin2 ?_
              refine Shift.weakS ?_ (by simp)
              simp only [wk, go_sem, Nat.reduceAdd, Nat.reduceMul, Nat.reduceBEq, Nat.reduceLT, Nat.reduceLeDiff, reduceIte, reduceCtorEq, Int.reduceToNat, Int.reduceLT, Int.reduceGT, Int.reduceNeg, Int.reduceBEq, Int.reduceBNe, List.length_append, List.length_cons, List.length_nil, Nat.add_assoc]
        · have dk : decide ((k : Int) < (p.length : Int)) = false := by simp; omega
          have hk : k = p.length := by omega
          subst hk
          rw [List.take_length]
          refine goF (N := 44) Tryz.ntmps6 300 ?_
          simp only [go_sem, Nat.reduceAdd, Nat.reduceMul, Nat.reduceBEq, Nat.reduceLT, Nat.reduceLeDiff, reduceIte, reduceCtorEq, Int.reduceToNat, Int.reduceLT, Int.reduceGT, Int.reduceNeg, Int.reduceBEq, Int.reduceBNe, dk]
          repeat refine And.intro (by first | omega | exact .inl trivial | rfl | (simp; done) | (simp; omega)) ?_
          rw [show (i : Int) + 1 = ((i + 1 : Nat) : Int) by omega]
          refine ainv fin ?_
          refine Shift.weakS ?_ rfl
          simp only [wk, go_sem, Nat.reduceAdd, Nat.reduceMul, Nat.reduceBEq, Nat.reduceLT, Nat.reduceLeDiff, reduceIte, reduceCtorEq, Int.reduceToNat, Int.reduceLT, Int.reduceGT, Int.reduceNeg, Int.reduceBEq, Int.reduceBNe, List.length_append]
    · have di : decide ((i : Int) < (xs.length : Int)) = false := by simp; omega
      have hi : i = xs.length := by omega
      subst hi
      have ha : spokenTo xs xs.length = (xs.flatMap linesL).filter keepL := by unfold spokenTo; rw [List.take_length]
      rw [ha]
      refine goF (N := 44) Tryz.ntmps6 300 ?_
      simp only [go_sem, Nat.reduceAdd, Nat.reduceMul, Nat.reduceBEq, Nat.reduceLT, Nat.reduceLeDiff, reduceIte, reduceCtorEq, Int.reduceToNat, Int.reduceLT, Int.reduceGT, Int.reduceNeg, Int.reduceBEq, Int.reduceBNe, di]
      exact ARet.shift (Shift.freeze 2 (id := 1) rfl rfl (by simp) (Nat.le_refl _) (frozen_lns _)) (aret [2, 3] rfl ⟨by simp only [resV, Av.get, put, go_sem, Nat.reduceAdd, Nat.reduceMul, Nat.reduceBEq, Nat.reduceLT, Nat.reduceLeDiff, reduceIte, reduceCtorEq, Int.reduceToNat, Int.reduceLT, Int.reduceGT, Int.reduceNeg, Int.reduceBEq, Int.reduceBNe]; simp [List.take_of_length_le], rfl⟩)
end Go.Proofs.YtikbgjhajgjjdaaGreatDoor
