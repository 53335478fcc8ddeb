/- Layout, walked. Own work of this seat. -/
import Derived.Test.YtikbgjhajgjjdaaGreatDoorP49
set_option maxRecDepth 100000
set_option linter.unusedSimpArgs false
set_option linter.unusedVariables false
namespace Go.Proofs.YtikbgjhajgjjdaaGreatDoor
open Go Go.Av Go.RowKit
attribute [local go_sem ↓] br_true br_false dbr_true dbr_false dbri_true dbri_false dbrg_true dbrg_false
attribute [local go_sem] run cont br dbr dx dxc dgrd dyld dres dcall calm fieldPlace? allHas step1 opN grdN resN condN exitN stopN exitIt dOk xop xbin xint xarith xstr xbool xpick xnot xneg xextract xpart xpartOk xindex xfieldF fieldD xnew xbox xalloc xfieldAddr xptrAddIf xindexAddr xloadC xload putCells reElem xstoreB xstore xconv xtext xlen xlen2 xcall xfill xbuild cut rep xbuildSlice xbuildSliceD isRow elemD isU8 ev evs evp Go.Av.put Go.Av.get ofConst yldD yldV notBool_undef args0 cellsOf cond_true cond_false decide_true decide_false decide_eq_true_eq decide_eq_false_iff_not List.getElem?_cons_zero List.getElem?_cons_succ List.getElem?_nil List.getD_cons_zero List.getD_cons_succ List.getD_nil List.set_cons_zero List.set_cons_succ List.length_cons List.length_nil List.cons_append List.nil_append List.append_nil List.all_cons List.all_nil List.map_cons List.map_nil List.take_succ_cons List.take_zero List.drop_succ_cons List.drop_zero Bool.and_true Bool.true_and Bool.and_self Bool.and_false Bool.false_and one Go.Av.frozen beq_self_eq_true true_and and_true forall_const false_implies implies_true and_self Option.map_some Option.map_none Nat.zero_add Nat.add_zero Nat.zero_mul Nat.mul_one Nat.one_mul Int.toNat_zero ne_eq not_false_eq_true not_true_eq_false Bool.true_eq_false Bool.false_eq_true List.toList_toArray inr Go.Av.byteOf isByte decide_eq_decide Bool.not_true Bool.not_false Bool.not_eq_true' Bool.or_true Bool.true_or Bool.or_false Bool.false_or ge_iff_le gt_iff_lt and_assoc Bool.decide_eq_true beq_iff_eq beq_eq_false_iff_ne bne_iff_ne bne_self_eq_false if_true if_false Bool.and_eq_true Bool.or_eq_true Bool.and_eq_false_imp Bool.or_eq_false_iff Bool.not_eq_false' has Option.isSome_some Option.isSome_none Int.toNat_natCast Int.cast_ofNat_Int List.length_append xapp2 xapp xappS xappD xappB notInt srcOf srcB byteAV splice' xcut xcutS xcutF xcutB xcutN xcut0 cutL loOf hiOf evo xmake zelem xmax xcopy2 xcopyS xcopyB xnil xcut3 ixOf xclear2 xclearB List.getElem?_toArray xbin2 xnileq xempty xmkmap xmput xmputB xmputF isKey keyEq mfind xbin3 xeqs xeqop eqFs bothB leafEq xlook xlookB xlookF xbytes beq_c_n beq_n_c bne_c_n bne_n_c one_nil dxi dxic dbri rix dck reader blind opOk refOk Go.Op.operands Go.Call.operands List.contains_cons List.contains_nil dxg dxgc dbrg pck putD List.lookup_cons List.lookup_nil ts2 tb2 zl2 za2 Tryz.underlying2 ts3 tb3 zl3 za3 Tryz.underlying3 ts4 tb4 zl4 za4 Tryz.underlying4 ts5 tb5 zl5 za5 Tryz.underlying5 ts6 tb6 zl6 za6 Tryz.underlying6 ts7 tb7 za7 Tryz.underlying7 ts8 tb8 za8 Tryz.underlying8 ts9 tb9 zl9 za9 Tryz.underlying9 ts10 tb10 zl10 za10 Tryz.underlying10 ts11 tb11 zl11 za11 Tryz.underlying11 ts12 tb12 zl12 za12 Tryz.underlying12 ts13 tb13 za13 Tryz.underlying13 ts14 tb14 za14 Tryz.underlying14 ts18 tb18 za18 Tryz.underlying18 ts19 tb19 za19 Tryz.underlying19 ts21 tb21 zl21 za21 Tryz.underlying21 ts22 tb22 zl22 za22 Tryz.underlying22 ts24 tb24 za24 Tryz.underlying24 ts25 tb25 za25 Tryz.underlying25 ts26 tb26 zl26 za26 Tryz.underlying26 ts27 tb27 za27 Tryz.underlying27 ts28 tb28 za28 Tryz.underlying28 ts30 tb30 zl30 za30 Tryz.underlying30 ts31 tb31 zl31 za31 Tryz.underlying31 ts34 tb34 zl34 za34 Tryz.underlying34 ts35 tb35 zl35 za35 Tryz.underlying35 ts36 tb36 za36 Tryz.underlying36 ts37 tb37 za37 Tryz.underlying37 ts46 tb46 za46 Tryz.underlying46 ts47 tb47 za47 Tryz.underlying47 ts61 tb61 zl61 za61 Tryz.underlying61 ts62 tb62 za62 Tryz.underlying62 ts63 tb63 za63 Tryz.underlying63 ts66 tb66 zl66 za66 Tryz.underlying66 ts68 tb68 zl68 za68 Tryz.underlying68 ts74 tb74 za74 Tryz.underlying74 ts75 tb75 za75 Tryz.underlying75 ts77 tb77 zl77 za77 Tryz.underlying77 ts81 tb81 zl81 za81 Tryz.underlying81 ts82 tb82 za82 Tryz.underlying82 ts83 tb83 za83 Tryz.underlying83 ts86 tb86 zl86 za86 Tryz.underlying86 ts102 tb102 za102 Tryz.underlying102 ts103 tb103 za103 Tryz.underlying103 ts106 tb106 za106 Tryz.underlying106 ts107 tb107 za107 Tryz.underlying107 ts114 tb114 zl114 za114 Tryz.underlying114 ts117 tb117 zl117 za117 Tryz.underlying117 ts120 tb120 zl120 za120 Tryz.underlying120 ts133 tb133 zl133 za133 Tryz.underlying133 ts144 tb144 zl144 za144 Tryz.underlying144 ts151 tb151 zl151 za151 Tryz.underlying151 ts156 tb156 zl156 za156 Tryz.underlying156 ts160 tb160 Tryz.underlying160 ts169 tb169 za169 Tryz.underlying169 ts170 tb170 za170 Tryz.underlying170 ts175 tb175 Tryz.underlying175 ts180 tb180 za180 Tryz.underlying180 ts181 tb181 za181 Tryz.underlying181 ts185 tb185 za185 Tryz.underlying185 ts186 tb186 za186 Tryz.underlying186 ts187 tb187 Tryz.underlying187 ts189 tb189 Tryz.underlying189 ts190 tb190 Tryz.underlying190 ts191 tb191 za191 Tryz.underlying191 ts192 tb192 za192 Tryz.underlying192 ts196 tb196 zl196 za196 Tryz.underlying196 ts197 tb197 zl197 za197 Tryz.underlying197 ts199 tb199 zl199 za199 Tryz.underlying199 ts200 tb200 zl200 za200 Tryz.underlying200 ts201 tb201 za201 Tryz.underlying201 ts202 tb202 za202 Tryz.underlying202

def allB (xs : List Sc) : List Bl := xs.flatMap blocksL
def allTo (xs : List Sc) (i : Nat) : List Bl := allB (xs.take i)
theorem allTo_step {xs : List Sc} {i : Nat} (h : i < xs.length) : allTo xs (i + 1) = allTo xs i ++ blocksL xs[i] := by
  unfold allTo allB
  rw [List.take_succ_eq_append_getElem h, List.flatMap_append, List.flatMap_cons, List.flatMap_nil, List.append_nil]
theorem allTo_len {xs : List Sc} (h : ∀ x ∈ xs, LineOk x) : ∀ i, i ≤ xs.length → (allTo xs i).length ≤ 4001 * i
  | 0, _ => by simp [allTo, allB]
  | i + 1, hi => by
    have ih := allTo_len h i (by omega)
    have h2 := (h _ (List.getElem_mem (show i < xs.length by omega))).bound.2
    rw [allTo_step (by omega), List.length_append]
    omega
def headsTo (xs : List Sc) (i : Nat) : List Int := (List.range i).map fun k => ((allTo xs k).length : Int)
theorem headsTo_step (xs : List Sc) (i : Nat) : headsTo xs (i + 1) = headsTo xs i ++ [((allTo xs i).length : Int)] := by
  simp [headsTo, List.range_succ]
theorem headsTo_len (xs : List Sc) (i : Nat) : (headsTo xs i).length = i := by simp [headsTo]
theorem cost_le {bs : List Bl} (h : ∀ b ∈ bs, b.lines.length ≤ 11000000) : ∀ i, i ≤ bs.length → costTo bs i ≤ 11000001 * i
  | 0, _ => by simp [costTo]
  | i + 1, hi => by
    have ih := cost_le h i (by omega)
    have h2 := h _ (List.getElem_mem (show i < bs.length by omega))
    rw [costTo_step (by omega)]
    omega
/-- a script whose layout is walked -/
structure LayOk (x : Sr) : Prop where
  ok : ScriptOk x
  few : x.scenes.length ≤ 10
  own : ∀ y ∈ x.scenes, ∀ b ∈ blocksL y, BlOk b
theorem LayOk.fit {x : Sr} (h : LayOk x) : ∀ b ∈ allB x.scenes, BlFit b := fun b hb => by
  obtain ⟨y, hy, hb⟩ := List.mem_flatMap.1 hb
  have hl := ok_line _ _ _ h.ok.ok h.ok.many y hy
  exact ⟨(h.own y hy b hb).kinds, by have := hl.bound.1 b hb; omega, by have := (blocks_siz hl b hb).1; omega⟩
theorem LayOk.bl {x : Sr} (h : LayOk x) : ∀ b ∈ allB x.scenes, BlOk b := fun b hb => by
  obtain ⟨y, hy, hb⟩ := List.mem_flatMap.1 hb
  exact h.own y hy b hb
def layA (s : LS) : AV := .agg [.fz 1 (s.pages.map pgA), .fz 1 (s.firsts.map (.int .i64)), .fz 1 (s.starts.map (.int .i64))]

set_option maxHeartbeats 4000000 in
theorem laid_pch {St : Std} (hS : LibOk St) (x : Sr) (h : LayOk x) : PcH Tryz.prog St 14 [srA x] (· = .tup [layA (layL (allB x.scenes)), .fz 1 ((headsTo x.scenes x.scenes.length).map (.int .i64))]) := by
  have hlk := ok_line _ _ _ h.ok.ok h.ok.many
  have h5 := h.few
  have hfit := h.fit
  have hbl := h.bl
  obtain ⟨ti, xs⟩ := x
  simp only at hlk h5 hfit hbl
  have hbd := allTo_len hlk
  have hal : allTo xs xs.length = allB xs := by unfold allTo; rw [List.take_length]
  have hcost := cost_le (bs := allB xs) (fun b hb => by
    obtain ⟨y, hy, hb⟩ := List.mem_flatMap.1 hb
    exact (hlk y hy).bound.1 b hb) _ (Nat.le_refl _)
  have hall := hbd xs.length (Nat.le_refl _)
  rw [hal] at hall
  have hlay := lay_pc (allB xs) hfit hbl (by omega) (by omega)
  simp only [srA, layA] at ⊢
  refine pch_intro (cth_intro Tryz.func14 rfl Tryz.ntmps14 hB14 (by simp) fun h ρ w hg => goF (N := 28) Tryz.ntmps14 300 ?_)
  simp only [go_sem, Nat.reduceAdd, Nat.reduceMul, Nat.reduceBEq, Nat.reduceLT, Nat.reduceLeDiff, reduceIte, reduceCtorEq, Int.reduceToNat, Int.reduceLT, Int.reduceGT, Int.reduceNeg, Int.reduceBEq, Int.reduceBNe, List.length_map]
  refine aloop (ι := Nat) (fun i => xs.length - i) (fun i => [(11, .int .i64 i), (10, .int .i64 xs.length), (9, .fz 5 (xs.map scA)), (4, .sl 2 0 (allTo xs i).length (allTo xs i).length), (5, .sl 3 0 i i), (2, .ptr 1 1 0 0), (1, .ptr 0 1 0 0)])
    (fun i => [.arr 2 [.agg [.str ti, .fz 5 (xs.map scA)]], .arr 3 [.agg [.raw (.slice none 0 0), .raw (.slice none 0 0), .raw (.slice none 0 0)]], .arr 4 ((allTo xs i).map blA), .arr 1 ((headsTo xs i).map (.int .i64))]) (fun i => i ≤ xs.length) 0 (by omega) ?_ ?_
  · refine Shift.trans (Shift.nilsl 4 4 rfl) (Shift.trans (Shift.nilsl 5 1 rfl) (Shift.weakS ?_ rfl))
    simp only [wk, go_sem, Nat.reduceAdd, Nat.reduceMul, Nat.reduceBEq, Nat.reduceLT, Nat.reduceLeDiff, reduceIte, reduceCtorEq, Int.reduceToNat, Int.reduceLT, Int.reduceGT, Int.reduceNeg, Int.reduceBEq, Int.reduceBNe]
    rfl
  · intro i g1 J hJ
    by_cases gi : i < xs.length
    · have di : decide ((i : Int) < (xs.length : Int)) = true := by simp; omega
      have hg' : List.getD (List.map scA xs) i .any = .agg [.str xs[i].no, .int .i64 xs[i].place, .str xs[i].set, .int .i64 xs[i].time, .fz 2 (xs[i].paras.map paA)] := by simp [List.getD, gi, scA]
      have hx := hlk _ (List.getElem_mem gi)
      have hbk := blocks_pch hS xs[i] hx.sc hx.place hx.time hx.no (set_len hx.sc) hx.few
      have hb1 := hbd i g1
      have hb2 := hx.bound.2
      have hhl := headsTo_len xs i
      have fin := hJ (i + 1) (by omega) (by omega)
      rw [allTo_step gi, headsTo_step] at fin
      simp only [scA] at hbk
      refine goF (N := 28) Tryz.ntmps14 300 ?_
      simp only [go_sem, Nat.reduceAdd, Nat.reduceMul, Nat.reduceBEq, Nat.reduceLT, Nat.reduceLeDiff, reduceIte, reduceCtorEq, Int.reduceToNat, Int.reduceLT, Int.reduceGT, Int.reduceNeg, Int.reduceBEq, Int.reduceBNe, di, hg', hhl, List.length_map]
      repeat refine And.intro (by first | omega | exact .inl trivial | rfl | (simp; done) | (simp; omega)) ?_
      refine pcallH1 hg (hbk) rfl (N := 28) Tryz.ntmps14 rfl (goF (N := 28) Tryz.ntmps14 300 ?_)
      simp only [go_sem, Nat.reduceAdd, Nat.reduceMul, Nat.reduceBEq, Nat.reduceLT, Nat.reduceLeDiff, reduceIte, reduceCtorEq, Int.reduceToNat, Int.reduceLT, Int.reduceGT, Int.reduceNeg, Int.reduceBEq, Int.reduceBNe, List.length_map, hhl]
      repeat refine And.intro (by first | omega | exact .inl trivial | rfl | (simp; done) | (simp; omega)) ?_
      rw [show (i : Int) + 1 = ((i + 1 : Nat) : Int) by omega]
      refine ainv fin ?_
      refine Shift.trans (Shift.low 4 (by simp) (by simp) ?_ (e' := [(11, .int .i64 ((i + 1 : Nat) : Int)), (10, .int .i64 xs.length), (9, .fz 5 (xs.map scA)), (4, .sl 2 0 ((allTo xs i).length + (blocksL xs[i]).length) ((allTo xs i).length + (blocksL xs[i]).length)), (5, .sl 3 0 (i + 1) (i + 1)), (2, .ptr 1 1 0 0), (1, .ptr 0 1 0 0)]) ?_) (Shift.weakS ?_ ?_)
      · have e1 := low_all (n := 4) (frozen_bls (allTo xs i))
        have e2 := low_all (n := 4) (frozen_bls (blocksL xs[i]))
        have e3 := low_all (n := 4) (frozen_nums (headsTo xs i))
        simp only [List.take_succ_cons, List.take_zero, List.all_cons, List.all_nil, lowB, flat_append, List.all_append, e1, e2, e3]
        rfl
      · simp only [wkl, lowV, lowC, Av.get, go_sem, Nat.reduceAdd, Nat.reduceMul, Nat.reduceBEq, Nat.reduceLT, Nat.reduceLeDiff, reduceIte, reduceCtorEq, Int.reduceToNat, Int.reduceLT, Int.reduceGT, Int.reduceNeg, Int.reduceBEq, Int.reduceBNe]
      · simp only [wk, Av.get, go_sem, Nat.reduceAdd, Nat.reduceMul, Nat.reduceBEq, Nat.reduceLT, Nat.reduceLeDiff, reduceIte, reduceCtorEq, Int.reduceToNat, Int.reduceLT, Int.reduceGT, Int.reduceNeg, Int.reduceBEq, Int.reduceBNe, List.length_append]
      · simp
    · have di : decide ((i : Int) < (xs.length : Int)) = false := by simp; omega
      have hi : i = xs.length := by omega
      subst hi
      rw [hal]
      have hhl := headsTo_len xs xs.length
      generalize headsTo xs xs.length = hs at hhl ⊢
      refine AWp.shift (Shift.trans (Shift.freeze 4 (id := 2) rfl rfl (by simp) (Nat.le_refl _) (frozen_bls _)) (Shift.freeze 5 (id := 3) rfl rfl (by simp [hhl]) (Nat.le_refl _) (frozen_nums _))) ?_
      simp only [List.drop_zero, List.set_cons_succ, List.set_cons_zero, put]
      have t1 : List.take (allB xs).length (List.map blA (allB xs)) = List.map blA (allB xs) := List.take_of_length_le (by simp)
      have t2 : List.take xs.length (List.map (AV.int .i64) hs) = List.map (AV.int .i64) hs := List.take_of_length_le (by simp [hhl])
      rw [t1, t2]
      refine goF (N := 28) Tryz.ntmps14 300 ?_
      simp only [go_sem, Nat.reduceAdd, Nat.reduceMul, Nat.reduceBEq, Nat.reduceLT, Nat.reduceLeDiff, reduceIte, reduceCtorEq, Int.reduceToNat, Int.reduceLT, Int.reduceGT, Int.reduceNeg, Int.reduceBEq, Int.reduceBNe, di]
      refine pcall1 (hlay) rfl (N := 28) Tryz.ntmps14 rfl (goF (N := 28) Tryz.ntmps14 300 ?_)
      simp only [go_sem, Nat.reduceAdd, Nat.reduceMul, Nat.reduceBEq, Nat.reduceLT, Nat.reduceLeDiff, reduceIte, reduceCtorEq, Int.reduceToNat, Int.reduceLT, Int.reduceGT, Int.reduceNeg, Int.reduceBEq, Int.reduceBNe]
      repeat refine And.intro (by first | omega | exact .inl trivial | rfl | (simp; done) | (simp; omega)) ?_
      exact aretc [.cell 2 47, .tmp 3] rfl [_, _] ⟨by simp only [go_sem, Nat.reduceAdd, Nat.reduceMul, Nat.reduceBEq, Nat.reduceLT, Nat.reduceLeDiff, reduceIte, reduceCtorEq, Int.reduceToNat, Int.reduceLT, Int.reduceGT, Int.reduceNeg, Int.reduceBEq, Int.reduceBNe, sideIs], rfl, trivial⟩ ⟨rfl, rfl⟩

def pgI : Nat → List (List Ln) → List AV
  | _, [] => []
  | i, p :: r => .agg [.int .i64 ((i + 1 : Nat) : Int), pgA p] :: pgI (i + 1) r
theorem pgI_snoc : ∀ (l : List (List Ln)) (j : Nat) (p : List Ln), pgI j (l ++ [p]) = pgI j l ++ [.agg [.int .i64 ((j + l.length + 1 : Nat) : Int), pgA p]]
  | [], j, p => rfl
  | q :: r, j, p => by
    have := pgI_snoc r (j + 1) p
    simp only [List.cons_append, pgI, this, List.length_cons]
    rw [show j + 1 + r.length + 1 = j + (r.length + 1) + 1 by omega]
theorem pgI_len : ∀ (l : List (List Ln)) (j : Nat), (pgI j l).length = l.length
  | [], _ => rfl
  | _ :: r, j => by simp [pgI, pgI_len r (j + 1)]
theorem pgI_get : ∀ (l : List (List Ln)) (j k : Nat) (h : k < l.length), List.getD (pgI j l) k .any = .agg [.int .i64 ((j + k + 1 : Nat) : Int), pgA l[k]]
  | [], _, _, h => by simp at h
  | q :: r, j, 0, h => rfl
  | q :: r, j, k + 1, h => by
    have := pgI_get r (j + 1) k (by simpa using h)
    simp only [pgI, List.getD_cons_succ, this, List.getElem_cons_succ]
    rw [show j + 1 + k + 1 = j + (k + 1) + 1 by omega]
theorem frozen_pgI : ∀ (l : List (List Ln)) (j : Nat), (flat (pgI j l)).all Av.frozen = true
  | [], _ => rfl
  | q :: r, j => by simpa [pgI, flat, cellsOf, pgA, Av.frozen] using frozen_pgI r (j + 1)

set_option maxHeartbeats 4000000 in
theorem layout_pch {St : Std} (hS : LibOk St) (x : Sr) (h : LayOk x) (hn : (layL (allB x.scenes)).pages.length ≤ 1000000000000) : PcH Tryz.prog St 5 [srA x] (· = .tup [.fz 2 (pgI 0 (layL (allB x.scenes)).pages), .int .i64 0]) := by
  have hck := check_pch hS x h.ok
  have hla := laid_pch hS x h
  obtain ⟨ti, xs⟩ := x
  simp only [srA, layA] at hck hla hn ⊢
  generalize layL (allB xs) = s at hla hn ⊢
  obtain ⟨ps, fs, ss, pg, fi⟩ := s
  simp only at hla hn ⊢
  refine pch_intro (cth_intro Tryz.func5 rfl Tryz.ntmps5 hB5 (by simp) fun h ρ w hg => goF (N := 37) Tryz.ntmps5 300 ?_)
  simp only [go_sem, Nat.reduceAdd, Nat.reduceMul, Nat.reduceBEq, Nat.reduceLT, Nat.reduceLeDiff, reduceIte, reduceCtorEq, Int.reduceToNat, Int.reduceLT, Int.reduceGT, Int.reduceNeg, Int.reduceBEq, Int.reduceBNe]
  refine pcallH1 hg (hck) rfl (N := 37) Tryz.ntmps5 rfl (goF (N := 37) Tryz.ntmps5 300 ?_)
  simp only [go_sem, Nat.reduceAdd, Nat.reduceMul, Nat.reduceBEq, Nat.reduceLT, Nat.reduceLeDiff, reduceIte, reduceCtorEq, Int.reduceToNat, Int.reduceLT, Int.reduceGT, Int.reduceNeg, Int.reduceBEq, Int.reduceBNe]
  refine pcallH1 hg (hla) rfl (N := 37) Tryz.ntmps5 rfl (goF (N := 37) Tryz.ntmps5 300 ?_)
  simp only [go_sem, Nat.reduceAdd, Nat.reduceMul, Nat.reduceBEq, Nat.reduceLT, Nat.reduceLeDiff, reduceIte, reduceCtorEq, Int.reduceToNat, Int.reduceLT, Int.reduceGT, Int.reduceNeg, Int.reduceBEq, Int.reduceBNe, List.length_map]
  repeat refine And.intro (by first | omega | exact .inl trivial | rfl | (simp; done) | (simp; omega)) ?_
  refine aloop (ι := Nat) (fun i => ps.length - i) (fun i => [(23, .int .i64 i), (22, .int .i64 ps.length), (21, .fz 1 (ps.map pgA)), (7, .sl 2 0 i i)])
    (fun i => [.arr 2 [.agg [.str ti, .fz 5 (xs.map scA)]], .arr 3 [.agg [.fz 1 (ps.map pgA), .fz 1 (fs.map (.int .i64)), .fz 1 (ss.map (.int .i64))]], .arr 2 (pgI 0 (ps.take i))]) (fun i => i ≤ ps.length) 0 (by omega) ?_ ?_
  · refine Shift.trans (Shift.nilsl 7 2 rfl) (Shift.weakS ?_ rfl)
    simp only [wk, go_sem, Nat.reduceAdd, Nat.reduceMul, Nat.reduceBEq, Nat.reduceLT, Nat.reduceLeDiff, reduceIte, reduceCtorEq, Int.reduceToNat, Int.reduceLT, Int.reduceGT, Int.reduceNeg, Int.reduceBEq, Int.reduceBNe]
  · intro i g1 J hJ
    by_cases gi : i < ps.length
    · have di : decide ((i : Int) < (ps.length : Int)) = true := by simp; omega
      have hg' : List.getD (List.map pgA ps) i .any = .fz 1 (ps[i].map .str) := by simp [List.getD, gi, pgA]
      have htl : (List.take i ps).length = i := by simp; omega
      have hpl : (pgI 0 (List.take i ps)).length = i := by rw [pgI_len, htl]
      have hsn : pgI 0 (List.take i ps) ++ [.agg [.int .i64 ((i + 1 : Nat) : Int), .fz 1 (ps[i].map .str)]] = pgI 0 (List.take (i + 1) ps) := by
        rw [List.take_succ_eq_append_getElem gi, pgI_snoc, htl, Nat.zero_add]; rfl
      refine goF (N := 37) Tryz.ntmps5 300 ?_
      simp only [go_sem, Nat.reduceAdd, Nat.reduceMul, Nat.reduceBEq, Nat.reduceLT, Nat.reduceLeDiff, reduceIte, reduceCtorEq, Int.reduceToNat, Int.reduceLT, Int.reduceGT, Int.reduceNeg, Int.reduceBEq, Int.reduceBNe, di, hg', hpl, List.length_map]
      repeat refine And.intro (by first | omega | exact .inl trivial | rfl | (simp; done) | (simp; omega)) ?_
      rw [show (i : Int) + 1 = ((i + 1 : Nat) : Int) by omega]
      refine ainv (hJ (i + 1) (by omega) (by omega)) ?_
      refine Shift.weakS ?_ (by rw [← hsn])
      simp only [wk, go_sem, Nat.reduceAdd, Nat.reduceMul, Nat.reduceBEq, Nat.reduceLT, Nat.reduceLeDiff, reduceIte, reduceCtorEq, Int.reduceToNat, Int.reduceLT, Int.reduceGT, Int.reduceNeg, Int.reduceBEq, Int.reduceBNe]
    · have di : decide ((i : Int) < (ps.length : Int)) = false := by simp; omega
      have hi : i = ps.length := by omega
      subst hi
      rw [List.take_length]
      refine goF (N := 37) Tryz.ntmps5 300 ?_
      simp only [go_sem, Nat.reduceAdd, Nat.reduceMul, Nat.reduceBEq, Nat.reduceLT, Nat.reduceLeDiff, reduceIte, reduceCtorEq, Int.reduceToNat, Int.reduceLT, Int.reduceGT, Int.reduceNeg, Int.reduceBEq, Int.reduceBNe, di]
      exact ARet.shift (Shift.freeze 2 (id := 2) rfl rfl (by simp [pgI_len]) (Nat.le_refl _) (frozen_pgI _ _)) (aret [2, 3] rfl ⟨by simp only [resV, Av.get, put, go_sem, Nat.reduceAdd, Nat.reduceMul, Nat.reduceBEq, Nat.reduceLT, Nat.reduceLeDiff, reduceIte, reduceCtorEq, Int.reduceToNat, Int.reduceLT, Int.reduceGT, Int.reduceNeg, Int.reduceBEq, Int.reduceBNe]; simp [pgI_len, List.take_of_length_le], rfl⟩)
end Go.Proofs.YtikbgjhajgjjdaaGreatDoor
/- How much there is on pages: plain law. Own work of this seat. -/
set_option maxRecDepth 100000
set_option linter.unusedSimpArgs false
set_option linter.unusedVariables false
namespace Go.Proofs.YtikbgjhajgjjdaaGreatDoor
open Go Go.Av Go.RowKit

theorem place_many {b : Bl} (ho : ∀ x ∈ b.lines, OwnLn x) : ∀ (f fr : Nat) (s : LS) (w : List Ln), PInv s w → b.lines.length - fr < f → fr ≤ b.lines.length → RoomOk b fr (54 - s.page.length) → (placeB b f fr s).pages.length ≤ s.pages.length + (b.lines.length - fr)
  | 0, fr, s, w, _, h, _, _ => by omega
  | f + 1, fr, s, w, h, hf, hfr, hr => by
    unfold placeB
    by_cases hne : stopL b fr (54 - s.page.length) = b.lines.length
    · rw [if_pos hne]
      simp only [addS]; omega
    · rw [if_neg hne]
      obtain ⟨h1, h2, ⟨w', h3⟩, h4⟩ := place_step ho h hfr hr hne
      generalize stopL b fr (54 - s.page.length) = tz at h1 h2 h3 h4 ⊢
      have := place_many ho f tz _ _ h3 (by omega) (by omega) h4
      have e : (breakS b (addS s (partL' b fr tz))).pages.length = s.pages.length + 1 := by simp [breakS, addS, flushS]
      omega
theorem lay_many_to {bs : List Bl} (ho : ∀ b ∈ bs, ∀ x ∈ b.lines, OwnLn x) : ∀ i, i ≤ bs.length → (layTo bs i).pages.length ≤ costTo bs i
  | 0, _ => by simp [layTo]
  | i + 1, hi => by
    have ih := lay_many_to ho i (by omega)
    have hl : i < bs.length := by omega
    obtain ⟨w, h1, _⟩ := lay_inv ho i (by omega)
    obtain ⟨g, _, h2, h3⟩ := open_inv (bs := bs) (i := i) (b := bs[i]) h1
    have h4 := place_many (ho _ (List.getElem_mem hl)) (bs[i].lines.length + 1) 0 _ _ h2 (by omega) (by omega) h3
    have h5 := (turn_many bs i bs[i] (layTo bs i)).1
    have h6 : (openS bs i bs[i] (layTo bs i)).pages.length = (turnS bs i bs[i] (layTo bs i)).pages.length := by
      simp only [openS, gapS, firstS]
      split <;> rfl
    simp only [layTo, List.getElem?_eq_getElem hl]
    rw [costTo_step hl]
    omega
theorem lay_many (bs : List Bl) (ho : ∀ b ∈ bs, ∀ x ∈ b.lines, OwnLn x) : (layL bs).pages.length ≤ costTo bs bs.length + 1 := by
  have := lay_many_to ho bs.length (Nat.le_refl _)
  unfold layL
  split
  · simp [flushS]; omega
  · omega

theorem bfold_count : ∀ (ps : List Pa) (s : List Bl × Bl), (ps.foldl bstep s).1.length ≤ s.1.length + ps.length
  | [], s => by simp
  | p :: r, s => by
    have ih := bfold_count r (bstep s p)
    have : (bstep s p).1.length ≤ s.1.length + 1 := by
      unfold bstep
      split
      · simp
      · simp
    simp only [List.foldl_cons, List.length_cons]
    omega
theorem blk_count (x : Sc) : (blocksL x).length ≤ x.paras.length + 1 := by
  have := bfold_count x.paras ([], ⟨0, wrapL 60 (headL x), [], []⟩)
  simp only [List.length_nil, Nat.zero_add] at this
  unfold blocksL blocksS
  simp only [List.length_append, List.length_cons, List.length_nil]
  omega
theorem allB_count : ∀ (l : List Sc), (∀ y ∈ l, y.paras.length ≤ 60) → (allB l).length ≤ 61 * l.length
  | [], _ => by simp [allB]
  | y :: r, h => by
    have ih := allB_count r (fun z hz => h z (by simp [hz]))
    have h1 := blk_count y
    have h2 := h y (by simp)
    simp only [allB, List.flatMap_cons, List.length_append, List.length_cons] at ih ⊢
    omega
theorem lay_cost {x : Sr} (h : LayOk x) (h60 : ∀ y ∈ x.scenes, y.paras.length ≤ 60) : costTo (allB x.scenes) (allB x.scenes).length ≤ 9000000000 := by
  have h1 := cost_le (bs := allB x.scenes) (fun b hb => by
    obtain ⟨y, hy, hb⟩ := List.mem_flatMap.1 hb
    exact (ok_line _ _ _ h.ok.ok h.ok.many y hy).bound.1 b hb) _ (Nat.le_refl _)
  have h2 := allB_count x.scenes h60
  have h3 := h.few
  omega
theorem lay_short {x : Sr} (h : LayOk x) : ((x.scenes.flatMap linesL).filter keepL).length < 1000000000000000 := by
  have h1 := spokenTo_len (fun y hy => (ok_line _ _ _ h.ok.ok h.ok.many y hy).lines) x.scenes.length (Nat.le_refl _)
  unfold spokenTo at h1
  rw [List.take_length] at h1
  have h3 := h.few
  omega

def qL (l : Ln) : Prop := l.length ≤ 3000100
def qS (s : LS) : Prop := (∀ p ∈ s.pages, ∀ l ∈ p, qL l) ∧ ∀ l ∈ s.page, qL l
theorem q_flush {s : LS} (h : qS s) : qS (flushS s) := by
  refine ⟨fun p hp => ?_, by simp [flushS]⟩
  simp only [flushS, List.mem_append, List.mem_singleton] at hp
  rcases hp with hp | rfl
  · exact h.1 p hp
  · exact h.2
theorem q_add {s : LS} (h : qS s) {l : List Ln} (hl : ∀ x ∈ l, qL x) : qS (addS s l) := by
  refine ⟨h.1, fun x hx => ?_⟩
  simp only [addS, List.mem_append] at hx
  rcases hx with hx | hx
  · exact h.2 x hx
  · exact hl x hx
theorem q_more : qL moreLn := by unfold qL; decide
theorem q_goes {b : Bl} (h : b.name.length ≤ 2000) : qL (goesLn b) := by
  unfold qL goesLn
  rw [List.length_append, indent_len]
  simp [contW]; omega
theorem q_break {b : Bl} (hn : b.name.length ≤ 2000) {s : LS} (h : qS s) : qS (breakS b s) := by
  unfold breakS
  refine q_add (q_flush (q_add h fun x hx => ?_)) fun x hx => ?_
  · split at hx
    · rw [List.mem_singleton.1 hx]; exact q_more
    · simp at hx
  · split at hx
    · rw [List.mem_singleton.1 hx]; exact q_goes hn
    · simp at hx
theorem q_place {b : Bl} (hb : sizB b) : ∀ (f fr : Nat) (s : LS), qS s → qS (placeB b f fr s)
  | 0, _, s, h => h
  | f + 1, fr, s, h => by
    have hp : ∀ tz, ∀ x ∈ partL' b fr tz, qL x := fun tz x hx => by
      have := hb.2 x (List.mem_of_mem_take (List.mem_of_mem_drop hx))
      unfold qL; omega
    unfold placeB
    split
    · exact q_add h (hp _)
    · exact q_place hb f _ _ (q_break hb.1 (q_add h (hp _)))
theorem q_open {bs : List Bl} {i : Nat} {b : Bl} {s : LS} (h : qS s) : qS (openS bs i b s) := by
  have h1 : qS (turnS bs i b s) := by unfold turnS; split; exact q_flush h; exact h
  have h2 : qS (firstS i (turnS bs i b s)) := by unfold firstS; split; exact ⟨h1.1, h1.2⟩; exact h1
  unfold openS gapS
  refine ⟨h2.1, fun x hx => ?_⟩
  simp only [List.mem_append] at hx
  rcases hx with hx | hx
  · exact h2.2 x hx
  · rw [List.eq_of_mem_replicate hx]; unfold qL; simp
theorem q_lay {bs : List Bl} (hb : ∀ b ∈ bs, sizB b) : ∀ i, i ≤ bs.length → qS (layTo bs i)
  | 0, _ => ⟨by simp [layTo], by simp [layTo]⟩
  | i + 1, hi => by
    have hl : i < bs.length := by omega
    simp only [layTo, List.getElem?_eq_getElem hl]
    exact q_place (hb _ (List.getElem_mem hl)) _ _ _ (q_open (q_lay hb i (by omega)))
theorem lay_lines {x : Sr} (h : LayOk x) : ∀ p ∈ (layL (allB x.scenes)).pages, ∀ l ∈ p, l.length ≤ 3000100 := by
  have hb : ∀ b ∈ allB x.scenes, sizB b := fun b hb => by
    obtain ⟨y, hy, hb⟩ := List.mem_flatMap.1 hb
    exact blocks_siz (ok_line _ _ _ h.ok.ok h.ok.many y hy) b hb
  have h1 := q_lay hb _ (Nat.le_refl _)
  have h2 : qS (layL (allB x.scenes)) := by unfold layL; split; exact q_flush h1; exact h1
  exact h2.1
end Go.Proofs.YtikbgjhajgjjdaaGreatDoor
