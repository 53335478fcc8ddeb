/- paper.Wrap: a text in lines. Own work of this seat. -/
import Derived.Test.YtikbgjhajgjjdaaGreatDoorP22
import Derived.Test.YtikbgjhajgjjdaaGreatDoorP19
import Derived.Test.YtikbgjhajgjjdaaGreatDoorP24
import Derived.Test.YtikbgjhajgjjdaaGreatDoorP26
set_option maxRecDepth 100000
set_option linter.unusedSimpArgs false
set_option linter.unusedVariables false
namespace Go.Proofs.YtikbgjhajgjjdaaGreatDoor
open Go Go.Av Go.RowKit
attribute [local go_sem ↓] br_true br_false dbr_true dbr_false dbri_true dbri_false dbrg_true dbrg_false
attribute [local go_sem] run cont br dbr dx dxc dgrd dyld dres dcall calm fieldPlace? allHas step1 opN grdN resN condN exitN stopN exitIt dOk xop xbin xint xarith xstr xbool xpick xnot xneg xextract xpart xpartOk xindex xfieldF fieldD xnew xbox xalloc xfieldAddr xptrAddIf xindexAddr xloadC xload putCells reElem xstoreB xstore xconv xtext xlen xlen2 xcall xfill xbuild cut rep xbuildSlice xbuildSliceD isRow elemD isU8 ev evs evp Go.Av.put Go.Av.get ofConst yldD yldV notBool_undef args0 cellsOf cond_true cond_false decide_true decide_false decide_eq_true_eq decide_eq_false_iff_not List.getElem?_cons_zero List.getElem?_cons_succ List.getElem?_nil List.getD_cons_zero List.getD_cons_succ List.getD_nil List.set_cons_zero List.set_cons_succ List.length_cons List.length_nil List.cons_append List.nil_append List.append_nil List.all_cons List.all_nil List.map_cons List.map_nil List.take_succ_cons List.take_zero List.drop_succ_cons List.drop_zero Bool.and_true Bool.true_and Bool.and_self Bool.and_false Bool.false_and one Go.Av.frozen beq_self_eq_true true_and and_true forall_const false_implies implies_true and_self Option.map_some Option.map_none Nat.zero_add Nat.add_zero Nat.zero_mul Nat.mul_one Nat.one_mul Int.toNat_zero ne_eq not_false_eq_true not_true_eq_false Bool.true_eq_false Bool.false_eq_true List.toList_toArray inr Go.Av.byteOf isByte decide_eq_decide Bool.not_true Bool.not_false Bool.not_eq_true' Bool.or_true Bool.true_or Bool.or_false Bool.false_or ge_iff_le gt_iff_lt and_assoc Bool.decide_eq_true beq_iff_eq beq_eq_false_iff_ne bne_iff_ne bne_self_eq_false if_true if_false Bool.and_eq_true Bool.or_eq_true Bool.and_eq_false_imp Bool.or_eq_false_iff Bool.not_eq_false' has Option.isSome_some Option.isSome_none Int.toNat_natCast Int.cast_ofNat_Int List.length_append xapp2 xapp xappS xappD xappB notInt srcOf srcB byteAV splice' xcut xcutS xcutF xcutB xcutN xcut0 cutL loOf hiOf evo xmake zelem xmax xcopy2 xcopyS xcopyB xnil xcut3 ixOf xclear2 xclearB List.getElem?_toArray xbin2 xnileq xempty xmkmap xmput xmputB xmputF isKey keyEq mfind xbin3 xeqs xeqop eqFs bothB leafEq xlook xlookB xlookF xbytes beq_c_n beq_n_c bne_c_n bne_n_c one_nil dxi dxic dbri rix dck reader blind opOk refOk Go.Op.operands Go.Call.operands List.contains_cons List.contains_nil dxg dxgc dbrg pck putD List.lookup_cons List.lookup_nil ts2 tb2 zl2 za2 Tryz.underlying2 ts3 tb3 zl3 za3 Tryz.underlying3 ts4 tb4 zl4 za4 Tryz.underlying4 ts5 tb5 zl5 za5 Tryz.underlying5 ts6 tb6 zl6 za6 Tryz.underlying6 ts7 tb7 za7 Tryz.underlying7 ts8 tb8 za8 Tryz.underlying8 ts9 tb9 zl9 za9 Tryz.underlying9 ts10 tb10 zl10 za10 Tryz.underlying10 ts11 tb11 zl11 za11 Tryz.underlying11 ts12 tb12 zl12 za12 Tryz.underlying12 ts13 tb13 za13 Tryz.underlying13 ts14 tb14 za14 Tryz.underlying14 ts18 tb18 za18 Tryz.underlying18 ts19 tb19 za19 Tryz.underlying19 ts21 tb21 zl21 za21 Tryz.underlying21 ts22 tb22 zl22 za22 Tryz.underlying22 ts24 tb24 za24 Tryz.underlying24 ts25 tb25 za25 Tryz.underlying25 ts26 tb26 zl26 za26 Tryz.underlying26 ts27 tb27 za27 Tryz.underlying27 ts28 tb28 za28 Tryz.underlying28 ts30 tb30 zl30 za30 Tryz.underlying30 ts31 tb31 zl31 za31 Tryz.underlying31 ts34 tb34 zl34 za34 Tryz.underlying34 ts35 tb35 zl35 za35 Tryz.underlying35 ts36 tb36 za36 Tryz.underlying36 ts37 tb37 za37 Tryz.underlying37 ts46 tb46 za46 Tryz.underlying46 ts47 tb47 za47 Tryz.underlying47 ts61 tb61 zl61 za61 Tryz.underlying61 ts62 tb62 za62 Tryz.underlying62 ts63 tb63 za63 Tryz.underlying63 ts66 tb66 zl66 za66 Tryz.underlying66 ts68 tb68 zl68 za68 Tryz.underlying68 ts74 tb74 za74 Tryz.underlying74 ts75 tb75 za75 Tryz.underlying75 ts77 tb77 zl77 za77 Tryz.underlying77 ts81 tb81 zl81 za81 Tryz.underlying81 ts82 tb82 za82 Tryz.underlying82 ts83 tb83 za83 Tryz.underlying83 ts86 tb86 zl86 za86 Tryz.underlying86 ts102 tb102 za102 Tryz.underlying102 ts103 tb103 za103 Tryz.underlying103 ts106 tb106 za106 Tryz.underlying106 ts107 tb107 za107 Tryz.underlying107 ts114 tb114 zl114 za114 Tryz.underlying114 ts117 tb117 zl117 za117 Tryz.underlying117 ts120 tb120 zl120 za120 Tryz.underlying120 ts133 tb133 zl133 za133 Tryz.underlying133 ts144 tb144 zl144 za144 Tryz.underlying144 ts151 tb151 zl151 za151 Tryz.underlying151 ts156 tb156 zl156 za156 Tryz.underlying156 ts160 tb160 Tryz.underlying160 ts169 tb169 za169 Tryz.underlying169 ts170 tb170 za170 Tryz.underlying170 ts175 tb175 Tryz.underlying175 ts180 tb180 za180 Tryz.underlying180 ts181 tb181 za181 Tryz.underlying181 ts185 tb185 za185 Tryz.underlying185 ts186 tb186 za186 Tryz.underlying186 ts187 tb187 Tryz.underlying187 ts189 tb189 Tryz.underlying189 ts190 tb190 Tryz.underlying190 ts191 tb191 za191 Tryz.underlying191 ts192 tb192 za192 Tryz.underlying192 ts196 tb196 zl196 za196 Tryz.underlying196 ts197 tb197 zl197 za197 Tryz.underlying197 ts199 tb199 zl199 za199 Tryz.underlying199 ts200 tb200 zl200 za200 Tryz.underlying200 ts201 tb201 za201 Tryz.underlying201 ts202 tb202 za202 Tryz.underlying202

/-- a word that is too long, in parts, and what is left of it -/
def chop (W : Nat) (w : List UInt8) : List (List UInt8) × List UInt8 :=
  if h : W < w.length ∧ 0 < W then (w.take W :: (chop W (w.drop W)).1, (chop W (w.drop W)).2) else ([], w)
termination_by w.length
decreasing_by all_goals (simp; omega)
def wrapS (W : Nat) (s : List (List UInt8) × List UInt8) (w : List UInt8) : List (List UInt8) × List UInt8 :=
  if w == [] then s
  else if s.2 != [] && decide (s.2.length + 1 + w.length ≤ W) then (s.1, s.2 ++ (32 :: w))
  else ((if s.2 != [] then s.1 ++ [s.2] else s.1) ++ (chop W w).1, (chop W w).2)
def wrapF (W : Nat) (t : List UInt8) : List (List UInt8) × List UInt8 := (splitW t).foldl (wrapS W) ([], [])
def wrapL (W : Nat) (t : List UInt8) : List (List UInt8) := if (wrapF W t).2 != [] then (wrapF W t).1 ++ [(wrapF W t).2] else (wrapF W t).1
def wrapTo (W : Nat) (t : List UInt8) (j : Nat) : List (List UInt8) × List UInt8 := ((splitW t).take j).foldl (wrapS W) ([], [])

theorem chop_more {W : Nat} {w : List UInt8} (h : W < w.length) (h0 : 0 < W) : chop W w = (w.take W :: (chop W (w.drop W)).1, (chop W (w.drop W)).2) := by
  rw [chop, dif_pos ⟨h, h0⟩]
theorem chop_end {W : Nat} {w : List UInt8} (h : ¬ W < w.length) : chop W w = ([], w) := by
  rw [chop, dif_neg fun h' => h h'.1]
theorem chop_len (W : Nat) : ∀ (n : Nat) (w : List UInt8), w.length ≤ n → (chop W w).1.length + (chop W w).2.length ≤ w.length
  | 0, w, h => by rw [chop_end (by omega)]; simp
  | n + 1, w, h => by
    by_cases hc : W < w.length ∧ 0 < W
    · have := chop_len W n (w.drop W) (by simp; omega)
      rw [chop_more hc.1 hc.2]
      simp at this ⊢
      omega
    · rw [chop, dif_neg hc]; simp
theorem splitW_sum : ∀ q : List UInt8, ((splitW q).map List.length).sum + (splitW q).length = q.length + 1
  | [] => rfl
  | c :: r => by
    have ih := splitW_sum r
    rw [splitW]
    split
    · simp; omega
    · cases h : splitW r with
      | nil => rw [h] at ih; simp at ih
      | cons w ws => rw [h] at ih; simp [consW] at ih ⊢; omega
/-- the bytes of the first pieces -/
def sumTo (t : List UInt8) (j : Nat) : Nat := (((splitW t).take j).map List.length).sum + j
theorem sumTo_step {t : List UInt8} {j : Nat} {w : List UInt8} (h : (splitW t)[j]? = some w) : sumTo t (j + 1) = sumTo t j + w.length + 1 := by
  obtain ⟨hl, rfl⟩ := List.getElem?_eq_some_iff.1 h
  simp only [sumTo, List.take_succ_eq_append_getElem hl, List.map_append, List.sum_append, List.map_cons, List.map_nil, List.sum_cons, List.sum_nil]
  omega
theorem sumTo_le (t : List UInt8) (j : Nat) (hj : j ≤ (splitW t).length) : sumTo t j ≤ t.length + 1 := by
  have h := splitW_sum t
  have h2 : (((splitW t).take j).map List.length).sum + (((splitW t).drop j).map List.length).sum = ((splitW t).map List.length).sum := by
    rw [← List.sum_append, ← List.map_append, List.take_append_drop]
  simp only [sumTo]
  omega
theorem wrapTo_step {W : Nat} {t : List UInt8} {j : Nat} {w : List UInt8} (h : (splitW t)[j]? = some w) : wrapTo W t (j + 1) = wrapS W (wrapTo W t j) w := by
  obtain ⟨hl, rfl⟩ := List.getElem?_eq_some_iff.1 h
  simp only [wrapTo, List.take_succ_eq_append_getElem hl, List.foldl_append, List.foldl_cons, List.foldl_nil]
theorem wrapS_len (W : Nat) (s : List (List UInt8) × List UInt8) (w : List UInt8) : (wrapS W s w).1.length + (wrapS W s w).2.length ≤ s.1.length + s.2.length + w.length + 1 := by
  unfold wrapS
  split
  · omega
  · split
    · simp; omega
    · have := chop_len W w.length w (Nat.le_refl _)
      split
      · rename_i hne
        have : 0 < s.2.length := by
          cases hq : s.2 with
          | nil => simp [hq] at hne
          | cons a l => simp
        simp; omega
      · simp; omega
theorem wrapTo_len (W : Nat) (t : List UInt8) : ∀ j, j ≤ (splitW t).length → (wrapTo W t j).1.length + (wrapTo W t j).2.length ≤ sumTo t j
  | 0, _ => by simp [wrapTo, sumTo]
  | j + 1, hj => by
    have hl : j < (splitW t).length := by omega
    have h := List.getElem?_eq_getElem hl
    have ih := wrapTo_len W t j (by omega)
    have := wrapS_len W (wrapTo W t j) ((splitW t)[j])
    rw [wrapTo_step h, sumTo_step h]
    omega

def wrapT (W : Int) (s : List (List UInt8) × List UInt8) (q : List UInt8) : List Blk :=
  [.arr 1 [.int .i64 W], .arr 1 [.sl 6 0 s.1.length s.1.length], .arr 1 [.str s.2], .arr 1 [.str q], .arr 1 [.str [32]], .arr 1 [.int .i64 0], .arr 1 (s.1.map .str)]

set_option maxHeartbeats 4000000 in
theorem wrap_pch {St : Std} (hS : LibOk St) (t : List UInt8) (W : Nat) (hl : t.length < 100000000) (hW : 0 < W) (hW2 : W < 100000) : PcH Tryz.prog St 98 [.str t, .int .i64 (W : Int)] (· = .fz 1 ((wrapL W t).map .str)) := by
  refine pch_intro (cthM_intro Tryz.func98 rfl Tryz.ntmps98 hB98 (by simp) fun h ρ w hg => ?_)
  refine goR (N := 56) Tryz.ntmps98 300 ?_
  simp only [go_sem, Nat.reduceAdd, Nat.reduceMul, Nat.reduceBEq, Nat.reduceLT, Nat.reduceLeDiff, reduceIte, reduceCtorEq, Int.reduceToNat, Int.reduceLT, Int.reduceGT, Int.reduceNeg, Int.reduceBEq, Int.reduceBNe, runR, contR, brR, step1R, resNR, stopNR, exitNR, dxk, dxkc, dbrk, ↓brR_true, ↓brR_false, ↓dbrk_true, ↓dbrk_false]
  refine acallR (splitSeqB_ct _ t [32]) (N := 56) Tryz.ntmps98 rfl ?_
  rintro _ _ ⟨rfl, rfl⟩
  refine goR (N := 56) Tryz.ntmps98 300 ?_
  simp only [go_sem, Nat.reduceAdd, Nat.reduceMul, Nat.reduceBEq, Nat.reduceLT, Nat.reduceLeDiff, reduceIte, reduceCtorEq, Int.reduceToNat, Int.reduceLT, Int.reduceGT, Int.reduceNeg, Int.reduceBEq, Int.reduceBNe, runR, contR, brR, step1R, resNR, stopNR, exitNR, dxk, dxkc, dbrk, ↓brR_true, ↓brR_false, ↓dbrk_true, ↓dbrk_false]
  refine AWpR.shift (Shift.cells 1 1 [.sl 6 0 0 0] rfl rfl (by simp [cellsOf]) ⟨.sl, trivial⟩) ?_
  refine arange (S := fun j q => wrapT W (wrapTo W t j) q) (q0 := t) (xs := (splitW t).map .str) (E1 := fun j => [(7, .str ((splitW t).getD j [])), (3, .ptr 0 1 0 0), (5, .ptr 1 1 0 0), (6, .ptr 2 1 0 0)]) hg rfl rfl
    (splitSeq_it hS t (by omega) _ 4 3 5 (fun _ _ => rfl) (fun _ _ => rfl) (fun _ _ => rfl) (fun _ _ _ => rfl)) (by decide) ?_ ?_ ?_
  · intro j q x h1 ρ1 w1 l id J hx hle hJ
    obtain ⟨v, hv, rfl⟩ : ∃ v, (splitW t)[j]? = some v ∧ x = .str v := by
      rw [List.getElem?_map] at hx
      obtain ⟨v, h1, h2⟩ := Option.map_eq_some_iff.1 hx
      exact ⟨v, h1, h2.symm⟩
    have hgd : (splitW t).getD j [] = v := by simp [List.getD, hv]
    simp only [hgd] at hJ
    refine goR (N := 56) Tryz.ntmps98 300 ?_
    simp only [go_sem, Nat.reduceAdd, Nat.reduceMul, Nat.reduceBEq, Nat.reduceLT, Nat.reduceLeDiff, reduceIte, reduceCtorEq, Int.reduceToNat, Int.reduceLT, Int.reduceGT, Int.reduceNeg, Int.reduceBEq, Int.reduceBNe, runR, contR, brR, step1R, resNR, stopNR, exitNR, dxk, dxkc, dbrk, ↓brR_true, ↓brR_false, ↓dbrk_true, ↓dbrk_false]
    refine ainvR hJ (Shift.weak ?_)
    simp only [wk, go_sem, Nat.reduceAdd, Nat.reduceMul, Nat.reduceBEq, Nat.reduceLT, Nat.reduceLeDiff, reduceIte, reduceCtorEq, Int.reduceToNat, Int.reduceLT, Int.reduceGT, Int.reduceNeg, Int.reduceBEq, Int.reduceBNe]
  · intro j q x h1 ρ1 w1 l id J hx hle hJ
    obtain ⟨v, hv, rfl⟩ : ∃ v, (splitW t)[j]? = some v ∧ x = .str v := by
      rw [List.getElem?_map] at hx
      obtain ⟨v, h1, h2⟩ := Option.map_eq_some_iff.1 hx
      exact ⟨v, h1, h2.symm⟩
    have hgd : (splitW t).getD j [] = v := by simp [List.getD, hv]
    have hjl := (List.getElem?_eq_some_iff.1 hv).1
    have hst := wrapTo_step (W := W) hv
    have hb := wrapTo_len W t j (by omega)
    have hb2 := sumTo_le t j (by omega)
    have hb3 := sumTo_le t (j + 1) (by omega)
    have hb4 := sumTo_step hv
    rw [hst] at hJ
    rw [hgd]
    generalize wrapTo W t j = st at *
    obtain ⟨ls, ln⟩ := st
    simp only [wrapT] at hJ ⊢
    simp only at hb
    cases hv0 : v == [] with
    | true =>
      have hS1 : wrapS W (ls, ln) v = (ls, ln) := by simp only [wrapS, hv0, if_true]
      rw [hS1] at hJ
      refine goR (N := 56) Tryz.ntmps98 300 ?_
      simp only [go_sem, Nat.reduceAdd, Nat.reduceMul, Nat.reduceBEq, Nat.reduceLT, Nat.reduceLeDiff, reduceIte, reduceCtorEq, Int.reduceToNat, Int.reduceLT, Int.reduceGT, Int.reduceNeg, Int.reduceBEq, Int.reduceBNe, runR, contR, brR, step1R, resNR, stopNR, exitNR, dxk, dxkc, dbrk, ↓brR_true, ↓brR_false, ↓dbrk_true, ↓dbrk_false, hv0]
      exact ainvR hJ (Shift.weak trivial)
    | false =>
      cases hln : ln != [] with
      | true =>
        by_cases hfit : ln.length + 1 + v.length ≤ W
        · have hS1 : wrapS W (ls, ln) v = (ls, ln ++ (32 :: v)) := by simp [wrapS, hv0, hln, hfit]
          rw [hS1] at hJ
          have hd : decide ((ln.length : Int) + 1 + (v.length : Int) ≤ (W : Int)) = true := by simp; omega
          refine goR (N := 56) Tryz.ntmps98 300 ?_
          simp only [go_sem, Nat.reduceAdd, Nat.reduceMul, Nat.reduceBEq, Nat.reduceLT, Nat.reduceLeDiff, reduceIte, reduceCtorEq, Int.reduceToNat, Int.reduceLT, Int.reduceGT, Int.reduceNeg, Int.reduceBEq, Int.reduceBNe, runR, contR, brR, step1R, resNR, stopNR, exitNR, dxk, dxkc, dbrk, ↓brR_true, ↓brR_false, ↓dbrk_true, ↓dbrk_false, hv0, hln, hd]
          repeat refine And.intro (by first | omega | exact .inl trivial | (simp; done) | (simp; omega)) ?_
          exact ainvR hJ (Shift.weak trivial)
        · have hd : decide ((ln.length : Int) + 1 + (v.length : Int) ≤ (W : Int)) = false := by simp; omega
          have hS1 : wrapS W (ls, ln) v = ((ls ++ [ln]) ++ (chop W v).1, (chop W v).2) := by simp [wrapS, hv0, hln, hfit]
          rw [hS1] at hJ
          refine goFR (N := 56) Tryz.ntmps98 300 ?_
          simp only [go_sem, Nat.reduceAdd, Nat.reduceMul, Nat.reduceBEq, Nat.reduceLT, Nat.reduceLeDiff, reduceIte, reduceCtorEq, Int.reduceToNat, Int.reduceLT, Int.reduceGT, Int.reduceNeg, Int.reduceBEq, Int.reduceBNe, runR, contR, brR, step1R, resNR, stopNR, exitNR, dxk, dxkc, dbrk, ↓brR_true, ↓brR_false, ↓dbrk_true, ↓dbrk_false, hv0, hln, hd]
          repeat refine And.intro (by first | omega | exact .inl trivial | rfl | (simp; done) | (simp; omega)) ?_
          refine aloopR (ι := List (List UInt8) × List UInt8) (fun y => y.2.length) (fun y => [(7, .str y.2), (3, .ptr 0 1 0 0), (5, .ptr 1 1 0 0), (6, .ptr 2 1 0 0)])
            (fun y => [.arr 1 [.int .i64 W], .arr 1 [.sl 6 0 y.1.length y.1.length], .arr 1 [.str ln], .arr 1 [.str q], .arr 1 [.str [32]], .arr 1 [.int .i64 0], .arr 1 (y.1.map .str)])
            (fun y => y.1 ++ (chop W y.2).1 = (ls ++ [ln]) ++ (chop W v).1 ∧ (chop W y.2).2 = (chop W v).2 ∧ y.1.length + y.2.length ≤ (ls ++ [ln]).length + v.length) (ls ++ [ln], v) ⟨rfl, rfl, Nat.le_refl _⟩ ?_ ?_
          · refine Shift.weakS ?_ ?_
            · simp only [wk, go_sem, Nat.reduceAdd, Nat.reduceMul, Nat.reduceBEq, Nat.reduceLT, Nat.reduceLeDiff, reduceIte, reduceCtorEq, Int.reduceToNat, Int.reduceLT, Int.reduceGT, Int.reduceNeg, Int.reduceBEq, Int.reduceBNe]
            · simp
          · rintro ⟨L, u⟩ ⟨f1, f2, f3⟩ J2 hJ2
            simp only at f1 f2 f3 hJ2 ⊢
            have hLl : (ls ++ [ln]).length ≤ ls.length + 1 := by simp
            by_cases hu : W < u.length
            · have du : decide ((u.length : Int) > (W : Int)) = true := by simp; omega
              have hch := chop_more hu hW
              rw [hch] at f1 f2
              refine goR (N := 56) Tryz.ntmps98 300 ?_
              simp only [go_sem, Nat.reduceAdd, Nat.reduceMul, Nat.reduceBEq, Nat.reduceLT, Nat.reduceLeDiff, reduceIte, reduceCtorEq, Int.reduceToNat, Int.reduceLT, Int.reduceGT, Int.reduceNeg, Int.reduceBEq, Int.reduceBNe, runR, contR, brR, step1R, resNR, stopNR, exitNR, dxk, dxkc, dbrk, ↓brR_true, ↓brR_false, ↓dbrk_true, ↓dbrk_false, du]
              refine adrawR [] mixed (by decide) (N := 56) Tryz.ntmps98 (by decide) 100 ?_
              simp only [go_sem, Nat.reduceAdd, Nat.reduceMul, Nat.reduceBEq, Nat.reduceLT, Nat.reduceLeDiff, reduceIte, reduceCtorEq, Int.reduceToNat, Int.reduceLT, Int.reduceGT, Int.reduceNeg, Int.reduceBEq, Int.reduceBNe, runR, contR, brR, step1R, resNR, stopNR, exitNR, dxk, dxkc, dbrk, ↓brR_true, ↓brR_false, ↓dbrk_true, ↓dbrk_false, List.length_map]
              repeat refine And.intro (by first | omega | exact .inl trivial | rfl | (simp; done) | (simp; omega)) ?_
              refine goR (N := 56) Tryz.ntmps98 300 ?_
              simp only [go_sem, Nat.reduceAdd, Nat.reduceMul, Nat.reduceBEq, Nat.reduceLT, Nat.reduceLeDiff, reduceIte, reduceCtorEq, Int.reduceToNat, Int.reduceLT, Int.reduceGT, Int.reduceNeg, Int.reduceBEq, Int.reduceBNe, runR, contR, brR, step1R, resNR, stopNR, exitNR, dxk, dxkc, dbrk, ↓brR_true, ↓brR_false, ↓dbrk_true, ↓dbrk_false]
              repeat refine And.intro (by first | omega | exact .inl trivial | rfl | (simp; done) | (simp; omega)) ?_
              refine ainvR (hJ2 (L ++ [u.take W], u.drop W) ⟨by rw [← f1]; simp, f2, by simp; omega⟩ (by simp; omega)) (Shift.weakS ?_ ?_)
              · simp only [wk, go_sem, Nat.reduceAdd, Nat.reduceMul, Nat.reduceBEq, Nat.reduceLT, Nat.reduceLeDiff, reduceIte, reduceCtorEq, Int.reduceToNat, Int.reduceLT, Int.reduceGT, Int.reduceNeg, Int.reduceBEq, Int.reduceBNe, cutL]
                first | done | simp
              · simp [cutL]
            · have du : decide ((u.length : Int) > (W : Int)) = false := by simp; omega
              have hch := chop_end hu
              rw [hch] at f1 f2
              simp only [List.append_nil] at f1 f2
              refine goR (N := 56) Tryz.ntmps98 300 ?_
              simp only [go_sem, Nat.reduceAdd, Nat.reduceMul, Nat.reduceBEq, Nat.reduceLT, Nat.reduceLeDiff, reduceIte, reduceCtorEq, Int.reduceToNat, Int.reduceLT, Int.reduceGT, Int.reduceNeg, Int.reduceBEq, Int.reduceBNe, runR, contR, brR, step1R, resNR, stopNR, exitNR, dxk, dxkc, dbrk, ↓brR_true, ↓brR_false, ↓dbrk_true, ↓dbrk_false, du]
              rw [f1, f2]
              exact ainvR hJ (Shift.weak trivial)
      | false =>
        have hS1 : wrapS W (ls, ln) v = (ls ++ (chop W v).1, (chop W v).2) := by simp [wrapS, hv0, hln]
        rw [hS1] at hJ
        refine goFR (N := 56) Tryz.ntmps98 300 ?_
        simp only [go_sem, Nat.reduceAdd, Nat.reduceMul, Nat.reduceBEq, Nat.reduceLT, Nat.reduceLeDiff, reduceIte, reduceCtorEq, Int.reduceToNat, Int.reduceLT, Int.reduceGT, Int.reduceNeg, Int.reduceBEq, Int.reduceBNe, runR, contR, brR, step1R, resNR, stopNR, exitNR, dxk, dxkc, dbrk, ↓brR_true, ↓brR_false, ↓dbrk_true, ↓dbrk_false, hv0, hln]
        refine aloopR (ι := List (List UInt8) × List UInt8) (fun y => y.2.length) (fun y => [(7, .str y.2), (3, .ptr 0 1 0 0), (5, .ptr 1 1 0 0), (6, .ptr 2 1 0 0)])
          (fun y => [.arr 1 [.int .i64 W], .arr 1 [.sl 6 0 y.1.length y.1.length], .arr 1 [.str ln], .arr 1 [.str q], .arr 1 [.str [32]], .arr 1 [.int .i64 0], .arr 1 (y.1.map .str)])
          (fun y => y.1 ++ (chop W y.2).1 = (ls) ++ (chop W v).1 ∧ (chop W y.2).2 = (chop W v).2 ∧ y.1.length + y.2.length ≤ (ls).length + v.length) (ls, v) ⟨rfl, rfl, Nat.le_refl _⟩ ?_ ?_
        · refine Shift.weakS ?_ ?_
          · simp only [wk, go_sem, Nat.reduceAdd, Nat.reduceMul, Nat.reduceBEq, Nat.reduceLT, Nat.reduceLeDiff, reduceIte, reduceCtorEq, Int.reduceToNat, Int.reduceLT, Int.reduceGT, Int.reduceNeg, Int.reduceBEq, Int.reduceBNe]
          · simp
        · rintro ⟨L, u⟩ ⟨f1, f2, f3⟩ J2 hJ2
          simp only at f1 f2 f3 hJ2 ⊢
          have hLl : (ls).length ≤ ls.length + 1 := by simp
          by_cases hu : W < u.length
          · have du : decide ((u.length : Int) > (W : Int)) = true := by simp; omega
            have hch := chop_more hu hW
            rw [hch] at f1 f2
            refine goR (N := 56) Tryz.ntmps98 300 ?_
            simp only [go_sem, Nat.reduceAdd, Nat.reduceMul, Nat.reduceBEq, Nat.reduceLT, Nat.reduceLeDiff, reduceIte, reduceCtorEq, Int.reduceToNat, Int.reduceLT, Int.reduceGT, Int.reduceNeg, Int.reduceBEq, Int.reduceBNe, runR, contR, brR, step1R, resNR, stopNR, exitNR, dxk, dxkc, dbrk, ↓brR_true, ↓brR_false, ↓dbrk_true, ↓dbrk_false, du]
            refine adrawR [] mixed (by decide) (N := 56) Tryz.ntmps98 (by decide) 100 ?_
            simp only [go_sem, Nat.reduceAdd, Nat.reduceMul, Nat.reduceBEq, Nat.reduceLT, Nat.reduceLeDiff, reduceIte, reduceCtorEq, Int.reduceToNat, Int.reduceLT, Int.reduceGT, Int.reduceNeg, Int.reduceBEq, Int.reduceBNe, runR, contR, brR, step1R, resNR, stopNR, exitNR, dxk, dxkc, dbrk, ↓brR_true, ↓brR_false, ↓dbrk_true, ↓dbrk_false, List.length_map]
            repeat refine And.intro (by first | omega | exact .inl trivial | rfl | (simp; done) | (simp; omega)) ?_
            refine goR (N := 56) Tryz.ntmps98 300 ?_
            simp only [go_sem, Nat.reduceAdd, Nat.reduceMul, Nat.reduceBEq, Nat.reduceLT, Nat.reduceLeDiff, reduceIte, reduceCtorEq, Int.reduceToNat, Int.reduceLT, Int.reduceGT, Int.reduceNeg, Int.reduceBEq, Int.reduceBNe, runR, contR, brR, step1R, resNR, stopNR, exitNR, dxk, dxkc, dbrk, ↓brR_true, ↓brR_false, ↓dbrk_true, ↓dbrk_false]
            repeat refine And.intro (by first | omega | exact .inl trivial | rfl | (simp; done) | (simp; omega)) ?_
            refine ainvR (hJ2 (L ++ [u.take W], u.drop W) ⟨by rw [← f1]; simp, f2, by simp; omega⟩ (by simp; omega)) (Shift.weakS ?_ ?_)
            · simp only [wk, go_sem, Nat.reduceAdd, Nat.reduceMul, Nat.reduceBEq, Nat.reduceLT, Nat.reduceLeDiff, reduceIte, reduceCtorEq, Int.reduceToNat, Int.reduceLT, Int.reduceGT, Int.reduceNeg, Int.reduceBEq, Int.reduceBNe, cutL]
              first | done | simp
            · simp [cutL]
          · have du : decide ((u.length : Int) > (W : Int)) = false := by simp; omega
            have hch := chop_end hu
            rw [hch] at f1 f2
            simp only [List.append_nil] at f1 f2
            refine goR (N := 56) Tryz.ntmps98 300 ?_
            simp only [go_sem, Nat.reduceAdd, Nat.reduceMul, Nat.reduceBEq, Nat.reduceLT, Nat.reduceLeDiff, reduceIte, reduceCtorEq, Int.reduceToNat, Int.reduceLT, Int.reduceGT, Int.reduceNeg, Int.reduceBEq, Int.reduceBNe, runR, contR, brR, step1R, resNR, stopNR, exitNR, dxk, dxkc, dbrk, ↓brR_true, ↓brR_false, ↓dbrk_true, ↓dbrk_false, du]
            rw [f1, f2]
            exact ainvR hJ (Shift.weak trivial)
  · intro D q hD
    have hn : (List.map AV.str (splitW t)).length = (splitW t).length := by simp
    have htot : wrapTo W t (splitW t).length = wrapF W t := by simp [wrapTo, wrapF]
    have hb := wrapTo_len W t _ (Nat.le_refl _)
    have hb2 := sumTo_le t _ (Nat.le_refl _)
    rw [htot] at hb
    simp only [hn, htot]
    unfold wrapL
    generalize wrapF W t = st at *
    obtain ⟨ls, ln⟩ := st
    simp only [wrapT]
    simp only at hb
    cases hln : ln != [] with
    | true =>
      refine goFR (N := 56) Tryz.ntmps98 300 ?_
      simp only [go_sem, Nat.reduceAdd, Nat.reduceMul, Nat.reduceBEq, Nat.reduceLT, Nat.reduceLeDiff, reduceIte, reduceCtorEq, Int.reduceToNat, Int.reduceLT, Int.reduceGT, Int.reduceNeg, Int.reduceBEq, Int.reduceBNe, runR, contR, brR, step1R, resNR, stopNR, exitNR, dxk, dxkc, dbrk, ↓brR_true, ↓brR_false, ↓dbrk_true, ↓dbrk_false, hln]
      repeat refine And.intro (by first | omega | exact .inl trivial | rfl | (simp; done) | (simp; omega)) ?_
      refine AOut.shift (Shift.freeze 4 (id := 6) rfl rfl (by simp) (Nat.le_refl _) ?_) (aretM (.inr rfl) hD [4] rfl ⟨?_, rfl⟩)
      · have := frozen_strs (ls ++ [ln]); simpa using this
      · simp [resV, Av.get, Av.put, List.take_of_length_le]
    | false =>
      refine goFR (N := 56) Tryz.ntmps98 300 ?_
      simp only [go_sem, Nat.reduceAdd, Nat.reduceMul, Nat.reduceBEq, Nat.reduceLT, Nat.reduceLeDiff, reduceIte, reduceCtorEq, Int.reduceToNat, Int.reduceLT, Int.reduceGT, Int.reduceNeg, Int.reduceBEq, Int.reduceBNe, runR, contR, brR, step1R, resNR, stopNR, exitNR, dxk, dxkc, dbrk, ↓brR_true, ↓brR_false, ↓dbrk_true, ↓dbrk_false, hln]
      refine AOut.shift (Shift.freeze 4 (id := 6) rfl rfl (by simp) (Nat.le_refl _) ?_) (aretM (.inr rfl) hD [4] rfl ⟨?_, rfl⟩)
      · exact frozen_strs ls
      · simp [resV, Av.get, Av.put, List.take_of_length_le]
end Go.Proofs.YtikbgjhajgjjdaaGreatDoor
