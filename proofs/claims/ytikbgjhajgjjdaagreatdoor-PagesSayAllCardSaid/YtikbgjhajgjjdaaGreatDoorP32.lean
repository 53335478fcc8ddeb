/- Blocks of lines: headings, actions, turns, what is added to a group. Own work of this seat. -/
import Derived.Test.YtikbgjhajgjjdaaGreatDoorP27
import Derived.Test.YtikbgjhajgjjdaaGreatDoorP26
import Derived.Test.YtikbgjhajgjjdaaGreatDoorP28
import Derived.Test.YtikbgjhajgjjdaaGreatDoorP14
import Derived.Test.YtikbgjhajgjjdaaGreatDoorP15
import Derived.Test.YtikbgjhajgjjdaaGreatDoorP30
import Derived.Test.YtikbgjhajgjjdaaGreatDoorP31
set_option maxRecDepth 100000
set_option linter.unusedSimpArgs false
set_option linter.unusedVariables false
namespace Go.Proofs.YtikbgjhajgjjdaaGreatDoor
open Go Go.Av Go.RowKit
attribute [local go_sem ↓] br_true br_false dbr_true dbr_false dbri_true dbri_false dbrg_true dbrg_false
attribute [local go_sem] run cont br dbr dx dxc dgrd dyld dres dcall calm fieldPlace? allHas step1 opN grdN resN condN exitN stopN exitIt dOk xop xbin xint xarith xstr xbool xpick xnot xneg xextract xpart xpartOk xindex xfieldF fieldD xnew xbox xalloc xfieldAddr xptrAddIf xindexAddr xloadC xload putCells reElem xstoreB xstore xconv xtext xlen xlen2 xcall xfill xbuild cut rep xbuildSlice xbuildSliceD isRow elemD isU8 ev evs evp Go.Av.put Go.Av.get ofConst yldD yldV notBool_undef args0 cellsOf cond_true cond_false decide_true decide_false decide_eq_true_eq decide_eq_false_iff_not List.getElem?_cons_zero List.getElem?_cons_succ List.getElem?_nil List.getD_cons_zero List.getD_cons_succ List.getD_nil List.set_cons_zero List.set_cons_succ List.length_cons List.length_nil List.cons_append List.nil_append List.append_nil List.all_cons List.all_nil List.map_cons List.map_nil List.take_succ_cons List.take_zero List.drop_succ_cons List.drop_zero Bool.and_true Bool.true_and Bool.and_self Bool.and_false Bool.false_and one Go.Av.frozen beq_self_eq_true true_and and_true forall_const false_implies implies_true and_self Option.map_some Option.map_none Nat.zero_add Nat.add_zero Nat.zero_mul Nat.mul_one Nat.one_mul Int.toNat_zero ne_eq not_false_eq_true not_true_eq_false Bool.true_eq_false Bool.false_eq_true List.toList_toArray inr Go.Av.byteOf isByte decide_eq_decide Bool.not_true Bool.not_false Bool.not_eq_true' Bool.or_true Bool.true_or Bool.or_false Bool.false_or ge_iff_le gt_iff_lt and_assoc Bool.decide_eq_true beq_iff_eq beq_eq_false_iff_ne bne_iff_ne bne_self_eq_false if_true if_false Bool.and_eq_true Bool.or_eq_true Bool.and_eq_false_imp Bool.or_eq_false_iff Bool.not_eq_false' has Option.isSome_some Option.isSome_none Int.toNat_natCast Int.cast_ofNat_Int List.length_append xapp2 xapp xappS xappD xappB notInt srcOf srcB byteAV splice' xcut xcutS xcutF xcutB xcutN xcut0 cutL loOf hiOf evo xmake zelem xmax xcopy2 xcopyS xcopyB xnil xcut3 ixOf xclear2 xclearB List.getElem?_toArray xbin2 xnileq xempty xmkmap xmput xmputB xmputF isKey keyEq mfind xbin3 xeqs xeqop eqFs bothB leafEq xlook xlookB xlookF xbytes beq_c_n beq_n_c bne_c_n bne_n_c one_nil dxi dxic dbri rix dck reader blind opOk refOk Go.Op.operands Go.Call.operands List.contains_cons List.contains_nil dxg dxgc dbrg pck putD List.lookup_cons List.lookup_nil ts2 tb2 zl2 za2 Tryz.underlying2 ts3 tb3 zl3 za3 Tryz.underlying3 ts4 tb4 zl4 za4 Tryz.underlying4 ts5 tb5 zl5 za5 Tryz.underlying5 ts6 tb6 zl6 za6 Tryz.underlying6 ts7 tb7 za7 Tryz.underlying7 ts8 tb8 za8 Tryz.underlying8 ts9 tb9 zl9 za9 Tryz.underlying9 ts10 tb10 zl10 za10 Tryz.underlying10 ts11 tb11 zl11 za11 Tryz.underlying11 ts12 tb12 zl12 za12 Tryz.underlying12 ts13 tb13 za13 Tryz.underlying13 ts14 tb14 za14 Tryz.underlying14 ts18 tb18 za18 Tryz.underlying18 ts19 tb19 za19 Tryz.underlying19 ts21 tb21 zl21 za21 Tryz.underlying21 ts22 tb22 zl22 za22 Tryz.underlying22 ts24 tb24 za24 Tryz.underlying24 ts25 tb25 za25 Tryz.underlying25 ts26 tb26 zl26 za26 Tryz.underlying26 ts27 tb27 za27 Tryz.underlying27 ts28 tb28 za28 Tryz.underlying28 ts30 tb30 zl30 za30 Tryz.underlying30 ts31 tb31 zl31 za31 Tryz.underlying31 ts34 tb34 zl34 za34 Tryz.underlying34 ts35 tb35 zl35 za35 Tryz.underlying35 ts36 tb36 za36 Tryz.underlying36 ts37 tb37 za37 Tryz.underlying37 ts46 tb46 za46 Tryz.underlying46 ts47 tb47 za47 Tryz.underlying47 ts61 tb61 zl61 za61 Tryz.underlying61 ts62 tb62 za62 Tryz.underlying62 ts63 tb63 za63 Tryz.underlying63 ts66 tb66 zl66 za66 Tryz.underlying66 ts68 tb68 zl68 za68 Tryz.underlying68 ts74 tb74 za74 Tryz.underlying74 ts75 tb75 za75 Tryz.underlying75 ts77 tb77 zl77 za77 Tryz.underlying77 ts81 tb81 zl81 za81 Tryz.underlying81 ts82 tb82 za82 Tryz.underlying82 ts83 tb83 za83 Tryz.underlying83 ts86 tb86 zl86 za86 Tryz.underlying86 ts102 tb102 za102 Tryz.underlying102 ts103 tb103 za103 Tryz.underlying103 ts106 tb106 za106 Tryz.underlying106 ts107 tb107 za107 Tryz.underlying107 ts114 tb114 zl114 za114 Tryz.underlying114 ts117 tb117 zl117 za117 Tryz.underlying117 ts120 tb120 zl120 za120 Tryz.underlying120 ts133 tb133 zl133 za133 Tryz.underlying133 ts144 tb144 zl144 za144 Tryz.underlying144 ts151 tb151 zl151 za151 Tryz.underlying151 ts156 tb156 zl156 za156 Tryz.underlying156 ts160 tb160 Tryz.underlying160 ts169 tb169 za169 Tryz.underlying169 ts170 tb170 za170 Tryz.underlying170 ts175 tb175 Tryz.underlying175 ts180 tb180 za180 Tryz.underlying180 ts181 tb181 za181 Tryz.underlying181 ts185 tb185 za185 Tryz.underlying185 ts186 tb186 za186 Tryz.underlying186 ts187 tb187 Tryz.underlying187 ts189 tb189 Tryz.underlying189 ts190 tb190 Tryz.underlying190 ts191 tb191 za191 Tryz.underlying191 ts192 tb192 za192 Tryz.underlying192 ts196 tb196 zl196 za196 Tryz.underlying196 ts197 tb197 zl197 za197 Tryz.underlying197 ts199 tb199 zl199 za199 Tryz.underlying199 ts200 tb200 zl200 za200 Tryz.underlying200 ts201 tb201 za201 Tryz.underlying201 ts202 tb202 za202 Tryz.underlying202

theorem blanks_len (n : Nat) : (Lib.repeatL [32] n).length = n := by
  rw [Lib.repeatL_length]; simp
theorem chop_le (W : Nat) : ∀ (n : Nat) (w : List UInt8), w.length ≤ n → ∀ l ∈ (chop W w).1, l.length ≤ w.length
  | 0, w, h, l, hl => by rw [chop_end (by omega)] at hl; simp at hl
  | n + 1, w, h, l, hl => by
    by_cases hc : W < w.length ∧ 0 < W
    · rw [chop_more hc.1 hc.2] at hl
      rcases List.mem_cons.1 hl with rfl | hl
      · simp; omega
      · have := chop_le W n (w.drop W) (by simp; omega) l hl
        simp at this; omega
    · rw [chop, dif_neg hc] at hl; simp at hl
theorem wrapTo_le (W : Nat) (t : List UInt8) : ∀ j, j ≤ (splitW t).length → ∀ l ∈ (wrapTo W t j).1, l.length ≤ sumTo t j
  | 0, _, l, hl => by simp [wrapTo] at hl
  | j + 1, hj, l, hl => by
    have hjl : j < (splitW t).length := by omega
    have h := List.getElem?_eq_getElem hjl
    have ih := wrapTo_le W t j (by omega)
    have hb := wrapTo_len W t j (by omega)
    rw [wrapTo_step h] at hl
    rw [sumTo_step h]
    unfold wrapS at hl
    split at hl
    · have := ih l hl; omega
    · split at hl
      · have := ih l hl; omega
      · simp only at hl
        rcases List.mem_append.1 hl with hl | hl
        · split at hl
          · rcases List.mem_append.1 hl with hl | hl
            · have := ih l hl; omega
            · rw [List.mem_singleton.1 hl]; omega
          · have := ih l hl; omega
        · have := chop_le W _ _ (Nat.le_refl _) l hl; omega
theorem wrapL_le (W : Nat) (t : List UInt8) : (wrapL W t).length ≤ t.length + 2 ∧ ∀ l ∈ wrapL W t, l.length ≤ t.length + 1 := by
  have htot : wrapTo W t (splitW t).length = wrapF W t := by simp [wrapTo, wrapF]
  have hb := wrapTo_len W t _ (Nat.le_refl _)
  have hb2 := sumTo_le t _ (Nat.le_refl _)
  have hb3 := wrapTo_le W t _ (Nat.le_refl _)
  rw [htot] at hb hb3
  unfold wrapL
  split
  · refine ⟨by simp; omega, fun l hl => ?_⟩
    rcases List.mem_append.1 hl with hl | hl
    · have := hb3 l hl; omega
    · rw [List.mem_singleton.1 hl]; omega
  · exact ⟨by omega, fun l hl => by have := hb3 l hl; omega⟩

structure Bl where
  kind : Int
  lines : List (List UInt8)
  kinds : List Int
  name : List UInt8
def blA (b : Bl) : AV := .agg [.int .i64 b.kind, .fz 1 (b.lines.map .str), .fz 1 (b.kinds.map (.int .i64)), .str b.name]

theorem gap_pc (b : Bl) : Pc Tryz.prog 68 [blA b] (· = .int .i64 (if b.kind == 0 then 2 else 1)) := by
  simp only [blA]
  cases hb : b.kind == 0 with
  | true =>
    refine pc_intro (ct_intro Tryz.func68 rfl Tryz.ntmps68 hB68 (by simp) fun h ρ w => go (N := 6) Tryz.ntmps68 300 ?_)
    simp only [go_sem, Nat.reduceAdd, Nat.reduceMul, Nat.reduceBEq, Nat.reduceLT, Nat.reduceLeDiff, reduceIte, reduceCtorEq, Int.reduceToNat, Int.reduceLT, Int.reduceGT, Int.reduceNeg, Int.reduceBEq, Int.reduceBNe, hb]
    exact aret [2] rfl ⟨by simp [resV, Av.get], rfl⟩
  | false =>
    refine pc_intro (ct_intro Tryz.func68 rfl Tryz.ntmps68 hB68 (by simp) fun h ρ w => go (N := 6) Tryz.ntmps68 300 ?_)
    simp only [go_sem, Nat.reduceAdd, Nat.reduceMul, Nat.reduceBEq, Nat.reduceLT, Nat.reduceLeDiff, reduceIte, reduceCtorEq, Int.reduceToNat, Int.reduceLT, Int.reduceGT, Int.reduceNeg, Int.reduceBEq, Int.reduceBNe, hb]
    exact aret [2] rfl ⟨by simp [resV, Av.get], rfl⟩

theorem newHeading_pch {St : Std} (hS : LibOk St) (t : List UInt8) (hl : t.length < 10000000) : PcH Tryz.prog St 60 [.str t] (· = blA ⟨0, wrapL 60 t, [], []⟩) := by
  have hw := wrap_pch hS t 60 (by omega) (by omega) (by omega)
  simp only [blA]
  refine pch_intro (cth_intro Tryz.func60 rfl Tryz.ntmps60 hB60 (by simp) fun h ρ w hg => goF (N := 6) Tryz.ntmps60 300 ?_)
  simp only [go_sem, Nat.reduceAdd, Nat.reduceMul, Nat.reduceBEq, Nat.reduceLT, Nat.reduceLeDiff, reduceIte, reduceCtorEq, Int.reduceToNat, Int.reduceLT, Int.reduceGT, Int.reduceNeg, Int.reduceBEq, Int.reduceBNe]
  refine pcallH1 hg (hw) rfl (N := 6) Tryz.ntmps60 rfl (goF (N := 6) Tryz.ntmps60 300 ?_)
  simp only [go_sem, Nat.reduceAdd, Nat.reduceMul, Nat.reduceBEq, Nat.reduceLT, Nat.reduceLeDiff, reduceIte, reduceCtorEq, Int.reduceToNat, Int.reduceLT, Int.reduceGT, Int.reduceNeg, Int.reduceBEq, Int.reduceBNe]
  exact ARet.shift (Shift.cells 0 1 [.agg [.int .i64 0, .fz 1 ((wrapL 60 t).map .str), .fz 1 [], .str []]] rfl rfl (by simp [cellsOf]) ⟨.refl, .refl, .fz, .refl, trivial⟩) (aretc [.cell 2 107] rfl [_] ⟨by simp only [go_sem, Nat.reduceAdd, Nat.reduceMul, Nat.reduceBEq, Nat.reduceLT, Nat.reduceLeDiff, reduceIte, reduceCtorEq, Int.reduceToNat, Int.reduceLT, Int.reduceGT, Int.reduceNeg, Int.reduceBEq, Int.reduceBNe, sideIs], trivial⟩ ⟨rfl, rfl⟩)
theorem newAction_pch {St : Std} (hS : LibOk St) (t : List UInt8) (hl : t.length < 10000000) : PcH Tryz.prog St 62 [.str t] (· = blA ⟨1, wrapL 60 t, [], []⟩) := by
  have hw := wrap_pch hS t 60 (by omega) (by omega) (by omega)
  simp only [blA]
  refine pch_intro (cth_intro Tryz.func62 rfl Tryz.ntmps62 hB62 (by simp) fun h ρ w hg => goF (N := 6) Tryz.ntmps62 300 ?_)
  simp only [go_sem, Nat.reduceAdd, Nat.reduceMul, Nat.reduceBEq, Nat.reduceLT, Nat.reduceLeDiff, reduceIte, reduceCtorEq, Int.reduceToNat, Int.reduceLT, Int.reduceGT, Int.reduceNeg, Int.reduceBEq, Int.reduceBNe]
  refine pcallH1 hg (hw) rfl (N := 6) Tryz.ntmps62 rfl (goF (N := 6) Tryz.ntmps62 300 ?_)
  simp only [go_sem, Nat.reduceAdd, Nat.reduceMul, Nat.reduceBEq, Nat.reduceLT, Nat.reduceLeDiff, reduceIte, reduceCtorEq, Int.reduceToNat, Int.reduceLT, Int.reduceGT, Int.reduceNeg, Int.reduceBEq, Int.reduceBNe]
  exact ARet.shift (Shift.cells 0 1 [.agg [.int .i64 1, .fz 1 ((wrapL 60 t).map .str), .fz 1 [], .str []]] rfl rfl (by simp [cellsOf]) ⟨.refl, .refl, .fz, .refl, trivial⟩) (aretc [.cell 2 107] rfl [_] ⟨by simp only [go_sem, Nat.reduceAdd, Nat.reduceMul, Nat.reduceBEq, Nat.reduceLT, Nat.reduceLeDiff, reduceIte, reduceCtorEq, Int.reduceToNat, Int.reduceLT, Int.reduceGT, Int.reduceNeg, Int.reduceBEq, Int.reduceBNe, sideIs], trivial⟩ ⟨rfl, rfl⟩)

def turnLine (t : List UInt8) : List UInt8 := Lib.repeatL [32] (60 - (t.length + 1)) ++ (t ++ [58])
theorem newTurn_pc (t : List UInt8) (hl : t.length < 10000000) : Pc Tryz.prog 63 [.str t] (· = blA ⟨2, [turnLine t], [], []⟩) := by
  have hr := repeat_pc [32] (60 - (t.length + 1)) (by simp; omega) (by omega)
  simp only [blA]
  have hmx : (if 60 - ((t.length + 1 : Nat) : Int) < 0 then 0 else 60 - ((t.length + 1 : Nat) : Int)) = ((60 - (t.length + 1) : Nat) : Int) := by split <;> omega
  refine pc_intro (ct_intro Tryz.func63 rfl Tryz.ntmps63 hB63 (by simp) fun h ρ w => goF (N := 15) Tryz.ntmps63 300 ?_)
  simp only [go_sem, Nat.reduceAdd, Nat.reduceMul, Nat.reduceBEq, Nat.reduceLT, Nat.reduceLeDiff, reduceIte, reduceCtorEq, Int.reduceToNat, Int.reduceLT, Int.reduceGT, Int.reduceNeg, Int.reduceBEq, Int.reduceBNe]
  rw [hmx]
  refine ⟨by omega, by omega, by omega, ?_⟩
  refine pcall1 (hr) rfl (N := 15) Tryz.ntmps63 rfl (goF (N := 15) Tryz.ntmps63 300 ?_)
  simp only [go_sem, Nat.reduceAdd, Nat.reduceMul, Nat.reduceBEq, Nat.reduceLT, Nat.reduceLeDiff, reduceIte, reduceCtorEq, Int.reduceToNat, Int.reduceLT, Int.reduceGT, Int.reduceNeg, Int.reduceBEq, Int.reduceBNe]
  refine ⟨by rw [blanks_len]; omega, ?_⟩
  exact ARet.shift (Shift.cells 0 1 [.agg [.int .i64 2, .fz 1 [.str (turnLine t)], .fz 1 [], .str []]] rfl rfl (by simp [cellsOf]) ⟨.refl, .refl, .fz, .refl, trivial⟩) (aretc [.cell 2 107] rfl [_] ⟨by simp only [go_sem, Nat.reduceAdd, Nat.reduceMul, Nat.reduceBEq, Nat.reduceLT, Nat.reduceLeDiff, reduceIte, reduceCtorEq, Int.reduceToNat, Int.reduceLT, Int.reduceGT, Int.reduceNeg, Int.reduceBEq, Int.reduceBNe, sideIs], trivial⟩ ⟨rfl, rfl⟩)

def indent (n : Nat) (l : List UInt8) : List UInt8 := Lib.repeatL [32] n ++ l
/-- a group that lies in the block 'ib' (place i of n), its lines in 'il', their kinds in 'ik' -/
structure Grp (S : AV → List AV → List AV → List Blk) (M : AV → List AV) (ib il ik n i : Nat) : Prop where
  hi : i < n
  hb : ∀ g L K, (S g L K).getD ib .dead = .arr 4 (M g)
  hM : ∀ g, (M g).length = n
  hMi : ∀ g, List.getD (M g) i .any = g
  hMs : ∀ g g', (M g).set i g' = M g'
  hbs : ∀ g g' L K, (S g L K).set ib (.arr 4 (M g')) = S g' L K
  hL : ∀ g L K, (S g L K).getD il .dead = .arr 1 L
  hLs : ∀ g L L' K, (S g L K).set il (.arr 1 L') = S g L' K
  hK : ∀ g L K, (S g L K).getD ik .dead = .arr 1 K
  hKs : ∀ g L K K', (S g L K).set ik (.arr 1 K') = S g L K'
def grpA (il ik : Nat) (kd : Int) (a b : Nat) (nm : List UInt8) : AV := .agg [.int .i64 kd, .sl il 0 a a, .sl ik 0 b b, .str nm]
/-- the table with a group in it -/
def grpS (S : AV → List AV → List AV → List Blk) (il ik : Nat) (b : Bl) : List Blk := S (grpA il ik b.kind b.lines.length b.kinds.length b.name) (b.lines.map .str) (b.kinds.map (.int .i64))
def addB (b : Bl) (kd : Int) (at' : Nat) (ls : List (List UInt8)) : Bl := { b with lines := b.lines ++ ls.map (indent at'), kinds := b.kinds ++ List.replicate ls.length kd }

set_option maxHeartbeats 2000000 in
theorem addLines_ct {S : AV → List AV → List AV → List Blk} {M : AV → List AV} {ib il ik n i : Nat} (G : Grp S M ib il ik n i) (b : Bl) (kd' : Int) (at' : Nat) (hat : at' ≤ 1000) (ls : List (List UInt8)) (hsm : b.lines.length + ls.length < 1000000000) (hsk : b.kinds.length + ls.length < 1000000000) (hll : ∀ l ∈ ls, l.length < 1000000) :
    Ct Tryz.prog 101 [.ptr ib n i 0, .int .i64 kd', .int .i64 (at' : Int), .fz 1 (ls.map .str)] (grpS S il ik b) (fun r s => r = .tup [] ∧ s = grpS S il ik (addB b kd' at' ls)) := by
  obtain ⟨hi, hb, hM, hMi, hMs, hbs, hL, hLs, hK, hKs⟩ := G
  obtain ⟨kd, L0, K0, nm⟩ := b
  simp only [grpS, grpA, addB, List.length_append, List.length_map, List.length_replicate] at hsm hsk ⊢
  have hr := repeat_pc [32] at' (by simp; omega) (by omega)
  refine ct_intro Tryz.func101 rfl Tryz.ntmps101 hB101 (by simp) fun h ρ w => goF (N := 40) Tryz.ntmps101 300 ?_
  simp only [go_sem, Nat.reduceAdd, Nat.reduceMul, Nat.reduceBEq, Nat.reduceLT, Nat.reduceLeDiff, reduceIte, reduceCtorEq, Int.reduceToNat, Int.reduceLT, Int.reduceGT, Int.reduceNeg, Int.reduceBEq, Int.reduceBNe, List.length_map]
  refine aloop (ι := Nat) (fun j => ls.length - j) (fun j => [(12, .int .i64 j), (11, .int .i64 ls.length), (10, .fz 1 (ls.map .str)), (0, .ptr ib n i 0), (1, .int .i64 kd'), (2, .int .i64 (at' : Int))])
    (fun j => S (.agg [.int .i64 kd, .sl il 0 (L0.length + j) (L0.length + j), .sl ik 0 (K0.length + j) (K0.length + j), .str nm]) ((L0 ++ (ls.take j).map (indent at')).map .str) ((K0 ++ List.replicate j kd').map (.int .i64))) (fun j => j ≤ ls.length) 0 (by simp) ?_ ?_
  · refine Shift.weakS ?_ ?_
    · simp only [wk, go_sem, Nat.reduceAdd, Nat.reduceMul, Nat.reduceBEq, Nat.reduceLT, Nat.reduceLeDiff, reduceIte, reduceCtorEq, Int.reduceToNat, Int.reduceLT, Int.reduceGT, Int.reduceNeg, Int.reduceBEq, Int.reduceBNe]
    · simp
  · intro j g1 J hJ
    by_cases gj : j < ls.length
    · have dj : decide ((j : Int) < (ls.length : Int)) = true := by simp; omega
      have hg' : List.getD (List.map AV.str ls) j .any = .str ls[j] := by simp [List.getD, gj]
      have hlt : (List.take j ls).length = j := by simp; omega
      have hlj := hll ls[j] (List.getElem_mem gj)
      have hbl := blanks_len at'
      refine goF (N := 40) Tryz.ntmps101 300 ?_
      simp only [go_sem, Nat.reduceAdd, Nat.reduceMul, Nat.reduceBEq, Nat.reduceLT, Nat.reduceLeDiff, reduceIte, reduceCtorEq, Int.reduceToNat, Int.reduceLT, Int.reduceGT, Int.reduceNeg, Int.reduceBEq, Int.reduceBNe, dj, hg', List.length_map]
      repeat refine And.intro (by first | omega | exact .inl trivial | rfl | (simp; done) | (simp; omega)) ?_
      refine adraw [.str (Lib.repeatL [32] at')] mixed (by decide) (N := 40) Tryz.ntmps101 (by decide) 100 ?_
      simp only [go_sem, Nat.reduceAdd, Nat.reduceMul, Nat.reduceBEq, Nat.reduceLT, Nat.reduceLeDiff, reduceIte, reduceCtorEq, Int.reduceToNat, Int.reduceLT, Int.reduceGT, Int.reduceNeg, Int.reduceBEq, Int.reduceBNe, hb, hM, hMi, hMs, hbs, hL, hLs, hK, hKs, hlt, List.length_map, List.length_replicate]
      repeat refine And.intro (by first | omega | exact hr.at | exact .inl trivial | rfl | (simp; done) | (simp; omega)) ?_
      refine goF (N := 40) Tryz.ntmps101 300 ?_
      simp only [go_sem, Nat.reduceAdd, Nat.reduceMul, Nat.reduceBEq, Nat.reduceLT, Nat.reduceLeDiff, reduceIte, reduceCtorEq, Int.reduceToNat, Int.reduceLT, Int.reduceGT, Int.reduceNeg, Int.reduceBEq, Int.reduceBNe, hb, hM, hMi, hMs, hbs, hL, hLs, hK, hKs, hlt, List.length_map, List.length_replicate]
      repeat refine And.intro (by first | omega | exact .inl trivial | rfl | (simp; done) | (simp; omega)) ?_
      have e1 : List.map AV.str (L0 ++ List.map (indent at') (List.take j ls)) ++ [AV.str (Lib.repeatL [32] at' ++ ls[j])] = List.map AV.str (L0 ++ List.map (indent at') (List.take (j + 1) ls)) := by
        rw [List.take_succ_eq_append_getElem gj]; simp only [List.map_append, List.append_assoc, List.map_cons, List.map_nil]; rfl
      have e2 : List.map (AV.int .i64) (K0 ++ List.replicate j kd') ++ [AV.int .i64 kd'] = List.map (AV.int .i64) (K0 ++ List.replicate (j + 1) kd') := by
        rw [List.replicate_succ']; simp
      rw [e1, e2, show (j : Int) + 1 = ((j + 1 : Nat) : Int) by omega]
      refine ainv (hJ (j + 1) (by omega) (by omega)) (Shift.weak ?_)
      simp only [wk, go_sem, Nat.reduceAdd, Nat.reduceMul, Nat.reduceBEq, Nat.reduceLT, Nat.reduceLeDiff, reduceIte, reduceCtorEq, Int.reduceToNat, Int.reduceLT, Int.reduceGT, Int.reduceNeg, Int.reduceBEq, Int.reduceBNe]
    · have dj : decide ((j : Int) < (ls.length : Int)) = false := by simp; omega
      have hj : j = ls.length := by omega
      subst hj
      refine goF (N := 40) Tryz.ntmps101 300 ?_
      simp only [go_sem, Nat.reduceAdd, Nat.reduceMul, Nat.reduceBEq, Nat.reduceLT, Nat.reduceLeDiff, reduceIte, reduceCtorEq, Int.reduceToNat, Int.reduceLT, Int.reduceGT, Int.reduceNeg, Int.reduceBEq, Int.reduceBNe, dj]
      exact aret [] rfl ⟨rfl, by simp⟩

theorem addAside_cth {St : Std} (hS : LibOk St) {S : AV → List AV → List AV → List Blk} {M : AV → List AV} {ib il ik n i : Nat} (G : Grp S M ib il ik n i) (b : Bl) (t : List UInt8) (hl : t.length < 10000) (hsm : b.lines.length < 100000000) (hsk : b.kinds.length < 100000000) :
    CtH Tryz.prog St 65 [.ptr ib n i 0, .str t] (grpS S il ik b) (fun r s => r = .tup [] ∧ s = grpS S il ik (addB b 1 15 (wrapL 30 (40 :: (t ++ [41]))))) := by
  have hw := wrap_pch hS (40 :: (t ++ [41])) 30 (by simp; omega) (by omega) (by omega)
  have hle := wrapL_le 30 (40 :: (t ++ [41]))
  simp only [List.length_cons, List.length_append, List.length_nil] at hle
  refine cth_intro Tryz.func65 rfl Tryz.ntmps65 hB65 (by simp) fun h ρ w hg => goF (N := 10) Tryz.ntmps65 300 ?_
  simp only [go_sem, Nat.reduceAdd, Nat.reduceMul, Nat.reduceBEq, Nat.reduceLT, Nat.reduceLeDiff, reduceIte, reduceCtorEq, Int.reduceToNat, Int.reduceLT, Int.reduceGT, Int.reduceNeg, Int.reduceBEq, Int.reduceBNe]
  repeat refine And.intro (by first | omega | (simp; omega)) ?_
  refine pcallH1 hg (hw) rfl (N := 10) Tryz.ntmps65 rfl (goF (N := 10) Tryz.ntmps65 300 ?_)
  simp only [go_sem, Nat.reduceAdd, Nat.reduceMul, Nat.reduceBEq, Nat.reduceLT, Nat.reduceLeDiff, reduceIte, reduceCtorEq, Int.reduceToNat, Int.reduceLT, Int.reduceGT, Int.reduceNeg, Int.reduceBEq, Int.reduceBNe]
  refine acall (addLines_ct G b 1 15 (by omega) _ (by omega) (by omega) (fun l h => by have := hle.2 l h; omega)) (N := 10) Tryz.ntmps65 rfl ?_
  rintro _ _ ⟨rfl, rfl⟩
  refine goF (N := 10) Tryz.ntmps65 300 ?_
  simp only [go_sem, Nat.reduceAdd, Nat.reduceMul, Nat.reduceBEq, Nat.reduceLT, Nat.reduceLeDiff, reduceIte, reduceCtorEq, Int.reduceToNat, Int.reduceLT, Int.reduceGT, Int.reduceNeg, Int.reduceBEq, Int.reduceBNe]
  exact aret [] rfl ⟨rfl, rfl⟩
theorem addSpeech_cth {St : Std} (hS : LibOk St) {S : AV → List AV → List AV → List Blk} {M : AV → List AV} {ib il ik n i : Nat} (G : Grp S M ib il ik n i) (b : Bl) (t : List UInt8) (hl : t.length < 10000) (hsm : b.lines.length < 100000000) (hsk : b.kinds.length < 100000000) :
    CtH Tryz.prog St 66 [.ptr ib n i 0, .str t] (grpS S il ik b) (fun r s => r = .tup [] ∧ s = grpS S il ik (addB b 2 10 (wrapL 35 t))) := by
  have hw := wrap_pch hS t 35 (by omega) (by omega) (by omega)
  have hle := wrapL_le 35 t
  refine cth_intro Tryz.func66 rfl Tryz.ntmps66 hB66 (by simp) fun h ρ w hg => goF (N := 8) Tryz.ntmps66 300 ?_
  simp only [go_sem, Nat.reduceAdd, Nat.reduceMul, Nat.reduceBEq, Nat.reduceLT, Nat.reduceLeDiff, reduceIte, reduceCtorEq, Int.reduceToNat, Int.reduceLT, Int.reduceGT, Int.reduceNeg, Int.reduceBEq, Int.reduceBNe]
  refine pcallH1 hg (hw) rfl (N := 8) Tryz.ntmps66 rfl (goF (N := 8) Tryz.ntmps66 300 ?_)
  simp only [go_sem, Nat.reduceAdd, Nat.reduceMul, Nat.reduceBEq, Nat.reduceLT, Nat.reduceLeDiff, reduceIte, reduceCtorEq, Int.reduceToNat, Int.reduceLT, Int.reduceGT, Int.reduceNeg, Int.reduceBEq, Int.reduceBNe]
  refine acall (addLines_ct G b 2 10 (by omega) _ (by omega) (by omega) (fun l h => by have := hle.2 l h; omega)) (N := 8) Tryz.ntmps66 rfl ?_
  rintro _ _ ⟨rfl, rfl⟩
  refine goF (N := 8) Tryz.ntmps66 300 ?_
  simp only [go_sem, Nat.reduceAdd, Nat.reduceMul, Nat.reduceBEq, Nat.reduceLT, Nat.reduceLeDiff, reduceIte, reduceCtorEq, Int.reduceToNat, Int.reduceLT, Int.reduceGT, Int.reduceNeg, Int.reduceBEq, Int.reduceBNe]
  exact aret [] rfl ⟨rfl, rfl⟩

theorem newGroup_ct (b0 b1 b4 : Blk) (nm : List UInt8) (hl : nm.length < 10000) :
    Ct Tryz.prog 64 [.str nm] [b0, b1, .arr 1 [], .arr 1 [], b4] (fun r s => r = grpA 2 3 3 1 1 nm ∧ ∃ b5 b6, s = [b0, b1, .arr 1 [.str (indent 20 nm)], .arr 1 [.int .i64 0], b4, b5, b6]) := by
  refine ct_intro Tryz.func64 rfl Tryz.ntmps64 hB64 (by simp) fun h ρ w => goF (N := 10) Tryz.ntmps64 16 ?_
  simp only [go_sem, Nat.reduceAdd, Nat.reduceMul, Nat.reduceBEq, Nat.reduceLT, Nat.reduceLeDiff, reduceIte, reduceCtorEq, Int.reduceToNat, Int.reduceLT, Int.reduceGT, Int.reduceNeg, Int.reduceBEq, Int.reduceBNe]
  repeat refine And.intro (by first | omega | exact .inl trivial | rfl | (simp; done)) ?_
  refine AWp.shift (Shift.cellsAt 6 2 [.agg [.int .i64 3, .sl 2 0 0 0, .raw (.slice none 0 0), .str nm]] rfl rfl rfl (by simp [cellsOf]) ⟨.refl, .sl, .refl, .refl, trivial⟩) ?_
  refine AWp.shift (Shift.cellsAt 6 3 [.agg [.int .i64 3, .sl 2 0 0 0, .sl 3 0 0 0, .str nm]] rfl rfl rfl (by simp [cellsOf]) ⟨.refl, .refl, .sl, .refl, trivial⟩) ?_
  refine goF (N := 10) Tryz.ntmps64 300 ?_
  simp only [go_sem, Nat.reduceAdd, Nat.reduceMul, Nat.reduceBEq, Nat.reduceLT, Nat.reduceLeDiff, reduceIte, reduceCtorEq, Int.reduceToNat, Int.reduceLT, Int.reduceGT, Int.reduceNeg, Int.reduceBEq, Int.reduceBNe]
  have G : Grp (fun g L K => [b0, b1, .arr 1 L, .arr 1 K, b4, .arr 4 [.agg [.int .i64 0, .raw (.slice none 0 0), .raw (.slice none 0 0), .str []]], .arr 4 [g]]) (fun g => [g]) 6 2 3 1 0 :=
    ⟨by omega, fun _ _ _ => rfl, fun _ => rfl, fun _ => rfl, fun _ _ => rfl, fun _ _ _ _ => rfl, fun _ _ _ => rfl, fun _ _ _ _ => rfl, fun _ _ _ => rfl, fun _ _ _ _ => rfl⟩
  have hadd := addLines_ct G ⟨3, [], [], nm⟩ 0 20 (by omega) [nm] (by simp) (by simp) (by simp; omega)
  simp only [grpS, grpA, addB, List.length_nil, List.map_nil, List.map_cons, List.length_cons, List.nil_append, List.replicate] at hadd
  refine acall (hadd) (N := 10) Tryz.ntmps64 rfl ?_
  rintro _ _ ⟨rfl, rfl⟩
  refine goF (N := 10) Tryz.ntmps64 300 ?_
  simp only [go_sem, Nat.reduceAdd, Nat.reduceMul, Nat.reduceBEq, Nat.reduceLT, Nat.reduceLeDiff, reduceIte, reduceCtorEq, Int.reduceToNat, Int.reduceLT, Int.reduceGT, Int.reduceNeg, Int.reduceBEq, Int.reduceBNe]
  exact aretc [.cell 2 107] rfl [_] ⟨by simp only [go_sem, Nat.reduceAdd, Nat.reduceMul, Nat.reduceBEq, Nat.reduceLT, Nat.reduceLeDiff, reduceIte, reduceCtorEq, Int.reduceToNat, Int.reduceLT, Int.reduceGT, Int.reduceNeg, Int.reduceBEq, Int.reduceBNe, sideIs], trivial⟩ ⟨rfl, _, _, rfl⟩

def placeI (p : Int) : List UInt8 := [[], [73, 78, 84, 46], [69, 88, 84, 46], [73, 78, 84, 46, 47, 69, 88, 84, 46]].getD p.toNat []
def timeI (p : Int) : List UInt8 := [[], [68, 65, 89], [78, 73, 71, 72, 84], [68, 65, 87, 78], [68, 85, 83, 75], [76, 65, 84, 69, 82]].getD p.toNat []
def headLine (x : Sc) : List UInt8 := placeI x.place ++ [32] ++ x.set ++ [32, 45, 32] ++ timeI x.time
def headL (x : Sc) : List UInt8 := if x.no != [] then x.no ++ [32] ++ headLine x else headLine x
theorem place_of (p : Int) (h : 1 ≤ p ∧ p ≤ 3) : List.getD placeW p.toNat .any = .str (placeI p) := by
  obtain ⟨n, rfl⟩ := Int.eq_ofNat_of_zero_le (by omega : 0 ≤ p)
  have : n = 1 ∨ n = 2 ∨ n = 3 := by omega
  rcases this with rfl | rfl | rfl <;> rfl
theorem time_of (p : Int) (h : 1 ≤ p ∧ p ≤ 5) : List.getD timeW p.toNat .any = .str (timeI p) := by
  obtain ⟨n, rfl⟩ := Int.eq_ofNat_of_zero_le (by omega : 0 ≤ p)
  have : n = 1 ∨ n = 2 ∨ n = 3 ∨ n = 4 ∨ n = 5 := by omega
  rcases this with rfl | rfl | rfl | rfl | rfl <;> rfl
theorem placeI_len (p : Int) : (placeI p).length ≤ 9 := by
  unfold placeI
  match p.toNat with
  | 0 | 1 | 2 | 3 => decide
  | n + 4 => simp [List.getD]
theorem timeI_len (p : Int) : (timeI p).length ≤ 5 := by
  unfold timeI
  match p.toNat with
  | 0 | 1 | 2 | 3 | 4 | 5 => decide
  | n + 6 => simp [List.getD]
theorem heading_all_pc (x : Sc) (hp : 1 ≤ x.place ∧ x.place ≤ 3) (ht : 1 ≤ x.time ∧ x.time ≤ 5) (hl : x.no.length < 1000001) (hl2 : x.set.length < 10000) : Pc Tryz.prog 61 [scA x] (· = .str (headL x)) := by
  have h1 := place_of x.place hp
  have h2 := time_of x.time ht
  have l1 := placeI_len x.place
  have l2 := timeI_len x.time
  simp only [scA]
  refine pc_intro (ct_intro Tryz.func61 rfl Tryz.ntmps61 hB61 (by simp) fun h ρ w => goF (N := 29) Tryz.ntmps61 300 ?_)
  simp only [go_sem, Nat.reduceAdd, Nat.reduceMul, Nat.reduceBEq, Nat.reduceLT, Nat.reduceLeDiff, reduceIte, reduceCtorEq, Int.reduceToNat, Int.reduceLT, Int.reduceGT, Int.reduceNeg, Int.reduceBEq, Int.reduceBNe]
  refine adraw [.fz 1 placeW, .fz 1 timeW] mixed (by decide) (N := 29) Tryz.ntmps61 (by decide) 100 ?_
  simp only [go_sem, Nat.reduceAdd, Nat.reduceMul, Nat.reduceBEq, Nat.reduceLT, Nat.reduceLeDiff, reduceIte, reduceCtorEq, Int.reduceToNat, Int.reduceLT, Int.reduceGT, Int.reduceNeg, Int.reduceBEq, Int.reduceBNe, h1, h2]
  repeat refine And.intro (by first | omega | exact place_pc.at | exact time_pc.at | rfl | (simp [placeW, timeW]; done) | (simp [placeW, timeW]; omega)) ?_
  cases hn : x.no != [] with
  | true =>
    refine goF (N := 29) Tryz.ntmps61 300 ?_
    simp only [go_sem, Nat.reduceAdd, Nat.reduceMul, Nat.reduceBEq, Nat.reduceLT, Nat.reduceLeDiff, reduceIte, reduceCtorEq, Int.reduceToNat, Int.reduceLT, Int.reduceGT, Int.reduceNeg, Int.reduceBEq, Int.reduceBNe, hn]
    repeat refine And.intro (by first | omega | (simp; omega)) ?_
    exact aret [2] rfl ⟨by simp [resV, Av.get, headL, hn, headLine], rfl⟩
  | false =>
    refine goF (N := 29) Tryz.ntmps61 300 ?_
    simp only [go_sem, Nat.reduceAdd, Nat.reduceMul, Nat.reduceBEq, Nat.reduceLT, Nat.reduceLeDiff, reduceIte, reduceCtorEq, Int.reduceToNat, Int.reduceLT, Int.reduceGT, Int.reduceNeg, Int.reduceBEq, Int.reduceBNe, hn]
    exact aret [2] rfl ⟨by simp [resV, Av.get, headL, hn, headLine], rfl⟩
end Go.Proofs.YtikbgjhajgjjdaaGreatDoor
