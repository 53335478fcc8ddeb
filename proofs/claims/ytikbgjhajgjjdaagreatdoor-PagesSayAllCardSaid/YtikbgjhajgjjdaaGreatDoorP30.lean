/- Draws: the paragraphs of a block. Own work of this seat. -/
import Derived.Test.YtikbgjhajgjjdaaGreatDoorP29
import Derived.Test.YtikbgjhajgjjdaaGreatDoorP25
import Derived.Test.YtikbgjhajgjjdaaGreatDoorP28
set_option maxRecDepth 100000
set_option linter.unusedSimpArgs false
set_option linter.unusedVariables false
namespace Go.Proofs.YtikbgjhajgjjdaaGreatDoor
open Go Go.Av Go.RowKit
attribute [local go_sem ↓] br_true br_false dbr_true dbr_false dbri_true dbri_false dbrg_true dbrg_false
attribute [local go_sem] run cont br dbr dx dxc dgrd dyld dres dcall calm fieldPlace? allHas step1 opN grdN resN condN exitN stopN exitIt dOk xop xbin xint xarith xstr xbool xpick xnot xneg xextract xpart xpartOk xindex xfieldF fieldD xnew xbox xalloc xfieldAddr xptrAddIf xindexAddr xloadC xload putCells reElem xstoreB xstore xconv xtext xlen xlen2 xcall xfill xbuild cut rep xbuildSlice xbuildSliceD isRow elemD isU8 ev evs evp Go.Av.put Go.Av.get ofConst yldD yldV notBool_undef args0 cellsOf cond_true cond_false decide_true decide_false decide_eq_true_eq decide_eq_false_iff_not List.getElem?_cons_zero List.getElem?_cons_succ List.getElem?_nil List.getD_cons_zero List.getD_cons_succ List.getD_nil List.set_cons_zero List.set_cons_succ List.length_cons List.length_nil List.cons_append List.nil_append List.append_nil List.all_cons List.all_nil List.map_cons List.map_nil List.take_succ_cons List.take_zero List.drop_succ_cons List.drop_zero Bool.and_true Bool.true_and Bool.and_self Bool.and_false Bool.false_and one Go.Av.frozen beq_self_eq_true true_and and_true forall_const false_implies implies_true and_self Option.map_some Option.map_none Nat.zero_add Nat.add_zero Nat.zero_mul Nat.mul_one Nat.one_mul Int.toNat_zero ne_eq not_false_eq_true not_true_eq_false Bool.true_eq_false Bool.false_eq_true List.toList_toArray inr Go.Av.byteOf isByte decide_eq_decide Bool.not_true Bool.not_false Bool.not_eq_true' Bool.or_true Bool.true_or Bool.or_false Bool.false_or ge_iff_le gt_iff_lt and_assoc Bool.decide_eq_true beq_iff_eq beq_eq_false_iff_ne bne_iff_ne bne_self_eq_false if_true if_false Bool.and_eq_true Bool.or_eq_true Bool.and_eq_false_imp Bool.or_eq_false_iff Bool.not_eq_false' has Option.isSome_some Option.isSome_none Int.toNat_natCast Int.cast_ofNat_Int List.length_append xapp2 xapp xappS xappD xappB notInt srcOf srcB byteAV splice' xcut xcutS xcutF xcutB xcutN xcut0 cutL loOf hiOf evo xmake zelem xmax xcopy2 xcopyS xcopyB xnil xcut3 ixOf xclear2 xclearB List.getElem?_toArray xbin2 xnileq xempty xmkmap xmput xmputB xmputF isKey keyEq mfind xbin3 xeqs xeqop eqFs bothB leafEq xlook xlookB xlookF xbytes beq_c_n beq_n_c bne_c_n bne_n_c one_nil dxi dxic dbri rix dck reader blind opOk refOk Go.Op.operands Go.Call.operands List.contains_cons List.contains_nil dxg dxgc dbrg pck putD List.lookup_cons List.lookup_nil ts2 tb2 zl2 za2 Tryz.underlying2 ts3 tb3 zl3 za3 Tryz.underlying3 ts4 tb4 zl4 za4 Tryz.underlying4 ts5 tb5 zl5 za5 Tryz.underlying5 ts6 tb6 zl6 za6 Tryz.underlying6 ts7 tb7 za7 Tryz.underlying7 ts8 tb8 za8 Tryz.underlying8 ts9 tb9 zl9 za9 Tryz.underlying9 ts10 tb10 zl10 za10 Tryz.underlying10 ts11 tb11 zl11 za11 Tryz.underlying11 ts12 tb12 zl12 za12 Tryz.underlying12 ts13 tb13 za13 Tryz.underlying13 ts14 tb14 za14 Tryz.underlying14 ts18 tb18 za18 Tryz.underlying18 ts19 tb19 za19 Tryz.underlying19 ts21 tb21 zl21 za21 Tryz.underlying21 ts22 tb22 zl22 za22 Tryz.underlying22 ts24 tb24 za24 Tryz.underlying24 ts25 tb25 za25 Tryz.underlying25 ts26 tb26 zl26 za26 Tryz.underlying26 ts27 tb27 za27 Tryz.underlying27 ts28 tb28 za28 Tryz.underlying28 ts30 tb30 zl30 za30 Tryz.underlying30 ts31 tb31 zl31 za31 Tryz.underlying31 ts34 tb34 zl34 za34 Tryz.underlying34 ts35 tb35 zl35 za35 Tryz.underlying35 ts36 tb36 za36 Tryz.underlying36 ts37 tb37 za37 Tryz.underlying37 ts46 tb46 za46 Tryz.underlying46 ts47 tb47 za47 Tryz.underlying47 ts61 tb61 zl61 za61 Tryz.underlying61 ts62 tb62 za62 Tryz.underlying62 ts63 tb63 za63 Tryz.underlying63 ts66 tb66 zl66 za66 Tryz.underlying66 ts68 tb68 zl68 za68 Tryz.underlying68 ts74 tb74 za74 Tryz.underlying74 ts75 tb75 za75 Tryz.underlying75 ts77 tb77 zl77 za77 Tryz.underlying77 ts81 tb81 zl81 za81 Tryz.underlying81 ts82 tb82 za82 Tryz.underlying82 ts83 tb83 za83 Tryz.underlying83 ts86 tb86 zl86 za86 Tryz.underlying86 ts102 tb102 za102 Tryz.underlying102 ts103 tb103 za103 Tryz.underlying103 ts106 tb106 za106 Tryz.underlying106 ts107 tb107 za107 Tryz.underlying107 ts114 tb114 zl114 za114 Tryz.underlying114 ts117 tb117 zl117 za117 Tryz.underlying117 ts120 tb120 zl120 za120 Tryz.underlying120 ts133 tb133 zl133 za133 Tryz.underlying133 ts144 tb144 zl144 za144 Tryz.underlying144 ts151 tb151 zl151 za151 Tryz.underlying151 ts156 tb156 zl156 za156 Tryz.underlying156 ts160 tb160 Tryz.underlying160 ts169 tb169 za169 Tryz.underlying169 ts170 tb170 za170 Tryz.underlying170 ts175 tb175 Tryz.underlying175 ts180 tb180 za180 Tryz.underlying180 ts181 tb181 za181 Tryz.underlying181 ts185 tb185 za185 Tryz.underlying185 ts186 tb186 za186 Tryz.underlying186 ts187 tb187 Tryz.underlying187 ts189 tb189 Tryz.underlying189 ts190 tb190 Tryz.underlying190 ts191 tb191 za191 Tryz.underlying191 ts192 tb192 za192 Tryz.underlying192 ts196 tb196 zl196 za196 Tryz.underlying196 ts197 tb197 zl197 za197 Tryz.underlying197 ts199 tb199 zl199 za199 Tryz.underlying199 ts200 tb200 zl200 za200 Tryz.underlying200 ts201 tb201 za201 Tryz.underlying201 ts202 tb202 za202 Tryz.underlying202

/-- what paragraphs come to: the kind of the last one, if all are right -/
def runL : Int → List Pa → Option Int
  | l, [] => some l
  | l, p :: r => if paraOk p && followsL p.kind l then runL p.kind r else none
theorem runL_append : ∀ (a b : List Pa) (l e : Int), runL l a = some e → runL l (a ++ b) = runL e b
  | [], b, l, e, h => by
    simp only [runL, Option.some.injEq] at h
    subst h; rfl
  | p :: a, b, l, e, h => by
    simp only [runL] at h
    simp only [List.cons_append, runL]
    split at h
    · rename_i hc
      rw [if_pos hc]
      exact runL_append a b p.kind e h
    · simp at h
theorem runL_one {a : List Pa} {l e : Int} {p : Pa} (h : runL l a = some e) (h1 : paraOk p = true) (h2 : followsL p.kind e = true) : runL l (a ++ [p]) = some p.kind := by
  rw [runL_append a _ l e h]
  simp [runL, h1, h2]

def TurnL : List (List UInt8) := [[67, 85, 84, 32, 84, 79], [70, 65, 68, 69, 32, 79, 85, 84, 46], [69, 78, 68], [65, 78, 78]]
def PreA : List (List UInt8) := [[64], [62, 32], [35, 32], [92], [40], [35]]
def PreB : List (List UInt8) := [[40], [92], [35], [64]]

/-- a paragraph that is drawn -/
structure DrawnP (p : Pa) : Prop where
  text : TextOk textC p.text
  kind : 1 ≤ p.kind ∧ p.kind ≤ 5
  name : p.kind = 2 → p.text ∈ NameL
  turn : p.kind = 5 → p.text ∈ TurnL
  ok : paraOk p = true

theorem drawn_text {k : Int} {t : List UInt8} (hk : k = 1 ∨ k = 4) (h : TextOk textC t) (hl : t.length ≤ 2000) : DrawnP ⟨k, t⟩ := by
  have hp := plain_of textC_ok h
  have hn : (t != []) = true := by simpa using h.ne
  refine ⟨h, by simp only; omega, by simp only; omega, by simp only; omega, ?_⟩
  rcases hk with rfl | rfl <;> simp [paraOk, hp, hn, hl]
theorem drawn_aside {t : List UInt8} (h : TextOk wordC t) (hl : t.length ≤ 200) : DrawnP ⟨3, t⟩ := by
  have h' := h.weak wordC_text
  have hp := plain_of textC_ok h'
  have hn : (t != []) = true := by simpa using h.ne
  have hc : Lib.containsAny t [40, 41] = false := by
    have : Lib.NoAny t [40, 41] t.length := fun j b _ hj => by
      have := List.all_eq_true.1 h.all b (List.mem_of_getElem? hj)
      simp only [wordC, Bool.and_eq_true, bne_iff_ne] at this
      simp [this.2.1, this.2.2.1]
    simp [Lib.containsAny, Lib.indexAny_none this]
  refine ⟨h', by simp, by simp, by simp, ?_⟩
  have h2 : t.length ≤ 2000 := by omega
  simp [paraOk, hp, hn, hl, hc, h2]
theorem name_all : (NameL.all fun t => textB textC t && paraOk ⟨2, t⟩) = true := by decide +kernel
theorem turn_all : (TurnL.all fun t => textB textC t && paraOk ⟨5, t⟩) = true := by decide +kernel
theorem drawn_name {t : List UInt8} (h : t ∈ NameL) : DrawnP ⟨2, t⟩ := by
  have := List.all_eq_true.1 name_all t h
  simp only [Bool.and_eq_true] at this
  exact ⟨textB_ok this.1, by simp, fun _ => h, by simp, this.2⟩
theorem drawn_turn {t : List UInt8} (h : t ∈ TurnL) : DrawnP ⟨5, t⟩ := by
  have := List.all_eq_true.1 turn_all t h
  simp only [Bool.and_eq_true] at this
  exact ⟨textB_ok this.1, by simp, by simp, fun _ => h, this.2⟩
def preB (a : List UInt8) : Bool := a.all textC && (noDbl a && (a.head? != some 32 && (a != [] && decide (a.length ≤ 2))))
theorem pre_all : (PreA.all preB && PreB.all preB) = true := by decide +kernel
theorem pre_text {a t : List UInt8} (h : a ∈ PreA ∨ a ∈ PreB) (y : TextOk wordC t) : TextOk textC (a ++ t) ∧ a.length ≤ 2 := by
  have hp : preB a = true := by
    have := pre_all
    simp only [Bool.and_eq_true] at this
    rcases h with h | h
    · exact List.all_eq_true.1 this.1 a h
    · exact List.all_eq_true.1 this.2 a h
  simp only [preB, Bool.and_eq_true, bne_iff_ne, decide_eq_true_eq] at hp
  exact ⟨TextOk.pre wordC_text hp.1 hp.2.1 hp.2.2.1 hp.2.2.2.1 y, hp.2.2.2.2⟩

/-- a block of paragraphs that is drawn -/
structure Block (b : List Pa) : Prop where
  run : ∀ l, l ≠ 2 → l ≠ 3 → ∃ e, runL l b = some e ∧ e ≠ 2 ∧ e ≠ 3
  len : 1 ≤ b.length ∧ b.length ≤ 5
  all : ∀ p ∈ b, DrawnP p
theorem follows_free {k l : Int} (hk : k ≠ 3) (hk' : k ≠ 4) (h2 : l ≠ 2) (h3 : l ≠ 3) : followsL k l = true := by simp [followsL, hk, hk', h2, h3]
theorem block_one {p : Pa} (h : DrawnP p) (hk : p.kind = 1 ∨ p.kind = 5) : Block [p] := by
  refine ⟨fun l h2 h3 => ⟨p.kind, ?_, by omega, by omega⟩, by simp, by simpa using h⟩
  simp [runL, h.ok, follows_free (show p.kind ≠ 3 by omega) (show p.kind ≠ 4 by omega) h2 h3]

theorem frozen_paras (ps : List Pa) : (flat (ps.map paA)).all Av.frozen = true := by
  induction ps with
  | nil => rfl
  | cons y l ih => simpa [flat, cellsOf, paA, Av.frozen] using ih

set_option maxHeartbeats 2000000 in
theorem paras_mc (L : List Int) (k : Int) (h3 : 0 ≤ k) (h4 : k ≤ 800000) :
    Mc Tryz.prog 53 2 (str L k) [] (fun r s => ∃ (b : List Pa) (k' : Int), r = .fz 2 (b.map paA) ∧ Block b ∧ s = str L k' ∧ k ≤ k' ∧ k' ≤ k + 400) := by
  refine ct_intro Tryz.func53 rfl Tryz.ntmps53 hB53 (by simp) fun h ρ w => goF (N := 72) Tryz.ntmps53 300 ?_
  simp only [go_sem, Nat.reduceAdd, Nat.reduceMul, Nat.reduceBEq, Nat.reduceLT, Nat.reduceLeDiff, reduceIte, reduceCtorEq, Int.reduceToNat, Int.reduceLT, Int.reduceGT, Int.reduceNeg, Int.reduceBEq, Int.reduceBNe]
  refine mcall (next_mc L k _ (by omega) (by omega) h3 (by omega)) rfl rfl (id := 0) rfl (N := 72) Tryz.ntmps53 rfl ?_
  rintro _ _ ⟨⟨v, rfl, hv0, hv1⟩, rfl⟩
  have hv : (v = 0 ∨ v = 1) ∨ v = 2 ∨ ((v == 0) = false ∧ (v == 1) = false ∧ (v == 2) = false) := by
    by_cases a : v = 0
    · exact .inl (.inl a)
    by_cases b : v = 1
    · exact .inl (.inr b)
    by_cases c : v = 2
    · exact .inr (.inl c)
    exact .inr (.inr ⟨by simpa using a, by simpa using b, by simpa using c⟩)
  rcases hv with hv | rfl | ⟨d0, d1, d2⟩
  · have picks : ∀ x ∈ [(3 : Int), 12, 60], 1 ≤ x ∧ x ≤ 80 := by decide
    rcases hv with rfl | rfl <;>
    · refine goF (N := 72) Tryz.ntmps53 300 ?_
      simp only [go_sem, Nat.reduceAdd, Nat.reduceMul, Nat.reduceBEq, Nat.reduceLT, Nat.reduceLeDiff, reduceIte, reduceCtorEq, Int.reduceToNat, Int.reduceLT, Int.reduceGT, Int.reduceNeg, Int.reduceBEq, Int.reduceBNe]
      refine mcall (pick_mc L (k + 1) [3, 12, 60] (by decide) (by decide) (by omega) (by omega)) rfl rfl (id := 0) rfl (N := 72) Tryz.ntmps53 rfl ?_
      rintro _ _ ⟨⟨x, hx, rfl⟩, rfl⟩
      refine goF (N := 72) Tryz.ntmps53 300 ?_
      simp only [go_sem, Nat.reduceAdd, Nat.reduceMul, Nat.reduceBEq, Nat.reduceLT, Nat.reduceLeDiff, reduceIte, reduceCtorEq, Int.reduceToNat, Int.reduceLT, Int.reduceGT, Int.reduceNeg, Int.reduceBEq, Int.reduceBNe]
      refine mcall (words_mc L (k + 1 + 1) x 1998 (picks x hx).1 (picks x hx).2 (by omega) (by omega) (by omega) (by omega)) rfl rfl (id := 0) rfl (N := 72) Tryz.ntmps53 rfl ?_
      rintro _ _ ⟨t, k', rfl, t1, t2, rfl, t3, t4⟩
      refine goF (N := 72) Tryz.ntmps53 300 ?_
      simp only [go_sem, Nat.reduceAdd, Nat.reduceMul, Nat.reduceBEq, Nat.reduceLT, Nat.reduceLeDiff, reduceIte, reduceCtorEq, Int.reduceToNat, Int.reduceLT, Int.reduceGT, Int.reduceNeg, Int.reduceBEq, Int.reduceBNe]
      refine mcall (flip_mc L k' 8 (by omega) (by omega) (by omega) (by omega)) rfl rfl (id := 0) rfl (N := 72) Tryz.ntmps53 rfl ?_
      rintro _ _ ⟨⟨b, rfl⟩, rfl⟩
      cases b with
      | true =>
        refine goF (N := 72) Tryz.ntmps53 300 ?_
        simp only [go_sem, Nat.reduceAdd, Nat.reduceMul, Nat.reduceBEq, Nat.reduceLT, Nat.reduceLeDiff, reduceIte, reduceCtorEq, Int.reduceToNat, Int.reduceLT, Int.reduceGT, Int.reduceNeg, Int.reduceBEq, Int.reduceBNe]
        refine mcall (one_mc L (k' + 1) PreA (by decide) (by decide) (by omega) (by omega)) rfl rfl (id := 0) rfl (N := 72) Tryz.ntmps53 rfl ?_
        rintro _ _ ⟨⟨y, hy, rfl⟩, rfl⟩
        refine goF (N := 72) Tryz.ntmps53 300 ?_
        simp only [go_sem, Nat.reduceAdd, Nat.reduceMul, Nat.reduceBEq, Nat.reduceLT, Nat.reduceLeDiff, reduceIte, reduceCtorEq, Int.reduceToNat, Int.reduceLT, Int.reduceGT, Int.reduceNeg, Int.reduceBEq, Int.reduceBNe]
        obtain ⟨u1, u2⟩ := pre_text (.inl hy) t1
        refine ⟨by omega, ?_⟩
        exact aret [2] rfl ⟨_, _, rfl, ⟨[⟨1, y ++ t⟩], k' + 1 + 1, rfl, block_one (drawn_text (.inl rfl) u1 (by simp; omega)) (.inl rfl), rfl, by omega, by omega⟩, rfl, rfl⟩
      | false =>
        refine goF (N := 72) Tryz.ntmps53 300 ?_
        simp only [go_sem, Nat.reduceAdd, Nat.reduceMul, Nat.reduceBEq, Nat.reduceLT, Nat.reduceLeDiff, reduceIte, reduceCtorEq, Int.reduceToNat, Int.reduceLT, Int.reduceGT, Int.reduceNeg, Int.reduceBEq, Int.reduceBNe]
        exact aret [2] rfl ⟨_, _, rfl, ⟨[⟨1, t⟩], k' + 1, rfl, block_one (drawn_text (.inl rfl) (t1.weak wordC_text) (by omega)) (.inl rfl), rfl, by omega, by omega⟩, rfl, rfl⟩
  · refine goF (N := 72) Tryz.ntmps53 300 ?_
    simp only [go_sem, Nat.reduceAdd, Nat.reduceMul, Nat.reduceBEq, Nat.reduceLT, Nat.reduceLeDiff, reduceIte, reduceCtorEq, Int.reduceToNat, Int.reduceLT, Int.reduceGT, Int.reduceNeg, Int.reduceBEq, Int.reduceBNe]
    refine mcall (one_mc L (k + 1) TurnL (by decide) (by decide) (by omega) (by omega)) rfl rfl (id := 0) rfl (N := 72) Tryz.ntmps53 rfl ?_
    rintro _ _ ⟨⟨y, hy, rfl⟩, rfl⟩
    refine goF (N := 72) Tryz.ntmps53 300 ?_
    simp only [go_sem, Nat.reduceAdd, Nat.reduceMul, Nat.reduceBEq, Nat.reduceLT, Nat.reduceLeDiff, reduceIte, reduceCtorEq, Int.reduceToNat, Int.reduceLT, Int.reduceGT, Int.reduceNeg, Int.reduceBEq, Int.reduceBNe]
    exact aret [2] rfl ⟨_, _, rfl, ⟨[⟨5, y⟩], k + 1 + 1, rfl, block_one (drawn_turn hy) (.inr rfl), rfl, by omega, by omega⟩, rfl, rfl⟩
  · refine go (N := 72) Tryz.ntmps53 300 ?_
    simp only [go_sem, Nat.reduceAdd, Nat.reduceMul, Nat.reduceBEq, Nat.reduceLT, Nat.reduceLeDiff, reduceIte, reduceCtorEq, Int.reduceToNat, Int.reduceLT, Int.reduceGT, Int.reduceNeg, Int.reduceBEq, Int.reduceBNe, d0, d1, d2]
    refine pcall1 (names_pc) rfl (N := 72) Tryz.ntmps53 rfl (go (N := 72) Tryz.ntmps53 300 ?_)
    simp only [go_sem, Nat.reduceAdd, Nat.reduceMul, Nat.reduceBEq, Nat.reduceLT, Nat.reduceLeDiff, reduceIte, reduceCtorEq, Int.reduceToNat, Int.reduceLT, Int.reduceGT, Int.reduceNeg, Int.reduceBEq, Int.reduceBNe, d0, d1, d2]
    refine mcall (one_mc L (k + 1) NameL (by decide) (by decide) (by omega) (by omega)) rfl rfl (id := 0) rfl (N := 72) Tryz.ntmps53 rfl ?_
    rintro _ _ ⟨⟨y, hy, rfl⟩, rfl⟩
    refine go (N := 72) Tryz.ntmps53 300 ?_
    simp only [go_sem, Nat.reduceAdd, Nat.reduceMul, Nat.reduceBEq, Nat.reduceLT, Nat.reduceLeDiff, reduceIte, reduceCtorEq, Int.reduceToNat, Int.reduceLT, Int.reduceGT, Int.reduceNeg, Int.reduceBEq, Int.reduceBNe]
    refine mcall (range_mc L (k + 1 + 1) 1 2 (by omega) (by omega) (by omega) (by omega) (by omega)) rfl rfl (id := 0) rfl (N := 72) Tryz.ntmps53 rfl ?_
    rintro _ _ ⟨⟨n, rfl, hn1, hn2⟩, rfl⟩
    refine go (N := 72) Tryz.ntmps53 300 ?_
    simp only [go_sem, Nat.reduceAdd, Nat.reduceMul, Nat.reduceBEq, Nat.reduceLT, Nat.reduceLeDiff, reduceIte, reduceCtorEq, Int.reduceToNat, Int.reduceLT, Int.reduceGT, Int.reduceNeg, Int.reduceBEq, Int.reduceBNe]
    have dn := drawn_name hy
    refine aloop (ι := Int × Int × Int × List Pa) (fun x => (n - x.1).toNat)
      (fun x => [(40, .int .i64 x.1), (39, .int .i64 n), (4, .sl 1 0 x.2.2.2.length x.2.2.2.length), (0, .ptr 0 1 0 0)])
      (fun x => [.arr 2 [str L x.2.1], .arr 2 (x.2.2.2.map paA)])
      (fun x => 0 ≤ x.1 ∧ x.1 ≤ n ∧ k ≤ x.2.1 ∧ x.2.1 ≤ k + 3 + 170 * x.1 ∧ (x.2.2.1 = 2 ∨ x.2.2.1 = 4) ∧ (0 < x.1 → x.2.2.1 = 4) ∧ (∀ l, l ≠ 2 → l ≠ 3 → runL l x.2.2.2 = some x.2.2.1) ∧ (∀ p ∈ x.2.2.2, DrawnP p) ∧ 1 ≤ x.2.2.2.length ∧ (x.2.2.2.length : Int) ≤ 1 + 2 * x.1)
      (0, k + 1 + 1 + 1, 2, [⟨2, y⟩]) ⟨Int.le_refl _, by simp only; omega, by simp only; omega, by simp only; omega, .inl rfl, by simp, ?_, by simpa using dn, by simp, by simp⟩ ?_ ?_
    · intro l h2 h3
      simp [runL, dn.ok, follows_free (show (2 : Int) ≠ 3 by decide) (show (2 : Int) ≠ 4 by decide) h2 h3]
    · refine Shift.weak ?_
      simp only [wk, go_sem, Nat.reduceAdd, Nat.reduceMul, Nat.reduceBEq, Nat.reduceLT, Nat.reduceLeDiff, reduceIte, reduceCtorEq, Int.reduceToNat, Int.reduceLT, Int.reduceGT, Int.reduceNeg, Int.reduceBEq, Int.reduceBNe]
    · rintro ⟨i, k', e, out⟩ ⟨g1, g2, g3, g4, g5, g6, g7, g8, g9, g10⟩ J hJ
      simp only at g1 g2 g3 g4 g5 g6 g7 g8 g9 g10 hJ ⊢
      refine goF (N := 72) Tryz.ntmps53 300 ?_
      by_cases gi : i < n
      · have di : decide (i < n) = true := by simp; omega
        simp only [go_sem, Nat.reduceAdd, Nat.reduceMul, Nat.reduceBEq, Nat.reduceLT, Nat.reduceLeDiff, reduceIte, reduceCtorEq, Int.reduceToNat, Int.reduceLT, Int.reduceGT, Int.reduceNeg, Int.reduceBEq, Int.reduceBNe, di]
        refine mcall (flip_mc L k' 3 (by omega) (by omega) (by omega) (by omega)) rfl rfl (id := 0) rfl (N := 72) Tryz.ntmps53 rfl ?_
        rintro _ _ ⟨⟨b, rfl⟩, rfl⟩
        refine amid (κ := Int × Int × List Pa)
          (fun x => [(40, .int .i64 i), (39, .int .i64 n), (4, .sl 1 0 x.2.2.length x.2.2.length), (0, .ptr 0 1 0 0)])
          (fun x => [.arr 2 [str L x.1], .arr 2 (x.2.2.map paA)])
          (fun x => k' ≤ x.1 ∧ x.1 ≤ k' + 84 ∧ (x.2.1 = 2 ∨ x.2.1 = 3 ∨ x.2.1 = 4) ∧ (∀ l, l ≠ 2 → l ≠ 3 → runL l x.2.2 = some x.2.1) ∧ (∀ p ∈ x.2.2, DrawnP p) ∧ 1 ≤ x.2.2.length ∧ (x.2.2.length : Int) ≤ 2 + 2 * i) ?_ ?_
        · rintro ⟨k2, e2, out2⟩ ⟨f1, f2, f3, f4, f5, f6, f7⟩
          simp only at f1 f2 f3 f4 f5 f6 f7 ⊢
          refine goF (N := 72) Tryz.ntmps53 300 ?_
          simp only [go_sem, Nat.reduceAdd, Nat.reduceMul, Nat.reduceBEq, Nat.reduceLT, Nat.reduceLeDiff, reduceIte, reduceCtorEq, Int.reduceToNat, Int.reduceLT, Int.reduceGT, Int.reduceNeg, Int.reduceBEq, Int.reduceBNe]
          refine mcall (pick_mc L k2 [3, 12, 80] (by decide) (by decide) (by omega) (by omega)) rfl rfl (id := 0) rfl (N := 72) Tryz.ntmps53 rfl ?_
          rintro _ _ ⟨⟨x, hx, rfl⟩, rfl⟩
          have px : 1 ≤ x ∧ x ≤ 80 := (show ∀ x ∈ [(3 : Int), 12, 80], 1 ≤ x ∧ x ≤ 80 by decide) x hx
          refine goF (N := 72) Tryz.ntmps53 300 ?_
          simp only [go_sem, Nat.reduceAdd, Nat.reduceMul, Nat.reduceBEq, Nat.reduceLT, Nat.reduceLeDiff, reduceIte, reduceCtorEq, Int.reduceToNat, Int.reduceLT, Int.reduceGT, Int.reduceNeg, Int.reduceBEq, Int.reduceBNe]
          refine mcall (words_mc L (k2 + 1) x 1998 px.1 px.2 (by omega) (by omega) (by omega) (by omega)) rfl rfl (id := 0) rfl (N := 72) Tryz.ntmps53 rfl ?_
          rintro _ _ ⟨t, k3, rfl, t1, t2, rfl, t3, t4⟩
          refine goF (N := 72) Tryz.ntmps53 300 ?_
          simp only [go_sem, Nat.reduceAdd, Nat.reduceMul, Nat.reduceBEq, Nat.reduceLT, Nat.reduceLeDiff, reduceIte, reduceCtorEq, Int.reduceToNat, Int.reduceLT, Int.reduceGT, Int.reduceNeg, Int.reduceBEq, Int.reduceBNe]
          refine mcall (flip_mc L k3 8 (by omega) (by omega) (by omega) (by omega)) rfl rfl (id := 0) rfl (N := 72) Tryz.ntmps53 rfl ?_
          rintro _ _ ⟨⟨b, rfl⟩, rfl⟩
          have fol : followsL 4 e2 = true := by rcases f3 with rfl | rfl | rfl <;> rfl
          have e3 : ∀ q u, List.map paA out2 ++ [AV.agg [.int .i64 q, .str u]] = List.map paA (out2 ++ [⟨q, u⟩]) := fun q u => by simp [paA]
          have e4 : ∀ q u, out2.length + 1 = (out2 ++ [(⟨q, u⟩ : Pa)]).length := fun q u => by simp
          have next : ∀ (q : Pa) (k4 : Int), DrawnP q → q.kind = 4 → k3 ≤ k4 → k4 ≤ k3 + 2 → _ := fun q k4 hq hk h1 h2 => hJ (i + 1, k4, 4, out2 ++ [q]) ⟨by simp only; omega, by simp only; omega, by simp only; omega, by simp only; omega, .inr rfl, fun _ => rfl,
            fun l l2 l3 => hk ▸ runL_one (f4 l l2 l3) hq.ok (hk ▸ fol), fun p hp => by
              rcases List.mem_append.1 hp with hp | hp
              · exact f5 p hp
              · rw [List.mem_singleton.1 hp]; exact hq, by simp, by simp only [List.length_append, List.length_cons, List.length_nil]; omega⟩ (by simp only; omega)
          cases b with
          | true =>
            refine goF (N := 72) Tryz.ntmps53 300 ?_
            simp only [go_sem, Nat.reduceAdd, Nat.reduceMul, Nat.reduceBEq, Nat.reduceLT, Nat.reduceLeDiff, reduceIte, reduceCtorEq, Int.reduceToNat, Int.reduceLT, Int.reduceGT, Int.reduceNeg, Int.reduceBEq, Int.reduceBNe]
            refine mcall (one_mc L (k3 + 1) PreB (by decide) (by decide) (by omega) (by omega)) rfl rfl (id := 0) rfl (N := 72) Tryz.ntmps53 rfl ?_
            rintro _ _ ⟨⟨y, hy, rfl⟩, rfl⟩
            obtain ⟨u1, u2⟩ := pre_text (.inr hy) t1
            refine goF (N := 72) Tryz.ntmps53 300 ?_
            simp only [go_sem, Nat.reduceAdd, Nat.reduceMul, Nat.reduceBEq, Nat.reduceLT, Nat.reduceLeDiff, reduceIte, reduceCtorEq, Int.reduceToNat, Int.reduceLT, Int.reduceGT, Int.reduceNeg, Int.reduceBEq, Int.reduceBNe]
            refine ⟨by omega, by simp, .inl trivial, by simp; omega, by simp; omega, by omega, by omega, ?_⟩
            rw [e3, e4 4 (y ++ t)]
            refine ainv (next ⟨4, y ++ t⟩ (k3 + 1 + 1) (drawn_text (.inr rfl) u1 (by simp; omega)) rfl (by omega) (by omega)) (Shift.weak ?_)
            simp only [wk, go_sem, Nat.reduceAdd, Nat.reduceMul, Nat.reduceBEq, Nat.reduceLT, Nat.reduceLeDiff, reduceIte, reduceCtorEq, Int.reduceToNat, Int.reduceLT, Int.reduceGT, Int.reduceNeg, Int.reduceBEq, Int.reduceBNe]
          | false =>
            refine goF (N := 72) Tryz.ntmps53 300 ?_
            simp only [go_sem, Nat.reduceAdd, Nat.reduceMul, Nat.reduceBEq, Nat.reduceLT, Nat.reduceLeDiff, reduceIte, reduceCtorEq, Int.reduceToNat, Int.reduceLT, Int.reduceGT, Int.reduceNeg, Int.reduceBEq, Int.reduceBNe]
            refine ⟨by simp, .inl trivial, by simp; omega, by simp; omega, by omega, by omega, ?_⟩
            rw [e3, e4 4 t]
            refine ainv (next ⟨4, t⟩ (k3 + 1) (drawn_text (.inr rfl) (t1.weak wordC_text) (by omega)) rfl (by omega) (by omega)) (Shift.weak ?_)
            simp only [wk, go_sem, Nat.reduceAdd, Nat.reduceMul, Nat.reduceBEq, Nat.reduceLT, Nat.reduceLeDiff, reduceIte, reduceCtorEq, Int.reduceToNat, Int.reduceLT, Int.reduceGT, Int.reduceNeg, Int.reduceBEq, Int.reduceBNe]
        · intro Q hQ
          cases b with
          | true =>
            refine goF (N := 72) Tryz.ntmps53 300 ?_
            simp only [go_sem, Nat.reduceAdd, Nat.reduceMul, Nat.reduceBEq, Nat.reduceLT, Nat.reduceLeDiff, reduceIte, reduceCtorEq, Int.reduceToNat, Int.reduceLT, Int.reduceGT, Int.reduceNeg, Int.reduceBEq, Int.reduceBNe]
            refine mcall (pick_mc L (k' + 1) [2, 20] (by decide) (by decide) (by omega) (by omega)) rfl rfl (id := 0) rfl (N := 72) Tryz.ntmps53 rfl ?_
            rintro _ _ ⟨⟨x, hx, rfl⟩, rfl⟩
            have px : 1 ≤ x ∧ x ≤ 80 := (show ∀ x ∈ [(2 : Int), 20], 1 ≤ x ∧ x ≤ 80 by decide) x hx
            refine goF (N := 72) Tryz.ntmps53 300 ?_
            simp only [go_sem, Nat.reduceAdd, Nat.reduceMul, Nat.reduceBEq, Nat.reduceLT, Nat.reduceLeDiff, reduceIte, reduceCtorEq, Int.reduceToNat, Int.reduceLT, Int.reduceGT, Int.reduceNeg, Int.reduceBEq, Int.reduceBNe]
            refine mcall (words_mc L (k' + 1 + 1) x 200 px.1 px.2 (by omega) (by omega) (by omega) (by omega)) rfl rfl (id := 0) rfl (N := 72) Tryz.ntmps53 rfl ?_
            rintro _ _ ⟨t, k3, rfl, t1, t2, rfl, t3, t4⟩
            refine goF (N := 72) Tryz.ntmps53 300 ?_
            simp only [go_sem, Nat.reduceAdd, Nat.reduceMul, Nat.reduceBEq, Nat.reduceLT, Nat.reduceLeDiff, reduceIte, reduceCtorEq, Int.reduceToNat, Int.reduceLT, Int.reduceGT, Int.reduceNeg, Int.reduceBEq, Int.reduceBNe]
            have e3 : ∀ q u, List.map paA out ++ [AV.agg [.int .i64 q, .str u]] = List.map paA (out ++ [⟨q, u⟩]) := fun q u => by simp [paA]
            have e4 : ∀ q u, out.length + 1 = (out ++ [(⟨q, u⟩ : Pa)]).length := fun q u => by simp
            have dq : DrawnP ⟨3, t⟩ := drawn_aside t1 (by omega)
            have fol : followsL 3 e = true := by rcases g5 with rfl | rfl <;> rfl
            refine ⟨by simp, .inl trivial, by simp; omega, by simp; omega, ?_⟩
            rw [e3, e4 3 t]
            refine ainv (hQ (k3, 3, out ++ [⟨3, t⟩]) ⟨by simp only; omega, by simp only; omega, .inr (.inl rfl), fun l l2 l3 => runL_one (g7 l l2 l3) dq.ok fol, fun p hp => ?_, by simp, by simp; omega⟩) (Shift.weak ?_)
            · rcases List.mem_append.1 hp with hp | hp
              · exact g8 p hp
              · rw [List.mem_singleton.1 hp]; exact dq
            · simp only [wk, go_sem, Nat.reduceAdd, Nat.reduceMul, Nat.reduceBEq, Nat.reduceLT, Nat.reduceLeDiff, reduceIte, reduceCtorEq, Int.reduceToNat, Int.reduceLT, Int.reduceGT, Int.reduceNeg, Int.reduceBEq, Int.reduceBNe]
          | false =>
            refine goF (N := 72) Tryz.ntmps53 300 ?_
            simp only [go_sem, Nat.reduceAdd, Nat.reduceMul, Nat.reduceBEq, Nat.reduceLT, Nat.reduceLeDiff, reduceIte, reduceCtorEq, Int.reduceToNat, Int.reduceLT, Int.reduceGT, Int.reduceNeg, Int.reduceBEq, Int.reduceBNe]
            refine ainv (hQ (k' + 1, e, out) ⟨by simp only; omega, by simp only; omega, by simp only; omega, g7, g8, g9, by simp only; omega⟩) (Shift.weak ?_)
            simp only [wk, go_sem, Nat.reduceAdd, Nat.reduceMul, Nat.reduceBEq, Nat.reduceLT, Nat.reduceLeDiff, reduceIte, reduceCtorEq, Int.reduceToNat, Int.reduceLT, Int.reduceGT, Int.reduceNeg, Int.reduceBEq, Int.reduceBNe]
      · have di : decide (i < n) = false := by simp; omega
        simp only [go_sem, Nat.reduceAdd, Nat.reduceMul, Nat.reduceBEq, Nat.reduceLT, Nat.reduceLeDiff, reduceIte, reduceCtorEq, Int.reduceToNat, Int.reduceLT, Int.reduceGT, Int.reduceNeg, Int.reduceBEq, Int.reduceBNe, di]
        have i0 : i = n := by omega
        have e4 := g6 (by omega)
        refine ARet.shift (Shift.freeze 2 (id := 1) rfl rfl (by simp) (Nat.le_refl _) (frozen_paras out)) (aret [2] rfl ⟨_, _, rfl, ⟨out, k', ?_, ⟨fun l l2 l3 => ⟨e, g7 l l2 l3, by omega, by omega⟩, ⟨g9, by omega⟩, g8⟩, rfl, by omega, by omega⟩, rfl, rfl⟩)
        simp [resV, Av.get, Av.put, List.take_of_length_le]
end Go.Proofs.YtikbgjhajgjjdaaGreatDoor
/- Somebody's part of a scene. Own work of this seat. -/
set_option maxRecDepth 100000
set_option linter.unusedSimpArgs false
set_option linter.unusedVariables false
namespace Go.Proofs.YtikbgjhajgjjdaaGreatDoor
open Go Go.Av Go.RowKit

def GOk (n i : Nat) (out : List (Nat × Nat)) : Prop := i ≤ n ∧ ∀ g ∈ out, g.1 < g.2 ∧ g.2 ≤ i
theorem gstep_ok {n i : Nat} {out : List (Nat × Nat)} {p : Pa} (h : GOk n i out) (hi : i < n) : GOk n (i + 1) (gstep out i p) := by
  refine ⟨by omega, fun g hg => ?_⟩
  unfold gstep at hg
  split at hg
  · by_cases hl : out.length = 0
    · have : out = [] := List.length_eq_zero_iff.1 hl
      subst this
      simp at hg
    · rcases List.mem_or_eq_of_mem_set hg with h1 | h1
      · have := h.2 g h1; omega
      · have hlt : out.length - 1 < out.length := by omega
        have hm : out.getD (out.length - 1) (0, 0) ∈ out := by
          rw [List.getD_eq_getElem?_getD, List.getElem?_eq_getElem hlt]
          exact List.getElem_mem hlt
        have := h.2 _ hm
        rw [h1]
        simp only
        omega
  · rcases List.mem_append.1 hg with h1 | h1
    · have := h.2 g h1; omega
    · rw [List.mem_singleton.1 h1]; simp
theorem gfold_ok {n : Nat} : ∀ {ps : List Pa} {i : Nat} {out : List (Nat × Nat)}, GOk n i out → i + ps.length = n → GOk n n (gfold out i ps)
  | [], i, out, h, hn => by
    simp only [List.length_nil, Nat.add_zero] at hn
    subst hn; exact h
  | p :: r, i, out, h, hn => by
    simp only [List.length_cons] at hn
    show GOk n n (gfold (gstep out i p) (i + 1) r)
    exact gfold_ok (gstep_ok h (by omega)) (by omega)
theorem groups_ok (ps : List Pa) : ∀ g ∈ groupsL ps, g.1 < g.2 ∧ g.2 ≤ ps.length :=
  (gfold_ok (n := ps.length) (ps := ps) (i := 0) (out := []) ⟨by omega, by simp⟩ (by omega)).2
def pNo : Pa := ⟨0, []⟩
def isCue (p : Pa) (name : List UInt8) : Bool := p.kind == 2 && p.text == name
def headP (ps : List Pa) (gs : List (Nat × Nat)) (k : Nat) : Pa := ps.getD (gs.getD k (0, 0)).1 pNo
def ownB (ps : List Pa) (name : List UInt8) (ws : List (List UInt8)) (gs : List (Nat × Nat)) (k : Nat) : Bool :=
  isCue (headP ps gs k) name || (((headP ps gs k).kind == 2 && (decide (k + 1 < gs.length) && isCue (headP ps gs (k + 1)) name)) ||
    ((headP ps gs k).kind != 2 && (decide (0 < ws.length) && decide (0 < (foundL (wordsL (headP ps gs k).text) ws).length))))
def cutP (ps : List Pa) (g : Nat × Nat) : List Pa := (ps.take g.2).drop g.1
def partTo (ps : List Pa) (name : List UInt8) (ws : List (List UInt8)) (gs : List (Nat × Nat)) : Nat → List Pa
  | 0 => []
  | k + 1 => partTo ps name ws gs k ++ (if ownB ps name ws gs k then cutP ps (gs.getD k (0, 0)) else [])
def partL (ps : List Pa) (name : List UInt8) : List Pa := partTo ps name (wordsL name) (groupsL ps) (groupsL ps).length
end Go.Proofs.YtikbgjhajgjjdaaGreatDoor
/- Who speaks in a scene; times of scenes. Own work of this seat. -/
set_option maxRecDepth 100000
set_option linter.unusedSimpArgs false
set_option linter.unusedVariables false
namespace Go.Proofs.YtikbgjhajgjjdaaGreatDoor
open Go Go.Av Go.RowKit

theorem frozen_ints (l : List Int) : (flat (l.map (AV.int .i64))).all Av.frozen = true := by
  induction l with
  | nil => rfl
  | cons y l ih => simpa [flat, cellsOf, Av.frozen] using ih

end Go.Proofs.YtikbgjhajgjjdaaGreatDoor
