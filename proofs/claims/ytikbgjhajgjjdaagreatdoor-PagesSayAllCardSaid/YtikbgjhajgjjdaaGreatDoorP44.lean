/- Draws: any right script. Own work of this seat. -/
import Derived.Test.YtikbgjhajgjjdaaGreatDoorP43
import Derived.Test.YtikbgjhajgjjdaaGreatDoorP35
import Derived.Test.YtikbgjhajgjjdaaGreatDoorP39
set_option maxRecDepth 100000
set_option linter.unusedSimpArgs false
set_option linter.unusedVariables false
namespace Go.Proofs.YtikbgjhajgjjdaaGreatDoor
open Go Go.Av Go.RowKit
attribute [local go_sem ↓] br_true br_false dbr_true dbr_false dbri_true dbri_false dbrg_true dbrg_false
attribute [local go_sem] run cont br dbr dx dxc dgrd dyld dres dcall calm fieldPlace? allHas step1 opN grdN resN condN exitN stopN exitIt dOk xop xbin xint xarith xstr xbool xpick xnot xneg xextract xpart xpartOk xindex xfieldF fieldD xnew xbox xalloc xfieldAddr xptrAddIf xindexAddr xloadC xload putCells reElem xstoreB xstore xconv xtext xlen xlen2 xcall xfill xbuild cut rep xbuildSlice xbuildSliceD isRow elemD isU8 ev evs evp Go.Av.put Go.Av.get ofConst yldD yldV notBool_undef args0 cellsOf cond_true cond_false decide_true decide_false decide_eq_true_eq decide_eq_false_iff_not List.getElem?_cons_zero List.getElem?_cons_succ List.getElem?_nil List.getD_cons_zero List.getD_cons_succ List.getD_nil List.set_cons_zero List.set_cons_succ List.length_cons List.length_nil List.cons_append List.nil_append List.append_nil List.all_cons List.all_nil List.map_cons List.map_nil List.take_succ_cons List.take_zero List.drop_succ_cons List.drop_zero Bool.and_true Bool.true_and Bool.and_self Bool.and_false Bool.false_and one Go.Av.frozen beq_self_eq_true true_and and_true forall_const false_implies implies_true and_self Option.map_some Option.map_none Nat.zero_add Nat.add_zero Nat.zero_mul Nat.mul_one Nat.one_mul Int.toNat_zero ne_eq not_false_eq_true not_true_eq_false Bool.true_eq_false Bool.false_eq_true List.toList_toArray inr Go.Av.byteOf isByte decide_eq_decide Bool.not_true Bool.not_false Bool.not_eq_true' Bool.or_true Bool.true_or Bool.or_false Bool.false_or ge_iff_le gt_iff_lt and_assoc Bool.decide_eq_true beq_iff_eq beq_eq_false_iff_ne bne_iff_ne bne_self_eq_false if_true if_false Bool.and_eq_true Bool.or_eq_true Bool.and_eq_false_imp Bool.or_eq_false_iff Bool.not_eq_false' has Option.isSome_some Option.isSome_none Int.toNat_natCast Int.cast_ofNat_Int List.length_append xapp2 xapp xappS xappD xappB notInt srcOf srcB byteAV splice' xcut xcutS xcutF xcutB xcutN xcut0 cutL loOf hiOf evo xmake zelem xmax xcopy2 xcopyS xcopyB xnil xcut3 ixOf xclear2 xclearB List.getElem?_toArray xbin2 xnileq xempty xmkmap xmput xmputB xmputF isKey keyEq mfind xbin3 xeqs xeqop eqFs bothB leafEq xlook xlookB xlookF xbytes beq_c_n beq_n_c bne_c_n bne_n_c one_nil dxi dxic dbri rix dck reader blind opOk refOk Go.Op.operands Go.Call.operands List.contains_cons List.contains_nil dxg dxgc dbrg pck putD List.lookup_cons List.lookup_nil ts2 tb2 zl2 za2 Tryz.underlying2 ts3 tb3 zl3 za3 Tryz.underlying3 ts4 tb4 zl4 za4 Tryz.underlying4 ts5 tb5 zl5 za5 Tryz.underlying5 ts6 tb6 zl6 za6 Tryz.underlying6 ts7 tb7 za7 Tryz.underlying7 ts8 tb8 za8 Tryz.underlying8 ts9 tb9 zl9 za9 Tryz.underlying9 ts10 tb10 zl10 za10 Tryz.underlying10 ts11 tb11 zl11 za11 Tryz.underlying11 ts12 tb12 zl12 za12 Tryz.underlying12 ts13 tb13 za13 Tryz.underlying13 ts14 tb14 za14 Tryz.underlying14 ts18 tb18 za18 Tryz.underlying18 ts19 tb19 za19 Tryz.underlying19 ts21 tb21 zl21 za21 Tryz.underlying21 ts22 tb22 zl22 za22 Tryz.underlying22 ts24 tb24 za24 Tryz.underlying24 ts25 tb25 za25 Tryz.underlying25 ts26 tb26 zl26 za26 Tryz.underlying26 ts27 tb27 za27 Tryz.underlying27 ts28 tb28 za28 Tryz.underlying28 ts30 tb30 zl30 za30 Tryz.underlying30 ts31 tb31 zl31 za31 Tryz.underlying31 ts34 tb34 zl34 za34 Tryz.underlying34 ts35 tb35 zl35 za35 Tryz.underlying35 ts36 tb36 za36 Tryz.underlying36 ts37 tb37 za37 Tryz.underlying37 ts46 tb46 za46 Tryz.underlying46 ts47 tb47 za47 Tryz.underlying47 ts61 tb61 zl61 za61 Tryz.underlying61 ts62 tb62 za62 Tryz.underlying62 ts63 tb63 za63 Tryz.underlying63 ts66 tb66 zl66 za66 Tryz.underlying66 ts68 tb68 zl68 za68 Tryz.underlying68 ts74 tb74 za74 Tryz.underlying74 ts75 tb75 za75 Tryz.underlying75 ts77 tb77 zl77 za77 Tryz.underlying77 ts81 tb81 zl81 za81 Tryz.underlying81 ts82 tb82 za82 Tryz.underlying82 ts83 tb83 za83 Tryz.underlying83 ts86 tb86 zl86 za86 Tryz.underlying86 ts102 tb102 za102 Tryz.underlying102 ts103 tb103 za103 Tryz.underlying103 ts106 tb106 za106 Tryz.underlying106 ts107 tb107 za107 Tryz.underlying107 ts114 tb114 zl114 za114 Tryz.underlying114 ts117 tb117 zl117 za117 Tryz.underlying117 ts120 tb120 zl120 za120 Tryz.underlying120 ts133 tb133 zl133 za133 Tryz.underlying133 ts144 tb144 zl144 za144 Tryz.underlying144 ts151 tb151 zl151 za151 Tryz.underlying151 ts156 tb156 zl156 za156 Tryz.underlying156 ts160 tb160 Tryz.underlying160 ts169 tb169 za169 Tryz.underlying169 ts170 tb170 za170 Tryz.underlying170 ts175 tb175 Tryz.underlying175 ts180 tb180 za180 Tryz.underlying180 ts181 tb181 za181 Tryz.underlying181 ts185 tb185 za185 Tryz.underlying185 ts186 tb186 za186 Tryz.underlying186 ts187 tb187 Tryz.underlying187 ts189 tb189 Tryz.underlying189 ts190 tb190 Tryz.underlying190 ts191 tb191 za191 Tryz.underlying191 ts192 tb192 za192 Tryz.underlying192 ts196 tb196 zl196 za196 Tryz.underlying196 ts197 tb197 zl197 za197 Tryz.underlying197 ts199 tb199 zl199 za199 Tryz.underlying199 ts200 tb200 zl200 za200 Tryz.underlying200 ts201 tb201 za201 Tryz.underlying201 ts202 tb202 za202 Tryz.underlying202

/-- a right script that is drawn -/
def DrawnA (x : Sr) : Prop := ∃ y, DrawnR y ∧ (x = y ∨ x = numR y)

theorem anyRight_mch {S : Std} (hS : LibOk S) (L : List Int) (k : Int) (h3 : 0 ≤ k) (h4 : k ≤ 400000) :
    McH Tryz.prog S 4 2 (str L k) [] (fun r s => ∃ (x : Sr) (k' : Int), r = srA x ∧ DrawnA x ∧ s = str L k' ∧ k ≤ k' ∧ k' ≤ k + 50000) := by
  refine cth_intro Tryz.func4 rfl Tryz.ntmps4 hB4 (by simp) fun h ρ w hg => goF (N := 9) Tryz.ntmps4 300 ?_
  simp only [go_sem, Nat.reduceAdd, Nat.reduceMul, Nat.reduceBEq, Nat.reduceLT, Nat.reduceLeDiff, reduceIte, reduceCtorEq, Int.reduceToNat, Int.reduceLT, Int.reduceGT, Int.reduceNeg, Int.reduceBEq, Int.reduceBNe]
  refine mcall (flip_mc L k 2 (by omega) (by omega) (by omega) (by omega)) rfl rfl (id := 0) rfl (N := 9) Tryz.ntmps4 rfl ?_
  rintro _ _ ⟨⟨b, rfl⟩, rfl⟩
  cases b with
  | true =>
    refine goF (N := 9) Tryz.ntmps4 300 ?_
    simp only [go_sem, Nat.reduceAdd, Nat.reduceMul, Nat.reduceBEq, Nat.reduceLT, Nat.reduceLeDiff, reduceIte, reduceCtorEq, Int.reduceToNat, Int.reduceLT, Int.reduceGT, Int.reduceNeg, Int.reduceBEq, Int.reduceBNe]
    refine mcallH hg (story_mch hS L (k + 1) (by omega) (by omega)) rfl rfl (id := 0) rfl (N := 9) Tryz.ntmps4 rfl ?_
    rintro _ _ ⟨x, k', rfl, hx, rfl, t1, t2⟩
    simp only [srA]
    refine goF (N := 9) Tryz.ntmps4 300 ?_
    simp only [go_sem, Nat.reduceAdd, Nat.reduceMul, Nat.reduceBEq, Nat.reduceLT, Nat.reduceLeDiff, reduceIte, reduceCtorEq, Int.reduceToNat, Int.reduceLT, Int.reduceGT, Int.reduceNeg, Int.reduceBEq, Int.reduceBNe]
    exact aretc [.cell 2 28] rfl [_] ⟨by simp only [go_sem, Nat.reduceAdd, Nat.reduceMul, Nat.reduceBEq, Nat.reduceLT, Nat.reduceLeDiff, reduceIte, reduceCtorEq, Int.reduceToNat, Int.reduceLT, Int.reduceGT, Int.reduceNeg, Int.reduceBEq, Int.reduceBNe, sideIs], trivial⟩ ⟨_, _, rfl, ⟨numR x, k', rfl, ⟨x, hx, .inr rfl⟩, rfl, by omega, by omega⟩, rfl, rfl⟩
  | false =>
    refine goF (N := 9) Tryz.ntmps4 300 ?_
    simp only [go_sem, Nat.reduceAdd, Nat.reduceMul, Nat.reduceBEq, Nat.reduceLT, Nat.reduceLeDiff, reduceIte, reduceCtorEq, Int.reduceToNat, Int.reduceLT, Int.reduceGT, Int.reduceNeg, Int.reduceBEq, Int.reduceBNe]
    refine mcall (script_mc L (k + 1) (by omega) (by omega)) rfl rfl (id := 0) rfl (N := 9) Tryz.ntmps4 rfl ?_
    rintro _ _ ⟨x, k', rfl, hx, rfl, t1, t2⟩
    simp only [srA]
    refine goF (N := 9) Tryz.ntmps4 300 ?_
    simp only [go_sem, Nat.reduceAdd, Nat.reduceMul, Nat.reduceBEq, Nat.reduceLT, Nat.reduceLeDiff, reduceIte, reduceCtorEq, Int.reduceToNat, Int.reduceLT, Int.reduceGT, Int.reduceNeg, Int.reduceBEq, Int.reduceBNe]
    exact aretc [.cell 2 28] rfl [_] ⟨by simp only [go_sem, Nat.reduceAdd, Nat.reduceMul, Nat.reduceBEq, Nat.reduceLT, Nat.reduceLeDiff, reduceIte, reduceCtorEq, Int.reduceToNat, Int.reduceLT, Int.reduceGT, Int.reduceNeg, Int.reduceBEq, Int.reduceBNe, sideIs], trivial⟩ ⟨_, _, rfl, ⟨x, k', rfl, ⟨x, hx, .inl rfl⟩, rfl, by omega, by omega⟩, rfl, rfl⟩
end Go.Proofs.YtikbgjhajgjjdaaGreatDoor
/- What is drawn is right: plain law. Own work of this seat. -/
set_option maxRecDepth 100000
set_option linter.unusedSimpArgs false
set_option linter.unusedVariables false
namespace Go.Proofs.YtikbgjhajgjjdaaGreatDoor
open Go Go.Av Go.RowKit

theorem title_all : (TitleL.all fun t => plainL t && (decide (1 ≤ t.length) && decide (t.length ≤ 60))) = true := by decide +kernel
theorem set_all : (SetL.all fun t => isSetL t && decide (t.length < 1000000)) = true := by decide +kernel
theorem drawn_scene {x : Sc} (h : DrawnS x) : SceneOk x := by
  have := List.all_eq_true.1 set_all x.set h.set
  simp only [Bool.and_eq_true, decide_eq_true_eq] at this
  exact ⟨this.1, this.2, by have := h.len; omega, h.run⟩
theorem sum_le : ∀ (l : List Sc), (∀ y ∈ l, y.paras.length ≤ 60) → paraSum l ≤ 60 * l.length
  | [], _ => by simp [paraSum]
  | x :: r, h => by
    have h1 := h x (by simp)
    have h2 := sum_le r (fun y hy => h y (by simp [hy]))
    simp only [paraSum, List.map_cons, List.sum_cons, List.length_cons] at h2 ⊢
    omega
theorem sum_num : ∀ (i : Nat) (l : List Sc), paraSum (numL i l) = paraSum l
  | _, [] => rfl
  | i, x :: r => by
    have := sum_num (i + 1) r
    simp only [paraSum, numL, List.map_cons, List.sum_cons, nm] at this ⊢
    omega
theorem ok_plain : ∀ (l : List Sc) (acc : List (List UInt8)) (first : Bool), (∀ y ∈ l, DrawnS y) → (first = true → ∀ y, l.head? = some y → y.time ≠ 5) → okFrom acc first l
  | [], _, _, _, _ => trivial
  | x :: r, acc, first, h, h5 => by
    have hx := h x (by simp)
    exact ⟨.inl hx.no, hx.place, hx.time, fun hf => h5 hf x rfl, drawn_scene hx, ok_plain r _ false (fun y hy => h y (by simp [hy])) (by simp)⟩
def accN (i : Nat) : List (List UInt8) := (List.range i).map fun j => lastL (j + 1)
theorem acc_new : ∀ i, i < 5 → lastL (i + 1) ∉ accN i ∧ numberL (lastL (i + 1)) = true ∧ (lastL (i + 1)).length < 1000000 := by
  have h : ∀ i : Fin 5, lastL (i.1 + 1) ∉ accN i.1 ∧ numberL (lastL (i.1 + 1)) = true ∧ (lastL (i.1 + 1)).length < 1000000 := by decide +kernel
  exact fun i hi => h ⟨i, hi⟩
theorem ok_num : ∀ (l : List Sc) (i : Nat), i + l.length ≤ 5 → (∀ y ∈ l, DrawnS y) → (i = 0 → ∀ y, l.head? = some y → y.time ≠ 5) → okFrom (accN i) (decide (i = 0)) (numL i l)
  | [], _, _, _, _ => trivial
  | x :: r, i, hl, h, h5 => by
    have hx := h x (by simp)
    simp only [List.length_cons] at hl
    have ha := acc_new i (by omega)
    have hn : (nm i x).no = lastL (i + 1) := num_last i (by omega)
    have hd : dd (accN i) (nm i x).no = accN (i + 1) := by
      rw [hn, dd, if_neg ha.1]
      simp [accN, List.range_succ]
    refine ⟨.inr ?_, hx.place, hx.time, fun hf => h5 (by simpa using hf) x rfl, ?_, ?_⟩
    · rw [hn]; exact ⟨ha.2.1, ha.2.2, ha.1⟩
    · have := drawn_scene hx
      exact ⟨this.set, this.len, this.many, this.run⟩
    · rw [hd]
      have := ok_num r (i + 1) (by omega) (fun y hy => h y (by simp [hy])) (by simp)
      simpa using this
theorem drawn_ok {x : Sr} (h : DrawnA x) : ScriptOk x := by
  obtain ⟨y, hy, hx⟩ := h
  have ht := List.all_eq_true.1 title_all y.title hy.title
  simp only [Bool.and_eq_true, decide_eq_true_eq] at ht
  have hl := hy.len
  have hs := sum_le y.scenes (fun z hz => (hy.all z hz).len)
  rcases hx with rfl | rfl
  · exact ⟨ht.2, ht.1, by omega, by omega, ok_plain _ _ _ hy.all (fun _ => hy.first)⟩
  · refine ⟨ht.2, ht.1, by simp only [numR, numL_len]; omega, by simp only [numR, sum_num]; omega, ?_⟩
    exact ok_num y.scenes 0 (by omega) hy.all (fun _ => hy.first)
end Go.Proofs.YtikbgjhajgjjdaaGreatDoor
/- What the lines of blocks look like: plain law. Own work of this seat. -/
set_option maxRecDepth 100000
set_option linter.unusedSimpArgs false
set_option linter.unusedVariables false
namespace Go.Proofs.YtikbgjhajgjjdaaGreatDoor
open Go Go.Av Go.RowKit

def noS (w : List UInt8) : Prop := ∀ b ∈ w, b ≠ 32
/-- a line that begins with a byte that is no blank -/
def nbL (l : List UInt8) : Prop := l ≠ [] ∧ l.head? ≠ some 32
theorem noS_nb {w : List UInt8} (h : noS w) (h0 : w ≠ []) : nbL w := by
  cases w with
  | nil => exact (h0 rfl).elim
  | cons a r => exact ⟨by simp, by simpa using h a (by simp)⟩
theorem consW_noS {c : UInt8} (hc : c ≠ 32) : ∀ {ws : List (List UInt8)}, (∀ w ∈ ws, noS w) → ∀ w ∈ consW c ws, noS w
  | [], _, w, hw => by
    have : w = [c] := by simpa [consW] using hw
    subst this
    intro b hb
    have : b = c := by simpa using hb
    rw [this]; exact hc
  | a :: r, h, w, hw => by
    rcases (by simpa [consW] using hw : w = c :: a ∨ w ∈ r) with rfl | hw
    · intro b hb
      rcases List.mem_cons.1 hb with rfl | hb
      · exact hc
      · exact h a (by simp) b hb
    · exact h w (by simp [hw])
theorem split_noS : ∀ q : List UInt8, ∀ w ∈ splitW q, noS w
  | [], w, hw => by
    have : w = [] := by simpa [splitW] using hw
    rw [this]; intro b hb; simp at hb
  | c :: r, w, hw => by
    simp only [splitW] at hw
    split at hw
    · rcases List.mem_cons.1 hw with rfl | hw
      · intro b hb; simp at hb
      · exact split_noS r w hw
    · rename_i hc
      exact consW_noS (by simpa using hc) (split_noS r) w hw
theorem chop_noS (W : Nat) (hW : 0 < W) : ∀ (n : Nat) (w : List UInt8), w.length ≤ n → noS w → (∀ l ∈ (chop W w).1, nbL l) ∧ noS (chop W w).2
  | 0, w, h, hn => by rw [chop_end (by omega)]; exact ⟨by simp, hn⟩
  | n + 1, w, h, hn => by
    by_cases hc : W < w.length ∧ 0 < W
    · rw [chop_more hc.1 hc.2]
      obtain ⟨i1, i2⟩ := chop_noS W hW n (w.drop W) (by simp; omega) (fun b hb => hn b (List.mem_of_mem_drop hb))
      refine ⟨fun l hl => ?_, i2⟩
      rcases List.mem_cons.1 hl with rfl | hl
      · refine noS_nb (fun b hb => hn b (List.mem_of_mem_take hb)) fun e => ?_
        have := congrArg List.length e
        rw [List.length_take, List.length_nil] at this; omega
      · exact i1 l hl
    · rw [chop, dif_neg hc]
      exact ⟨by simp, hn⟩
def wInv (s : List (List UInt8) × List UInt8) : Prop := (∀ l ∈ s.1, nbL l) ∧ (s.2 ≠ [] → nbL s.2)
theorem wrapS_inv {W : Nat} (hW : 0 < W) {s : List (List UInt8) × List UInt8} {w : List UInt8} (h : wInv s) (hw : noS w) : wInv (wrapS W s w) := by
  unfold wrapS
  split
  · exact h
  · rename_i hw0
    split
    · rename_i hc
      simp only [Bool.and_eq_true, bne_iff_ne, ne_eq] at hc
      refine ⟨h.1, fun _ => ?_⟩
      obtain ⟨h1, h2⟩ := h.2 hc.1
      simp only at h2 ⊢
      cases hq : s.2 with
      | nil => exact (hc.1 hq).elim
      | cons a r => rw [hq] at h2; exact ⟨by simp, by simpa using h2⟩
    · obtain ⟨i1, i2⟩ := chop_noS W hW w.length w (Nat.le_refl _) hw
      refine ⟨fun l hl => ?_, fun h0 => noS_nb i2 h0⟩
      simp only at hl
      rcases List.mem_append.1 hl with hl | hl
      · split at hl
        · rename_i h0
          rcases List.mem_append.1 hl with hl | hl
          · exact h.1 l hl
          · rw [List.mem_singleton.1 hl]
            exact h.2 (by simpa using h0)
        · exact h.1 l hl
      · exact i1 l hl
theorem foldl_inv {α β : Type} {f : α → β → α} {P : α → Prop} {Q : β → Prop} (hf : ∀ s x, P s → Q x → P (f s x)) : ∀ (l : List β) (s : α), P s → (∀ x ∈ l, Q x) → P (l.foldl f s)
  | [], s, h, _ => h
  | x :: r, s, h, hq => foldl_inv hf r (f s x) (hf s x h (hq x (by simp))) (fun y hy => hq y (by simp [hy]))
theorem wrap_nb {W : Nat} (hW : 0 < W) (t : List UInt8) : ∀ l ∈ wrapL W t, nbL l := by
  have h : wInv (wrapF W t) := foldl_inv (P := wInv) (Q := noS) (fun s x h1 h2 => wrapS_inv hW h1 h2) _ _ ⟨by simp, by simp⟩ (split_noS t)
  intro l hl
  unfold wrapL at hl
  split at hl
  · rename_i h0
    rcases List.mem_append.1 hl with hl | hl
    · exact h.1 l hl
    · rw [List.mem_singleton.1 hl]
      exact h.2 (by simpa using h0)
  · exact h.1 l hl

theorem own_short {n : Nat} (hn : n < 20) {l : List UInt8} (h : nbL l) : OwnLn (indent n l) := by
  have hp : Lib.hasPrefix (indent n l) blanks20 = false := by
    cases hq : Lib.hasPrefix (indent n l) blanks20 with
    | false => rfl
    | true =>
      exfalso
      obtain ⟨t, ht⟩ := List.isPrefixOf_iff_prefix.1 hq
      have hb : blanks20 = Lib.repeatL [32] n ++ Lib.repeatL [32] (20 - n) := by
        have : ∀ k : Fin 20, blanks20 = Lib.repeatL [32] k.1 ++ Lib.repeatL [32] (20 - k.1) := by decide +kernel
        exact this ⟨n, hn⟩
      rw [hb, indent, List.append_assoc] at ht
      have ht := List.append_cancel_left ht
      have h0 : Lib.repeatL [32] (20 - n) = 32 :: (Lib.repeatL [32] (20 - n)).tail := by
        have : ∀ k : Fin 20, Lib.repeatL [32] (20 - k.1) = 32 :: (Lib.repeatL [32] (20 - k.1)).tail := by decide +kernel
        exact this ⟨n, hn⟩
      rw [h0] at ht
      rw [← ht] at h
      exact h.2 rfl
  refine ⟨fun e => ?_, by rw [hp, Bool.and_false]⟩
  rw [e] at hp
  revert hp
  decide +kernel
theorem own_nb {l : List UInt8} (h : nbL l) : OwnLn l := by
  have := own_short (n := 0) (by omega) h
  have e : indent 0 l = l := rfl
  rwa [e] at this
def ownLnB (l : List UInt8) : Bool := l != moreLn && !(Lib.hasSuffix l contW && Lib.hasPrefix l blanks20)
theorem ownLnB_ok {l : List UInt8} (h : ownLnB l = true) : OwnLn l := by
  simp only [ownLnB, Bool.and_eq_true, bne_iff_ne, ne_eq, Bool.not_eq_true'] at h
  exact ⟨h.1, h.2⟩
theorem cue_own : (NameL.all fun t => ownLnB (indent 20 t)) = true := by decide +kernel
theorem turn_own : (TurnL.all fun t => ownLnB (turnLine t)) = true := by decide +kernel

/-- a block's lines; a group's lines have their kinds -/
structure BlOk (b : Bl) : Prop where
  own : ∀ l ∈ b.lines, OwnLn l
  kinds : b.kind = 3 → b.kinds.length = b.lines.length
theorem addB_ok {b : Bl} (h : BlOk b) (kd : Int) {n : Nat} (hn : n < 20) {ls : List (List UInt8)} (hl : ∀ l ∈ ls, nbL l) : BlOk (addB b kd n ls) := by
  refine ⟨fun l hq => ?_, fun hk => ?_⟩
  · simp only [addB] at hq
    rcases List.mem_append.1 hq with hq | hq
    · exact h.own l hq
    · obtain ⟨m, hm, rfl⟩ := List.mem_map.1 hq
      exact own_short hn (hl m hm)
  · simp only [addB, List.length_append, List.length_replicate, List.length_map] at hk ⊢
    rw [h.kinds hk]
def TurnIn (p : Pa) : Prop := p.kind = 5 → p.text ∈ TurnL
theorem newB_ok {p : Pa} (h2 : p.kind = 2 → p.text ∈ NameL) (h5 : TurnIn p) (hj : joins p = false) (hk : 1 ≤ p.kind ∧ p.kind ≤ 5) : BlOk (newB p) := by
  unfold newB
  split
  · exact ⟨fun l hl => own_nb (wrap_nb (by omega) _ l hl), fun e => by simp at e⟩
  · rename_i h1
    split
    · rename_i h5'
      refine ⟨fun l hl => ?_, fun e => by simp at e⟩
      rw [List.mem_singleton.1 hl]
      exact ownLnB_ok (List.all_eq_true.1 turn_own _ (h5 (by simpa using h5')))
    · rename_i h5'
      refine ⟨fun l hl => ?_, fun _ => rfl⟩
      rw [List.mem_singleton.1 hl]
      have hk2 : p.kind = 2 := by
        simp only [joins, Bool.or_eq_false_iff, beq_eq_false_iff_ne] at hj
        simp at h1 h5'
        omega
      exact ownLnB_ok (List.all_eq_true.1 cue_own _ (h2 hk2))
theorem moreB_ok {b : Bl} (h : BlOk b) (p : Pa) : BlOk (moreB b p) := by
  unfold moreB
  split
  · exact addB_ok h 1 (by omega) (wrap_nb (by omega) _)
  · exact addB_ok h 2 (by omega) (wrap_nb (by omega) _)
def bInv (s : List Bl × Bl) : Prop := (∀ b ∈ s.1, BlOk b) ∧ BlOk s.2
theorem blocks_ok {x : Sc} (h : ∀ p ∈ x.paras, (p.kind = 2 → p.text ∈ NameL) ∧ TurnIn p ∧ 1 ≤ p.kind ∧ p.kind ≤ 5) : ∀ b ∈ blocksL x, BlOk b := by
  have h0 : BlOk ⟨0, wrapL 60 (headL x), [], []⟩ := ⟨fun l hl => own_nb (wrap_nb (by omega) _ l hl), fun e => by simp at e⟩
  have hi : bInv (blocksS x) := foldl_inv (P := bInv) (Q := fun p => (p.kind = 2 → p.text ∈ NameL) ∧ TurnIn p ∧ 1 ≤ p.kind ∧ p.kind ≤ 5) (fun s p h1 h2 => by
    unfold bstep
    split
    · exact ⟨h1.1, moreB_ok h1.2 p⟩
    · rename_i hj
      refine ⟨fun b hb => ?_, newB_ok h2.1 h2.2.1 (by simpa using hj) h2.2.2⟩
      rcases List.mem_append.1 hb with hb | hb
      · exact h1.1 b hb
      · rw [List.mem_singleton.1 hb]; exact h1.2) _ _ ⟨by simp, h0⟩ h
  intro b hb
  unfold blocksL at hb
  rcases List.mem_append.1 hb with hb | hb
  · exact hi.1 b hb
  · rw [List.mem_singleton.1 hb]; exact hi.2

/-- what scenes say, by their blocks -/
theorem lines_kept (x : Sc) : (linesL x).filter keepL = ((blocksL x).flatMap fun b => b.lines).filter keepL := by
  unfold linesL
  generalize blocksL x = bs
  induction bs with
  | nil => rfl
  | cons b r ih =>
    have hg : (List.replicate (gapN b) ([] : List UInt8)).filter keepL = [] := by
      rw [List.filter_eq_nil_iff]
      intro l hl
      rw [List.eq_of_mem_replicate hl]; decide
    simp only [List.map_cons, List.flatten_cons, List.flatMap_cons, List.filter_append, ih, blockLines, hg, List.nil_append]
end Go.Proofs.YtikbgjhajgjjdaaGreatDoor
