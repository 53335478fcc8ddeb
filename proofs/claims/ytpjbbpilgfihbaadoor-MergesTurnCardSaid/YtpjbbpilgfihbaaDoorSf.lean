/- The pairs of lines that are kept. Own work of this seat. -/
import Derived.Test.YtpjbbpilgfihbaaDoorSe
namespace Go.Proofs.YtpjbbpilgfihbaaDoor
open Go Go.Av Go.RowKit
attribute [local go_sem ↓] br_true br_false dbr_true dbr_false
attribute [local go_sem] run cont br dbr dx dxc dgrd dyld dres dcall calm fieldPlace? allHas step1 opN grdN resN condN exitN stopN exitIt dOk xop xbin xint xarith xstr xbool xpick xnot xneg xextract xpart xpartOk xindex xfieldF fieldD xnew xbox xalloc xfieldAddr xptrAddIf xindexAddr xloadC xload putCells reElem xstoreB xstore xconv xtext xlen xlen2 xcall xfill xbuild cut rep xbuildSlice xbuildSliceD isRow elemD isU8 ev evs evp Go.Av.put Go.Av.get ofConst yldD yldV args0 cellsOf cond_true cond_false decide_true decide_false decide_eq_true_eq decide_eq_false_iff_not List.getElem?_cons_zero List.getElem?_cons_succ List.getElem?_nil List.getD_cons_zero List.getD_cons_succ List.getD_nil List.set_cons_zero List.set_cons_succ List.length_cons List.length_nil List.cons_append List.nil_append List.append_nil List.all_cons List.all_nil List.map_cons List.map_nil List.take_succ_cons List.take_zero List.drop_succ_cons List.drop_zero Bool.and_true Bool.true_and Bool.and_self Bool.and_false Bool.false_and one Go.Av.frozen beq_self_eq_true true_and and_true forall_const false_implies implies_true and_self Option.map_some Option.map_none Nat.zero_add Nat.add_zero Nat.zero_mul Nat.mul_one Nat.one_mul Int.toNat_zero ne_eq not_false_eq_true not_true_eq_false Bool.true_eq_false Bool.false_eq_true List.toList_toArray inr Go.Av.byteOf isByte decide_eq_decide Bool.not_true Bool.not_false Bool.not_eq_true' Bool.or_true Bool.true_or Bool.or_false Bool.false_or ge_iff_le gt_iff_lt and_assoc Bool.decide_eq_true beq_iff_eq beq_eq_false_iff_ne bne_iff_ne bne_self_eq_false if_true if_false Bool.and_eq_true Bool.or_eq_true Bool.and_eq_false_imp Bool.or_eq_false_iff Bool.not_eq_false' has Option.isSome_some Option.isSome_none Int.toNat_natCast Int.cast_ofNat_Int List.length_append xapp2 xapp xappS xappD xappB notInt srcOf srcB byteAV splice' xcut xcutS xcutF xcutB xcutN xcut0 cutL loOf hiOf evo xmake zelem xmax xcopy2 xcopyS xcopyB xnil xcut3 ixOf xclear2 xclearB List.getElem?_toArray xbin2 xnileq xempty xmkmap xmput xmputB xmputF isKey keyEq mfind xbin3 xeqs xeqop eqFs bothB leafEq
set_option maxRecDepth 100000
set_option linter.unusedSimpArgs false
set_option linter.unusedVariables false

theorem hb27 : hasBody Tryd.prog 27 = true := by kernel_rfl
theorem ts76 : tsize Tryd.prog 76 = 1 := by kernel_rfl
theorem za76 : zav Tryd.prog 76 = [.int .u16 0] := by kernel_rfl
theorem tb76 : tbytes Tryd.prog 76 = 2 := by kernel_rfl
theorem ts54 : tsize Tryd.prog 54 = 2 := by kernel_rfl
theorem za54 : zav Tryd.prog 54 = [.int .i64 0, .int .i64 0] := by kernel_rfl
theorem tb54 : tbytes Tryd.prog 54 = 16 := by kernel_rfl

def u16s (l : List Nat) : List AV := l.map fun x => .int .u16 (x : Nat)
def prs (l : List (Nat × Nat)) : List AV := l.map fun p => .agg [.int .i64 p.1, .int .i64 p.2]

/-- what stands in the table, from places (x, y) on -/
def Grid (a b : List (List UInt8)) (x y : Nat) (l : List Nat) : Prop :=
  l.length = (a.length + 1) * (b.length + 1) ∧
  ∀ p q, p ≤ a.length → q ≤ b.length → (p = a.length ∨ q = b.length ∨ x ≤ p ∨ (p + 1 = x ∧ y ≤ q)) → l[p * (b.length + 1) + q]? = some (lcs (a.drop p) (b.drop q))

theorem u16s_rep (n : Nat) : List.replicate n (AV.int .u16 0) = u16s (List.replicate n 0) := by simp [u16s]

theorem place_lt {p q n m : Nat} (hp : p ≤ n) (hq : q ≤ m) : p * (m + 1) + q < (n + 1) * (m + 1) := by
  have := Nat.mul_le_mul_right (m + 1) hp
  rw [Nat.add_mul]; omega
theorem place_inj {p q p' q' m : Nat} (hq : q ≤ m) (hq' : q' ≤ m) (h : p * (m + 1) + q = p' * (m + 1) + q') : p = p' ∧ q = q' := by
  have h1 : (p * (m + 1) + q) / (m + 1) = p := by rw [Nat.add_comm, Nat.add_mul_div_right _ _ (by omega), Nat.div_eq_of_lt (by omega)]; omega
  have h2 : (p' * (m + 1) + q') / (m + 1) = p' := by rw [Nat.add_comm, Nat.add_mul_div_right _ _ (by omega), Nat.div_eq_of_lt (by omega)]; omega
  rw [h, h2] at h1
  subst h1
  exact ⟨rfl, by omega⟩

theorem Grid.start (a b : List (List UInt8)) : Grid a b a.length b.length (List.replicate ((a.length + 1) * (b.length + 1)) 0) := by
  refine ⟨by simp, fun p q hp hq h => ?_⟩
  rw [List.getElem?_replicate, if_pos (place_lt hp hq)]
  rcases h with h | h | h | h
  · subst h; simp
  · subst h; simp
  · have : p = a.length := by omega
    subst this; simp
  · have : q = b.length := by omega
    subst this; simp

theorem u16_get {L : List Nat} {q v : Nat} (h : L[q]? = some v) : (u16s L).getD q .any = .int .u16 (v : Nat) := by simp [u16s, List.getD, h]
theorem u16_set (L : List Nat) (k v : Nat) : (u16s L).set k (.int .u16 (v : Nat)) = u16s (L.set k v) := by simp [u16s]
theorem u16_len (L : List Nat) : (u16s L).length = L.length := by simp [u16s]

theorem Grid.put {a b : List (List UInt8)} {i j : Nat} {L : List Nat} (g : Grid a b (i + 1) (j + 1) L) (hi : i < a.length) (hj : j < b.length) : Grid a b (i + 1) j (L.set (i * (b.length + 1) + j) (lcs (a.drop i) (b.drop j))) := by
  refine ⟨by simp [g.1], fun p q hp hq h => ?_⟩
  rw [List.getElem?_set]
  split
  · rename_i he
    obtain ⟨rfl, rfl⟩ := place_inj (by omega) hq he
    rw [if_pos (by rw [g.1]; exact place_lt (by omega) (by omega))]
  · rename_i hne
    refine g.2 p q hp hq ?_
    rcases h with h | h | h | h
    · exact .inl h
    · exact .inr (.inl h)
    · exact .inr (.inr (.inl h))
    · by_cases hqj : q = j
      · exfalso
        refine hne ?_
        rw [hqj, show p = i by omega]
      · exact .inr (.inr (.inr ⟨h.1, by omega⟩))

theorem prs_len (l : List (Nat × Nat)) : (prs l).length = l.length := by simp [prs]
theorem prs_dry : ∀ l : List (Nat × Nat), (flat (prs l)).all Av.frozen = true
  | [] => rfl
  | p :: l => by simp only [prs, List.map_cons, flat, cellsOf, List.all_append, Bool.and_eq_true]; exact ⟨by simp [Av.frozen], prs_dry l⟩
theorem prs_add (l : List (Nat × Nat)) (x y : Nat) : prs l ++ [.agg [.int .i64 (x : Nat), .int .i64 (y : Nat)]] = prs (l ++ [(x, y)]) := by simp [prs]
theorem strs_drop (l : List (List UInt8)) (j : Nat) : List.drop j (strs l) = strs (l.drop j) := by simp

theorem kept_ct (a b : List (List UInt8)) (ha : a.length ≤ 3000) (hb : b.length ≤ 3000) :
    Ct Tryd.prog 27 [.fz 1 (strs a), .fz 1 (strs b)] [] (fun r s => r = .sl 0 0 (keptL a b 0 0).length (keptL a b 0 0).length ∧ s = [.arr 2 (prs (keptL a b 0 0))]) := by
  refine ct_intro Tryd.func27 rfl Tryd.ntmps27 hb27 (by simp) fun h ρ w => go (N := 141) Tryd.ntmps27 200 ?_
  have hW : ((b.length : Int) + 1) = ((b.length + 1 : Nat) : Int) := by omega
  have hT : ((a.length : Int) + 1) * ((b.length + 1 : Nat) : Int) = (((a.length + 1) * (b.length + 1) : Nat) : Int) := by rw [Int.natCast_mul]; rfl
  have hTb : (a.length + 1) * (b.length + 1) ≤ 3001 * 3001 := Nat.mul_le_mul (by omega) (by omega)
  simp only [go_sem, Nat.reduceAdd, Nat.reduceMul, Nat.reduceSub, Nat.reduceBEq, Nat.reduceLT, Nat.reduceLeDiff, reduceIte, reduceCtorEq, Int.reduceToNat, Int.reduceLE, Int.reduceLT, Int.reduceNe, Int.reduceMul, Int.reduceAdd, Int.reduceSub, Int.reduceDiv, Int.reduceMod, Int.reduceEq, Int.reduceGE, Int.reduceGT, Int.reduceNeg, Int.reduceBEq, Int.reduceBNe, Nat.reduceEqDiff, strs_len, ts9, ts76, za76, tb76, hW, hT, Tryd.underlying3, Tryd.underlying4, Tryd.underlying9, Tryd.underlying26, Tryd.underlying75, Tryd.underlying76]
  generalize hTT : (a.length + 1) * (b.length + 1) = T at *
  repeat refine And.intro (by omega) ?_
  refine go (N := 141) Tryd.ntmps27 200 ?_
  simp only [go_sem, Nat.reduceAdd, Nat.reduceMul, Nat.reduceSub, Nat.reduceBEq, Nat.reduceLT, Nat.reduceLeDiff, reduceIte, reduceCtorEq, Int.reduceToNat, Int.reduceLE, Int.reduceLT, Int.reduceNe, Int.reduceMul, Int.reduceAdd, Int.reduceSub, Int.reduceDiv, Int.reduceMod, Int.reduceEq, Int.reduceGE, Int.reduceGT, Int.reduceNeg, Int.reduceBEq, Int.reduceBNe, Nat.reduceEqDiff, Tryd.underlying3, Tryd.underlying4, Tryd.underlying9, Tryd.underlying26, Tryd.underlying75, Tryd.underlying76]
  refine aloop (ι := Nat × List Nat) (fun x => x.1)
    (fun x => [(9, .int .i64 ((x.1 : Int) - 1)), (8, .sl 0 0 T T), (7, .int .i64 ((b.length + 1 : Nat) : Int)), (6, .int .i64 b.length), (5, .int .i64 a.length), (0, .fz 1 (strs a)), (1, .fz 1 (strs b)), (4, .raw (.slice none 0 0))])
    (fun x => [.arr 1 (u16s x.2)]) (fun x => x.1 ≤ a.length ∧ Grid a b x.1 b.length x.2) (a.length, List.replicate T 0) ⟨Nat.le_refl _, by rw [← hTT]; exact Grid.start a b⟩ ?_ ?_
  · rw [u16s_rep]
    refine Shift.weak ?_
    simp only [wk, go_sem, Nat.reduceAdd, Nat.reduceMul, Nat.reduceSub, Nat.reduceBEq, Nat.reduceLT, Nat.reduceLeDiff, reduceIte, reduceCtorEq, Int.reduceToNat, Int.reduceLE, Int.reduceLT, Int.reduceNe, Int.reduceMul, Int.reduceAdd, Int.reduceSub, Int.reduceDiv, Int.reduceMod, Int.reduceEq, Int.reduceGE, Int.reduceGT, Int.reduceNeg, Int.reduceBEq, Int.reduceBNe, Nat.reduceEqDiff]
  · rintro ⟨x, L⟩ ⟨g1, g2⟩ J hJ
    simp only at g1 g2 hJ ⊢
    refine go (N := 141) Tryd.ntmps27 200 ?_
    cases x with
    | zero =>
      have hT0 : 0 < T := by rw [← hTT]; exact Nat.mul_pos (by omega) (by omega)
      have hLT : L.length = T := by rw [← hTT]; exact g2.1
      have g00 := g2.2 0 0 (by omega) (by omega) (.inr (.inr (.inl (Nat.le_refl _))))
      simp only [Nat.zero_mul, Nat.zero_add, List.drop_zero] at g00
      have u0 := u16_get g00
      simp only [go_sem, Nat.reduceAdd, Nat.reduceMul, Nat.reduceSub, Nat.reduceBEq, Nat.reduceLT, Nat.reduceLeDiff, reduceIte, reduceCtorEq, Int.reduceToNat, Int.reduceLE, Int.reduceLT, Int.reduceNe, Int.reduceMul, Int.reduceAdd, Int.reduceSub, Int.reduceDiv, Int.reduceMod, Int.reduceEq, Int.reduceGE, Int.reduceGT, Int.reduceNeg, Int.reduceBEq, Int.reduceBNe, Nat.reduceEqDiff, u0, u16_len, ts76, hLT, Tryd.underlying3, Tryd.underlying4, Tryd.underlying9, Tryd.underlying26, Tryd.underlying75, Tryd.underlying76]
      repeat refine And.intro (by omega) ?_
      refine AWp.shift (Shift.nilsl 11 2 rfl) ?_
      refine aloop (ι := Nat × Nat × List (Nat × Nat)) (fun x => a.length - x.1)
        (fun x => [(14, .int .u16 (lcs (a.drop x.1) (b.drop x.2.1) : Nat)), (13, .int .i64 x.2.1), (12, .int .i64 x.1), (11, .sl 1 0 x.2.2.length x.2.2.length), (8, .sl 0 0 T T), (7, .int .i64 ((b.length + 1 : Nat) : Int)), (0, .fz 1 (strs a)), (1, .fz 1 (strs b))])
        (fun x => [.arr 1 (u16s L), .arr 2 (prs x.2.2)]) (fun x => x.1 ≤ a.length ∧ x.2.1 ≤ b.length ∧ x.2.2.length ≤ x.1 ∧ x.2.2 ++ keptL (a.drop x.1) (b.drop x.2.1) x.1 x.2.1 = keptL a b 0 0) (0, 0, []) ⟨by simp, by simp, by simp, by simp⟩ ?_ ?_
      · refine Shift.weak ?_
        simp [wk, go_sem, Nat.reduceAdd, Nat.reduceMul, Nat.reduceSub, Nat.reduceBEq, Nat.reduceLT, Nat.reduceLeDiff, reduceIte, reduceCtorEq, Int.reduceToNat, Int.reduceLE, Int.reduceLT, Int.reduceNe, Int.reduceMul, Int.reduceAdd, Int.reduceSub, Int.reduceDiv, Int.reduceMod, Int.reduceEq, Int.reduceGE, Int.reduceGT, Int.reduceNeg, Int.reduceBEq, Int.reduceBNe, Nat.reduceEqDiff, prs]
      · rintro ⟨i, j, ps⟩ ⟨k1, k2, k3, k4⟩ J2 hJ2
        simp only at k1 k2 k3 k4 hJ2 ⊢
        refine go (N := 141) Tryd.ntmps27 200 ?_
        by_cases h0 : lcs (a.drop i) (b.drop j) = 0
        · have hd : decide ((lcs (a.drop i) (b.drop j) : Int) > 0) = false := by simp [h0]
          rw [keptL_zero h0, List.append_nil] at k4
          simp only [go_sem, Nat.reduceAdd, Nat.reduceMul, Nat.reduceSub, Nat.reduceBEq, Nat.reduceLT, Nat.reduceLeDiff, reduceIte, reduceCtorEq, Int.reduceToNat, Int.reduceLE, Int.reduceLT, Int.reduceNe, Int.reduceMul, Int.reduceAdd, Int.reduceSub, Int.reduceDiv, Int.reduceMod, Int.reduceEq, Int.reduceGE, Int.reduceGT, Int.reduceNeg, Int.reduceBEq, Int.reduceBNe, Nat.reduceEqDiff, hd, Tryd.underlying3, Tryd.underlying4, Tryd.underlying9, Tryd.underlying26, Tryd.underlying52, Tryd.underlying54, Tryd.underlying75, Tryd.underlying76]
          subst k4
          refine ARet.shift (Shift.only 0 1 (e' := [(4, .sl 0 0 (keptL a b 0 0).length (keptL a b 0 0).length)]) (Nat.le_refl _) (by omega) rfl (by simp) (prs_dry _) rfl ?_) (aret [4] rfl ⟨rfl, rfl⟩)
          simp [wkg, okg, go_sem, Nat.reduceAdd, Nat.reduceMul, Nat.reduceSub, Nat.reduceBEq, Nat.reduceLT, Nat.reduceLeDiff, reduceIte, reduceCtorEq, Int.reduceToNat, Int.reduceLE, Int.reduceLT, Int.reduceNe, Int.reduceMul, Int.reduceAdd, Int.reduceSub, Int.reduceDiv, Int.reduceMod, Int.reduceEq, Int.reduceGE, Int.reduceGT, Int.reduceNeg, Int.reduceBEq, Int.reduceBNe, Nat.reduceEqDiff]
        · have hd : decide ((lcs (a.drop i) (b.drop j) : Int) > 0) = true := by simp; omega
          simp only [go_sem, Nat.reduceAdd, Nat.reduceMul, Nat.reduceSub, Nat.reduceBEq, Nat.reduceLT, Nat.reduceLeDiff, reduceIte, reduceCtorEq, Int.reduceToNat, Int.reduceLE, Int.reduceLT, Int.reduceNe, Int.reduceMul, Int.reduceAdd, Int.reduceSub, Int.reduceDiv, Int.reduceMod, Int.reduceEq, Int.reduceGE, Int.reduceGT, Int.reduceNeg, Int.reduceBEq, Int.reduceBNe, Nat.reduceEqDiff, hd, Tryd.underlying3, Tryd.underlying4, Tryd.underlying9, Tryd.underlying26, Tryd.underlying52, Tryd.underlying54, Tryd.underlying75, Tryd.underlying76]
          have hia : i < a.length := by
            rcases Nat.lt_or_ge i a.length with h | h
            · exact h
            · rw [List.drop_eq_nil_of_le h] at h0; simp at h0
          refine adraw [.int .i64 (idxI a[i] (b.drop j))] mixed (by decide) (N := 141) Tryd.ntmps27 (by decide) 100 ?_
          simp only [go_sem, Nat.reduceAdd, Nat.reduceMul, Nat.reduceSub, Nat.reduceBEq, Nat.reduceLT, Nat.reduceLeDiff, reduceIte, reduceCtorEq, Int.reduceToNat, Int.reduceLE, Int.reduceLT, Int.reduceNe, Int.reduceMul, Int.reduceAdd, Int.reduceSub, Int.reduceDiv, Int.reduceMod, Int.reduceEq, Int.reduceGE, Int.reduceGT, Int.reduceNeg, Int.reduceBEq, Int.reduceBNe, Nat.reduceEqDiff, strs_get hia, strs_drop, strs_len, ts9, Tryd.underlying3, Tryd.underlying4, Tryd.underlying9, Tryd.underlying26, Tryd.underlying52, Tryd.underlying54, Tryd.underlying75, Tryd.underlying76]
          refine ⟨by omega, by omega, by omega, by omega, by omega, hia, index_pc _ _ (by simp; omega), rfl, rfl, ?_⟩
          refine goF (N := 141) Tryd.ntmps27 200 ?_
          have ei := drop_cons hia
          cases hx : idx a[i] (b.drop j) with
          | none =>
            have hl : idxI a[i] (b.drop j) = -1 := by simp [idxI, hx]
            have k5 : lcs (a.drop i) (b.drop j) = lcs (a.drop (i + 1)) (b.drop j) := by rw [ei]; exact lcs_none hx
            have k6 : keptL (a.drop i) (b.drop j) i j = keptL (a.drop (i + 1)) (b.drop j) (i + 1) j := by rw [ei, keptL, hx]
            have hm : decide ((-1 : Int) < 0) = true := rfl
            simp only [go_sem, Nat.reduceAdd, Nat.reduceMul, Nat.reduceSub, Nat.reduceBEq, Nat.reduceLT, Nat.reduceLeDiff, reduceIte, reduceCtorEq, Int.reduceToNat, Int.reduceLE, Int.reduceLT, Int.reduceNe, Int.reduceMul, Int.reduceAdd, Int.reduceSub, Int.reduceDiv, Int.reduceMod, Int.reduceEq, Int.reduceGE, Int.reduceGT, Int.reduceNeg, Int.reduceBEq, Int.reduceBNe, Nat.reduceEqDiff, hl, hm, Tryd.underlying3, Tryd.underlying4, Tryd.underlying9, Tryd.underlying26, Tryd.underlying52, Tryd.underlying54, Tryd.underlying75, Tryd.underlying76]
            rw [k5, show (i : Int) + 1 = ((i + 1 : Nat) : Int) by omega]
            refine ⟨by omega, by omega, ?_⟩
            refine ainv (hJ2 (i + 1, j, ps) ⟨by simp only; omega, k2, by simp only; omega, by rw [← k4, k6]⟩ (by simp only; omega)) (Shift.weak ?_)
            simp only [wk, go_sem, Nat.reduceAdd, Nat.reduceMul, Nat.reduceSub, Nat.reduceBEq, Nat.reduceLT, Nat.reduceLeDiff, reduceIte, reduceCtorEq, Int.reduceToNat, Int.reduceLE, Int.reduceLT, Int.reduceNe, Int.reduceMul, Int.reduceAdd, Int.reduceSub, Int.reduceDiv, Int.reduceMod, Int.reduceEq, Int.reduceGE, Int.reduceGT, Int.reduceNeg, Int.reduceBEq, Int.reduceBNe, Nat.reduceEqDiff]
          | some k =>
            have hl : idxI a[i] (b.drop j) = k := by simp [idxI, hx]
            have hk := idx_lt hx
            simp only [List.length_drop] at hk
            have hm : decide ((k : Int) < 0) = false := by simp
            have hbd : (b.drop j).drop (k + 1) = b.drop (j + k + 1) := by rw [List.drop_drop]; congr 1
            have gq := g2.2 (i + 1) (j + k + 1) (by omega) (by omega) (.inr (.inr (.inl (by omega))))
            have pl : (i + 1) * (b.length + 1) + (j + k + 1) < T := by rw [← hTT]; exact place_lt (by omega) (by omega)
            have hB : ((i : Int) + 1) * ((b.length + 1 : Nat) : Int) = (((i + 1) * (b.length + 1) : Nat) : Int) := by rw [Int.natCast_mul]; rfl
            have l1 := lcs_le_left (a.drop i) (b.drop j)
            have l2 := lcs_le_left (a.drop (i + 1)) (b.drop (j + k + 1))
            simp only [List.length_drop] at l1 l2
            have ks := lcs_some (a := a.drop (i + 1)) hx
            rw [← ei, hbd] at ks
            have kk : keptL (a.drop i) (b.drop j) i j = if lcs (a.drop (i + 1)) (b.drop (j + k + 1)) + 1 = lcs (a.drop i) (b.drop j) then (i, j + k) :: keptL (a.drop (i + 1)) (b.drop (j + k + 1)) (i + 1) (j + k + 1) else keptL (a.drop (i + 1)) (b.drop j) (i + 1) j := by
              rw [ei, keptL, hx]
              simp only [hbd]
            generalize (i + 1) * (b.length + 1) = B at *
            have q0 : (B : Int) + j = ((B + j : Nat) : Int) := by omega
            have q1 : ((B + j : Nat) : Int) + k = ((B + j + k : Nat) : Int) := by omega
            have q2 : ((B + j + k : Nat) : Int) + 1 = ((B + (j + k + 1) : Nat) : Int) := by omega
            have u1 := u16_get gq
            by_cases he : lcs (a.drop (i + 1)) (b.drop (j + k + 1)) + 1 = lcs (a.drop i) (b.drop j)
            · have hne : ((lcs (a.drop (i + 1)) (b.drop (j + k + 1)) : Int) != (lcs (a.drop i) (b.drop j) : Int) - 1) = false := by simp; omega
              rw [if_pos he] at kk
              simp only [go_sem, Nat.reduceAdd, Nat.reduceMul, Nat.reduceSub, Nat.reduceBEq, Nat.reduceLT, Nat.reduceLeDiff, reduceIte, reduceCtorEq, Int.reduceToNat, Int.reduceLE, Int.reduceLT, Int.reduceNe, Int.reduceMul, Int.reduceAdd, Int.reduceSub, Int.reduceDiv, Int.reduceMod, Int.reduceEq, Int.reduceGE, Int.reduceGT, Int.reduceNeg, Int.reduceBEq, Int.reduceBNe, Nat.reduceEqDiff, hl, hm, hne, ts3, ts76, ts54, za54, tb54, u16_len, prs_len, prs_add, hB, q0, q1, q2, u1, hLT, Tryd.underlying3, Tryd.underlying4, Tryd.underlying9, Tryd.underlying26, Tryd.underlying52, Tryd.underlying54, Tryd.underlying75, Tryd.underlying76]
              rw [show (i : Int) + 1 = ((i + 1 : Nat) : Int) by omega, show (j : Int) + ((k : Int) + 1) = ((j + k + 1 : Nat) : Int) by omega, show (j : Int) + (k : Int) = ((j + k : Nat) : Int) by omega,
                show (lcs (a.drop i) (b.drop j) : Int) - 1 = (lcs (a.drop (i + 1)) (b.drop (j + k + 1)) : Nat) by omega, prs_add, show ps.length + 1 = (ps ++ [(i, j + k)]).length by simp]
              have hps : (ps ++ [(i, j + k)]).length = ps.length + 1 := by simp
              repeat refine And.intro (by first | omega | exact .inl trivial) ?_
              refine ainv (hJ2 (i + 1, j + k + 1, ps ++ [(i, j + k)]) ⟨by simp only; omega, by simp only; omega, by simp only; omega, by simp only; rw [← k4, kk]; simp⟩ (by simp only; omega)) (Shift.weak ?_)
              simp only [wk, go_sem, Nat.reduceAdd, Nat.reduceMul, Nat.reduceSub, Nat.reduceBEq, Nat.reduceLT, Nat.reduceLeDiff, reduceIte, reduceCtorEq, Int.reduceToNat, Int.reduceLE, Int.reduceLT, Int.reduceNe, Int.reduceMul, Int.reduceAdd, Int.reduceSub, Int.reduceDiv, Int.reduceMod, Int.reduceEq, Int.reduceGE, Int.reduceGT, Int.reduceNeg, Int.reduceBEq, Int.reduceBNe, Nat.reduceEqDiff]
            · have hne : ((lcs (a.drop (i + 1)) (b.drop (j + k + 1)) : Int) != (lcs (a.drop i) (b.drop j) : Int) - 1) = true := by simp; omega
              rw [if_neg he] at kk
              have k5 : lcs (a.drop i) (b.drop j) = lcs (a.drop (i + 1)) (b.drop j) := by omega
              simp only [go_sem, Nat.reduceAdd, Nat.reduceMul, Nat.reduceSub, Nat.reduceBEq, Nat.reduceLT, Nat.reduceLeDiff, reduceIte, reduceCtorEq, Int.reduceToNat, Int.reduceLE, Int.reduceLT, Int.reduceNe, Int.reduceMul, Int.reduceAdd, Int.reduceSub, Int.reduceDiv, Int.reduceMod, Int.reduceEq, Int.reduceGE, Int.reduceGT, Int.reduceNeg, Int.reduceBEq, Int.reduceBNe, Nat.reduceEqDiff, hl, hm, hne, ts76, u16_len, hB, q0, q1, q2, u1, hLT, Tryd.underlying3, Tryd.underlying4, Tryd.underlying9, Tryd.underlying26, Tryd.underlying52, Tryd.underlying54, Tryd.underlying75, Tryd.underlying76]
              rw [k5, show (i : Int) + 1 = ((i + 1 : Nat) : Int) by omega]
              repeat refine And.intro (by omega) ?_
              refine ainv (hJ2 (i + 1, j, ps) ⟨by simp only; omega, k2, by simp only; omega, by rw [← k4, kk]⟩ (by simp only; omega)) (Shift.weak ?_)
              simp only [wk, go_sem, Nat.reduceAdd, Nat.reduceMul, Nat.reduceSub, Nat.reduceBEq, Nat.reduceLT, Nat.reduceLeDiff, reduceIte, reduceCtorEq, Int.reduceToNat, Int.reduceLE, Int.reduceLT, Int.reduceNe, Int.reduceMul, Int.reduceAdd, Int.reduceSub, Int.reduceDiv, Int.reduceMod, Int.reduceEq, Int.reduceGE, Int.reduceGT, Int.reduceNeg, Int.reduceBEq, Int.reduceBNe, Nat.reduceEqDiff]
    | succ i =>
      have ei : ((i + 1 : Nat) : Int) - 1 = i := by omega
      have hi0 : decide ((i : Int) ≥ 0) = true := by simp
      simp only [go_sem, Nat.reduceAdd, Nat.reduceMul, Nat.reduceSub, Nat.reduceBEq, Nat.reduceLT, Nat.reduceLeDiff, reduceIte, reduceCtorEq, Int.reduceToNat, Int.reduceLE, Int.reduceLT, Int.reduceNe, Int.reduceMul, Int.reduceAdd, Int.reduceSub, Int.reduceDiv, Int.reduceMod, Int.reduceEq, Int.reduceGE, Int.reduceGT, Int.reduceNeg, Int.reduceBEq, Int.reduceBNe, Nat.reduceEqDiff, ei, hi0, Tryd.underlying3, Tryd.underlying4, Tryd.underlying9, Tryd.underlying26, Tryd.underlying75, Tryd.underlying76]
      refine ⟨by omega, by omega, ?_⟩
      refine go (N := 141) Tryd.ntmps27 200 ?_
      simp only [go_sem, Nat.reduceAdd, Nat.reduceMul, Nat.reduceSub, Nat.reduceBEq, Nat.reduceLT, Nat.reduceLeDiff, reduceIte, reduceCtorEq, Int.reduceToNat, Int.reduceLE, Int.reduceLT, Int.reduceNe, Int.reduceMul, Int.reduceAdd, Int.reduceSub, Int.reduceDiv, Int.reduceMod, Int.reduceEq, Int.reduceGE, Int.reduceGT, Int.reduceNeg, Int.reduceBEq, Int.reduceBNe, Nat.reduceEqDiff, Tryd.underlying3, Tryd.underlying4, Tryd.underlying9, Tryd.underlying26, Tryd.underlying75, Tryd.underlying76]
      refine aloop (ι := Nat × List Nat) (fun y => y.1)
        (fun y => [(10, .int .i64 ((y.1 : Int) - 1)), (9, .int .i64 i), (8, .sl 0 0 T T), (7, .int .i64 ((b.length + 1 : Nat) : Int)), (6, .int .i64 b.length), (5, .int .i64 a.length), (0, .fz 1 (strs a)), (1, .fz 1 (strs b)), (4, .raw (.slice none 0 0))])
        (fun y => [.arr 1 (u16s y.2)]) (fun y => y.1 ≤ b.length ∧ Grid a b (i + 1) y.1 y.2) (b.length, L) ⟨Nat.le_refl _, g2⟩ ?_ ?_
      · refine Shift.weak ?_
        simp only [wk, go_sem, Nat.reduceAdd, Nat.reduceMul, Nat.reduceSub, Nat.reduceBEq, Nat.reduceLT, Nat.reduceLeDiff, reduceIte, reduceCtorEq, Int.reduceToNat, Int.reduceLE, Int.reduceLT, Int.reduceNe, Int.reduceMul, Int.reduceAdd, Int.reduceSub, Int.reduceDiv, Int.reduceMod, Int.reduceEq, Int.reduceGE, Int.reduceGT, Int.reduceNeg, Int.reduceBEq, Int.reduceBNe, Nat.reduceEqDiff]
      · rintro ⟨y, M⟩ ⟨k1, k2⟩ J2 hJ2
        simp only at k1 k2 hJ2 ⊢
        refine go (N := 141) Tryd.ntmps27 200 ?_
        cases y with
        | zero =>
          simp only [go_sem, Nat.reduceAdd, Nat.reduceMul, Nat.reduceSub, Nat.reduceBEq, Nat.reduceLT, Nat.reduceLeDiff, reduceIte, reduceCtorEq, Int.reduceToNat, Int.reduceLE, Int.reduceLT, Int.reduceNe, Int.reduceMul, Int.reduceAdd, Int.reduceSub, Int.reduceDiv, Int.reduceMod, Int.reduceEq, Int.reduceGE, Int.reduceGT, Int.reduceNeg, Int.reduceBEq, Int.reduceBNe, Nat.reduceEqDiff, Tryd.underlying3, Tryd.underlying4, Tryd.underlying9, Tryd.underlying26, Tryd.underlying75, Tryd.underlying76]
          refine ⟨by omega, by omega, ?_⟩
          refine ainv (hJ (i, M) ⟨by omega, k2.1, fun p q hp hq h => k2.2 p q hp hq ?_⟩ (by simp only; omega)) (Shift.weak ?_)
          · simp only at h ⊢
            omega
          · simp only [wk, go_sem, Nat.reduceAdd, Nat.reduceMul, Nat.reduceSub, Nat.reduceBEq, Nat.reduceLT, Nat.reduceLeDiff, reduceIte, reduceCtorEq, Int.reduceToNat, Int.reduceLE, Int.reduceLT, Int.reduceNe, Int.reduceMul, Int.reduceAdd, Int.reduceSub, Int.reduceDiv, Int.reduceMod, Int.reduceEq, Int.reduceGE, Int.reduceGT, Int.reduceNeg, Int.reduceBEq, Int.reduceBNe, Nat.reduceEqDiff]
        | succ j =>
          have ej : ((j + 1 : Nat) : Int) - 1 = j := by omega
          have hj0 : decide ((j : Int) ≥ 0) = true := by simp
          have hia : i < a.length := by omega
          have hjb : j < b.length := by omega
          simp only [go_sem, Nat.reduceAdd, Nat.reduceMul, Nat.reduceSub, Nat.reduceBEq, Nat.reduceLT, Nat.reduceLeDiff, reduceIte, reduceCtorEq, Int.reduceToNat, Int.reduceLE, Int.reduceLT, Int.reduceNe, Int.reduceMul, Int.reduceAdd, Int.reduceSub, Int.reduceDiv, Int.reduceMod, Int.reduceEq, Int.reduceGE, Int.reduceGT, Int.reduceNeg, Int.reduceBEq, Int.reduceBNe, Nat.reduceEqDiff, ej, hj0, Tryd.underlying3, Tryd.underlying4, Tryd.underlying9, Tryd.underlying26, Tryd.underlying75, Tryd.underlying76]
          refine adraw [] mixed (by decide) (N := 141) Tryd.ntmps27 (by decide) 100 ?_
          simp only [go_sem, Nat.reduceAdd, Nat.reduceMul, Nat.reduceSub, Nat.reduceBEq, Nat.reduceLT, Nat.reduceLeDiff, reduceIte, reduceCtorEq, Int.reduceToNat, Int.reduceLE, Int.reduceLT, Int.reduceNe, Int.reduceMul, Int.reduceAdd, Int.reduceSub, Int.reduceDiv, Int.reduceMod, Int.reduceEq, Int.reduceGE, Int.reduceGT, Int.reduceNeg, Int.reduceBEq, Int.reduceBNe, Nat.reduceEqDiff, strs_len, strs_get hia, strs_get hjb, ts9, Tryd.underlying3, Tryd.underlying4, Tryd.underlying9, Tryd.underlying26, Tryd.underlying75, Tryd.underlying76]
          refine ⟨by omega, by omega, hia, by omega, by omega, hjb, ?_⟩
          have gd := k2.2 (i + 1) (j + 1) (by omega) (by omega) (.inr (.inr (.inl (Nat.le_refl _))))
          have gr := k2.2 (i + 1) j (by omega) (by omega) (.inr (.inr (.inl (Nat.le_refl _))))
          have gc := k2.2 i (j + 1) (by omega) (by omega) (.inr (.inr (.inr ⟨rfl, Nat.le_refl _⟩)))
          have kn := k2.put hia hjb
          have hM : M.length = T := by rw [← hTT]; exact k2.1
          have pl1 : i * (b.length + 1) + j < T := by rw [← hTT]; exact place_lt (by omega) (by omega)
          have pl2 : (i + 1) * (b.length + 1) + (j + 1) < T := by rw [← hTT]; exact place_lt (by omega) (by omega)
          have pl3 : i * (b.length + 1) + (j + 1) < T := by rw [← hTT]; exact place_lt (by omega) (by omega)
          have hA : (i : Int) * ((b.length + 1 : Nat) : Int) = ((i * (b.length + 1) : Nat) : Int) := by rw [Int.natCast_mul]
          have hB : ((i : Int) + 1) * ((b.length + 1 : Nat) : Int) = (((i + 1) * (b.length + 1) : Nat) : Int) := by rw [Int.natCast_mul]; rfl
          have d0 := drop_cons hia
          have d1 := drop_cons hjb
          have l1 := lcs_le_left (a.drop (i + 1)) (b.drop (j + 1))
          have l2 := lcs_le_left (a.drop (i + 1)) (b.drop j)
          have l3 := lcs_le_left (a.drop i) (b.drop (j + 1))
          simp only [List.length_drop] at l1 l2 l3
          generalize (i + 1) * (b.length + 1) = B at *
          generalize i * (b.length + 1) = A at *
          have q0 : (A : Int) + j = ((A + j : Nat) : Int) := by omega
          have q1 : ((A + j : Nat) : Int) + 1 = ((A + (j + 1) : Nat) : Int) := by omega
          have q2 : (B : Int) + j = ((B + j : Nat) : Int) := by omega
          have q3 : ((B + j : Nat) : Int) + 1 = ((B + (j + 1) : Nat) : Int) := by omega
          have u1 := u16_get gd
          have u2 := u16_get gr
          have u3 := u16_get gc
          have u4 := u16_get (show M[A + j]? = some M[A + j] from List.getElem?_eq_getElem (by omega))
          refine go (N := 141) Tryd.ntmps27 200 ?_
          by_cases he : a[i] = b[j]
          · have hne : (a[i] == b[j]) = true := by simpa using he
            have hv : lcs (a.drop i) (b.drop j) = lcs (a.drop (i + 1)) (b.drop (j + 1)) + 1 := by rw [d0, d1, lcs, if_pos he]
            rw [hv] at kn
            simp only [go_sem, Nat.reduceAdd, Nat.reduceMul, Nat.reduceSub, Nat.reduceBEq, Nat.reduceLT, Nat.reduceLeDiff, reduceIte, reduceCtorEq, Int.reduceToNat, Int.reduceLE, Int.reduceLT, Int.reduceNe, Int.reduceMul, Int.reduceAdd, Int.reduceSub, Int.reduceDiv, Int.reduceMod, Int.reduceEq, Int.reduceGE, Int.reduceGT, Int.reduceNeg, Int.reduceBEq, Int.reduceBNe, Nat.reduceEqDiff, hne, ts76, u16_len, hA, hB, q0, q1, q2, q3, u1, u2, u3, u4, hM, Tryd.underlying3, Tryd.underlying4, Tryd.underlying9, Tryd.underlying26, Tryd.underlying75, Tryd.underlying76]
            rw [show (lcs (a.drop (i + 1)) (b.drop (j + 1)) : Int) + 1 = ((lcs (a.drop (i + 1)) (b.drop (j + 1)) + 1 : Nat) : Int) by omega, u16_set]
            repeat refine And.intro (by omega) ?_
            refine ainv (hJ2 (j, M.set (A + j) (lcs (a.drop (i + 1)) (b.drop (j + 1)) + 1)) ⟨by simp only; omega, kn⟩ (by simp only; omega)) (Shift.weak ?_)
            simp only [wk, go_sem, Nat.reduceAdd, Nat.reduceMul, Nat.reduceSub, Nat.reduceBEq, Nat.reduceLT, Nat.reduceLeDiff, reduceIte, reduceCtorEq, Int.reduceToNat, Int.reduceLE, Int.reduceLT, Int.reduceNe, Int.reduceMul, Int.reduceAdd, Int.reduceSub, Int.reduceDiv, Int.reduceMod, Int.reduceEq, Int.reduceGE, Int.reduceGT, Int.reduceNeg, Int.reduceBEq, Int.reduceBNe, Nat.reduceEqDiff]
          · have hne : (a[i] == b[j]) = false := by simpa using he
            have hv : lcs (a.drop i) (b.drop j) = max (lcs (a.drop (i + 1)) (b.drop j)) (lcs (a.drop i) (b.drop (j + 1))) := by rw [d0, d1, lcs, if_neg he]
            rw [hv] at kn
            simp only [go_sem, Nat.reduceAdd, Nat.reduceMul, Nat.reduceSub, Nat.reduceBEq, Nat.reduceLT, Nat.reduceLeDiff, reduceIte, reduceCtorEq, Int.reduceToNat, Int.reduceLE, Int.reduceLT, Int.reduceNe, Int.reduceMul, Int.reduceAdd, Int.reduceSub, Int.reduceDiv, Int.reduceMod, Int.reduceEq, Int.reduceGE, Int.reduceGT, Int.reduceNeg, Int.reduceBEq, Int.reduceBNe, Nat.reduceEqDiff, hne, Tryd.underlying3, Tryd.underlying4, Tryd.underlying9, Tryd.underlying26, Tryd.underlying75, Tryd.underlying76]
            refine adraw [] mixed (by decide) (N := 141) Tryd.ntmps27 (by decide) 100 ?_
            simp only [go_sem, Nat.reduceAdd, Nat.reduceMul, Nat.reduceSub, Nat.reduceBEq, Nat.reduceLT, Nat.reduceLeDiff, reduceIte, reduceCtorEq, Int.reduceToNat, Int.reduceLE, Int.reduceLT, Int.reduceNe, Int.reduceMul, Int.reduceAdd, Int.reduceSub, Int.reduceDiv, Int.reduceMod, Int.reduceEq, Int.reduceGE, Int.reduceGT, Int.reduceNeg, Int.reduceBEq, Int.reduceBNe, Nat.reduceEqDiff, hne, ts76, u16_len, hA, hB, q0, q1, q2, q3, u1, u2, u3, u4, hM, Tryd.underlying3, Tryd.underlying4, Tryd.underlying9, Tryd.underlying26, Tryd.underlying75, Tryd.underlying76]
            have hmx : (if (lcs (a.drop (i + 1)) (b.drop j) : Int) < lcs (a.drop i) (b.drop (j + 1)) then (lcs (a.drop i) (b.drop (j + 1)) : Int) else lcs (a.drop (i + 1)) (b.drop j)) = ((max (lcs (a.drop (i + 1)) (b.drop j)) (lcs (a.drop i) (b.drop (j + 1))) : Nat) : Int) := by
              split <;> omega
            rw [hmx, u16_set]
            repeat refine And.intro (by omega) ?_
            refine go (N := 141) Tryd.ntmps27 200 ?_
            simp only [go_sem, Nat.reduceAdd, Nat.reduceMul, Nat.reduceSub, Nat.reduceBEq, Nat.reduceLT, Nat.reduceLeDiff, reduceIte, reduceCtorEq, Int.reduceToNat, Int.reduceLE, Int.reduceLT, Int.reduceNe, Int.reduceMul, Int.reduceAdd, Int.reduceSub, Int.reduceDiv, Int.reduceMod, Int.reduceEq, Int.reduceGE, Int.reduceGT, Int.reduceNeg, Int.reduceBEq, Int.reduceBNe, Nat.reduceEqDiff, Tryd.underlying3, Tryd.underlying4, Tryd.underlying9, Tryd.underlying26, Tryd.underlying75, Tryd.underlying76]
            refine ⟨by omega, by omega, ?_⟩
            refine ainv (hJ2 (j, M.set (A + j) (max (lcs (a.drop (i + 1)) (b.drop j)) (lcs (a.drop i) (b.drop (j + 1))))) ⟨by simp only; omega, kn⟩ (by simp only; omega)) (Shift.weak ?_)
            simp only [wk, go_sem, Nat.reduceAdd, Nat.reduceMul, Nat.reduceSub, Nat.reduceBEq, Nat.reduceLT, Nat.reduceLeDiff, reduceIte, reduceCtorEq, Int.reduceToNat, Int.reduceLE, Int.reduceLT, Int.reduceNe, Int.reduceMul, Int.reduceAdd, Int.reduceSub, Int.reduceDiv, Int.reduceMod, Int.reduceEq, Int.reduceGE, Int.reduceGT, Int.reduceNeg, Int.reduceBEq, Int.reduceBNe, Nat.reduceEqDiff]
end Go.Proofs.YtpjbbpilgfihbaaDoor
