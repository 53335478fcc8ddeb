/- script.Check of right scripts. Own work of this seat. -/
import Derived.Test.YtikbgjhajgjjdaaGreatDoorP34
import Derived.Test.YtikbgjhajgjjdaaGreatDoorP30
import Derived.Test.YtikbgjhajgjjdaaGreatDoorP14
import Derived.Test.YtikbgjhajgjjdaaGreatDoorP15
set_option maxRecDepth 100000
set_option linter.unusedSimpArgs false
set_option linter.unusedVariables false
namespace Go.Proofs.YtikbgjhajgjjdaaGreatDoor
open Go Go.Av Go.RowKit
attribute [local go_sem ↓] br_true br_false dbr_true dbr_false dbri_true dbri_false dbrg_true dbrg_false
attribute [local go_sem] run cont br dbr dx dxc dgrd dyld dres dcall calm fieldPlace? allHas step1 opN grdN resN condN exitN stopN exitIt dOk xop xbin xint xarith xstr xbool xpick xnot xneg xextract xpart xpartOk xindex xfieldF fieldD xnew xbox xalloc xfieldAddr xptrAddIf xindexAddr xloadC xload putCells reElem xstoreB xstore xconv xtext xlen xlen2 xcall xfill xbuild cut rep xbuildSlice xbuildSliceD isRow elemD isU8 ev evs evp Go.Av.put Go.Av.get ofConst yldD yldV notBool_undef args0 cellsOf cond_true cond_false decide_true decide_false decide_eq_true_eq decide_eq_false_iff_not List.getElem?_cons_zero List.getElem?_cons_succ List.getElem?_nil List.getD_cons_zero List.getD_cons_succ List.getD_nil List.set_cons_zero List.set_cons_succ List.length_cons List.length_nil List.cons_append List.nil_append List.append_nil List.all_cons List.all_nil List.map_cons List.map_nil List.take_succ_cons List.take_zero List.drop_succ_cons List.drop_zero Bool.and_true Bool.true_and Bool.and_self Bool.and_false Bool.false_and one Go.Av.frozen beq_self_eq_true true_and and_true forall_const false_implies implies_true and_self Option.map_some Option.map_none Nat.zero_add Nat.add_zero Nat.zero_mul Nat.mul_one Nat.one_mul Int.toNat_zero ne_eq not_false_eq_true not_true_eq_false Bool.true_eq_false Bool.false_eq_true List.toList_toArray inr Go.Av.byteOf isByte decide_eq_decide Bool.not_true Bool.not_false Bool.not_eq_true' Bool.or_true Bool.true_or Bool.or_false Bool.false_or ge_iff_le gt_iff_lt and_assoc Bool.decide_eq_true beq_iff_eq beq_eq_false_iff_ne bne_iff_ne bne_self_eq_false if_true if_false Bool.and_eq_true Bool.or_eq_true Bool.and_eq_false_imp Bool.or_eq_false_iff Bool.not_eq_false' has Option.isSome_some Option.isSome_none Int.toNat_natCast Int.cast_ofNat_Int List.length_append xapp2 xapp xappS xappD xappB notInt srcOf srcB byteAV splice' xcut xcutS xcutF xcutB xcutN xcut0 cutL loOf hiOf evo xmake zelem xmax xcopy2 xcopyS xcopyB xnil xcut3 ixOf xclear2 xclearB List.getElem?_toArray xbin2 xnileq xempty xmkmap xmput xmputB xmputF isKey keyEq mfind xbin3 xeqs xeqop eqFs bothB leafEq xlook xlookB xlookF xbytes beq_c_n beq_n_c bne_c_n bne_n_c one_nil dxi dxic dbri rix dck reader blind opOk refOk Go.Op.operands Go.Call.operands List.contains_cons List.contains_nil dxg dxgc dbrg pck putD List.lookup_cons List.lookup_nil ts2 tb2 zl2 za2 Tryz.underlying2 ts3 tb3 zl3 za3 Tryz.underlying3 ts4 tb4 zl4 za4 Tryz.underlying4 ts5 tb5 zl5 za5 Tryz.underlying5 ts6 tb6 zl6 za6 Tryz.underlying6 ts7 tb7 za7 Tryz.underlying7 ts8 tb8 za8 Tryz.underlying8 ts9 tb9 zl9 za9 Tryz.underlying9 ts10 tb10 zl10 za10 Tryz.underlying10 ts11 tb11 zl11 za11 Tryz.underlying11 ts12 tb12 zl12 za12 Tryz.underlying12 ts13 tb13 za13 Tryz.underlying13 ts14 tb14 za14 Tryz.underlying14 ts18 tb18 za18 Tryz.underlying18 ts19 tb19 za19 Tryz.underlying19 ts21 tb21 zl21 za21 Tryz.underlying21 ts22 tb22 zl22 za22 Tryz.underlying22 ts24 tb24 za24 Tryz.underlying24 ts25 tb25 za25 Tryz.underlying25 ts26 tb26 zl26 za26 Tryz.underlying26 ts27 tb27 za27 Tryz.underlying27 ts28 tb28 za28 Tryz.underlying28 ts30 tb30 zl30 za30 Tryz.underlying30 ts31 tb31 zl31 za31 Tryz.underlying31 ts34 tb34 zl34 za34 Tryz.underlying34 ts35 tb35 zl35 za35 Tryz.underlying35 ts36 tb36 za36 Tryz.underlying36 ts37 tb37 za37 Tryz.underlying37 ts46 tb46 za46 Tryz.underlying46 ts47 tb47 za47 Tryz.underlying47 ts61 tb61 zl61 za61 Tryz.underlying61 ts62 tb62 za62 Tryz.underlying62 ts63 tb63 za63 Tryz.underlying63 ts66 tb66 zl66 za66 Tryz.underlying66 ts68 tb68 zl68 za68 Tryz.underlying68 ts74 tb74 za74 Tryz.underlying74 ts75 tb75 za75 Tryz.underlying75 ts77 tb77 zl77 za77 Tryz.underlying77 ts81 tb81 zl81 za81 Tryz.underlying81 ts82 tb82 za82 Tryz.underlying82 ts83 tb83 za83 Tryz.underlying83 ts86 tb86 zl86 za86 Tryz.underlying86 ts102 tb102 za102 Tryz.underlying102 ts103 tb103 za103 Tryz.underlying103 ts106 tb106 za106 Tryz.underlying106 ts107 tb107 za107 Tryz.underlying107 ts114 tb114 zl114 za114 Tryz.underlying114 ts117 tb117 zl117 za117 Tryz.underlying117 ts120 tb120 zl120 za120 Tryz.underlying120 ts133 tb133 zl133 za133 Tryz.underlying133 ts144 tb144 zl144 za144 Tryz.underlying144 ts151 tb151 zl151 za151 Tryz.underlying151 ts156 tb156 zl156 za156 Tryz.underlying156 ts160 tb160 Tryz.underlying160 ts169 tb169 za169 Tryz.underlying169 ts170 tb170 za170 Tryz.underlying170 ts175 tb175 Tryz.underlying175 ts180 tb180 za180 Tryz.underlying180 ts181 tb181 za181 Tryz.underlying181 ts185 tb185 za185 Tryz.underlying185 ts186 tb186 za186 Tryz.underlying186 ts187 tb187 Tryz.underlying187 ts189 tb189 Tryz.underlying189 ts190 tb190 Tryz.underlying190 ts191 tb191 za191 Tryz.underlying191 ts192 tb192 za192 Tryz.underlying192 ts196 tb196 zl196 za196 Tryz.underlying196 ts197 tb197 zl197 za197 Tryz.underlying197 ts199 tb199 zl199 za199 Tryz.underlying199 ts200 tb200 zl200 za200 Tryz.underlying200 ts201 tb201 za201 Tryz.underlying201 ts202 tb202 za202 Tryz.underlying202

def seenM (ks : List (List UInt8)) : List (AV × AV) := ks.map fun k => (.str k, .bool true)
theorem mfind_out {k : List UInt8} : ∀ {ks : List (List UInt8)} {n : Nat}, k ∉ ks → mfind .string (.str k) (seenM ks) n = some none
  | [], n, _ => rfl
  | a :: r, n, h => by
    simp only [List.mem_cons, not_or] at h
    have : (k == a) = false := by simpa using h.1
    simp only [seenM, List.map_cons, mfind, keyEq, this]
    exact mfind_out h.2
theorem mfind_in {k : List UInt8} : ∀ {ks : List (List UInt8)} {n : Nat}, k ∈ ks → ∃ i, mfind .string (.str k) (seenM ks) n = some (some (n + i, .bool true)) ∧ ks[i]? = some k
  | [], n, h => by simp at h
  | a :: r, n, h => by
    by_cases e : k = a
    · subst e
      exact ⟨0, by simp [seenM, mfind, keyEq], rfl⟩
    · have : (k == a) = false := by simpa using e
      obtain ⟨i, h1, h2⟩ := mfind_in (n := n + 1) ((List.mem_cons.1 h).resolve_left e)
      refine ⟨i + 1, ?_, by simpa using h2⟩
      simp only [seenM, List.map_cons, mfind, keyEq, this]
      rw [show n + (i + 1) = n + 1 + i by omega]
      exact h1
def dd (acc : List (List UInt8)) (k : List UInt8) : List (List UInt8) := if k ∈ acc then acc else acc ++ [k]

/-- right scenes, where the numbers 'acc' have come before -/
def okFrom : List (List UInt8) → Bool → List Sc → Prop
  | _, _, [] => True
  | acc, first, x :: r => (x.no = [] ∨ (numberL x.no = true ∧ x.no.length < 1000000 ∧ x.no ∉ acc)) ∧ (1 ≤ x.place ∧ x.place ≤ 3) ∧ (1 ≤ x.time ∧ x.time ≤ 5) ∧ (first = true → x.time ≠ 5) ∧ SceneOk x ∧ okFrom (dd acc x.no) false r

def paraSum (l : List Sc) : Nat := (l.map fun x => x.paras.length).sum
structure ScriptOk (x : Sr) : Prop where
  title : 1 ≤ x.title.length ∧ x.title.length ≤ 60
  plain : plainL x.title = true
  len : x.scenes.length ≤ 300
  many : paraSum x.scenes ≤ 4000
  ok : okFrom [] true x.scenes
theorem paraSum_take (l : List Sc) (i : Nat) (h : i < l.length) : paraSum (l.take (i + 1)) = paraSum (l.take i) + l[i].paras.length := by
  simp only [paraSum, List.take_add_one, List.map_append, List.sum_append]
  simp [h]
theorem paraSum_take_le (l : List Sc) (i : Nat) : paraSum (l.take i) ≤ paraSum l := by
  have : paraSum l = paraSum (l.take i) + paraSum (l.drop i) := by
    simp only [paraSum]
    rw [← List.sum_append, ← List.map_append, List.take_append_drop]
  omega

theorem seen_frozen (ks : List (List UInt8)) : (seenM ks).all (fun x => Av.frozen x.1 && Av.frozen x.2) = true := by
  induction ks with
  | nil => rfl
  | cons a r ih => simp [seenM, Av.frozen]
theorem low_seen (n : Nat) (ks : List (List UInt8)) : lowB n (.mp (seenM ks)) = true := seen_frozen ks
theorem seen_dd {k : List UInt8} {ks : List (List UInt8)} : (∃ i v, mfind .string (.str k) (seenM ks) 0 = some (some (i, v)) ∧ (seenM ks).set i (.str k, .bool true) = seenM (dd ks k)) ∨
    (mfind .string (.str k) (seenM ks) 0 = some none ∧ seenM ks ++ [(.str k, .bool true)] = seenM (dd ks k)) := by
  by_cases h : k ∈ ks
  · left
    obtain ⟨i, h1, h2⟩ := mfind_in (n := 0) h
    refine ⟨0 + i, _, h1, ?_⟩
    have : (seenM ks)[i]? = some (.str k, .bool true) := by simp [seenM, h2]
    rw [Nat.zero_add]
    have hs : (seenM ks).set i (.str k, .bool true) = seenM ks := by
      apply List.ext_getElem?
      intro j
      rw [List.getElem?_set]
      split
      · rename_i hj
        subst hj
        split
        · exact this.symm
        · rename_i hn
          rw [List.getElem?_eq_none (by omega)] at this
          cases this
      · rfl
    rw [hs]
    simp [dd, h]
  · right
    exact ⟨mfind_out h, by simp [dd, h, seenM]⟩

set_option maxHeartbeats 4000000 in
theorem check_pch {S : Std} (hS : LibOk S) (x : Sr) (hx : ScriptOk x) : PcH Tryz.prog S 13 [srA x] (· = .int .i64 0) := by
  obtain ⟨ti, xs⟩ := x
  have t1 := hx.title
  have t2 := hx.plain
  have t3 := hx.len
  have t4 := hx.many
  have t5 := hx.ok
  simp only at t1 t2 t3 t4 t5
  have d1 : decide ((ti.length : Int) < 1) = false := by simp; omega
  have d2 : decide ((ti.length : Int) > 60) = false := by simp; omega
  simp only [srA]
  refine pch_intro (cth_intro Tryz.func13 rfl Tryz.ntmps13 hB13 (by simp) fun h ρ w hg => go (N := 112) Tryz.ntmps13 300 ?_)
  simp only [go_sem, Nat.reduceAdd, Nat.reduceMul, Nat.reduceBEq, Nat.reduceLT, Nat.reduceLeDiff, reduceIte, reduceCtorEq, Int.reduceToNat, Int.reduceLT, Int.reduceGT, Int.reduceNeg, Int.reduceBEq, Int.reduceBNe, d1, d2]
  refine pcallH1 hg (plain_pch hS ti (by omega)) rfl (N := 112) Tryz.ntmps13 rfl (go (N := 112) Tryz.ntmps13 300 ?_)
  rw [t2]
  simp only [go_sem, Nat.reduceAdd, Nat.reduceMul, Nat.reduceBEq, Nat.reduceLT, Nat.reduceLeDiff, reduceIte, reduceCtorEq, Int.reduceToNat, Int.reduceLT, Int.reduceGT, Int.reduceNeg, Int.reduceBEq, Int.reduceBNe]
  refine aloop (ι := Nat) (fun i => xs.length - i)
    (fun i => [(29, .int .i64 i), (28, .int .i64 xs.length), (27, .fz 5 (xs.map scA)), (3, .int .i64 (paraSum (xs.take i))), (1, .ptr 0 1 0 0)])
    (fun _ => [.arr 2 [.agg [.str ti, .fz 5 (xs.map scA)]]]) (fun i => i ≤ xs.length) 0 (by simp) ?_ ?_
  · refine Shift.weak ?_
    simp only [wk, go_sem, Nat.reduceAdd, Nat.reduceMul, Nat.reduceBEq, Nat.reduceLT, Nat.reduceLeDiff, reduceIte, reduceCtorEq, Int.reduceToNat, Int.reduceLT, Int.reduceGT, Int.reduceNeg, Int.reduceBEq, Int.reduceBNe, List.length_map]
    simp [paraSum]
  · intro i g1 J hJ
    by_cases gi : i < xs.length
    · have di : decide ((i : Int) < (xs.length : Int)) = true := by simp; omega
      have hg' : List.getD (List.map scA xs) i .any = .agg [.str xs[i].no, .int .i64 xs[i].place, .str xs[i].set, .int .i64 xs[i].time, .fz 2 (xs[i].paras.map paA)] := by simp [List.getD, gi, scA]
      have hs := paraSum_take xs i gi
      have hle := paraSum_take_le xs (i + 1)
      refine go (N := 112) Tryz.ntmps13 300 ?_
      simp only [go_sem, Nat.reduceAdd, Nat.reduceMul, Nat.reduceBEq, Nat.reduceLT, Nat.reduceLeDiff, reduceIte, reduceCtorEq, Int.reduceToNat, Int.reduceLT, Int.reduceGT, Int.reduceNeg, Int.reduceBEq, Int.reduceBNe, di, hg', List.length_map]
      repeat refine And.intro (by first | omega | simpa using gi) ?_
      rw [show (paraSum (xs.take i) : Int) + (xs[i].paras.length : Int) = (paraSum (xs.take (i + 1)) : Int) by omega, show (i : Int) + 1 = ((i + 1 : Nat) : Int) by omega]
      refine ainv (hJ (i + 1) (by omega) (by omega)) (Shift.low 1 (by simp) (by simp) ?_ ?_)
      · simp only [List.take_succ_cons, List.take_zero, List.all_cons, List.all_nil, lowB, flat, cellsOf, lowC, Av.frozen, List.append_nil, Bool.and_self]
      · simp only [wkl, lowV, lowC, Av.get, go_sem, Nat.reduceAdd, Nat.reduceMul, Nat.reduceBEq, Nat.reduceLT, Nat.reduceLeDiff, reduceIte, reduceCtorEq, Int.reduceToNat, Int.reduceLT, Int.reduceGT, Int.reduceNeg, Int.reduceBEq, Int.reduceBNe]
    · have di : decide ((i : Int) < (xs.length : Int)) = false := by simp; omega
      have : i = xs.length := by omega
      subst this
      rw [List.take_length]
      have d3 : decide ((xs.length : Int) > 300) = false := by simp; omega
      have d4 : decide ((paraSum xs : Int) > 4000) = false := by simp; omega
      refine go (N := 112) Tryz.ntmps13 300 ?_
      simp only [go_sem, Nat.reduceAdd, Nat.reduceMul, Nat.reduceBEq, Nat.reduceLT, Nat.reduceLeDiff, reduceIte, reduceCtorEq, Int.reduceToNat, Int.reduceLT, Int.reduceGT, Int.reduceNeg, Int.reduceBEq, Int.reduceBNe, di, d3, d4, List.length_map]
      refine aloop (ι := Nat × List (List UInt8)) (fun y => xs.length - y.1)
        (fun y => [(51, .int .i64 y.1), (50, .int .i64 xs.length), (49, .fz 5 (xs.map scA)), (6, .mp 1), (1, .ptr 0 1 0 0)])
        (fun y => [.arr 2 [.agg [.str ti, .fz 5 (xs.map scA)]], .mp (seenM y.2)]) (fun y => y.1 ≤ xs.length ∧ okFrom y.2 (decide (y.1 = 0)) (xs.drop y.1)) (0, []) ⟨by simp, t5⟩ ?_ ?_
      · refine Shift.weak ?_
        simp only [wk, go_sem, Nat.reduceAdd, Nat.reduceMul, Nat.reduceBEq, Nat.reduceLT, Nat.reduceLeDiff, reduceIte, reduceCtorEq, Int.reduceToNat, Int.reduceLT, Int.reduceGT, Int.reduceNeg, Int.reduceBEq, Int.reduceBNe]
      · clear hJ J
        rintro ⟨i, acc⟩ ⟨g1, g2⟩ J hJ
        simp only at g1 g2 hJ ⊢
        by_cases gi : i < xs.length
        · have di : decide ((i : Int) < (xs.length : Int)) = true := by simp; omega
          have hg' : List.getD (List.map scA xs) i .any = .agg [.str xs[i].no, .int .i64 xs[i].place, .str xs[i].set, .int .i64 xs[i].time, .fz 2 (xs[i].paras.map paA)] := by simp [List.getD, gi, scA]
          have hd : xs.drop i = xs[i] :: xs.drop (i + 1) := List.drop_eq_getElem_cons gi
          rw [hd] at g2
          obtain ⟨c1, c2, c3, c4, c5, c6⟩ := g2
          have e1 : decide (xs[i].place < 1) = false := by simp; omega
          have e2 : decide (xs[i].place > 3) = false := by simp; omega
          have e3 : decide (xs[i].time < 1) = false := by simp; omega
          have e4 : decide (xs[i].time > 5) = false := by simp; omega
          have e5 : ((i : Int) == 0) = false ∨ ((i : Int) == 0) = true ∧ (xs[i].time == 5) = false := by
            by_cases h0 : i = 0
            · exact .inr ⟨by simp [h0], by simpa using c4 (by simp [h0])⟩
            · exact .inl (by simp; omega)
          have hsf := sceneFault_pch hS xs[i] c5
          simp only [scA] at hsf
          have nx : decide (i + 1 = 0) = false := by simp
          generalize hsc : xs[i] = sc at *
          have fin : _ := fun h => hJ (i + 1, dd acc sc.no) ⟨by simp only; omega, by simp only; rw [nx]; exact c6⟩ h
          rcases c1 with h0 | ⟨n1, n2, n3⟩
          · have q0 : (sc.no != []) = false := by simp [h0]
            rcases e5 with e5 | ⟨e5, e6⟩
            · rcases @seen_dd sc.no acc with ⟨j, v, m1, m2⟩ | ⟨m1, m2⟩
              · refine go (N := 112) Tryz.ntmps13 300 ?_
                simp only [go_sem, Nat.reduceAdd, Nat.reduceMul, Nat.reduceBEq, Nat.reduceLT, Nat.reduceLeDiff, reduceIte, reduceCtorEq, Int.reduceToNat, Int.reduceLT, Int.reduceGT, Int.reduceNeg, Int.reduceBEq, Int.reduceBNe, di, hg', q0, e1, e2, e3, e4, e5, m1, m2]
                repeat refine And.intro (by first | omega | simpa using gi) ?_
                refine pcallH1 hg (hsf) rfl (N := 112) Tryz.ntmps13 rfl (go (N := 112) Tryz.ntmps13 300 ?_)
                simp only [go_sem, Nat.reduceAdd, Nat.reduceMul, Nat.reduceBEq, Nat.reduceLT, Nat.reduceLeDiff, reduceIte, reduceCtorEq, Int.reduceToNat, Int.reduceLT, Int.reduceGT, Int.reduceNeg, Int.reduceBEq, Int.reduceBNe]
                refine ⟨by omega, by omega, ?_⟩
                rw [show (i : Int) + 1 = ((i + 1 : Nat) : Int) by omega]
                refine ainv (fin (by simp only; omega)) (Shift.low 2 (by simp) (by simp) ?_ ?_)
                · simp only [List.take_succ_cons, List.take_zero, List.all_cons, List.all_nil, lowB, flat, cellsOf, lowC, Av.frozen, List.append_nil, Bool.and_self, ↓low_seen]
                · simp only [wkl, lowV, lowC, Av.get, go_sem, Nat.reduceAdd, Nat.reduceMul, Nat.reduceBEq, Nat.reduceLT, Nat.reduceLeDiff, reduceIte, reduceCtorEq, Int.reduceToNat, Int.reduceLT, Int.reduceGT, Int.reduceNeg, Int.reduceBEq, Int.reduceBNe]
              · refine go (N := 112) Tryz.ntmps13 300 ?_
                simp only [go_sem, Nat.reduceAdd, Nat.reduceMul, Nat.reduceBEq, Nat.reduceLT, Nat.reduceLeDiff, reduceIte, reduceCtorEq, Int.reduceToNat, Int.reduceLT, Int.reduceGT, Int.reduceNeg, Int.reduceBEq, Int.reduceBNe, di, hg', q0, e1, e2, e3, e4, e5, m1, m2]
                repeat refine And.intro (by first | omega | simpa using gi) ?_
                refine pcallH1 hg (hsf) rfl (N := 112) Tryz.ntmps13 rfl (go (N := 112) Tryz.ntmps13 300 ?_)
                simp only [go_sem, Nat.reduceAdd, Nat.reduceMul, Nat.reduceBEq, Nat.reduceLT, Nat.reduceLeDiff, reduceIte, reduceCtorEq, Int.reduceToNat, Int.reduceLT, Int.reduceGT, Int.reduceNeg, Int.reduceBEq, Int.reduceBNe]
                refine ⟨by omega, by omega, ?_⟩
                rw [show (i : Int) + 1 = ((i + 1 : Nat) : Int) by omega]
                refine ainv (fin (by simp only; omega)) (Shift.low 2 (by simp) (by simp) ?_ ?_)
                · simp only [List.take_succ_cons, List.take_zero, List.all_cons, List.all_nil, lowB, flat, cellsOf, lowC, Av.frozen, List.append_nil, Bool.and_self, ↓low_seen]
                · simp only [wkl, lowV, lowC, Av.get, go_sem, Nat.reduceAdd, Nat.reduceMul, Nat.reduceBEq, Nat.reduceLT, Nat.reduceLeDiff, reduceIte, reduceCtorEq, Int.reduceToNat, Int.reduceLT, Int.reduceGT, Int.reduceNeg, Int.reduceBEq, Int.reduceBNe]
            · rcases @seen_dd sc.no acc with ⟨j, v, m1, m2⟩ | ⟨m1, m2⟩
              · refine go (N := 112) Tryz.ntmps13 300 ?_
                simp only [go_sem, Nat.reduceAdd, Nat.reduceMul, Nat.reduceBEq, Nat.reduceLT, Nat.reduceLeDiff, reduceIte, reduceCtorEq, Int.reduceToNat, Int.reduceLT, Int.reduceGT, Int.reduceNeg, Int.reduceBEq, Int.reduceBNe, di, hg', q0, e1, e2, e3, e4, e5, e6, m1, m2]
                repeat refine And.intro (by first | omega | simpa using gi) ?_
                refine pcallH1 hg (hsf) rfl (N := 112) Tryz.ntmps13 rfl (go (N := 112) Tryz.ntmps13 300 ?_)
                simp only [go_sem, Nat.reduceAdd, Nat.reduceMul, Nat.reduceBEq, Nat.reduceLT, Nat.reduceLeDiff, reduceIte, reduceCtorEq, Int.reduceToNat, Int.reduceLT, Int.reduceGT, Int.reduceNeg, Int.reduceBEq, Int.reduceBNe]
                refine ⟨by omega, by omega, ?_⟩
                rw [show (i : Int) + 1 = ((i + 1 : Nat) : Int) by omega]
                refine ainv (fin (by simp only; omega)) (Shift.low 2 (by simp) (by simp) ?_ ?_)
                · simp only [List.take_succ_cons, List.take_zero, List.all_cons, List.all_nil, lowB, flat, cellsOf, lowC, Av.frozen, List.append_nil, Bool.and_self, ↓low_seen]
                · simp only [wkl, lowV, lowC, Av.get, go_sem, Nat.reduceAdd, Nat.reduceMul, Nat.reduceBEq, Nat.reduceLT, Nat.reduceLeDiff, reduceIte, reduceCtorEq, Int.reduceToNat, Int.reduceLT, Int.reduceGT, Int.reduceNeg, Int.reduceBEq, Int.reduceBNe]
              · refine go (N := 112) Tryz.ntmps13 300 ?_
                simp only [go_sem, Nat.reduceAdd, Nat.reduceMul, Nat.reduceBEq, Nat.reduceLT, Nat.reduceLeDiff, reduceIte, reduceCtorEq, Int.reduceToNat, Int.reduceLT, Int.reduceGT, Int.reduceNeg, Int.reduceBEq, Int.reduceBNe, di, hg', q0, e1, e2, e3, e4, e5, e6, m1, m2]
                repeat refine And.intro (by first | omega | simpa using gi) ?_
                refine pcallH1 hg (hsf) rfl (N := 112) Tryz.ntmps13 rfl (go (N := 112) Tryz.ntmps13 300 ?_)
                simp only [go_sem, Nat.reduceAdd, Nat.reduceMul, Nat.reduceBEq, Nat.reduceLT, Nat.reduceLeDiff, reduceIte, reduceCtorEq, Int.reduceToNat, Int.reduceLT, Int.reduceGT, Int.reduceNeg, Int.reduceBEq, Int.reduceBNe]
                refine ⟨by omega, by omega, ?_⟩
                rw [show (i : Int) + 1 = ((i + 1 : Nat) : Int) by omega]
                refine ainv (fin (by simp only; omega)) (Shift.low 2 (by simp) (by simp) ?_ ?_)
                · simp only [List.take_succ_cons, List.take_zero, List.all_cons, List.all_nil, lowB, flat, cellsOf, lowC, Av.frozen, List.append_nil, Bool.and_self, ↓low_seen]
                · simp only [wkl, lowV, lowC, Av.get, go_sem, Nat.reduceAdd, Nat.reduceMul, Nat.reduceBEq, Nat.reduceLT, Nat.reduceLeDiff, reduceIte, reduceCtorEq, Int.reduceToNat, Int.reduceLT, Int.reduceGT, Int.reduceNeg, Int.reduceBEq, Int.reduceBNe]
          · by_cases h0 : sc.no = []
            · rw [h0] at n1
              exact absurd n1 (by decide)
            have q0 : (sc.no != []) = true := by simp [h0]
            have m1 := @mfind_out sc.no acc 0 n3
            have m2 : seenM acc ++ [(.str sc.no, .bool true)] = seenM (dd acc sc.no) := by simp [dd, n3, seenM]
            rcases e5 with e5 | ⟨e5, e6⟩
            · refine go (N := 112) Tryz.ntmps13 300 ?_
              simp only [go_sem, Nat.reduceAdd, Nat.reduceMul, Nat.reduceBEq, Nat.reduceLT, Nat.reduceLeDiff, reduceIte, reduceCtorEq, Int.reduceToNat, Int.reduceLT, Int.reduceGT, Int.reduceNeg, Int.reduceBEq, Int.reduceBNe, di, hg', q0, e1, e2, e3, e4, e5, m1, m2]
              repeat refine And.intro (by first | omega | simpa using gi) ?_
              refine pcall1 (isNumber_pc' sc.no n2) rfl (N := 112) Tryz.ntmps13 rfl (go (N := 112) Tryz.ntmps13 300 ?_)
              rw [n1]
              simp only [go_sem, Nat.reduceAdd, Nat.reduceMul, Nat.reduceBEq, Nat.reduceLT, Nat.reduceLeDiff, reduceIte, reduceCtorEq, Int.reduceToNat, Int.reduceLT, Int.reduceGT, Int.reduceNeg, Int.reduceBEq, Int.reduceBNe, di, hg', q0, e1, e2, e3, e4, e5, m1, m2]
              repeat refine And.intro (by first | omega | simpa using gi) ?_
              refine pcallH1 hg (hsf) rfl (N := 112) Tryz.ntmps13 rfl (go (N := 112) Tryz.ntmps13 300 ?_)
              simp only [go_sem, Nat.reduceAdd, Nat.reduceMul, Nat.reduceBEq, Nat.reduceLT, Nat.reduceLeDiff, reduceIte, reduceCtorEq, Int.reduceToNat, Int.reduceLT, Int.reduceGT, Int.reduceNeg, Int.reduceBEq, Int.reduceBNe]
              refine ⟨by omega, by omega, ?_⟩
              rw [show (i : Int) + 1 = ((i + 1 : Nat) : Int) by omega]
              refine ainv (fin (by simp only; omega)) (Shift.low 2 (by simp) (by simp) ?_ ?_)
              · simp only [List.take_succ_cons, List.take_zero, List.all_cons, List.all_nil, lowB, flat, cellsOf, lowC, Av.frozen, List.append_nil, Bool.and_self, ↓low_seen]
              · simp only [wkl, lowV, lowC, Av.get, go_sem, Nat.reduceAdd, Nat.reduceMul, Nat.reduceBEq, Nat.reduceLT, Nat.reduceLeDiff, reduceIte, reduceCtorEq, Int.reduceToNat, Int.reduceLT, Int.reduceGT, Int.reduceNeg, Int.reduceBEq, Int.reduceBNe]
            · refine go (N := 112) Tryz.ntmps13 300 ?_
              simp only [go_sem, Nat.reduceAdd, Nat.reduceMul, Nat.reduceBEq, Nat.reduceLT, Nat.reduceLeDiff, reduceIte, reduceCtorEq, Int.reduceToNat, Int.reduceLT, Int.reduceGT, Int.reduceNeg, Int.reduceBEq, Int.reduceBNe, di, hg', q0, e1, e2, e3, e4, e5, e6, m1, m2]
              repeat refine And.intro (by first | omega | simpa using gi) ?_
              refine pcall1 (isNumber_pc' sc.no n2) rfl (N := 112) Tryz.ntmps13 rfl (go (N := 112) Tryz.ntmps13 300 ?_)
              rw [n1]
              simp only [go_sem, Nat.reduceAdd, Nat.reduceMul, Nat.reduceBEq, Nat.reduceLT, Nat.reduceLeDiff, reduceIte, reduceCtorEq, Int.reduceToNat, Int.reduceLT, Int.reduceGT, Int.reduceNeg, Int.reduceBEq, Int.reduceBNe, di, hg', q0, e1, e2, e3, e4, e5, e6, m1, m2]
              repeat refine And.intro (by first | omega | simpa using gi) ?_
              refine pcallH1 hg (hsf) rfl (N := 112) Tryz.ntmps13 rfl (go (N := 112) Tryz.ntmps13 300 ?_)
              simp only [go_sem, Nat.reduceAdd, Nat.reduceMul, Nat.reduceBEq, Nat.reduceLT, Nat.reduceLeDiff, reduceIte, reduceCtorEq, Int.reduceToNat, Int.reduceLT, Int.reduceGT, Int.reduceNeg, Int.reduceBEq, Int.reduceBNe]
              refine ⟨by omega, by omega, ?_⟩
              rw [show (i : Int) + 1 = ((i + 1 : Nat) : Int) by omega]
              refine ainv (fin (by simp only; omega)) (Shift.low 2 (by simp) (by simp) ?_ ?_)
              · simp only [List.take_succ_cons, List.take_zero, List.all_cons, List.all_nil, lowB, flat, cellsOf, lowC, Av.frozen, List.append_nil, Bool.and_self, ↓low_seen]
              · simp only [wkl, lowV, lowC, Av.get, go_sem, Nat.reduceAdd, Nat.reduceMul, Nat.reduceBEq, Nat.reduceLT, Nat.reduceLeDiff, reduceIte, reduceCtorEq, Int.reduceToNat, Int.reduceLT, Int.reduceGT, Int.reduceNeg, Int.reduceBEq, Int.reduceBNe]
        · have di : decide ((i : Int) < (xs.length : Int)) = false := by simp; omega
          refine go (N := 112) Tryz.ntmps13 300 ?_
          simp only [go_sem, Nat.reduceAdd, Nat.reduceMul, Nat.reduceBEq, Nat.reduceLT, Nat.reduceLeDiff, reduceIte, reduceCtorEq, Int.reduceToNat, Int.reduceLT, Int.reduceGT, Int.reduceNeg, Int.reduceBEq, Int.reduceBNe, di]
          exact aret [2] rfl ⟨rfl, rfl⟩
end Go.Proofs.YtikbgjhajgjjdaaGreatDoor
/- Sides. Own work of this seat. -/
set_option maxRecDepth 100000
set_option linter.unusedSimpArgs false
set_option linter.unusedVariables false
namespace Go.Proofs.YtikbgjhajgjjdaaGreatDoor
open Go Go.Av Go.RowKit

theorem run_all : ∀ (ps : List Pa) (l e : Int), runL l ps = some e → ∀ p ∈ ps, paraOk p = true
  | [], _, _, _, p, hp => by simp at hp
  | a :: r, l, e, h, p, hp => by
    simp only [runL] at h
    split at h
    · rename_i hc
      simp only [Bool.and_eq_true] at hc
      rcases List.mem_cons.1 hp with rfl | hp
      · exact hc.1
      · exact run_all r _ _ h p hp
    · cases h
theorem run_head {ps : List Pa} {e : Int} (h : runL 0 ps = some e) : ∀ p, ps.head? = some p → joins p = false := by
  intro p hp
  cases ps with
  | nil => simp at hp
  | cons a r =>
    simp only [List.head?_cons, Option.some.injEq] at hp
    subst hp
    simp only [runL] at h
    split at h
    · rename_i hc
      simp only [Bool.and_eq_true, followsL] at hc
      simp only [joins, Bool.or_eq_false_iff]
      have hc2 := hc.2
      constructor
      · cases q : a.kind == 3 with
        | false => rfl
        | true => rw [q] at hc2; simp at hc2
      · cases q : a.kind == 4 with
        | false => rfl
        | true =>
          cases q3 : a.kind == 3 with
          | true => rw [q3] at hc2; simp at hc2
          | false => rw [q3, q] at hc2; simp at hc2
    · cases h
theorem para_len {p : Pa} (h : paraOk p = true) : p.text.length ≤ 2000 := by
  simp only [paraOk, Bool.and_eq_true, decide_eq_true_eq] at h
  exact h.2.2.2.2.1
def x0 : Sc := ⟨[], 0, [], 0, []⟩
end Go.Proofs.YtikbgjhajgjjdaaGreatDoor
