/- The interpreter's words, told to the walk's simp set once. Own work of this seat. -/
import Derived.Test.YtkomcdohejibmaaGreatDoorS20
import Derived.Test.YtkomcdohejibmaaGreatDoorS22
import Derived.Test.YtkomcdohejibmaaGreatDoorS17
import Derived.Test.YtkomcdohejibmaaGreatDoorS18
import Derived.Test.YtkomcdohejibmaaGreatDoorS1
set_option linter.unusedSimpArgs false
set_option linter.unusedVariables false
namespace Go.Proofs.YtkomcdohejibmaaGreatDoor
open Go Go.Av Go.RowKit
attribute [go_sem ↓] Go.Av.br_true Go.Av.br_false Go.Av.dbr_true Go.Av.dbr_false Go.Av.dbri_true Go.Av.dbri_false Go.Av.dbrg_true Go.Av.dbrg_false
attribute [go_sem] Go.Av.run Go.Av.cont Go.Av.br Go.Av.dbr Go.Av.dx Go.Av.dxc Go.Av.dgrd Go.Av.dyld Go.Av.dres Go.Av.dcall Go.Av.calm Go.Av.fieldPlace? Go.Av.allHas Go.Av.step1 Go.Av.opN Go.Av.grdN Go.Av.resN Go.Av.condN Go.Av.exitN Go.Av.stopN Go.Av.exitIt Go.Av.dOk Go.Av.xop Go.Av.xbin Go.Av.xint Go.Av.xarith Go.Av.xstr Go.Av.xbool Go.Av.xpick Go.Av.xnot Go.Av.xneg Go.Av.xextract Go.Av.xpart Go.Av.xpartOk Go.Av.xindex Go.Av.xfieldF Go.Av.fieldD Go.Av.xnew Go.Av.xbox Go.Av.xalloc Go.Av.xfieldAddr Go.Av.xptrAddIf Go.Av.xindexAddr Go.Av.xloadC Go.Av.xload Go.Av.putCells Go.Av.reElem Go.Av.xstoreB Go.Av.xstore Go.Av.xconv Go.Av.xtext Go.Av.xlen Go.Av.xlen2 Go.Av.xcall Go.Av.xfill Go.Av.xbuild Go.Av.cut Go.Av.rep Go.Av.xbuildSlice Go.Av.xbuildSliceD Go.Av.isRow Go.Av.elemD Go.Av.isU8 Go.Av.ev Go.Av.evs Go.Av.evp Go.Av.put Go.Av.get Go.Av.ofConst Go.Av.yldD Go.Av.yldV Go.Av.notBool_undef Go.Av.args0 Go.Av.cellsOf cond_true cond_false decide_true decide_false decide_eq_true_eq decide_eq_false_iff_not List.getElem?_cons_zero List.getElem?_cons_succ List.getElem?_nil List.getD_cons_zero List.getD_cons_succ List.getD_nil List.set_cons_zero List.set_cons_succ List.length_cons List.length_nil List.cons_append List.nil_append List.append_nil List.all_cons List.all_nil List.map_cons List.map_nil List.take_succ_cons List.take_zero List.drop_succ_cons List.drop_zero Bool.and_true Bool.true_and Bool.and_self Bool.and_false Bool.false_and Go.Av.one Go.Av.frozen beq_self_eq_true true_and and_true forall_const false_implies implies_true and_self Option.map_some Option.map_none Nat.zero_add Nat.add_zero Nat.zero_mul Nat.mul_one Nat.one_mul Int.toNat_zero ne_eq not_false_eq_true not_true_eq_false Bool.true_eq_false Bool.false_eq_true List.toList_toArray Go.Av.inr Go.Av.byteOf Go.Av.isByte decide_eq_decide Bool.not_true Bool.not_false Bool.not_eq_true' Bool.or_true Bool.true_or Bool.or_false Bool.false_or ge_iff_le gt_iff_lt and_assoc Bool.decide_eq_true beq_iff_eq beq_eq_false_iff_ne bne_iff_ne bne_self_eq_false if_true if_false Bool.and_eq_true Bool.or_eq_true Bool.and_eq_false_imp Bool.or_eq_false_iff Bool.not_eq_false' Go.Av.has Option.isSome_some Option.isSome_none Int.toNat_natCast Int.cast_ofNat_Int List.length_append Go.Av.xapp2 Go.Av.xapp Go.Av.xappS Go.Av.xappD Go.Av.xappB Go.Av.notInt Go.Av.srcOf Go.Av.srcB Go.Av.byteAV Go.Av.splice' Go.Av.xcut Go.Av.xcutS Go.Av.xcutF Go.Av.xcutB Go.Av.xcutN Go.Av.xcut0 Go.Av.cutL Go.Av.loOf Go.Av.hiOf Go.Av.evo Go.Av.xmake Go.Av.zelem Go.Av.xmax Go.Av.xcopy2 Go.Av.xcopyS Go.Av.xcopyB Go.Av.xnil Go.Av.xcut3 Go.Av.ixOf Go.Av.xclear2 Go.Av.xclearB List.getElem?_toArray Go.Av.xbin2 Go.Av.xnileq Go.Av.xempty Go.Av.xmkmap Go.Av.xmput Go.Av.xmputB Go.Av.xmputF Go.Av.isKey Go.Av.keyEq Go.Av.mfind Go.Av.xbin3 Go.Av.xeqs Go.Av.xeqop Go.Av.eqFs Go.Av.bothB Go.Av.leafEq Go.Av.xlook Go.Av.xlookB Go.Av.xlookF Go.Av.xbytes Go.Av.beq_c_n Go.Av.beq_n_c Go.Av.bne_c_n Go.Av.bne_n_c Go.Av.one_nil Go.Av.dxi Go.Av.dxic Go.Av.dbri Go.Av.rix Go.Av.dck Go.Av.reader Go.Av.blind Go.Av.opOk Go.Av.refOk Go.Op.operands Go.Call.operands List.contains_cons List.contains_nil Go.Av.dxg Go.Av.dxgc Go.Av.dbrg Go.Av.pck Go.Av.putD List.lookup_cons List.lookup_nil Go.Av.xboxF Go.Av.xbox2 Go.Av.keyEqS Go.Av.isKeyS Go.Av.mfindS Go.Av.xputS Go.Av.xmputS Go.Av.xlookS Go.Av.xmentryF Go.Av.xmentryB Go.Av.xmentry Go.Av.xestoreB Go.Av.xestore Go.Av.xrangeB Go.Av.xrange Go.Av.xentryB Go.Av.xentryI Go.Av.xentry Go.Av.frozen0 Go.Av.isI Go.Av.xappZ Go.Av.xcap Go.Av.xcap2 ts2 tb2 zv2 zk2 za2 Tryz.underlying2 ts3 tb3 zv3 zk3 za3 Tryz.underlying3 ts4 tb4 zv4 zk4 za4 Tryz.underlying4 ts5 tb5 zv5 zk5 za5 Tryz.underlying5 ts6 tb6 zv6 zk6 za6 Tryz.underlying6 ts7 tb7 zv7 zk7 za7 Tryz.underlying7 ts8 tb8 zv8 zk8 za8 Tryz.underlying8 ts9 tb9 zv9 zk9 za9 Tryz.underlying9 ts10 tb10 zv10 zk10 za10 Tryz.underlying10 ts11 tb11 zv11 zk11 za11 Tryz.underlying11 ts12 tb12 zv12 zk12 za12 Tryz.underlying12 ts13 tb13 zv13 zk13 za13 Tryz.underlying13 ts14 tb14 zv14 zk14 za14 Tryz.underlying14 ts18 tb18 zv18 zk18 za18 Tryz.underlying18 ts19 tb19 zv19 zk19 za19 Tryz.underlying19 ts21 tb21 zv21 zk21 za21 Tryz.underlying21 ts22 tb22 zv22 zk22 za22 Tryz.underlying22 ts24 tb24 zv24 zk24 za24 Tryz.underlying24 ts25 tb25 zv25 zk25 za25 Tryz.underlying25 ts26 tb26 zv26 zk26 za26 Tryz.underlying26 ts28 tb28 zv28 zk28 za28 Tryz.underlying28 ts32 tb32 zv32 zk32 za32 Tryz.underlying32 ts36 tb36 zv36 zk36 za36 Tryz.underlying36 ts37 tb37 zv37 zk37 za37 Tryz.underlying37 ts38 tb38 zv38 zk38 za38 Tryz.underlying38 ts39 tb39 zv39 zk39 za39 Tryz.underlying39 ts40 tb40 zv40 zk40 za40 Tryz.underlying40 ts41 tb41 zv41 zk41 za41 Tryz.underlying41 ts42 tb42 zv42 zk42 za42 Tryz.underlying42 ts43 tb43 zv43 zk43 za43 Tryz.underlying43 ts53 tb53 zv53 zk53 za53 Tryz.underlying53 ts61 tb61 zv61 zk61 za61 Tryz.underlying61 ts80 tb80 zv80 zk80 za80 Tryz.underlying80 ts107 tb107 zv107 zk107 za107 Tryz.underlying107 ts108 tb108 zv108 zk108 za108 Tryz.underlying108 ts113 tb113 zv113 zk113 za113 Tryz.underlying113 ts116 tb116 zv116 zk116 za116 Tryz.underlying116 ts123 tb123 zv123 zk123 za123 Tryz.underlying123 ts128 tb128 zv128 zk128 za128 Tryz.underlying128 ts141 tb141 zv141 zk141 za141 Tryz.underlying141 ts142 tb142 zv142 zk142 za142 Tryz.underlying142 ts144 tb144 zv144 zk144 za144 Tryz.underlying144 ts145 tb145 zv145 zk145 za145 Tryz.underlying145 ts146 tb146 zv146 zk146 za146 Tryz.underlying146 ts149 tb149 zv149 zk149 za149 Tryz.underlying149 ts158 tb158 zv158 zk158 za158 Tryz.underlying158 ts166 tb166 zv166 zk166 za166 Tryz.underlying166 ts168 tb168 zv168 zk168 za168 Tryz.underlying168 ts177 tb177 zv177 zk177 za177 Tryz.underlying177 ts179 tb179 zv179 zk179 za179 Tryz.underlying179 ts180 tb180 zv180 zk180 za180 Tryz.underlying180 ts181 tb181 zv181 zk181 za181 Tryz.underlying181 ts183 tb183 zv183 zk183 za183 Tryz.underlying183 ts187 tb187 zv187 zk187 za187 Tryz.underlying187 ts200 tb200 zv200 zk200 za200 Tryz.underlying200 ts223 tb223 zv223 zk223 za223 Tryz.underlying223 ts224 tb224 zv224 zk224 za224 Tryz.underlying224 ts230 tb230 zv230 zk230 za230 Tryz.underlying230 ts231 tb231 zv231 zk231 za231 Tryz.underlying231 ts232 tb232 Tryz.underlying232 ts235 tb235 zv235 zk235 za235 Tryz.underlying235 ts236 tb236 zv236 zk236 za236 Tryz.underlying236 ts240 tb240 zv240 zk240 za240 Tryz.underlying240 ts241 tb241 zv241 zk241 za241 Tryz.underlying241 ts243 tb243 zv243 zk243 za243 Tryz.underlying243 ts244 tb244 zv244 zk244 za244 Tryz.underlying244 ts245 tb245 zv245 zk245 za245 Tryz.underlying245 ts246 tb246 zv246 zk246 za246 Tryz.underlying246
attribute [go_sem] Nat.reduceAdd Nat.reduceMul Nat.reduceSub Nat.reduceBEq Nat.reduceLT Nat.reduceLeDiff reduceIte reduceCtorEq Int.reduceToNat Int.reduceLE Int.reduceLT Int.reduceNe Int.reduceMul Int.reduceAdd Int.reduceSub Int.reduceDiv Int.reduceMod Int.reduceEq Int.reduceGE Int.reduceGT Int.reduceNeg Int.reduceBEq Int.reduceBNe Nat.reduceEqDiff
end Go.Proofs.YtkomcdohejibmaaGreatDoor
/- Deeds as plain data; stamps and their order. Own work of this seat. -/
set_option maxRecDepth 100000
set_option linter.unusedSimpArgs false
set_option linter.unusedVariables false
namespace Go.Proofs.YtkomcdohejibmaaGreatDoor
open Go Go.Av Go.RowKit

structure St where
  dept : List UInt8
  no : Int
  deriving DecidableEq
structure De where
  st : St
  seen : List St
  kind : Int
  paper : List UInt8
  text : List UInt8
  person : List UInt8
  deriving DecidableEq
def stA (s : St) : AV := .agg [.str s.dept, .int .i64 s.no]
def deA (d : De) : AV := .agg [.str d.st.dept, .int .i64 d.st.no, .fz 2 (d.seen.map stA), .int .i64 d.kind, .str d.paper, .str d.text, .str d.person]
theorem stA_frz : ∀ l : List St, (flat (l.map stA)).all Av.frozen = true
  | [] => rfl
  | a :: l => by simp only [List.map_cons, flat, stA, cellsOf, List.cons_append, List.nil_append, List.all_cons, Av.frozen, stA_frz l, Bool.and_self]
theorem deA_frz : ∀ l : List De, (flat (l.map deA)).all Av.frozen = true
  | [] => rfl
  | a :: l => by simp only [List.map_cons, flat, deA, cellsOf, List.cons_append, List.nil_append, List.all_cons, Av.frozen, deA_frz l, Bool.and_self]
theorem low_sts (n : Nat) (l : List St) : lowB n (.arr 2 (l.map stA)) = true := low_all (stA_frz l)
theorem low_des (n : Nat) (l : List De) : lowB n (.arr 7 (l.map deA)) = true := low_all (deA_frz l)
theorem low_de (n : Nat) (d : De) : lowB n (.arr 7 [deA d]) = true := low_des n [d]
theorem stA_get (l : List St) (i : Nat) (h : i < l.length) : (l.map stA).getD i .any = .agg [.str l[i].dept, .int .i64 l[i].no] := by simp [List.getD, h, stA]
theorem deA_get (l : List De) (i : Nat) (h : i < l.length) : (l.map deA).getD i .any = .agg [.str l[i].st.dept, .int .i64 l[i].st.no, .fz 2 (l[i].seen.map stA), .int .i64 l[i].kind, .str l[i].paper, .str l[i].text, .str l[i].person] := by simp [List.getD, h, deA]

/-! ### the library's contracts, told of plain data -/
theorem o_pc {f : FuncId} {args : List AV} {r : AV} (vs : List Value) (v : Value) (hb : hasBody Tryz.prog f = true) (ha : ∀ h vs', RL h Lf0 true vs' args → vs' = vs) (hr : ∀ h, RV h Lf0 true v r)
    (H : ∀ w, Calls Tryz.prog f vs.toArray w fun e w' => e = .returned v ∧ Same w w') : Pc Tryz.prog f args (· = r) := by
  refine ⟨hb, fun h w vs' hm hv => ?_⟩
  have := ha h vs' hv
  subst this
  refine (H w).mono ?_
  rintro e w' ⟨rfl, hs⟩
  exact ⟨v, r, h, rfl, rfl, fun b o v e => ⟨hs.cell (hm b o v e).1, (hm b o v e).2⟩, fun _ _ _ x => x, fun b o e n => (n e).elim, hs, hr h⟩
theorem o_str {h : Mem} {v : Value} {s : List UInt8} (r : RV h Lf0 true v (.str s)) : v = .string ⟨s.toArray⟩ := by cases r with | str => rfl
theorem o_two (s p : List UInt8) : ∀ h vs', RL h Lf0 true vs' [.str s, .str p] → vs' = [.string ⟨s.toArray⟩, .string ⟨p.toArray⟩] := by
  intro h vs' r
  cases r with | cons r1 r => cases r with | cons r2 r => cases r; rw [o_str r1, o_str r2]
theorem scompare_pc (s p : List UInt8) : Pc Tryz.prog 96 [.str s, .str p] (· = .int .i64 (Lib.compareBytes s p)) :=
  o_pc [_, _] (.int .i64 (Lib.compareBytes s p)) hB96 (o_two s p) (fun h => .int _ _) fun w => (Any.strings_Compare Tryz.lays106 ⟨s.toArray⟩ ⟨p.toArray⟩ w).mono fun e w' ⟨h1, h2⟩ => ⟨h1, h2 ▸ .refl w⟩

/-! ### the order of stamps -/
def cmpI (a b : Int) : Int := if a < b then -1 else if a > b then 1 else 0
def stCmp (a b : St) : Int := if Lib.compareBytes a.dept b.dept ≠ 0 then Lib.compareBytes a.dept b.dept else cmpI a.no b.no

theorem cb_val : ∀ a b : List UInt8, Lib.compareBytes a b = (if bytesLess a b then -1 else if bytesLess b a then 1 else 0)
  | [], [] => rfl
  | [], _ :: _ => rfl
  | _ :: _, [] => rfl
  | a :: x, b :: y => by
    have ih := cb_val x y
    simp only [Lib.compareBytes, bytesLess, Bool.or_eq_true, decide_eq_true_eq, Bool.and_eq_true, beq_iff_eq]
    by_cases h1 : a < b
    · simp [h1]
    · by_cases h2 : b < a
      · have h3 : ¬ a = b := fun e => by subst e; exact h1 h2
        simp [h1, h2, h3]
      · have h3 : a = b := by
          have e1 := UInt8.not_lt.1 h1
          have e2 := UInt8.not_lt.1 h2
          exact UInt8.le_antisymm e2 e1
        subst h3
        simp [UInt8.lt_irrefl, ih]
theorem bl_irrefl : ∀ a : List UInt8, bytesLess a a = false
  | [] => rfl
  | a :: x => by simp [bytesLess, bl_irrefl x]
theorem bl_trans : ∀ a b c : List UInt8, bytesLess a b = true → bytesLess b c = true → bytesLess a c = true
  | [], [], c, h1, _ => by cases h1
  | _, _ :: _, [], _, h2 => by cases h2
  | _ :: _, [], _, h1, _ => by cases h1
  | [], _ :: _, _ :: _, _, _ => rfl
  | a :: x, b :: y, c :: z, h1, h2 => by
    simp only [bytesLess, Bool.or_eq_true, decide_eq_true_eq, Bool.and_eq_true, beq_iff_eq] at h1 h2 ⊢
    rcases h1 with h1 | ⟨e1, h1⟩
    · rcases h2 with h2 | ⟨e2, h2⟩
      · exact .inl (UInt8.lt_trans h1 h2)
      · subst e2; exact .inl h1
    · subst e1
      rcases h2 with h2 | ⟨e2, h2⟩
      · exact .inl h2
      · subst e2; exact .inr ⟨rfl, bl_trans x y z h1 h2⟩
theorem bl_total : ∀ a b : List UInt8, bytesLess a b = false → bytesLess b a = false → a = b
  | [], [], _, _ => rfl
  | [], _ :: _, h1, _ => by cases h1
  | _ :: _, [], _, h2 => by cases h2
  | a :: x, b :: y, h1, h2 => by
    simp only [bytesLess, Bool.or_eq_false_iff, decide_eq_false_iff_not, Bool.and_eq_false_imp, beq_iff_eq] at h1 h2
    have h3 : a = b := UInt8.le_antisymm (UInt8.not_lt.1 h2.1) (UInt8.not_lt.1 h1.1)
    subst h3
    rw [bl_total x y (h1.2 rfl) (h2.2 rfl)]
theorem bl_asymm {a b : List UInt8} (h : bytesLess a b = true) : bytesLess b a = false := by
  cases hq : bytesLess b a with
  | false => rfl
  | true => have := bl_trans a b a h hq; rw [bl_irrefl] at this; cases this

def stLt (a b : St) : Prop := bytesLess a.dept b.dept = true ∨ (a.dept = b.dept ∧ a.no < b.no)
theorem stCmp_lt {a b : St} : stCmp a b < 0 ↔ stLt a b := by
  unfold stCmp stLt cmpI
  rw [cb_val]
  by_cases h1 : bytesLess a.dept b.dept = true
  · simp [h1]
  · have h1' : bytesLess a.dept b.dept = false := by simpa using h1
    by_cases h2 : bytesLess b.dept a.dept = true
    · have : a.dept ≠ b.dept := fun e => by rw [e, bl_irrefl] at h2; cases h2
      simp [h1', h2, this]
    · have h2' : bytesLess b.dept a.dept = false := by simpa using h2
      have h3 := bl_total _ _ h1' h2'
      have e0 : (if bytesLess a.dept b.dept = true then (-1 : Int) else if bytesLess b.dept a.dept = true then 1 else 0) = 0 := by rw [h1', h2']; rfl
      rw [e0, if_neg (by simp), h1', h3]
      simp only [Bool.false_eq_true, false_or, true_and]
      by_cases h4 : a.no < b.no
      · simp [h4]
      · by_cases h5 : b.no < a.no <;> simp [h4, h5]
theorem stLt_irrefl (a : St) : ¬ stLt a a := by
  unfold stLt
  rw [bl_irrefl]
  simp
theorem stLt_trans {a b c : St} (h1 : stLt a b) (h2 : stLt b c) : stLt a c := by
  unfold stLt at *
  rcases h1 with h1 | ⟨e1, h1⟩ <;> rcases h2 with h2 | ⟨e2, h2⟩
  · exact .inl (bl_trans _ _ _ h1 h2)
  · rw [e2] at h1; exact .inl h1
  · rw [← e1] at h2; exact .inl h2
  · exact .inr ⟨e1.trans e2, by omega⟩
theorem stLt_total {a b : St} (h : ¬ stLt a b) (h2 : ¬ stLt b a) : a = b := by
  unfold stLt at *
  simp only [not_or, Bool.not_eq_true, not_and, Int.not_lt] at h h2
  have e := bl_total _ _ h.1 h2.1
  have h3 := h.2 e
  have h4 := h2.2 e.symm
  cases a; cases b
  simp_all
  omega

theorem isNaN_pc (n : Int) : Pc Tryz.prog 153 [.int .i64 n] (· = .bool false) := by
  refine pc_intro (ct_intro Tryz.func153 rfl Tryz.ntmps153 hB153 (by simp) fun h ρ w => goB (N := 6) Tryz.ntmps153 300 ?_)
  simp only [go_sem]
  exact aret [2] rfl ⟨rfl, rfl⟩
theorem icompare_pc (a b : Int) : Pc Tryz.prog 97 [.int .i64 a, .int .i64 b] (· = .int .i64 (cmpI a b)) := by
  refine pc_intro (ct_intro Tryz.func97 rfl Tryz.ntmps97 hB97 (by simp) fun h ρ w => goB (N := 20) Tryz.ntmps97 300 ?_)
  simp only [go_sem]
  refine pcall1 (isNaN_pc a) rfl (N := 20) Tryz.ntmps97 rfl (goB (N := 20) Tryz.ntmps97 300 ?_)
  simp only [go_sem]
  refine pcall1 (isNaN_pc b) rfl (N := 20) Tryz.ntmps97 rfl (goB (N := 20) Tryz.ntmps97 300 ?_)
  by_cases h1 : a < b
  · have d1 : decide (a < b) = true := by simpa using h1
    simp only [go_sem, d1]
    exact aret [4] rfl ⟨by simp [resV, Av.get, Av.put, cmpI, h1], rfl⟩
  · have d1 : decide (a < b) = false := by simpa using h1
    by_cases h2 : a > b
    · have d2 : decide (a > b) = true := by simpa using h2
      simp only [go_sem, d1, d2]
      exact aret [4] rfl ⟨by simp [resV, Av.get, Av.put, cmpI, h1, h2], rfl⟩
    · have d2 : decide (a > b) = false := by simpa using h2
      simp only [go_sem, d1, d2]
      exact aret [4] rfl ⟨by simp [resV, Av.get, Av.put, cmpI, h1, h2], rfl⟩
theorem or_pc (a b : Int) : Pc Tryz.prog 95 [.fz 1 [.int .i64 a, .int .i64 b]] (· = .int .i64 (if a ≠ 0 then a else b)) := by
  refine pc_intro (ct_intro Tryz.func95 rfl Tryz.ntmps95 hB95 (by simp) fun h ρ w => goB (N := 18) Tryz.ntmps95 300 ?_)
  simp only [go_sem]
  refine aenter (around ?_)
  by_cases h1 : a = 0
  · have d1 : (a != 0) = false := by simpa using h1
    refine goB (N := 18) Tryz.ntmps95 300 ?_
    simp only [go_sem, d1]
    refine aagain (around ?_)
    by_cases h2 : b = 0
    · have d2 : (b != 0) = false := by simpa using h2
      refine goB (N := 18) Tryz.ntmps95 300 ?_
      simp only [go_sem, d2]
      refine aagain (around ?_)
      refine goB (N := 18) Tryz.ntmps95 300 ?_
      simp only [go_sem]
      exact aret [2] rfl ⟨by simp [resV, Av.get, Av.put, h1, h2], rfl⟩
    · have d2 : (b != 0) = true := by simpa using h2
      refine goB (N := 18) Tryz.ntmps95 300 ?_
      simp only [go_sem, d2]
      exact aret [2] rfl ⟨by simp [resV, Av.get, Av.put, h1], rfl⟩
  · have d1 : (a != 0) = true := by simpa using h1
    refine goB (N := 18) Tryz.ntmps95 300 ?_
    simp only [go_sem, d1]
    exact aret [2] rfl ⟨by simp [resV, Av.get, Av.put, h1], rfl⟩
theorem byStamp_pc (a b : St) : Pc Tryz.prog 42 [stA a, stA b] (· = .int .i64 (stCmp a b)) := by
  simp only [stA]
  refine pc_intro (ct_intro Tryz.func42 rfl Tryz.ntmps42 hB42 (by simp) fun h ρ w => goB (N := 17) Tryz.ntmps42 300 ?_)
  simp only [go_sem]
  refine adraw [.int .i64 (Lib.compareBytes a.dept b.dept), .int .i64 (cmpI a.no b.no), .int .i64 (stCmp a b)] mixed (by decide) (N := 17) Tryz.ntmps42 (by decide) 100 ?_
  simp only [go_sem]
  repeat refine And.intro (by first | exact (scompare_pc a.dept b.dept).at | exact (icompare_pc a.no b.no).at | exact (or_pc _ _).at | rfl) ?_
  refine goB (N := 17) Tryz.ntmps42 300 ?_
  simp only [go_sem]
  exact aret [4] rfl ⟨rfl, rfl⟩
theorem stampOrder_pc (a b : St) : Pc Tryz.prog 78 [stA a, stA b] (· = .int .i64 (stCmp a b)) := by
  simp only [stA]
  refine pc_intro (ct_intro Tryz.func78 rfl Tryz.ntmps78 hB78 (by simp) fun h ρ w => goB (N := 17) Tryz.ntmps78 300 ?_)
  simp only [go_sem]
  refine adraw [.int .i64 (Lib.compareBytes a.dept b.dept), .int .i64 (cmpI a.no b.no), .int .i64 (stCmp a b)] mixed (by decide) (N := 17) Tryz.ntmps78 (by decide) 100 ?_
  simp only [go_sem]
  repeat refine And.intro (by first | exact (scompare_pc a.dept b.dept).at | exact (icompare_pc a.no b.no).at | exact (or_pc _ _).at | rfl) ?_
  refine goB (N := 17) Tryz.ntmps78 300 ?_
  simp only [go_sem]
  exact aret [4] rfl ⟨rfl, rfl⟩
end Go.Proofs.YtkomcdohejibmaaGreatDoor
/- Searching lists of stamps and deeds by a function. Own work of this seat. -/
set_option maxRecDepth 100000
set_option linter.unusedSimpArgs false
set_option linter.unusedVariables false
namespace Go.Proofs.YtkomcdohejibmaaGreatDoor
open Go Go.Av Go.RowKit

theorem nr1_caps {caps : List AV} (hc : caps.all frozen0 = true) : caps.all nr1 = true := by
  rw [List.all_eq_true] at hc ⊢
  intro x hx
  have := hc x hx
  cases x <;> first | exact frozen_of0 this | (simp [frozen0] at this)
theorem nr1_cons {a : AV} {caps : List AV} (ha : nr1 a = true) (hc : caps.all frozen0 = true) : (a :: caps).all nr1 = true := by
  simp only [List.all_cons, ha, nr1_caps hc, Bool.and_self]
def idxP {α : Type} (p : α → Bool) (l : List α) : Int := match l.findIdx? p with
  | some i => i
  | none => -1
theorem idxP_none {α : Type} {p : α → Bool} {l : List α} (h : ∀ j, (hj : j < l.length) → p l[j] = false) : idxP p l = -1 := by
  have : l.findIdx? p = none := by
    rw [List.findIdx?_eq_none_iff]
    intro x hx
    obtain ⟨j, hj, rfl⟩ := List.getElem_of_mem hx
    exact h j hj
  simp [idxP, this]
theorem idxP_some {α : Type} {p : α → Bool} {l : List α} {i : Nat} (hi : i < l.length) (hp : p l[i] = true) (h : ∀ j, (hj : j < i) → p (l[j]'(by omega)) = false) : idxP p l = i := by
  have : l.findIdx? p = some i := by
    rw [List.findIdx?_eq_some_iff_getElem]
    exact ⟨hi, hp, fun j hj => by simpa using h j hj⟩
  simp [idxP, this]
theorem idxP_any {α : Type} {p : α → Bool} {l : List α} : decide (idxP p l ≥ 0) = l.any p := by
  unfold idxP
  cases hq : l.findIdx? p with
  | none =>
    rw [List.findIdx?_eq_none_iff] at hq
    have : l.any p = false := by rw [List.any_eq_false]; intro x hx; simp [hq x hx]
    simp [this]
  | some i =>
    rw [List.findIdx?_eq_some_iff_getElem] at hq
    obtain ⟨hi, hp, _⟩ := hq
    have : l.any p = true := List.any_eq_true.2 ⟨_, List.getElem_mem hi, hp⟩
    simp [this]

theorem idxSt_pc (f : FuncId) (caps : List AV) (hc : caps.all frozen0 = true) (p : St → Bool) (l : List St) (hl : l.length < 100000000) (hf : ∀ x ∈ l, Pc Tryz.prog f (stA x :: caps) (· = .bool (p x))) :
    Pc Tryz.prog 141 [.fz 2 (l.map stA), .fn (.func f) caps] (· = .int .i64 (idxP p l)) := by
  refine pc_intro (ct_intro Tryz.func141 rfl Tryz.ntmps141 hB141 (by simp) fun h ρ w => goB (N := 19) Tryz.ntmps141 300 ?_)
  simp only [go_sem]
  refine aloop (ι := Nat) (fun i => l.length - i) (fun i => [(8, .int .i64 i), (7, .int .i64 l.length), (1, .fn (.func f) caps), (0, .fz 2 (l.map stA))]) (fun _ => []) (fun i => i ≤ l.length ∧ ∀ j, (hj : j < l.length) → j < i → p l[j] = false) 0 ⟨by simp, fun j _ h => absurd h (by omega)⟩ ?_ ?_
  · refine Shift.weak ?_
    simp only [wk, go_sem, List.length_map]
  · rintro i ⟨g1, g2⟩ J hJ
    by_cases gi : i < l.length
    · have di : decide ((i : Int) < (l.length : Int)) = true := by simp; omega
      have hfx := hf _ (List.getElem_mem gi)
      simp only [stA] at hfx
      refine goB (N := 19) Tryz.ntmps141 300 ?_
      simp only [go_sem, di, stA_get l i gi, List.length_map]
      repeat refine And.intro (by first | omega | rfl | (simp; omega)) ?_
      cases hp : p l[i] with
      | true =>
        rw [hp] at hfx
        refine pcall1 hfx (nr1_cons rfl hc) (N := 19) Tryz.ntmps141 rfl (goB (N := 19) Tryz.ntmps141 300 ?_)
        simp only [go_sem]
        exact aret [4] rfl ⟨congrArg _ (idxP_some gi hp fun j hj => g2 j (by omega) hj).symm, rfl⟩
      | false =>
        rw [hp] at hfx
        refine pcall1 hfx (nr1_cons rfl hc) (N := 19) Tryz.ntmps141 rfl (goB (N := 19) Tryz.ntmps141 300 ?_)
        simp only [go_sem]
        repeat refine And.intro (by first | omega | rfl) ?_
        rw [show (i : Int) + 1 = ((i + 1 : Nat) : Int) by omega]
        refine ainv (hJ (i + 1) ⟨by omega, fun j hj h => ?_⟩ (by omega)) (Shift.weak ?_)
        · rcases Nat.lt_or_ge j i with h2 | h2
          · exact g2 j hj h2
          · have : j = i := by omega
            subst this; exact hp
        · simp only [wk, go_sem]
    · have di : decide ((i : Int) < (l.length : Int)) = false := by simp; omega
      refine goB (N := 19) Tryz.ntmps141 300 ?_
      simp only [go_sem, di]
      exact aret [4] rfl ⟨congrArg _ (idxP_none fun j hj => g2 j hj (by omega)).symm, rfl⟩
theorem anySt_pc (f : FuncId) (caps : List AV) (hc : caps.all frozen0 = true) (p : St → Bool) (l : List St) (hl : l.length < 100000000) (hf : ∀ x ∈ l, Pc Tryz.prog f (stA x :: caps) (· = .bool (p x))) :
    Pc Tryz.prog 90 [.fz 2 (l.map stA), .fn (.func f) caps] (· = .bool (l.any p)) := by
  refine pc_intro (ct_intro Tryz.func90 rfl Tryz.ntmps90 hB90 (by simp) fun h ρ w => goB (N := 9) Tryz.ntmps90 300 ?_)
  simp only [go_sem]
  refine pcall1 (idxSt_pc f caps hc p l hl hf) (by simp only [List.all_cons, List.all_nil, nr1, Av.frozen, hc, Bool.and_self]) (N := 9) Tryz.ntmps90 rfl (goB (N := 9) Tryz.ntmps90 300 ?_)
  simp only [go_sem]
  refine aret [4] rfl ⟨?_, rfl⟩
  simp only [resV, Av.get, Av.put, cond_true, beq_self_eq_true]
  rw [← idxP_any]

theorem idxDe_pc (f : FuncId) (caps : List AV) (hc : caps.all frozen0 = true) (p : De → Bool) (l : List De) (hl : l.length < 100000000) (hf : ∀ x ∈ l, Pc Tryz.prog f (deA x :: caps) (· = .bool (p x))) :
    Pc Tryz.prog 121 [.fz 7 (l.map deA), .fn (.func f) caps] (· = .int .i64 (idxP p l)) := by
  refine pc_intro (ct_intro Tryz.func121 rfl Tryz.ntmps121 hB121 (by simp) fun h ρ w => goB (N := 19) Tryz.ntmps121 300 ?_)
  simp only [go_sem]
  refine aloop (ι := Nat) (fun i => l.length - i) (fun i => [(8, .int .i64 i), (7, .int .i64 l.length), (1, .fn (.func f) caps), (0, .fz 7 (l.map deA))]) (fun _ => []) (fun i => i ≤ l.length ∧ ∀ j, (hj : j < l.length) → j < i → p l[j] = false) 0 ⟨by simp, fun j _ h => absurd h (by omega)⟩ ?_ ?_
  · refine Shift.weak ?_
    simp only [wk, go_sem, List.length_map]
  · rintro i ⟨g1, g2⟩ J hJ
    by_cases gi : i < l.length
    · have di : decide ((i : Int) < (l.length : Int)) = true := by simp; omega
      have hfx := hf _ (List.getElem_mem gi)
      simp only [deA] at hfx
      refine goB (N := 19) Tryz.ntmps121 300 ?_
      simp only [go_sem, di, deA_get l i gi, List.length_map]
      repeat refine And.intro (by first | omega | rfl | (simp; omega)) ?_
      cases hp : p l[i] with
      | true =>
        rw [hp] at hfx
        refine pcall1 hfx (nr1_cons rfl hc) (N := 19) Tryz.ntmps121 rfl (goB (N := 19) Tryz.ntmps121 300 ?_)
        simp only [go_sem]
        exact aret [4] rfl ⟨congrArg _ (idxP_some gi hp fun j hj => g2 j (by omega) hj).symm, rfl⟩
      | false =>
        rw [hp] at hfx
        refine pcall1 hfx (nr1_cons rfl hc) (N := 19) Tryz.ntmps121 rfl (goB (N := 19) Tryz.ntmps121 300 ?_)
        simp only [go_sem]
        repeat refine And.intro (by first | omega | rfl) ?_
        rw [show (i : Int) + 1 = ((i + 1 : Nat) : Int) by omega]
        refine ainv (hJ (i + 1) ⟨by omega, fun j hj h => ?_⟩ (by omega)) (Shift.weak ?_)
        · rcases Nat.lt_or_ge j i with h2 | h2
          · exact g2 j hj h2
          · have : j = i := by omega
            subst this; exact hp
        · simp only [wk, go_sem]
    · have di : decide ((i : Int) < (l.length : Int)) = false := by simp; omega
      refine goB (N := 19) Tryz.ntmps121 300 ?_
      simp only [go_sem, di]
      exact aret [4] rfl ⟨congrArg _ (idxP_none fun j hj => g2 j hj (by omega)).symm, rfl⟩
theorem anyDe_pc (f : FuncId) (caps : List AV) (hc : caps.all frozen0 = true) (p : De → Bool) (l : List De) (hl : l.length < 100000000) (hf : ∀ x ∈ l, Pc Tryz.prog f (deA x :: caps) (· = .bool (p x))) :
    Pc Tryz.prog 80 [.fz 7 (l.map deA), .fn (.func f) caps] (· = .bool (l.any p)) := by
  refine pc_intro (ct_intro Tryz.func80 rfl Tryz.ntmps80 hB80 (by simp) fun h ρ w => goB (N := 9) Tryz.ntmps80 300 ?_)
  simp only [go_sem]
  refine pcall1 (idxDe_pc f caps hc p l hl hf) (by simp only [List.all_cons, List.all_nil, nr1, Av.frozen, hc, Bool.and_self]) (N := 9) Tryz.ntmps80 rfl (goB (N := 9) Tryz.ntmps80 300 ?_)
  simp only [go_sem]
  refine aret [4] rfl ⟨?_, rfl⟩
  simp only [resV, Av.get, Av.put, cond_true, beq_self_eq_true]
  rw [← idxP_any]
end Go.Proofs.YtkomcdohejibmaaGreatDoor
