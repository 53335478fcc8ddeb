/- The interpreter's words, told to the walk's simp set once. Own work of this seat. -/
import Derived.Test.YtkfpiadgjbhcpaaGreatDoorE15
import Derived.Test.YtkfpiadgjbhcpaaGreatDoorE21
set_option linter.unusedSimpArgs false
set_option linter.unusedVariables false
namespace Go.Proofs.YtkfpiadgjbhcpaaGreatDoor
open Go Go.Av Go.RowKit
attribute [go_sem ↓] Go.Av.br_true Go.Av.br_false Go.Av.dbr_true Go.Av.dbr_false Go.Av.dbri_true Go.Av.dbri_false Go.Av.dbrg_true Go.Av.dbrg_false
attribute [go_sem] Go.Av.run Go.Av.cont Go.Av.br Go.Av.dbr Go.Av.dx Go.Av.dxc Go.Av.dgrd Go.Av.dyld Go.Av.dres Go.Av.dcall Go.Av.calm Go.Av.fieldPlace? Go.Av.allHas Go.Av.step1 Go.Av.opN Go.Av.grdN Go.Av.resN Go.Av.condN Go.Av.exitN Go.Av.stopN Go.Av.exitIt Go.Av.dOk Go.Av.xop Go.Av.xbin Go.Av.xint Go.Av.xarith Go.Av.xstr Go.Av.xbool Go.Av.xpick Go.Av.xnot Go.Av.xneg Go.Av.xextract Go.Av.xpart Go.Av.xpartOk Go.Av.xindex Go.Av.xfieldF Go.Av.fieldD Go.Av.xnew Go.Av.xbox Go.Av.xalloc Go.Av.xfieldAddr Go.Av.xptrAddIf Go.Av.xindexAddr Go.Av.xloadC Go.Av.xload Go.Av.putCells Go.Av.reElem Go.Av.xstoreB Go.Av.xstore Go.Av.xconv Go.Av.xtext Go.Av.xlen Go.Av.xlen2 Go.Av.xcall Go.Av.xfill Go.Av.xbuild Go.Av.cut Go.Av.rep Go.Av.xbuildSlice Go.Av.xbuildSliceD Go.Av.isRow Go.Av.elemD Go.Av.isU8 Go.Av.ev Go.Av.evs Go.Av.evp Go.Av.put Go.Av.get Go.Av.ofConst Go.Av.yldD Go.Av.yldV Go.Av.notBool_undef Go.Av.args0 Go.Av.cellsOf cond_true cond_false decide_true decide_false decide_eq_true_eq decide_eq_false_iff_not List.getElem?_cons_zero List.getElem?_cons_succ List.getElem?_nil List.getD_cons_zero List.getD_cons_succ List.getD_nil List.set_cons_zero List.set_cons_succ List.length_cons List.length_nil List.cons_append List.nil_append List.append_nil List.all_cons List.all_nil List.map_cons List.map_nil List.take_succ_cons List.take_zero List.drop_succ_cons List.drop_zero Bool.and_true Bool.true_and Bool.and_self Bool.and_false Bool.false_and Go.Av.one Go.Av.frozen beq_self_eq_true true_and and_true forall_const false_implies implies_true and_self Option.map_some Option.map_none Nat.zero_add Nat.add_zero Nat.zero_mul Nat.mul_one Nat.one_mul Int.toNat_zero ne_eq not_false_eq_true not_true_eq_false Bool.true_eq_false Bool.false_eq_true List.toList_toArray Go.Av.inr Go.Av.byteOf Go.Av.isByte decide_eq_decide Bool.not_true Bool.not_false Bool.not_eq_true' Bool.or_true Bool.true_or Bool.or_false Bool.false_or ge_iff_le gt_iff_lt and_assoc Bool.decide_eq_true beq_iff_eq beq_eq_false_iff_ne bne_iff_ne bne_self_eq_false if_true if_false Bool.and_eq_true Bool.or_eq_true Bool.and_eq_false_imp Bool.or_eq_false_iff Bool.not_eq_false' Go.Av.has Option.isSome_some Option.isSome_none Int.toNat_natCast Int.cast_ofNat_Int List.length_append Go.Av.xapp2 Go.Av.xapp Go.Av.xappS Go.Av.xappD Go.Av.xappB Go.Av.notInt Go.Av.srcOf Go.Av.srcB Go.Av.byteAV Go.Av.splice' Go.Av.xcut Go.Av.xcutS Go.Av.xcutF Go.Av.xcutB Go.Av.xcutN Go.Av.xcut0 Go.Av.cutL Go.Av.loOf Go.Av.hiOf Go.Av.evo Go.Av.xmake Go.Av.zelem Go.Av.xmax Go.Av.xcopy2 Go.Av.xcopyS Go.Av.xcopyB Go.Av.xnil Go.Av.xcut3 Go.Av.ixOf Go.Av.xclear2 Go.Av.xclearB List.getElem?_toArray Go.Av.xbin2 Go.Av.xnileq Go.Av.xempty Go.Av.xmkmap Go.Av.xmput Go.Av.xmputB Go.Av.xmputF Go.Av.isKey Go.Av.keyEq Go.Av.mfind Go.Av.xbin3 Go.Av.xeqs Go.Av.xeqop Go.Av.eqFs Go.Av.eqFN Go.Av.eqF1 Go.Av.bothB Go.Av.leafEq Go.Av.xlook Go.Av.xlookB Go.Av.xlookF Go.Av.xbytes Go.Av.beq_c_n Go.Av.beq_n_c Go.Av.bne_c_n Go.Av.bne_n_c Go.Av.one_nil Go.Av.dxi Go.Av.dxic Go.Av.dbri Go.Av.rix Go.Av.dck Go.Av.reader Go.Av.blind Go.Av.opOk Go.Av.refOk Go.Op.operands Go.Call.operands List.contains_cons List.contains_nil Go.Av.dxg Go.Av.dxgc Go.Av.dbrg Go.Av.pck Go.Av.putD List.lookup_cons List.lookup_nil Go.Av.xboxF Go.Av.xbox2 Go.Av.keyEqS Go.Av.isKeyS Go.Av.mfindS Go.Av.xputS Go.Av.xmputS Go.Av.xlookS Go.Av.xmentryF Go.Av.xmentryB Go.Av.xmentry Go.Av.xestoreB Go.Av.xestore Go.Av.xrangeB Go.Av.xrange Go.Av.xentryB Go.Av.xentryI Go.Av.xentry Go.Av.frozen0 Go.Av.isI Go.Av.xappZ Go.Av.xcap Go.Av.xcap2 ts2 tb2 zv2 zk2 za2 Tryz.underlying2 ts3 tb3 zv3 zk3 za3 Tryz.underlying3 ts4 tb4 zv4 zk4 za4 Tryz.underlying4 ts5 tb5 zv5 zk5 za5 Tryz.underlying5 ts9 tb9 zv9 zk9 za9 Tryz.underlying9 ts10 tb10 zv10 zk10 za10 Tryz.underlying10 ts21 tb21 zv21 zk21 za21 Tryz.underlying21 ts22 tb22 zv22 zk22 za22 Tryz.underlying22 ts24 tb24 zv24 zk24 za24 Tryz.underlying24 ts25 tb25 zv25 zk25 za25 Tryz.underlying25 ts26 tb26 zv26 zk26 za26 Tryz.underlying26 ts27 tb27 zv27 zk27 za27 Tryz.underlying27 ts28 tb28 zv28 zk28 za28 Tryz.underlying28 ts29 tb29 zv29 zk29 za29 Tryz.underlying29 ts30 tb30 zv30 zk30 za30 Tryz.underlying30 ts33 tb33 zv33 zk33 za33 Tryz.underlying33 ts34 tb34 zv34 zk34 za34 Tryz.underlying34 ts35 tb35 zv35 zk35 za35 Tryz.underlying35 ts36 tb36 zv36 zk36 za36 Tryz.underlying36 ts37 tb37 zv37 zk37 za37 Tryz.underlying37 ts40 tb40 zv40 zk40 za40 Tryz.underlying40 ts41 tb41 zv41 zk41 za41 Tryz.underlying41 ts54 tb54 zv54 zk54 za54 Tryz.underlying54 ts57 tb57 zv57 zk57 za57 Tryz.underlying57 ts58 tb58 zv58 zk58 za58 Tryz.underlying58 ts59 tb59 zv59 zk59 za59 Tryz.underlying59 ts60 tb60 zv60 zk60 za60 Tryz.underlying60 ts61 tb61 zv61 zk61 za61 Tryz.underlying61 ts62 tb62 zv62 zk62 za62 Tryz.underlying62 ts63 tb63 zv63 zk63 za63 Tryz.underlying63 ts66 tb66 zv66 zk66 za66 Tryz.underlying66 ts67 tb67 zv67 zk67 za67 Tryz.underlying67 ts69 tb69 zv69 zk69 za69 Tryz.underlying69 ts77 tb77 zv77 zk77 za77 Tryz.underlying77 ts78 tb78 zv78 zk78 za78 Tryz.underlying78 ts97 tb97 zv97 zk97 za97 Tryz.underlying97 ts101 tb101 zv101 zk101 za101 Tryz.underlying101 ts102 tb102 zv102 zk102 za102 Tryz.underlying102 ts130 tb130 zv130 zk130 za130 Tryz.underlying130 ts131 tb131 zv131 zk131 za131 Tryz.underlying131 ts132 tb132 zv132 zk132 za132 Tryz.underlying132 ts134 tb134 zv134 zk134 za134 Tryz.underlying134 ts174 tb174 zv174 zk174 za174 Tryz.underlying174 ts175 tb175 zv175 zk175 za175 Tryz.underlying175 ts176 tb176 zv176 zk176 za176 Tryz.underlying176 ts177 tb177 zv177 zk177 za177 Tryz.underlying177 ts181 tb181 zv181 zk181 za181 Tryz.underlying181 ts182 tb182 zv182 zk182 za182 Tryz.underlying182 ts183 tb183 zv183 zk183 za183 Tryz.underlying183 ts186 tb186 zv186 zk186 za186 Tryz.underlying186 ts189 tb189 zv189 zk189 za189 Tryz.underlying189 ts191 tb191 zv191 zk191 za191 Tryz.underlying191 ts192 tb192 zv192 zk192 za192 Tryz.underlying192 ts198 tb198 zv198 zk198 za198 Tryz.underlying198 ts203 tb203 zv203 zk203 za203 Tryz.underlying203 ts205 tb205 zv205 zk205 za205 Tryz.underlying205 ts238 tb238 zv238 zk238 za238 Tryz.underlying238 ts247 tb247 zv247 zk247 za247 Tryz.underlying247 ts248 tb248 zv248 zk248 za248 Tryz.underlying248 ts249 tb249 zv249 zk249 za249 Tryz.underlying249 ts250 tb250 zv250 zk250 za250 Tryz.underlying250 ts251 tb251 zv251 zk251 za251 Tryz.underlying251 ts258 tb258 zv258 zk258 za258 Tryz.underlying258 ts260 tb260 zv260 zk260 za260 Tryz.underlying260 ts265 tb265 zv265 zk265 za265 Tryz.underlying265 ts293 tb293 zv293 zk293 za293 Tryz.underlying293 ts295 tb295 zv295 zk295 za295 Tryz.underlying295 ts298 tb298 zv298 zk298 za298 Tryz.underlying298 ts312 tb312 zv312 zk312 za312 Tryz.underlying312 ts333 tb333 Tryz.underlying333 ts343 tb343 zv343 zk343 za343 Tryz.underlying343 ts344 tb344 zv344 zk344 za344 Tryz.underlying344 ts346 tb346 zv346 zk346 za346 Tryz.underlying346 ts347 tb347 zv347 zk347 za347 Tryz.underlying347 ts348 tb348 zv348 zk348 za348 Tryz.underlying348 ts350 tb350 zv350 zk350 za350 Tryz.underlying350 ts358 tb358 Tryz.underlying358 ts360 tb360 zv360 zk360 za360 Tryz.underlying360 ts361 tb361 zv361 zk361 za361 Tryz.underlying361 ts362 tb362 Tryz.underlying362 ts367 tb367 zv367 zk367 za367 Tryz.underlying367 ts368 tb368 zv368 zk368 za368 Tryz.underlying368 ts369 tb369 zv369 zk369 za369 Tryz.underlying369 ts370 tb370 zv370 zk370 za370 Tryz.underlying370 ts371 tb371 zv371 zk371 za371 Tryz.underlying371 ts372 tb372 zv372 zk372 za372 Tryz.underlying372 ts373 tb373 zv373 zk373 za373 Tryz.underlying373 ts374 tb374 zv374 zk374 za374 Tryz.underlying374 ts376 tb376 zv376 zk376 za376 Tryz.underlying376 ts377 tb377 zv377 zk377 za377 Tryz.underlying377 ts382 tb382 zv382 zk382 za382 Tryz.underlying382 ts383 tb383 zv383 zk383 za383 Tryz.underlying383 ts384 tb384 Tryz.underlying384 ts385 tb385 Tryz.underlying385
attribute [go_sem] Nat.reduceAdd Nat.reduceMul Nat.reduceSub Nat.reduceBEq Nat.reduceLT Nat.reduceLeDiff reduceIte reduceCtorEq Int.reduceToNat Int.reduceLE Int.reduceLT Int.reduceNe Int.reduceMul Int.reduceAdd Int.reduceSub Int.reduceDiv Int.reduceMod Int.reduceEq Int.reduceGE Int.reduceGT Int.reduceNeg Int.reduceBEq Int.reduceBNe Nat.reduceEqDiff
set_option maxRecDepth 100000
def digI (n : Int) : Bool := decide (n ≥ 48) && decide (n ≤ 57)
def capI (n : Int) : Bool := decide (n ≥ 65) && decide (n ≤ 90)

theorem isDigit_pc (n : Int) : Pc Tryz.prog 218 [.int .u8 n] (· = .bool (digI n)) := by
  refine pc_intro (ct_intro Tryz.func218 rfl Tryz.ntmps218 hB218 (by simp) fun h ρ w => go (N := 9) Tryz.ntmps218 200 ?_)
  by_cases h1 : n ≥ 48
  · have d1 : decide (n ≥ 48) = true := by simpa using h1
    simp only [go_sem, d1]
    exact aret [2] rfl ⟨by simp [resV, Av.get, digI, h1], rfl⟩
  · have d1 : decide (n ≥ 48) = false := by simpa using h1
    simp only [go_sem, d1]
    exact aret [2] rfl ⟨by simp [resV, Av.get, digI, h1], rfl⟩

theorem isCapital_pc (n : Int) : Pc Tryz.prog 219 [.int .u8 n] (· = .bool (capI n)) := by
  refine pc_intro (ct_intro Tryz.func219 rfl Tryz.ntmps219 hB219 (by simp) fun h ρ w => go (N := 9) Tryz.ntmps219 200 ?_)
  by_cases h1 : n ≥ 65
  · have d1 : decide (n ≥ 65) = true := by simpa using h1
    simp only [go_sem, d1]
    exact aret [2] rfl ⟨by simp [resV, Av.get, capI, h1], rfl⟩
  · have d1 : decide (n ≥ 65) = false := by simpa using h1
    simp only [go_sem, d1]
    exact aret [2] rfl ⟨by simp [resV, Av.get, capI, h1], rfl⟩

def okB (c : UInt8) : Bool := !(decide ((c.toNat : Int) < 32)) && !(decide ((c.toNat : Int) > 126))
def plainL (s : List UInt8) : Bool := s.all okB && (!Lib.hasPrefix s [32] && (!Lib.hasSuffix s [32] && !Lib.contains s [32, 32]))

theorem all_take_succ {α : Type} {p : α → Bool} {s : List α} {i : Nat} (h : i < s.length) (h1 : (s.take i).all p = true) (h2 : p s[i] = true) : (s.take (i + 1)).all p = true := by
  rw [List.take_succ_eq_append_getElem h, List.all_append, h1]
  simpa using h2
theorem all_false_at {α : Type} {p : α → Bool} {s : List α} {i : Nat} (h : i < s.length) (h2 : p s[i] = false) : s.all p = false := by
  rw [List.all_eq_false]
  exact ⟨s[i], List.getElem_mem h, by simp [h2]⟩

theorem plain_pch {S : Std} (hS : LibOk S) (s : List UInt8) (hs : s.length < 1000000) : PcH Tryz.prog S 170 [.str s] (· = .bool (plainL s)) := by
  refine pch_intro (cth_intro Tryz.func170 rfl Tryz.ntmps170 hB170 (by simp) fun h ρ w hg => go (N := 33) Tryz.ntmps170 200 ?_)
  simp only [go_sem]
  refine aloop (ι := Nat) (fun i => s.length - i) (fun i => [(6, .int .i64 i), (5, .int .i64 s.length), (0, .str s)]) (fun _ => []) (fun i => i ≤ s.length ∧ (s.take i).all okB = true) 0 ⟨by omega, by simp⟩ ?_ ?_
  · refine Shift.weak ?_
    simp only [wk, go_sem]
  · rintro i ⟨g1, g2⟩ J hJ
    refine go (N := 33) Tryz.ntmps170 200 ?_
    by_cases hi : (i : Int) < s.length
    · have hil : i < s.length := by omega
      have hgd : s.getD i 0 = s[i] := by simp [List.getD, hil]
      by_cases hc1 : ((s[i].toNat : Int) < 32)
      · have d1 : decide ((s[i].toNat : Int) < 32) = true := by simpa using hc1
        simp only [go_sem, hi, hgd, d1]
        refine ⟨by omega, aret [2] rfl ⟨?_, rfl⟩⟩
        simp [resV, Av.get, plainL, all_false_at hil (p := okB) (by simp [okB]; omega)]
      · have d1 : decide ((s[i].toNat : Int) < 32) = false := by simpa using hc1
        by_cases hc2 : ((s[i].toNat : Int) > 126)
        · have d2 : decide ((s[i].toNat : Int) > 126) = true := by simpa using hc2
          simp only [go_sem, hi, hgd, d1, d2]
          refine ⟨by omega, by omega, aret [2] rfl ⟨?_, rfl⟩⟩
          simp [resV, Av.get, plainL, all_false_at hil (p := okB) (by simp [okB]; omega)]
        · have d2 : decide ((s[i].toNat : Int) > 126) = false := by simpa using hc2
          simp only [go_sem, hi, hgd, d1, d2]
          rw [show (i : Int) + 1 = ((i + 1 : Nat) : Int) by omega]
          repeat refine And.intro (by omega) ?_
          refine ainv (hJ (i + 1) ⟨by omega, all_take_succ hil g2 (by simp [okB]; omega)⟩ (by omega)) (Shift.weak ?_)
          simp only [wk, go_sem]
    · simp only [go_sem, hi]
      have hall : s.all okB = true := by rw [← g2, List.take_of_length_le (by omega)]
      refine pcall1 (hasPrefix_pc s [32]) rfl (N := 33) Tryz.ntmps170 rfl (go (N := 33) Tryz.ntmps170 200 ?_)
      cases e1 : Lib.hasPrefix s [32] with
      | true =>
        simp only [go_sem]
        refine aret [2] rfl ⟨?_, rfl⟩
        simp [resV, Av.get, plainL, e1]
      | false =>
        simp only [go_sem]
        refine pcall1 (hasSuffix_pc s [32] (by omega)) rfl (N := 33) Tryz.ntmps170 rfl (go (N := 33) Tryz.ntmps170 200 ?_)
        cases e2 : Lib.hasSuffix s [32] with
        | true =>
          simp only [go_sem]
          refine aret [2] rfl ⟨?_, rfl⟩
          simp [resV, Av.get, plainL, e2]
        | false =>
          simp only [go_sem]
          refine pcallH1 hg (contains_pch hS s [32, 32] (by omega)) rfl (N := 33) Tryz.ntmps170 rfl (go (N := 33) Tryz.ntmps170 200 ?_)
          simp only [go_sem]
          refine aret [2] rfl ⟨?_, rfl⟩
          simp [resV, Av.get, plainL, e1, e2, hall]

/-- one byte of a proper string -/
def okP (o : List UInt8) (c : UInt8) : Bool := capI c.toNat || (digI c.toNat || (((c.toNat : Int) == 32) || !(decide (Lib.indexByte o c < 0))))
def properL (s : List UInt8) (most : Int) (o : List UInt8) : Bool :=
  !(decide ((s.length : Int) < 1)) && (!(decide ((s.length : Int) > most)) && (capI (s.getD 0 0).toNat && (plainL s && s.all (okP o))))

theorem proper_pch {S : Std} (hS : LibOk S) (s : List UInt8) (most : Int) (o : List UInt8) (hs : s.length < 1000000) : PcH Tryz.prog S 271 [.str s, .int .i64 most, .str o] (· = .bool (properL s most o)) := by
  refine pch_intro (cth_intro Tryz.func271 rfl Tryz.ntmps271 hB271 (by simp) fun h ρ w hg => go (N := 60) Tryz.ntmps271 300 ?_)
  by_cases h1 : (s.length : Int) < 1
  · have d1 : decide ((s.length : Int) < 1) = true := by simpa using h1
    simp only [go_sem, d1]
    exact aret [6] rfl ⟨by simp [resV, Av.get, properL, h1], rfl⟩
  have d1 : decide ((s.length : Int) < 1) = false := by simpa using h1
  by_cases h2 : (s.length : Int) > most
  · have d2 : decide ((s.length : Int) > most) = true := by simpa using h2
    simp only [go_sem, d1, d2]
    exact aret [6] rfl ⟨by simp [resV, Av.get, properL, h2], rfl⟩
  have d2 : decide ((s.length : Int) > most) = false := by simpa using h2
  simp only [go_sem, d1, d2]
  have hpos : 0 < s.length := by omega
  refine ⟨by omega, ?_⟩
  refine pcall1 (isCapital_pc _) rfl (N := 60) Tryz.ntmps271 rfl (go (N := 60) Tryz.ntmps271 300 ?_)
  cases e1 : capI (s.getD 0 0).toNat with
  | false =>
    simp only [go_sem]
    exact aret [6] rfl ⟨by simp only [resV, Av.get, properL, e1]; simp, rfl⟩
  | true =>
  simp only [go_sem]
  refine pcallH1 hg (plain_pch hS s hs) rfl (N := 60) Tryz.ntmps271 rfl (go (N := 60) Tryz.ntmps271 300 ?_)
  cases e2 : plainL s with
  | false =>
    simp only [go_sem]
    exact aret [6] rfl ⟨by simp only [resV, Av.get, properL, e2]; simp, rfl⟩
  | true =>
  simp only [go_sem]
  have hval : properL s most o = s.all (okP o) := by simp only [properL, d1, d2, e1, e2]; simp
  rw [hval]
  refine aloop (ι := Nat) (fun i => s.length - i) (fun i => [(30, .int .i64 i), (29, .int .i64 s.length), (0, .str s), (2, .str o)]) (fun _ => []) (fun i => i ≤ s.length ∧ (s.take i).all (okP o) = true) 0 ⟨by omega, by simp⟩ ?_ ?_
  · refine Shift.weak ?_
    simp only [wk, go_sem]
  · rintro i ⟨g1, g2⟩ J hJ
    refine go (N := 60) Tryz.ntmps271 300 ?_
    by_cases hi : (i : Int) < s.length
    · have hil : i < s.length := by omega
      have hgd : s.getD i 0 = s[i] := by simp [List.getD, hil]
      simp only [go_sem, hi, hgd]
      refine ⟨by omega, ?_⟩
      refine pcall1 (isCapital_pc _) rfl (N := 60) Tryz.ntmps271 rfl (go (N := 60) Tryz.ntmps271 300 ?_)
      cases c1 : capI (s[i].toNat : Int) with
      | true =>
        simp only [go_sem]
        rw [show (i : Int) + 1 = ((i + 1 : Nat) : Int) by omega]
        repeat refine And.intro (by omega) ?_
        refine ainv (hJ (i + 1) ⟨by omega, all_take_succ hil g2 (by simp only [okP, c1]; rfl)⟩ (by omega)) (Shift.weak ?_)
        simp only [wk, go_sem]
      | false =>
        simp only [go_sem, hi, hgd]
        refine ⟨by omega, ?_⟩
        refine pcall1 (isDigit_pc _) rfl (N := 60) Tryz.ntmps271 rfl (go (N := 60) Tryz.ntmps271 300 ?_)
        cases c2 : digI (s[i].toNat : Int) with
        | true =>
          simp only [go_sem]
          rw [show (i : Int) + 1 = ((i + 1 : Nat) : Int) by omega]
          repeat refine And.intro (by omega) ?_
          refine ainv (hJ (i + 1) ⟨by omega, all_take_succ hil g2 (by simp only [okP, c1, c2]; rfl)⟩ (by omega)) (Shift.weak ?_)
          simp only [wk, go_sem]
        | false =>
          cases c3 : ((s[i].toNat : Int) == 32) with
          | true =>
            have c3' : ((s[i].toNat : Int) != 32) = false := by simpa using c3
            simp only [go_sem, hi, hgd, c3']
            rw [show (i : Int) + 1 = ((i + 1 : Nat) : Int) by omega]
            repeat refine And.intro (by omega) ?_
            refine ainv (hJ (i + 1) ⟨by omega, all_take_succ hil g2 (by simp only [okP, c1, c2, c3]; rfl)⟩ (by omega)) (Shift.weak ?_)
            simp only [wk, go_sem]
          | false =>
            have c3' : ((s[i].toNat : Int) != 32) = true := by simpa using c3
            simp only [go_sem, hi, hgd, c3']
            refine ⟨by omega, by omega, ?_⟩
            refine pcall1 (indexByte_pc o (s[i].toNat : Int)) rfl (N := 60) Tryz.ntmps271 rfl (go (N := 60) Tryz.ntmps271 300 ?_)
            have hb : ((s[i].toNat : Int)).toNat.toUInt8 = s[i] := by simp
            rw [hb]
            cases c4 : decide (Lib.indexByte o s[i] < 0) with
            | false =>
              simp only [go_sem, c4]
              rw [show (i : Int) + 1 = ((i + 1 : Nat) : Int) by omega]
              repeat refine And.intro (by omega) ?_
              refine ainv (hJ (i + 1) ⟨by omega, all_take_succ hil g2 (by simp only [okP, c1, c2, c3, c4]; rfl)⟩ (by omega)) (Shift.weak ?_)
              simp only [wk, go_sem]
            | true =>
              simp only [go_sem, c4]
              refine aret [6] rfl ⟨?_, rfl⟩
              simp [resV, Av.get, all_false_at hil (p := okP o) (by simp only [okP, c1, c2, c3, c4]; rfl)]
    · simp only [go_sem, hi]
      have hall : s.all (okP o) = true := by rw [← g2, List.take_of_length_le (by omega)]
      exact aret [6] rfl ⟨by simp [resV, Av.get, hall], rfl⟩

def isSetL (s : List UInt8) : Bool := properL s 60 [39, 46, 45, 47] && (!Lib.contains s [32, 45, 32] && !Lib.hasSuffix s [32, 45])

theorem isSet_pch {S : Std} (hS : LibOk S) (s : List UInt8) (hs : s.length < 1000000) : PcH Tryz.prog S 220 [.str s] (· = .bool (isSetL s)) := by
  refine pch_intro (cth_intro Tryz.func220 rfl Tryz.ntmps220 hB220 (by simp) fun h ρ w hg => go (N := 15) Tryz.ntmps220 300 ?_)
  simp only [go_sem]
  refine pcallH1 hg (proper_pch hS s 60 [39, 46, 45, 47] hs) rfl (N := 15) Tryz.ntmps220 rfl (go (N := 15) Tryz.ntmps220 300 ?_)
  cases e1 : properL s 60 [39, 46, 45, 47] with
  | false =>
    simp only [go_sem]
    exact aret [2] rfl ⟨by simp [resV, Av.get, isSetL, e1], rfl⟩
  | true =>
    simp only [go_sem]
    refine pcallH1 hg (contains_pch hS s [32, 45, 32] (by omega)) rfl (N := 15) Tryz.ntmps220 rfl (go (N := 15) Tryz.ntmps220 300 ?_)
    cases e2 : Lib.contains s [32, 45, 32] with
    | true =>
      simp only [go_sem]
      exact aret [2] rfl ⟨by simp [resV, Av.get, isSetL, e2], rfl⟩
    | false =>
      simp only [go_sem]
      refine pcall1 (hasSuffix_pc s [32, 45] (by omega)) rfl (N := 15) Tryz.ntmps220 rfl (go (N := 15) Tryz.ntmps220 300 ?_)
      simp only [go_sem]
      exact aret [2] rfl ⟨by simp [resV, Av.get, isSetL, e1, e2], rfl⟩
end Go.Proofs.YtkfpiadgjbhcpaaGreatDoor
