/- The interpreter's words, told to the walk's simp set once. Own work of this seat. -/
import Derived.Test.YtnfkjpihaficbaaGreatDoorG17
import Derived.Shelf.Strings.IndexAnyAll
import Derived.Shelf.Strings.SlTrimAscii
import Derived.Shelf.Strconv.AtoiErr
set_option linter.unusedSimpArgs false
set_option linter.unusedVariables false
namespace Go.Proofs.YtnfkjpihaficbaaGreatDoor
open Go Go.Av Go.RowKit
attribute [go_sem ↓] Go.Av.br_true Go.Av.br_false Go.Av.dbr_true Go.Av.dbr_false Go.Av.dbri_true Go.Av.dbri_false Go.Av.dbrg_true Go.Av.dbrg_false
attribute [go_sem] Go.Av.run Go.Av.cont Go.Av.br Go.Av.dbr Go.Av.dx Go.Av.dxc Go.Av.dgrd Go.Av.dyld Go.Av.dres Go.Av.dcall Go.Av.calm Go.Av.fieldPlace? Go.Av.allHas Go.Av.step1 Go.Av.opN Go.Av.grdN Go.Av.resN Go.Av.condN Go.Av.exitN Go.Av.stopN Go.Av.exitIt Go.Av.dOk Go.Av.xop Go.Av.xbin Go.Av.xint Go.Av.xarith Go.Av.xstr Go.Av.xbool Go.Av.xpick Go.Av.xnot Go.Av.xneg Go.Av.xextract Go.Av.xpart Go.Av.xpartOk Go.Av.xindex Go.Av.xfieldF Go.Av.fieldD Go.Av.xnew Go.Av.xbox Go.Av.xalloc Go.Av.xfieldAddr Go.Av.xptrAddIf Go.Av.xindexAddr Go.Av.xloadC Go.Av.xload Go.Av.putCells Go.Av.reElem Go.Av.xstoreB Go.Av.xstore Go.Av.xconv Go.Av.xtext Go.Av.xlen Go.Av.xlen2 Go.Av.xcall Go.Av.xfill Go.Av.xbuild Go.Av.cut Go.Av.rep Go.Av.xbuildSlice Go.Av.xbuildSliceD Go.Av.isRow Go.Av.elemD Go.Av.isU8 Go.Av.ev Go.Av.evs Go.Av.evp Go.Av.put Go.Av.get Go.Av.ofConst Go.Av.yldD Go.Av.yldV Go.Av.notBool_undef Go.Av.args0 Go.Av.cellsOf cond_true cond_false decide_true decide_false decide_eq_true_eq decide_eq_false_iff_not List.getElem?_cons_zero List.getElem?_cons_succ List.getElem?_nil List.getD_cons_zero List.getD_cons_succ List.getD_nil List.set_cons_zero List.set_cons_succ List.length_cons List.length_nil List.cons_append List.nil_append List.append_nil List.all_cons List.all_nil List.map_cons List.map_nil List.take_succ_cons List.take_zero List.drop_succ_cons List.drop_zero Bool.and_true Bool.true_and Bool.and_self Bool.and_false Bool.false_and Go.Av.one Go.Av.frozen beq_self_eq_true true_and and_true forall_const false_implies implies_true and_self Option.map_some Option.map_none Nat.zero_add Nat.add_zero Nat.zero_mul Nat.mul_one Nat.one_mul Int.toNat_zero ne_eq not_false_eq_true not_true_eq_false Bool.true_eq_false Bool.false_eq_true List.toList_toArray Go.Av.inr Go.Av.byteOf Go.Av.isByte decide_eq_decide Bool.not_true Bool.not_false Bool.not_eq_true' Bool.or_true Bool.true_or Bool.or_false Bool.false_or ge_iff_le gt_iff_lt and_assoc Bool.decide_eq_true beq_iff_eq beq_eq_false_iff_ne bne_iff_ne bne_self_eq_false if_true if_false Bool.and_eq_true Bool.or_eq_true Bool.and_eq_false_imp Bool.or_eq_false_iff Bool.not_eq_false' Go.Av.has Option.isSome_some Option.isSome_none Int.toNat_natCast Int.cast_ofNat_Int List.length_append Go.Av.xapp2 Go.Av.xapp Go.Av.xappS Go.Av.xappD Go.Av.xappB Go.Av.notInt Go.Av.srcOf Go.Av.srcB Go.Av.byteAV Go.Av.splice' Go.Av.xcut Go.Av.xcutS Go.Av.xcutF Go.Av.xcutB Go.Av.xcutN Go.Av.xcut0 Go.Av.cutL Go.Av.loOf Go.Av.hiOf Go.Av.evo Go.Av.xmake Go.Av.zelem Go.Av.xmax Go.Av.xcopy2 Go.Av.xcopyS Go.Av.xcopyB Go.Av.xnil Go.Av.xcut3 Go.Av.xcutA Go.Av.ixOf Go.Av.xclear2 Go.Av.xclearB List.getElem?_toArray Go.Av.xbin2 Go.Av.xnileq Go.Av.xmapnil Go.Av.xempty Go.Av.xmkmap Go.Av.xmput Go.Av.xmputB Go.Av.xmputF Go.Av.isKey Go.Av.keyEq Go.Av.mfind Go.Av.xbin3 Go.Av.xeqs Go.Av.xeqop Go.Av.eqFs Go.Av.eqFN Go.Av.eqF1 Go.Av.bothB Go.Av.leafEq Go.Av.xlook Go.Av.xlookB Go.Av.xlookF Go.Av.xbytes Go.Av.beq_c_n Go.Av.beq_n_c Go.Av.bne_c_n Go.Av.bne_n_c Go.Av.one_nil Go.Av.dxi Go.Av.dxic Go.Av.dbri Go.Av.rix Go.Av.dck Go.Av.reader Go.Av.blind Go.Av.opOk Go.Av.refOk Go.Op.operands Go.Call.operands List.contains_cons List.contains_nil Go.Av.dxg Go.Av.dxgc Go.Av.dbrg Go.Av.pck Go.Av.putD List.lookup_cons List.lookup_nil Go.Av.xboxF Go.Av.xbox2 Go.Av.keyEqS Go.Av.isKeyS Go.Av.mfindS Go.Av.xputS Go.Av.xmputS Go.Av.xlookS Go.Av.xmentryF Go.Av.xmentryB Go.Av.xmentry Go.Av.xestoreB Go.Av.xestore Go.Av.xrangeB Go.Av.xrange Go.Av.xentryB Go.Av.xentryI Go.Av.xentry Go.Av.frozen0 Go.Av.isI Go.Av.xappZ Go.Av.xcap Go.Av.xcap2 Go.Av.keyEqT Go.Av.isKeyT Go.Av.mfindT Go.Av.eqLs Go.Av.xmputT Go.Av.xlookT Go.Av.xdelF Go.Av.xdelB Go.Av.xdelS Go.Av.xdelT Go.Av.xdel Go.Av.xdel2 Go.Av.liveK ts2 tb2 zv2 zk2 za2 Tryz.underlying2 ts3 tb3 zv3 zk3 za3 Tryz.underlying3 ts4 tb4 zv4 zk4 za4 Tryz.underlying4 ts5 tb5 zv5 zk5 za5 Tryz.underlying5 fl7 fl8 ts9 tb9 zv9 zk9 za9 Tryz.underlying9 ts10 tb10 zv10 zk10 za10 Tryz.underlying10 ts12 tb12 zv12 zk12 za12 Tryz.underlying12 fl13 fl14 fl18 fl19 ts21 tb21 zv21 zk21 za21 Tryz.underlying21 ts22 tb22 zv22 zk22 za22 Tryz.underlying22 ts24 tb24 zv24 zk24 za24 fl24 Tryz.underlying24 ts25 tb25 zv25 zk25 za25 fl25 Tryz.underlying25 ts26 tb26 zv26 zk26 za26 Tryz.underlying26 ts27 tb27 zv27 zk27 za27 fl27 Tryz.underlying27 ts28 tb28 zv28 zk28 za28 fl28 Tryz.underlying28 ts32 tb32 zv32 zk32 za32 Tryz.underlying32 ts34 tb34 zv34 zk34 za34 Tryz.underlying34 ts35 tb35 zv35 zk35 za35 Tryz.underlying35 ts39 tb39 zv39 zk39 za39 Tryz.underlying39 ts40 tb40 zv40 zk40 za40 fl40 Tryz.underlying40 ts41 tb41 zv41 zk41 za41 fl41 Tryz.underlying41 ts43 tb43 zv43 zk43 za43 fl43 Tryz.underlying43 ts44 tb44 zv44 zk44 za44 fl44 Tryz.underlying44 ts45 tb45 zv45 zk45 za45 fl45 lf45 Tryz.underlying45 ts46 tb46 zv46 zk46 za46 fl46 lf46 Tryz.underlying46 ts48 tb48 zv48 zk48 za48 fl48 lf48 Tryz.underlying48 ts49 tb49 zv49 zk49 za49 fl49 lf49 Tryz.underlying49 ts55 tb55 zv55 zk55 za55 Tryz.underlying55 ts56 tb56 zv56 zk56 za56 Tryz.underlying56 ts60 tb60 zv60 zk60 za60 fl60 lf60 Tryz.underlying60 ts61 tb61 zv61 zk61 za61 fl61 lf61 Tryz.underlying61 ts62 tb62 zv62 zk62 za62 Tryz.underlying62 ts63 tb63 zv63 zk63 za63 fl63 Tryz.underlying63 ts64 tb64 zv64 zk64 za64 fl64 Tryz.underlying64 ts65 tb65 zv65 zk65 za65 Tryz.underlying65 ts69 tb69 zv69 zk69 za69 fl69 lf69 Tryz.underlying69 ts70 tb70 zv70 zk70 za70 fl70 lf70 Tryz.underlying70 ts71 tb71 zv71 zk71 za71 Tryz.underlying71 ts79 tb79 zv79 zk79 za79 Tryz.underlying79 ts83 tb83 zv83 zk83 za83 fl83 Tryz.underlying83 ts84 tb84 zv84 zk84 za84 fl84 Tryz.underlying84 fl89 lf89 fl90 lf90 ts95 tb95 zv95 zk95 za95 fl95 Tryz.underlying95 ts96 tb96 zv96 zk96 za96 fl96 Tryz.underlying96 ts114 tb114 zv114 zk114 za114 fl114 Tryz.underlying114 ts115 tb115 zv115 zk115 za115 fl115 Tryz.underlying115 fl116 fl117 ts118 tb118 zv118 zk118 za118 Tryz.underlying118 ts126 tb126 zv126 zk126 za126 Tryz.underlying126 ts129 tb129 zv129 zk129 za129 fl129 Tryz.underlying129 ts130 tb130 zv130 zk130 za130 fl130 Tryz.underlying130 ts131 tb131 zv131 zk131 za131 Tryz.underlying131 ts139 tb139 zv139 zk139 za139 Tryz.underlying139 ts140 tb140 zv140 zk140 za140 fl140 Tryz.underlying140 ts141 tb141 zv141 zk141 za141 fl141 Tryz.underlying141 ts146 tb146 zv146 zk146 za146 Tryz.underlying146 ts159 tb159 zv159 zk159 za159 fl159 lf159 Tryz.underlying159 ts160 tb160 zv160 zk160 za160 fl160 lf160 Tryz.underlying160 ts164 tb164 zv164 zk164 za164 Tryz.underlying164 ts176 tb176 zv176 zk176 za176 Tryz.underlying176 ts188 tb188 zv188 zk188 za188 Tryz.underlying188 fl195 lf195 fl196 lf196 ts206 tb206 zv206 zk206 za206 Tryz.underlying206 ts210 tb210 zv210 zk210 za210 Tryz.underlying210 ts211 tb211 zv211 zk211 za211 fl211 Tryz.underlying211 ts212 tb212 zv212 zk212 za212 fl212 Tryz.underlying212 ts218 tb218 zv218 zk218 za218 fl218 Tryz.underlying218 ts219 tb219 zv219 zk219 za219 fl219 Tryz.underlying219 ts221 tb221 zv221 zk221 za221 Tryz.underlying221 ts222 tb222 zv222 zk222 za222 Tryz.underlying222 ts224 tb224 zv224 zk224 za224 Tryz.underlying224 ts230 tb230 zv230 zk230 za230 Tryz.underlying230 ts232 tb232 zv232 zk232 za232 fl232 Tryz.underlying232 ts233 tb233 zv233 zk233 za233 fl233 Tryz.underlying233 ts247 tb247 zv247 zk247 za247 Tryz.underlying247 ts248 tb248 zv248 zk248 za248 fl248 lf248 Tryz.underlying248 ts249 tb249 zv249 zk249 za249 fl249 lf249 Tryz.underlying249 ts251 tb251 zv251 zk251 za251 Tryz.underlying251 ts254 tb254 zv254 zk254 za254 Tryz.underlying254 ts257 tb257 zv257 zk257 za257 Tryz.underlying257 ts270 tb270 zv270 zk270 za270 Tryz.underlying270 ts274 tb274 zv274 zk274 za274 Tryz.underlying274 ts281 tb281 zv281 zk281 za281 Tryz.underlying281 ts287 tb287 zv287 zk287 za287 Tryz.underlying287 ts301 tb301 zv301 zk301 za301 Tryz.underlying301 ts304 tb304 zv304 zk304 za304 Tryz.underlying304 ts305 tb305 zv305 zk305 za305 fl305 Tryz.underlying305 ts306 tb306 zv306 zk306 za306 fl306 Tryz.underlying306 ts308 tb308 zv308 zk308 za308 Tryz.underlying308 ts314 tb314 Tryz.underlying314 ts321 tb321 zv321 zk321 za321 fl321 Tryz.underlying321 ts322 tb322 zv322 zk322 za322 fl322 Tryz.underlying322 ts329 tb329 zv329 zk329 za329 Tryz.underlying329 ts340 tb340 zv340 zk340 za340 Tryz.underlying340 ts341 tb341 zv341 zk341 za341 Tryz.underlying341 ts342 tb342 zv342 zk342 za342 fl342 Tryz.underlying342 ts343 tb343 zv343 zk343 za343 fl343 Tryz.underlying343 ts344 tb344 zv344 zk344 za344 Tryz.underlying344 ts345 tb345 zv345 zk345 za345 fl345 Tryz.underlying345 ts346 tb346 zv346 zk346 za346 fl346 Tryz.underlying346 ts348 tb348 zv348 zk348 za348 fl348 Tryz.underlying348 ts349 tb349 zv349 zk349 za349 fl349 Tryz.underlying349 ts353 tb353 Tryz.underlying353 ts357 tb357 zv357 zk357 za357 fl357 Tryz.underlying357 ts358 tb358 zv358 zk358 za358 fl358 Tryz.underlying358 ts365 tb365 zv365 zk365 za365 Tryz.underlying365 ts366 tb366 zv366 zk366 za366 Tryz.underlying366 ts367 tb367 zv367 zk367 za367 fl367 Tryz.underlying367 ts368 tb368 zv368 zk368 za368 fl368 Tryz.underlying368 ts369 tb369 Tryz.underlying369 ts371 tb371 Tryz.underlying371 ts372 tb372 Tryz.underlying372 fl373 fl374 fl383 fl384
attribute [go_sem] Nat.reduceAdd Nat.reduceMul Nat.reduceSub Nat.reduceBEq Nat.reduceLT Nat.reduceLeDiff reduceIte reduceCtorEq Int.reduceToNat Int.reduceLE Int.reduceLT Int.reduceNe Int.reduceMul Int.reduceAdd Int.reduceSub Int.reduceDiv Int.reduceMod Int.reduceEq Int.reduceGE Int.reduceGT Int.reduceNeg Int.reduceBEq Int.reduceBNe Nat.reduceEqDiff
set_option maxRecDepth 100000
def digI (n:Int):Bool:=decide (n ≥ 48) && decide (n ≤ 57)
def capI (n:Int):Bool:=decide (n ≥ 65) && decide (n ≤ 90)
theorem isDigit_pc (n:Int):Pc Tryz.prog 154 [.int .u8 n] (· = .bool (digI n)):=by
 refine pc_intro (ct_intro Tryz.func154 rfl Tryz.ntmps154 hB154 (by simp) fun h ρ w=>go (N:=9) Tryz.ntmps154 200 ?_)
 by_cases h1:n ≥ 48
 ·have d1:decide (n ≥ 48)=true:=by simpa using h1
  simp only [go_sem,d1]
  exact aret [2] rfl ⟨by simp [resV,Av.get,digI,h1],rfl⟩
 ·have d1:decide (n ≥ 48)=false:=by simpa using h1
  simp only [go_sem,d1]
  exact aret [2] rfl ⟨by simp [resV,Av.get,digI,h1],rfl⟩
theorem isCapital_pc (n:Int):Pc Tryz.prog 155 [.int .u8 n] (· = .bool (capI n)):=by
 refine pc_intro (ct_intro Tryz.func155 rfl Tryz.ntmps155 hB155 (by simp) fun h ρ w=>go (N:=9) Tryz.ntmps155 200 ?_)
 by_cases h1:n ≥ 65
 ·have d1:decide (n ≥ 65)=true:=by simpa using h1
  simp only [go_sem,d1]
  exact aret [2] rfl ⟨by simp [resV,Av.get,capI,h1],rfl⟩
 ·have d1:decide (n ≥ 65)=false:=by simpa using h1
  simp only [go_sem,d1]
  exact aret [2] rfl ⟨by simp [resV,Av.get,capI,h1],rfl⟩
def okB (c:UInt8):Bool:=!(decide ((c.toNat:Int) < 32)) && !(decide ((c.toNat:Int) > 126))
def plainL (s:List UInt8):Bool:=s.all okB && (!Lib.hasPrefix s [32] && (!Lib.hasSuffix s [32] && !Lib.contains s [32,32]))
theorem all_take_succ {α:Type} {p:α→Bool} {s:List α} {i:Nat} (h:i < s.length) (h1:(s.take i).all p=true) (h2:p s[i]=true):(s.take (i+1)).all p=true:=by
 rw [List.take_succ_eq_append_getElem h,List.all_append,h1]
 simpa using h2
theorem all_false_at {α:Type} {p:α→Bool} {s:List α} {i:Nat} (h:i < s.length) (h2:p s[i]=false):s.all p=false:=by
 rw [List.all_eq_false]
 exact ⟨s[i],List.getElem_mem h,by simp [h2]⟩
theorem plain_pch {S:Std} (hS:LibOk S) (s:List UInt8) (hs:s.length < 1000000):PcH Tryz.prog S 186 [.str s] (· = .bool (plainL s)):=by
 refine pch_intro (cth_intro Tryz.func186 rfl Tryz.ntmps186 hB186 (by simp) fun h ρ w hg=>go (N:=33) Tryz.ntmps186 200 ?_)
 simp only [go_sem]
 refine aloop (ι:=Nat) (fun i=>s.length - i) (fun i=>[(6,.int .i64 i),(5,.int .i64 s.length),(0,.str s)]) (fun _=>[]) (fun i=>i ≤ s.length∧(s.take i).all okB=true) 0 ⟨by omega,by simp⟩ ?_ ?_
 ·refine Shift.weak ?_
  simp only [wk,go_sem]
 ·rintro i ⟨g1,g2⟩ J hJ
  refine go (N:=33) Tryz.ntmps186 200 ?_
  by_cases hi:(i:Int) < s.length
  ·have hil:i < s.length:=by omega
   have hgd:s.getD i 0=s[i]:=by simp [List.getD,hil]
   by_cases hc1:((s[i].toNat:Int) < 32)
   ·have d1:decide ((s[i].toNat:Int) < 32)=true:=by simpa using hc1
    simp only [go_sem,hi,hgd,d1]
    refine ⟨by omega,aret [2] rfl ⟨?_,rfl⟩⟩
    simp [resV,Av.get,plainL,all_false_at hil (p:=okB) (by simp [okB]; omega)]
   ·have d1:decide ((s[i].toNat:Int) < 32)=false:=by simpa using hc1
    by_cases hc2:((s[i].toNat:Int) > 126)
    ·have d2:decide ((s[i].toNat:Int) > 126)=true:=by simpa using hc2
     simp only [go_sem,hi,hgd,d1,d2]
     refine ⟨by omega,by omega,aret [2] rfl ⟨?_,rfl⟩⟩
     simp [resV,Av.get,plainL,all_false_at hil (p:=okB) (by simp [okB]; omega)]
    ·have d2:decide ((s[i].toNat:Int) > 126)=false:=by simpa using hc2
     simp only [go_sem,hi,hgd,d1,d2]
     rw [show (i:Int)+1=((i+1:Nat):Int) by omega]
     repeat refine And.intro (by omega) ?_
     refine ainv (hJ (i+1) ⟨by omega,all_take_succ hil g2 (by simp [okB]; omega)⟩ (by omega)) (Shift.weak ?_)
     simp only [wk,go_sem]
  ·simp only [go_sem,hi]
   have hall:s.all okB=true:=by rw [← g2,List.take_of_length_le (by omega)]
   refine pcall1 (hasPrefix_pc s [32]) rfl (N:=33) Tryz.ntmps186 rfl (go (N:=33) Tryz.ntmps186 200 ?_)
   cases e1:Lib.hasPrefix s [32] with
   | true =>
    simp only [go_sem]
    refine aret [2] rfl ⟨?_,rfl⟩
    simp [resV,Av.get,plainL,e1]
   | false =>
    simp only [go_sem]
    refine pcall1 (hasSuffix_pc s [32] (by omega)) rfl (N:=33) Tryz.ntmps186 rfl (go (N:=33) Tryz.ntmps186 200 ?_)
    cases e2:Lib.hasSuffix s [32] with
    | true =>
     simp only [go_sem]
     refine aret [2] rfl ⟨?_,rfl⟩
     simp [resV,Av.get,plainL,e2]
    | false =>
     simp only [go_sem]
     refine pcallH1 hg (contains_pch hS s [32,32] (by omega)) rfl (N:=33) Tryz.ntmps186 rfl (go (N:=33) Tryz.ntmps186 200 ?_)
     simp only [go_sem]
     refine aret [2] rfl ⟨?_,rfl⟩
     simp [resV,Av.get,plainL,e1,e2,hall]
def okP (o:List UInt8) (c:UInt8):Bool:=capI c.toNat || (digI c.toNat || (((c.toNat:Int) == 32) || !(decide (Lib.indexByte o c < 0))))
def properL (s:List UInt8) (most:Int) (o:List UInt8):Bool :=
 !(decide ((s.length:Int) < 1)) && (!(decide ((s.length:Int) > most)) && (capI (s.getD 0 0).toNat && (plainL s && s.all (okP o))))
theorem proper_pch {S:Std} (hS:LibOk S) (s:List UInt8) (most:Int) (o:List UInt8) (hs:s.length < 1000000):PcH Tryz.prog S 290 [.str s,.int .i64 most,.str o] (· = .bool (properL s most o)):=by
 refine pch_intro (cth_intro Tryz.func290 rfl Tryz.ntmps290 hB290 (by simp) fun h ρ w hg=>go (N:=60) Tryz.ntmps290 300 ?_)
 by_cases h1:(s.length:Int) < 1
 ·have d1:decide ((s.length:Int) < 1)=true:=by simpa using h1
  simp only [go_sem,d1]
  exact aret [6] rfl ⟨by simp [resV,Av.get,properL,h1],rfl⟩
 have d1:decide ((s.length:Int) < 1)=false:=by simpa using h1
 by_cases h2:(s.length:Int) > most
 ·have d2:decide ((s.length:Int) > most)=true:=by simpa using h2
  simp only [go_sem,d1,d2]
  exact aret [6] rfl ⟨by simp [resV,Av.get,properL,h2],rfl⟩
 have d2:decide ((s.length:Int) > most)=false:=by simpa using h2
 simp only [go_sem,d1,d2]
 have hpos:0 < s.length:=by omega
 refine ⟨by omega,?_⟩
 refine pcall1 (isCapital_pc _) rfl (N:=60) Tryz.ntmps290 rfl (go (N:=60) Tryz.ntmps290 300 ?_)
 cases e1:capI (s.getD 0 0).toNat with
 | false =>
  simp only [go_sem]
  exact aret [6] rfl ⟨by simp only [resV,Av.get,properL,e1]; simp,rfl⟩
 | true =>
 simp only [go_sem]
 refine pcallH1 hg (plain_pch hS s hs) rfl (N:=60) Tryz.ntmps290 rfl (go (N:=60) Tryz.ntmps290 300 ?_)
 cases e2:plainL s with
 | false =>
  simp only [go_sem]
  exact aret [6] rfl ⟨by simp only [resV,Av.get,properL,e2]; simp,rfl⟩
 | true =>
 simp only [go_sem]
 have hval:properL s most o=s.all (okP o):=by simp only [properL,d1,d2,e1,e2]; simp
 rw [hval]
 refine aloop (ι:=Nat) (fun i=>s.length - i) (fun i=>[(30,.int .i64 i),(29,.int .i64 s.length),(0,.str s),(2,.str o)]) (fun _=>[]) (fun i=>i ≤ s.length∧(s.take i).all (okP o)=true) 0 ⟨by omega,by simp⟩ ?_ ?_
 ·refine Shift.weak ?_
  simp only [wk,go_sem]
 ·rintro i ⟨g1,g2⟩ J hJ
  refine go (N:=60) Tryz.ntmps290 300 ?_
  by_cases hi:(i:Int) < s.length
  ·have hil:i < s.length:=by omega
   have hgd:s.getD i 0=s[i]:=by simp [List.getD,hil]
   simp only [go_sem,hi,hgd]
   refine ⟨by omega,?_⟩
   refine pcall1 (isCapital_pc _) rfl (N:=60) Tryz.ntmps290 rfl (go (N:=60) Tryz.ntmps290 300 ?_)
   cases c1:capI (s[i].toNat:Int) with
   | true =>
    simp only [go_sem]
    rw [show (i:Int)+1=((i+1:Nat):Int) by omega]
    repeat refine And.intro (by omega) ?_
    refine ainv (hJ (i+1) ⟨by omega,all_take_succ hil g2 (by simp only [okP,c1]; rfl)⟩ (by omega)) (Shift.weak ?_)
    simp only [wk,go_sem]
   | false =>
    simp only [go_sem,hi,hgd]
    refine ⟨by omega,?_⟩
    refine pcall1 (isDigit_pc _) rfl (N:=60) Tryz.ntmps290 rfl (go (N:=60) Tryz.ntmps290 300 ?_)
    cases c2:digI (s[i].toNat:Int) with
    | true =>
     simp only [go_sem]
     rw [show (i:Int)+1=((i+1:Nat):Int) by omega]
     repeat refine And.intro (by omega) ?_
     refine ainv (hJ (i+1) ⟨by omega,all_take_succ hil g2 (by simp only [okP,c1,c2]; rfl)⟩ (by omega)) (Shift.weak ?_)
     simp only [wk,go_sem]
    | false =>
     cases c3:((s[i].toNat:Int) == 32) with
     | true =>
      have c3':((s[i].toNat:Int) != 32)=false:=by simpa using c3
      simp only [go_sem,hi,hgd,c3']
      rw [show (i:Int)+1=((i+1:Nat):Int) by omega]
      repeat refine And.intro (by omega) ?_
      refine ainv (hJ (i+1) ⟨by omega,all_take_succ hil g2 (by simp only [okP,c1,c2,c3]; rfl)⟩ (by omega)) (Shift.weak ?_)
      simp only [wk,go_sem]
     | false =>
      have c3':((s[i].toNat:Int) != 32)=true:=by simpa using c3
      simp only [go_sem,hi,hgd,c3']
      refine ⟨by omega,by omega,?_⟩
      refine pcall1 (indexByte_pc o (s[i].toNat:Int)) rfl (N:=60) Tryz.ntmps290 rfl (go (N:=60) Tryz.ntmps290 300 ?_)
      have hb:((s[i].toNat:Int)).toNat.toUInt8=s[i]:=by simp
      rw [hb]
      cases c4:decide (Lib.indexByte o s[i] < 0) with
      | false =>
       simp only [go_sem,c4]
       rw [show (i:Int)+1=((i+1:Nat):Int) by omega]
       repeat refine And.intro (by omega) ?_
       refine ainv (hJ (i+1) ⟨by omega,all_take_succ hil g2 (by simp only [okP,c1,c2,c3,c4]; rfl)⟩ (by omega)) (Shift.weak ?_)
       simp only [wk,go_sem]
      | true =>
       simp only [go_sem,c4]
       refine aret [6] rfl ⟨?_,rfl⟩
       simp [resV,Av.get,all_false_at hil (p:=okP o) (by simp only [okP,c1,c2,c3,c4]; rfl)]
  ·simp only [go_sem,hi]
   have hall:s.all (okP o)=true:=by rw [← g2,List.take_of_length_le (by omega)]
   exact aret [6] rfl ⟨by simp [resV,Av.get,hall],rfl⟩
def isSetL (s:List UInt8):Bool:=properL s 60 [39,46,45,47] && (!Lib.contains s [32,45,32] && !Lib.hasSuffix s [32,45])
theorem isSet_pch {S:Std} (hS:LibOk S) (s:List UInt8) (hs:s.length < 1000000):PcH Tryz.prog S 255 [.str s] (· = .bool (isSetL s)):=by
 refine pch_intro (cth_intro Tryz.func255 rfl Tryz.ntmps255 hB255 (by simp) fun h ρ w hg=>go (N:=15) Tryz.ntmps255 300 ?_)
 simp only [go_sem]
 refine pcallH1 hg (proper_pch hS s 60 [39,46,45,47] hs) rfl (N:=15) Tryz.ntmps255 rfl (go (N:=15) Tryz.ntmps255 300 ?_)
 cases e1:properL s 60 [39,46,45,47] with
 | false =>
  simp only [go_sem]
  exact aret [2] rfl ⟨by simp [resV,Av.get,isSetL,e1],rfl⟩
 | true =>
  simp only [go_sem]
  refine pcallH1 hg (contains_pch hS s [32,45,32] (by omega)) rfl (N:=15) Tryz.ntmps255 rfl (go (N:=15) Tryz.ntmps255 300 ?_)
  cases e2:Lib.contains s [32,45,32] with
  | true =>
   simp only [go_sem]
   exact aret [2] rfl ⟨by simp [resV,Av.get,isSetL,e2],rfl⟩
  | false =>
   simp only [go_sem]
   refine pcall1 (hasSuffix_pc s [32,45] (by omega)) rfl (N:=15) Tryz.ntmps255 rfl (go (N:=15) Tryz.ntmps255 300 ?_)
   simp only [go_sem]
   exact aret [2] rfl ⟨by simp [resV,Av.get,isSetL,e1,e2],rfl⟩
end Go.Proofs.YtnfkjpihaficbaaGreatDoor
namespace Go.Proofs
open Go.Shelf
def Tryz.lays150_ren:Go.Shelf.Ren:=⟨fun | 150=>292 | 153=>303 | 152=>277 | 226=>306 | 227=>181 | 228=>237 | 137=>188 | 119=>298 | 224=>288 | 225=>287 | 217=>242 | 266=>279 | n=>n,fun | 9=>9 | 4=>4 | 3=>3 | 5=>5 | 21=>21 | 117=>264 | 116=>263 | 0=>0 | 46=>206 | 124=>267 | n=>n,fun | n=>n⟩
theorem Tryz.lays150:Go.Proofs.Lays.n150 Tryz.prog Tryz.lays150_ren:={
 mixed:=by kernel_rfl
 f119:=Tryz.func298.trans (congrArg some (by kernel_rfl))
 f137:=Tryz.func188.trans (congrArg some (by kernel_rfl))
 f150:=Tryz.func292.trans (congrArg some (by kernel_rfl))
 f152:=Tryz.func277.trans (congrArg some (by kernel_rfl))
 f153:=Tryz.func303.trans (congrArg some (by kernel_rfl))
 f217:=Tryz.func242.trans (congrArg some (by kernel_rfl))
 f224:=Tryz.func288.trans (congrArg some (by kernel_rfl))
 f225:=Tryz.func287.trans (congrArg some (by kernel_rfl))
 f226:=Tryz.func306.trans (congrArg some (by kernel_rfl))
 f227:=Tryz.func181.trans (congrArg some (by kernel_rfl))
 f228:=Tryz.func237.trans (congrArg some (by kernel_rfl))
 f266:=Tryz.func279.trans (congrArg some (by kernel_rfl))
 t0:=Tryz.underlying0
 a0:=Tryz.isAgg0
 z0:=Tryz.sizeOf0
 v0:=Tryz.zeroValue0
 t3:=Tryz.underlying3
 a3:=Tryz.isAgg3
 z3:=Tryz.sizeOf3
 v3:=Tryz.zeroValue3
 t4:=Tryz.underlying4
 a4:=Tryz.isAgg4
 z4:=Tryz.sizeOf4
 v4:=Tryz.zeroValue4
 t5:=Tryz.underlying5
 a5:=Tryz.isAgg5
 z5:=Tryz.sizeOf5
 v5:=Tryz.zeroValue5
 t9:=Tryz.underlying9
 a9:=Tryz.isAgg9
 z9:=Tryz.sizeOf9
 v9:=Tryz.zeroValue9
 t21:=Tryz.underlying21
 a21:=Tryz.isAgg21
 z21:=Tryz.sizeOf21
 v21:=Tryz.zeroValue21
 t46:=Tryz.underlying206
 a46:=Tryz.isAgg206
 z46:=Tryz.sizeOf206
 v46:=Tryz.zeroValue206
 t116:=Tryz.underlying263
 a116:=Tryz.isAgg263
 z116:=Tryz.sizeOf263
 t117:=Tryz.underlying264
 a117:=Tryz.isAgg264
 z117:=Tryz.sizeOf264
 v117:=Tryz.zeroValue264
 t124:=Tryz.underlying267
 a124:=Tryz.isAgg267
 z124:=Tryz.sizeOf267
 v124:=Tryz.zeroValue267 }
def Tryz.lays160_ren:Go.Shelf.Ren:=⟨fun | 160=>131 | 232=>180 | 231=>179 | 227=>181 | 234=>183 | 233=>182 | 236=>185 | 235=>184 | 228=>237 | 271=>240 | 151=>239 | 197=>238 | 120=>278 | 152=>277 | 260=>276 | 137=>188 | 119=>298 | 224=>288 | 225=>287 | 217=>242 | 266=>279 | n=>n,fun | 9=>9 | 4=>4 | 3=>3 | 5=>5 | 117=>264 | 116=>263 | 0=>0 | 124=>267 | 21=>21 | 105=>309 | 46=>206 | 119=>258 | 139=>369 | 138=>368 | n=>n,fun | 3=>6 | 4=>7 | n=>n⟩
theorem Tryz.lays160:Go.Proofs.Lays.n160 Tryz.prog Tryz.lays160_ren:={
 mixed:=by kernel_rfl
 f119:=Tryz.func298.trans (congrArg some (by kernel_rfl))
 f120:=Tryz.func278.trans (congrArg some (by kernel_rfl))
 f137:=Tryz.func188.trans (congrArg some (by kernel_rfl))
 f151:=Tryz.func239.trans (congrArg some (by kernel_rfl))
 f152:=Tryz.func277.trans (congrArg some (by kernel_rfl))
 f160:=Tryz.func131.trans (congrArg some (by kernel_rfl))
 f197:=Tryz.func238.trans (congrArg some (by kernel_rfl))
 f217:=Tryz.func242.trans (congrArg some (by kernel_rfl))
 f224:=Tryz.func288.trans (congrArg some (by kernel_rfl))
 f225:=Tryz.func287.trans (congrArg some (by kernel_rfl))
 f227:=Tryz.func181.trans (congrArg some (by kernel_rfl))
 f228:=Tryz.func237.trans (congrArg some (by kernel_rfl))
 f231:=Tryz.func179.trans (congrArg some (by kernel_rfl))
 f232:=Tryz.func180.trans (congrArg some (by kernel_rfl))
 f233:=Tryz.func182.trans (congrArg some (by kernel_rfl))
 f234:=Tryz.func183.trans (congrArg some (by kernel_rfl))
 f235:=Tryz.func184.trans (congrArg some (by kernel_rfl))
 f236:=Tryz.func185.trans (congrArg some (by kernel_rfl))
 f260:=Tryz.func276.trans (congrArg some (by kernel_rfl))
 f266:=Tryz.func279.trans (congrArg some (by kernel_rfl))
 f271:=Tryz.func240.trans (congrArg some (by kernel_rfl))
 t0:=Tryz.underlying0
 a0:=Tryz.isAgg0
 z0:=Tryz.sizeOf0
 v0:=Tryz.zeroValue0
 t3:=Tryz.underlying3
 a3:=Tryz.isAgg3
 z3:=Tryz.sizeOf3
 v3:=Tryz.zeroValue3
 t4:=Tryz.underlying4
 a4:=Tryz.isAgg4
 z4:=Tryz.sizeOf4
 v4:=Tryz.zeroValue4
 t5:=Tryz.underlying5
 a5:=Tryz.isAgg5
 z5:=Tryz.sizeOf5
 v5:=Tryz.zeroValue5
 t9:=Tryz.underlying9
 a9:=Tryz.isAgg9
 z9:=Tryz.sizeOf9
 v9:=Tryz.zeroValue9
 t21:=Tryz.underlying21
 a21:=Tryz.isAgg21
 z21:=Tryz.sizeOf21
 v21:=Tryz.zeroValue21
 t46:=Tryz.underlying206
 a46:=Tryz.isAgg206
 z46:=Tryz.sizeOf206
 v46:=Tryz.zeroValue206
 t105:=Tryz.underlying309
 a105:=Tryz.isAgg309
 z105:=Tryz.sizeOf309
 v105:=Tryz.zeroValue309
 t116:=Tryz.underlying263
 a116:=Tryz.isAgg263
 z116:=Tryz.sizeOf263
 t117:=Tryz.underlying264
 a117:=Tryz.isAgg264
 z117:=Tryz.sizeOf264
 v117:=Tryz.zeroValue264
 t119:=Tryz.underlying258
 a119:=Tryz.isAgg258
 z119:=Tryz.sizeOf258
 t124:=Tryz.underlying267
 a124:=Tryz.isAgg267
 z124:=Tryz.sizeOf267
 v124:=Tryz.zeroValue267
 t138:=Tryz.underlying368
 a138:=Tryz.isAgg368
 z138:=Tryz.sizeOf368
 v138:=Tryz.zeroValue368
 t139:=Tryz.underlying369
 a139:=Tryz.isAgg369
 z139:=Tryz.sizeOf369
 v139:=Tryz.zeroValue369
 g3:=by kernel_rfl
 g4:=by kernel_rfl }
def Tryz.lays161_ren:Go.Shelf.Ren:=⟨fun | 161=>143 | 231=>179 | 227=>181 | 233=>182 | 235=>184 | 228=>237 | 197=>238 | 151=>239 | 260=>276 | 152=>277 | 137=>188 | 119=>298 | 224=>288 | 225=>287 | 217=>242 | 266=>279 | n=>n,fun | 9=>9 | 4=>4 | 3=>3 | 5=>5 | 117=>264 | 116=>263 | 0=>0 | 124=>267 | 105=>309 | 21=>21 | 119=>258 | 46=>206 | 139=>369 | 138=>368 | n=>n,fun | 3=>6 | 4=>7 | n=>n⟩
theorem Tryz.lays161:Go.Proofs.Lays.n161 Tryz.prog Tryz.lays161_ren:={
 mixed:=by kernel_rfl
 f119:=Tryz.func298.trans (congrArg some (by kernel_rfl))
 f137:=Tryz.func188.trans (congrArg some (by kernel_rfl))
 f151:=Tryz.func239.trans (congrArg some (by kernel_rfl))
 f152:=Tryz.func277.trans (congrArg some (by kernel_rfl))
 f161:=Tryz.func143.trans (congrArg some (by kernel_rfl))
 f197:=Tryz.func238.trans (congrArg some (by kernel_rfl))
 f217:=Tryz.func242.trans (congrArg some (by kernel_rfl))
 f224:=Tryz.func288.trans (congrArg some (by kernel_rfl))
 f225:=Tryz.func287.trans (congrArg some (by kernel_rfl))
 f227:=Tryz.func181.trans (congrArg some (by kernel_rfl))
 f228:=Tryz.func237.trans (congrArg some (by kernel_rfl))
 f231:=Tryz.func179.trans (congrArg some (by kernel_rfl))
 f233:=Tryz.func182.trans (congrArg some (by kernel_rfl))
 f235:=Tryz.func184.trans (congrArg some (by kernel_rfl))
 f260:=Tryz.func276.trans (congrArg some (by kernel_rfl))
 f266:=Tryz.func279.trans (congrArg some (by kernel_rfl))
 t0:=Tryz.underlying0
 a0:=Tryz.isAgg0
 z0:=Tryz.sizeOf0
 v0:=Tryz.zeroValue0
 t3:=Tryz.underlying3
 a3:=Tryz.isAgg3
 z3:=Tryz.sizeOf3
 v3:=Tryz.zeroValue3
 t4:=Tryz.underlying4
 a4:=Tryz.isAgg4
 z4:=Tryz.sizeOf4
 v4:=Tryz.zeroValue4
 t5:=Tryz.underlying5
 a5:=Tryz.isAgg5
 z5:=Tryz.sizeOf5
 v5:=Tryz.zeroValue5
 t9:=Tryz.underlying9
 a9:=Tryz.isAgg9
 z9:=Tryz.sizeOf9
 v9:=Tryz.zeroValue9
 t21:=Tryz.underlying21
 a21:=Tryz.isAgg21
 z21:=Tryz.sizeOf21
 v21:=Tryz.zeroValue21
 t46:=Tryz.underlying206
 a46:=Tryz.isAgg206
 z46:=Tryz.sizeOf206
 v46:=Tryz.zeroValue206
 t105:=Tryz.underlying309
 a105:=Tryz.isAgg309
 z105:=Tryz.sizeOf309
 v105:=Tryz.zeroValue309
 t116:=Tryz.underlying263
 a116:=Tryz.isAgg263
 z116:=Tryz.sizeOf263
 t117:=Tryz.underlying264
 a117:=Tryz.isAgg264
 z117:=Tryz.sizeOf264
 v117:=Tryz.zeroValue264
 t119:=Tryz.underlying258
 a119:=Tryz.isAgg258
 z119:=Tryz.sizeOf258
 t124:=Tryz.underlying267
 a124:=Tryz.isAgg267
 z124:=Tryz.sizeOf267
 v124:=Tryz.zeroValue267
 t138:=Tryz.underlying368
 a138:=Tryz.isAgg368
 z138:=Tryz.sizeOf368
 v138:=Tryz.zeroValue368
 t139:=Tryz.underlying369
 a139:=Tryz.isAgg369
 z139:=Tryz.sizeOf369
 v139:=Tryz.zeroValue369
 g3:=by kernel_rfl
 g4:=by kernel_rfl }
def Tryz.laysC172_ren:Go.Shelf.Ren:=⟨fun | 172=>94 | 244=>144 | 245=>145 | 247=>194 | 279=>195 | 280=>196 | 281=>197 | 282=>198 | 287=>249 | 316=>250 | 171=>91 | 205=>251 | 321=>285 | 322=>286 | 243=>140 | 246=>192 | 283=>245 | 284=>246 | 285=>247 | 286=>248 | 129=>222 | 317=>281 | 318=>282 | 319=>283 | 320=>284 | 337=>300 | 338=>301 | n=>n,fun | 9=>9 | 3=>3 | 75=>176 | 76=>177 | 4=>4 | 5=>5 | 167=>274 | 37=>210 | 0=>0 | 85=>275 | 2=>2 | 168=>277 | 53=>254 | 175=>318 | 46=>206 | 210=>322 | 127=>257 | 145=>358 | 143=>356 | 21=>21 | 171=>314 | 173=>316 | 212=>353 | 51=>251 | 20=>20 | 213=>354 | 232=>371 | 233=>372 | 80=>103 | n=>n,fun | 15=>3 | 16=>4 | 17=>5 | 18=>8 | 19=>9 | n=>n⟩
theorem Tryz.laysC172:Go.Proofs.LaysC.n172 Tryz.prog Tryz.laysC172_ren:={
 mixed:=by kernel_rfl
 f129:=Tryz.func222.trans (congrArg some (by kernel_rfl))
 f171:=Tryz.func91.trans (congrArg some (by kernel_rfl))
 f172:=Tryz.func94.trans (congrArg some (by kernel_rfl))
 f205:=Tryz.func251.trans (congrArg some (by kernel_rfl))
 f243:=Tryz.func140.trans (congrArg some (by kernel_rfl))
 f244:=Tryz.func144.trans (congrArg some (by kernel_rfl))
 f245:=Tryz.func145.trans (congrArg some (by kernel_rfl))
 f246:=Tryz.func192.trans (congrArg some (by kernel_rfl))
 f247:=Tryz.func194.trans (congrArg some (by kernel_rfl))
 f279:=Tryz.func195.trans (congrArg some (by kernel_rfl))
 f280:=Tryz.func196.trans (congrArg some (by kernel_rfl))
 f281:=Tryz.func197.trans (congrArg some (by kernel_rfl))
 f282:=Tryz.func198.trans (congrArg some (by kernel_rfl))
 f283:=Tryz.func245.trans (congrArg some (by kernel_rfl))
 f284:=Tryz.func246.trans (congrArg some (by kernel_rfl))
 f285:=Tryz.func247.trans (congrArg some (by kernel_rfl))
 f286:=Tryz.func248.trans (congrArg some (by kernel_rfl))
 f287:=Tryz.func249.trans (congrArg some (by kernel_rfl))
 f316:=Tryz.func250.trans (congrArg some (by kernel_rfl))
 f317:=Tryz.func281.trans (congrArg some (by kernel_rfl))
 f318:=Tryz.func282.trans (congrArg some (by kernel_rfl))
 f319:=Tryz.func283.trans (congrArg some (by kernel_rfl))
 f320:=Tryz.func284.trans (congrArg some (by kernel_rfl))
 f321:=Tryz.func285.trans (congrArg some (by kernel_rfl))
 f322:=Tryz.func286.trans (congrArg some (by kernel_rfl))
 f337:=Tryz.func300.trans (congrArg some (by kernel_rfl))
 f338:=Tryz.func301.trans (congrArg some (by kernel_rfl))
 t0:=Tryz.underlying0
 a0:=Tryz.isAgg0
 z0:=Tryz.sizeOf0
 v0:=Tryz.zeroValue0
 t2:=Tryz.underlying2
 a2:=Tryz.isAgg2
 z2:=Tryz.sizeOf2
 v2:=Tryz.zeroValue2
 t3:=Tryz.underlying3
 a3:=Tryz.isAgg3
 z3:=Tryz.sizeOf3
 v3:=Tryz.zeroValue3
 t4:=Tryz.underlying4
 a4:=Tryz.isAgg4
 z4:=Tryz.sizeOf4
 v4:=Tryz.zeroValue4
 t5:=Tryz.underlying5
 a5:=Tryz.isAgg5
 z5:=Tryz.sizeOf5
 v5:=Tryz.zeroValue5
 t9:=Tryz.underlying9
 a9:=Tryz.isAgg9
 z9:=Tryz.sizeOf9
 v9:=Tryz.zeroValue9
 t20:=Tryz.underlying20
 a20:=Tryz.isAgg20
 z20:=Tryz.sizeOf20
 v20:=Tryz.zeroValue20
 t21:=Tryz.underlying21
 a21:=Tryz.isAgg21
 z21:=Tryz.sizeOf21
 v21:=Tryz.zeroValue21
 t37:=Tryz.underlying210
 a37:=Tryz.isAgg210
 z37:=Tryz.sizeOf210
 v37:=Tryz.zeroValue210
 t46:=Tryz.underlying206
 a46:=Tryz.isAgg206
 z46:=Tryz.sizeOf206
 v46:=Tryz.zeroValue206
 t51:=Tryz.underlying251
 a51:=Tryz.isAgg251
 z51:=Tryz.sizeOf251
 v51:=Tryz.zeroValue251
 t53:=Tryz.underlying254
 a53:=Tryz.isAgg254
 z53:=Tryz.sizeOf254
 v53:=Tryz.zeroValue254
 t75:=Tryz.underlying176
 a75:=Tryz.isAgg176
 z75:=Tryz.sizeOf176
 v75:=Tryz.zeroValue176
 t76:=Tryz.underlying177
 a76:=Tryz.isAgg177
 z76:=Tryz.sizeOf177
 v76:=Tryz.zeroValue177
 t85:=Tryz.underlying275
 a85:=Tryz.isAgg275
 z85:=Tryz.sizeOf275
 v85:=Tryz.zeroValue275
 t127:=Tryz.underlying257
 a127:=Tryz.isAgg257
 z127:=Tryz.sizeOf257
 v127:=Tryz.zeroValue257
 t143:=Tryz.underlying356
 a143:=Tryz.isAgg356
 z143:=Tryz.sizeOf356
 v143:=Tryz.zeroValue356
 t145:=Tryz.underlying358
 a145:=Tryz.isAgg358
 z145:=Tryz.sizeOf358
 v145:=Tryz.zeroValue358
 t167:=Tryz.underlying274
 a167:=Tryz.isAgg274
 z167:=Tryz.sizeOf274
 v167:=Tryz.zeroValue274
 t168:=Tryz.underlying277
 a168:=Tryz.isAgg277
 z168:=Tryz.sizeOf277
 v168:=Tryz.zeroValue277
 t171:=Tryz.underlying314
 a171:=Tryz.isAgg314
 z171:=Tryz.sizeOf314
 v171:=Tryz.zeroValue314
 t173:=Tryz.underlying316
 a173:=Tryz.isAgg316
 z173:=Tryz.sizeOf316
 v173:=Tryz.zeroValue316
 t175:=Tryz.underlying318
 a175:=Tryz.isAgg318
 z175:=Tryz.sizeOf318
 v175:=Tryz.zeroValue318
 t210:=Tryz.underlying322
 a210:=Tryz.isAgg322
 z210:=Tryz.sizeOf322
 v210:=Tryz.zeroValue322
 t212:=Tryz.underlying353
 a212:=Tryz.isAgg353
 z212:=Tryz.sizeOf353
 v212:=Tryz.zeroValue353
 t213:=Tryz.underlying354
 a213:=Tryz.isAgg354
 z213:=Tryz.sizeOf354
 t232:=Tryz.underlying371
 a232:=Tryz.isAgg371
 z232:=Tryz.sizeOf371
 v232:=Tryz.zeroValue371
 t233:=Tryz.underlying372
 a233:=Tryz.isAgg372
 z233:=Tryz.sizeOf372
 v233:=Tryz.zeroValue372
 g15:=by kernel_rfl
 g16:=by kernel_rfl
 g17:=by kernel_rfl
 g18:=by kernel_rfl
 g19:=by kernel_rfl
 t80:=Tryz.underlying103
 a80:=Tryz.isAgg103
 z80:=Tryz.sizeOf103
 v80:=Tryz.zeroValue103
 i0:=by kernel_rfl
 i2:=by kernel_rfl
 i3:=by kernel_rfl
 i4:=by kernel_rfl
 i5:=by kernel_rfl
 i9:=by kernel_rfl
 i20:=by kernel_rfl
 i21:=by kernel_rfl
 i37:=by kernel_rfl
 i46:=by kernel_rfl
 i51:=by kernel_rfl
 i53:=by kernel_rfl
 i75:=by kernel_rfl
 i76:=by kernel_rfl
 i80:=by kernel_rfl
 i85:=by kernel_rfl
 i127:=by kernel_rfl
 i143:=by kernel_rfl
 i145:=by kernel_rfl
 i167:=by kernel_rfl
 i168:=by kernel_rfl
 i171:=by kernel_rfl
 i173:=by kernel_rfl
 i175:=by kernel_rfl
 i210:=by kernel_rfl
 i212:=by kernel_rfl
 i232:=by kernel_rfl
 i233:=by kernel_rfl
 m15:=by kernel_rfl
 m16:=by kernel_rfl
 m17:=by kernel_rfl
 m18:=by kernel_rfl
 m19:=by kernel_rfl
 c0:=by kernel_rfl
 c2:=by kernel_rfl
 c3:=by kernel_rfl
 c4:=by kernel_rfl
 c5:=by kernel_rfl
 c9:=by kernel_rfl
 c20:=by kernel_rfl
 c21:=by kernel_rfl
 c37:=by kernel_rfl
 c46:=by kernel_rfl
 c51:=by kernel_rfl
 c53:=by kernel_rfl
 c75:=by kernel_rfl
 c76:=by kernel_rfl
 c80:=by kernel_rfl
 c85:=by kernel_rfl
 c127:=by kernel_rfl
 c143:=by kernel_rfl
 c145:=by kernel_rfl
 c167:=by kernel_rfl
 c168:=by kernel_rfl
 c171:=by kernel_rfl
 c173:=by kernel_rfl
 c175:=by kernel_rfl
 c210:=by kernel_rfl
 c212:=by kernel_rfl
 c213:=by kernel_rfl
 c232:=by kernel_rfl
 c233:=by kernel_rfl }
end Go.Proofs
