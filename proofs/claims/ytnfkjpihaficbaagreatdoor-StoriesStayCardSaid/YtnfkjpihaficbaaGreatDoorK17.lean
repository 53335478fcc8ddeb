/- What strings are: plain, proper, sets. -/
import Derived.Test.YtnfkjpihaficbaaGreatDoorK16
import Derived.Shelf.Strings.IndexAnyAll
import Derived.Shelf.Strings.SlTrimAscii
import Derived.Shelf.Strconv.AtoiErr
set_option maxRecDepth 100000
set_option linter.unusedSimpArgs false
set_option linter.unusedVariables false
namespace Go.Proofs.YtnfkjpihaficbaaGreatDoor
open Go Go.Av Go.RowKit _root_.Go.Proofs.Tryz
def digI(n:Int):Bool:=decide (n>=48)&&decide (n<=57)
def capI(n:Int):Bool:=decide (n>=65)&&decide (n<=90)
theorem AfZ(n:Int):Pc prog 154 [.int .u8 n] (· = .bool (digI n)):=by
 refine AcF (AbV func154 rfl ntmps154 hB154 (by simp) fun h ρ w=>go rfl 200 ?_)
 by_cases h1:n>=48
 .have d1:decide (n>=48)=true:=by simpa using h1
  simp only[go_sem,d1];exact aret [2] rfl ⟨by simp[resV,Av.get,digI,h1],rfl⟩
 .have d1:decide (n>=48)=false:=by simpa using h1
  simp only[go_sem,d1];exact aret [2] rfl ⟨by simp[resV,Av.get,digI,h1],rfl⟩
theorem AbR(n:Int):Pc prog 155 [.int .u8 n] (· = .bool (capI n)):=by
 refine AcF (AbV func155 rfl ntmps155 hB155 (by simp) fun h ρ w=>go rfl 200 ?_)
 by_cases h1:n>=65
 .have d1:decide (n>=65)=true:=by simpa using h1
  simp only[go_sem,d1];exact aret [2] rfl ⟨by simp[resV,Av.get,capI,h1],rfl⟩
 .have d1:decide (n>=65)=false:=by simpa using h1
  simp only[go_sem,d1];exact aret [2] rfl ⟨by simp[resV,Av.get,capI,h1],rfl⟩
def okB(c:UInt8):Bool:=!(decide ((c.toNat:Int)<32))&&!(decide ((c.toNat:Int)>126))
def plainL(s:List UInt8):Bool:=s.all okB&&(!Lib.hasPrefix s [32]&&(!Lib.hasSuffix s [32]&&!Lib.contains s [32,32]))
theorem AaX{α:Type}{p:α->Bool}{s:List α}{i:Nat}(h:i<s.length)(h1:(s.take i).all p=true)(h2:p s[i]=true):(s.take (i+1)).all p=true:=by
 rw[List.take_succ_eq_append_getElem h,List.all_append,h1]
 simpa using h2
theorem AcB{α:Type}{p:α->Bool}{s:List α}{i:Nat}(h:i<s.length)(h2:p s[i]=false):s.all p=false:=by
 rw[List.all_eq_false];exact⟨s[i],List.getElem_mem h,by simp[h2]⟩
theorem AbM{S:Std}(hS:LibOk S)(s:List UInt8)(hs:s.length<1000000):PcH prog S 186 [.str s] (· = .bool (plainL s)):=by
 refine AfG (AhW func186 rfl ntmps186 hB186 (by simp) fun h ρ w hg=>go rfl 200 ?_);simp only[go_sem];refine AaC (ι:=Nat) (fun i=>s.length-i) (fun i=>[(6,.int .i64 i),(5,.int .i64 s.length),(0,.str s)]) (fun _=>[]) (fun i=>i<=s.length/\(s.take i).all okB=true) 0 ⟨by omega,by simp⟩ ?_ ?_
 .refine Shift.weak ?_
  simp only[go_sem]
 .rintro i ⟨g1,g2⟩ J hJ
  refine go rfl 200 ?_
  by_cases hi:(i:Int)<s.length
  .have hil:i<s.length:=by omega
   have hgd:s.getD i 0=s[i]:=by simp[List.getD,hil]
   by_cases hc1:((s[i].toNat:Int)<32)
   .have d1:decide ((s[i].toNat:Int)<32)=true:=by simpa using hc1
    simp only[go_sem,hi,hgd,d1];refine⟨by omega,aret [2] rfl ⟨?_,rfl⟩⟩
    simp[resV,Av.get,plainL,AcB hil (p:=okB) (by simp[okB]; omega)]
   .have d1:decide ((s[i].toNat:Int)<32)=false:=by simpa using hc1
    by_cases hc2:((s[i].toNat:Int)>126)
    .have d2:decide ((s[i].toNat:Int)>126)=true:=by simpa using hc2
     simp only[go_sem,hi,hgd,d1,d2];refine⟨by omega,by omega,aret [2] rfl ⟨?_,rfl⟩⟩
     simp[resV,Av.get,plainL,AcB hil (p:=okB) (by simp[okB]; omega)]
    .have d2:decide ((s[i].toNat:Int)>126)=false:=by simpa using hc2
     simp only[go_sem,hi,hgd,d1,d2];rw[ic i]
     repeat refine ao ?_
     refine ainv (hJ (i+1) ⟨by omega,AaX hil g2 (by simp[okB]; omega)⟩ (by omega)) (Shift.weak ?_);simp only[go_sem]
  .simp only [go_sem,hi]
   have hall:s.all okB=true:=by rw[<- g2,List.take_of_length_le (by omega)]
   refine AdS (AfH s [32]) rfl rfl rfl (go rfl 200 ?_)
   cases e1:Lib.hasPrefix s [32]with
   | true =>
    simp only[go_sem];refine aret [2] rfl ⟨?_,rfl⟩
    simp[resV,Av.get,plainL,e1]
   | false =>
    simp only[go_sem];refine AdS (AcA s [32] (by omega)) rfl rfl rfl (go rfl 200 ?_)
    cases e2:Lib.hasSuffix s [32]with
    | true =>
     simp only[go_sem];refine aret [2] rfl ⟨?_,rfl⟩
     simp[resV,Av.get,plainL,e2]
    | false =>
     simp only[go_sem];refine AqR hg (AfI hS s [32,32] (by omega)) rfl rfl rfl (go rfl 200 ?_);simp only[go_sem];refine aret [2] rfl ⟨?_,rfl⟩
     simp[resV,Av.get,plainL,e1,e2,hall]
def okP(o:List UInt8)(c:UInt8):Bool:=capI c.toNat||(digI c.toNat||(((c.toNat:Int)==32)||!(decide (Lib.indexByte o c<0))))
def properL(s:List UInt8)(most:Int)(o:List UInt8):Bool :=
 !(decide ((s.length:Int)<1))&&(!(decide ((s.length:Int)>most))&&(capI (s.getD 0 0).toNat&&(plainL s&&s.all (okP o))))
theorem AoY{S:Std}(hS:LibOk S)(s:List UInt8)(most:Int)(o:List UInt8)(hs:s.length<1000000):PcH prog S 290 [.str s,.int .i64 most,.str o] (· = .bool (properL s most o)):=by
 refine zqIN func290 rfl fun h ρ w hg=>?_
 by_cases h1:(s.length:Int)<1
 .have d1:decide ((s.length:Int)<1)=true:=by simpa using h1
  simp only[go_sem,d1];exact aret [6] rfl ⟨by simp[resV,Av.get,properL,h1],rfl⟩
 have d1:decide ((s.length:Int)<1)=false:=by simpa using h1
 by_cases h2:(s.length:Int)>most
 .have d2:decide ((s.length:Int)>most)=true:=by simpa using h2
  simp only[go_sem,d1,d2];exact aret [6] rfl ⟨by simp[resV,Av.get,properL,h2],rfl⟩
 have d2:decide ((s.length:Int)>most)=false:=by simpa using h2
 simp only[go_sem,d1,d2];have hpos:0<s.length:=by omega
 refine⟨by omega,?_⟩;refine zpN (AbR _) ?_
 cases e1:capI (s.getD 0 0).toNat with
 | false =>
  simp only[go_sem];exact aret [6] rfl ⟨by simp only[resV,Av.get,properL,e1]; simp,rfl⟩
 | true =>
 simp only[go_sem];refine zqN hg (AbM hS s hs) ?_
 cases e2:plainL s with
 | false =>
  simp only[go_sem];exact aret [6] rfl ⟨by simp only[resV,Av.get,properL,e2]; simp,rfl⟩
 | true =>
 simp only[go_sem];have hval:properL s most o=s.all (okP o):=by simp only[properL,d1,d2,e1,e2]; simp
 rw[hval];refine AaC (ι:=Nat) (fun i=>s.length-i) (fun i=>[(30,.int .i64 i),(29,.int .i64 s.length),(0,.str s),(2,.str o)]) (fun _=>[]) (fun i=>i<=s.length/\(s.take i).all (okP o)=true) 0 ⟨by omega,by simp⟩ ?_ ?_
 .refine Shift.weak ?_
  simp only[go_sem]
 .rintro i ⟨g1,g2⟩ J hJ
  refine zgN ?_
  by_cases hi:(i:Int)<s.length
  .have hil:i<s.length:=by omega
   have hgd:s.getD i 0=s[i]:=by simp[List.getD,hil]
   simp only[go_sem,hi,hgd];refine⟨by omega,?_⟩;refine zpN (AbR _) ?_
   cases c1:capI (s[i].toNat:Int)with
   | true =>
    simp only[go_sem];rw[ic i]
    repeat refine ao ?_
    refine ainv (hJ (i+1) ⟨by omega,AaX hil g2 (by simp only[okP,c1]; rfl)⟩ (by omega)) (Shift.weak ?_);simp only[go_sem]
   | false =>
    simp only[go_sem,hi,hgd];refine⟨by omega,?_⟩;refine zpN (AfZ _) ?_
    cases c2:digI (s[i].toNat:Int)with
    | true =>
     simp only[go_sem];rw[ic i]
     repeat refine ao ?_
     refine ainv (hJ (i+1) ⟨by omega,AaX hil g2 (by simp only[okP,c1,c2]; rfl)⟩ (by omega)) (Shift.weak ?_);simp only[go_sem]
    | false =>
     cases c3:((s[i].toNat:Int)==32)with
     | true =>
      have c3':((s[i].toNat:Int) != 32)=false:=by simpa using c3
      simp only[go_sem,hi,hgd,c3'];rw[ic i]
      repeat refine ao ?_
      refine ainv (hJ (i+1) ⟨by omega,AaX hil g2 (by simp only[okP,c1,c2,c3]; rfl)⟩ (by omega)) (Shift.weak ?_);simp only[go_sem]
     | false =>
      have c3':((s[i].toNat:Int) != 32)=true:=by simpa using c3
      simp only[go_sem,hi,hgd,c3'];refine⟨by omega,by omega,?_⟩;refine zpN (AcU o (s[i].toNat:Int)) ?_;have hb:((s[i].toNat:Int)).toNat.toUInt8=s[i]:=by simp
      rw[hb]
      cases c4:decide (Lib.indexByte o s[i]<0)with
      | false =>
       simp only[go_sem,c4];rw[ic i]
       repeat refine ao ?_
       refine ainv (hJ (i+1) ⟨by omega,AaX hil g2 (by simp only[okP,c1,c2,c3,c4]; rfl)⟩ (by omega)) (Shift.weak ?_);simp only[go_sem]
      | true =>
       simp only[go_sem,c4];refine aret [6] rfl ⟨?_,rfl⟩
       simp[resV,Av.get,AcB hil (p:=okP o) (by simp only[okP,c1,c2,c3,c4]; rfl)]
  .simp only [go_sem,hi]
   have hall:s.all (okP o)=true:=by rw[<- g2,List.take_of_length_le (by omega)]
   exact aret [6] rfl ⟨by simp[resV,Av.get,hall],rfl⟩
def isSetL(s:List UInt8):Bool:=properL s 60 [39,46,45,47]&&(!Lib.contains s [32,45,32]&&!Lib.hasSuffix s [32,45])
theorem AtG{S:Std}(hS:LibOk S)(s:List UInt8)(hs:s.length<1000000):PcH prog S 255 [.str s] (· = .bool (isSetL s)):=by
 refine zqIN func255 rfl fun h ρ w hg=>?_
 simp only[go_sem];refine zqN hg (AoY hS s 60 [39,46,45,47] hs) ?_
 cases e1:properL s 60 [39,46,45,47]with
 | false =>
  simp only[go_sem];exact aret [2] rfl ⟨by simp[resV,Av.get,isSetL,e1],rfl⟩
 | true =>
  simp only[go_sem];refine zqN hg (AfI hS s [32,45,32] (by omega)) ?_
  cases e2:Lib.contains s [32,45,32]with
  | true =>
   simp only[go_sem];exact aret [2] rfl ⟨by simp[resV,Av.get,isSetL,e2],rfl⟩
  | false =>
   simp only[go_sem];refine zpN (AcA s [32,45] (by omega)) ?_;simp only[go_sem];exact aret [2] rfl ⟨by simp[resV,Av.get,isSetL,e1,e2],rfl⟩
end Go.Proofs.YtnfkjpihaficbaaGreatDoor
namespace Go.Proofs
open Go.Shelf _root_.Go.Proofs.Tryz
def Tryz.lays150_ren:Go.Shelf.Ren:=⟨fun|150=>292|153=>303|152=>277|226=>306|227=>181|228=>237|137=>188|119=>298|224=>288|225=>287|217=>242|266=>279|n=>n,fun|9=>9|4=>4|3=>3|5=>5|21=>21|117=>264|116=>263|0=>0|46=>206|124=>267|n=>n,fun|n=>n⟩
theorem Tryz.lays150:Go.Proofs.Lays.n150 prog Tryz.lays150_ren:={
 mixed:=by kernel_rfl
 f119:=func298.trans (congrArg some (by kernel_rfl))
 f137:=func188.trans (congrArg some (by kernel_rfl))
 f150:=func292.trans (congrArg some (by kernel_rfl))
 f152:=func277.trans (congrArg some (by kernel_rfl))
 f153:=func303.trans (congrArg some (by kernel_rfl))
 f217:=func242.trans (congrArg some (by kernel_rfl))
 f224:=func288.trans (congrArg some (by kernel_rfl))
 f225:=func287.trans (congrArg some (by kernel_rfl))
 f226:=func306.trans (congrArg some (by kernel_rfl))
 f227:=func181.trans (congrArg some (by kernel_rfl))
 f228:=func237.trans (congrArg some (by kernel_rfl))
 f266:=func279.trans (congrArg some (by kernel_rfl))
 t0:=underlying0
 a0:=Tryz.isAgg0
 z0:=Tryz.sizeOf0
 v0:=Tryz.zeroValue0
 t3:=underlying3
 a3:=Tryz.isAgg3
 z3:=Tryz.sizeOf3
 v3:=Tryz.zeroValue3
 t4:=underlying4
 a4:=Tryz.isAgg4
 z4:=Tryz.sizeOf4
 v4:=Tryz.zeroValue4
 t5:=underlying5
 a5:=Tryz.isAgg5
 z5:=Tryz.sizeOf5
 v5:=Tryz.zeroValue5
 t9:=underlying9
 a9:=Tryz.isAgg9
 z9:=Tryz.sizeOf9
 v9:=Tryz.zeroValue9
 t21:=underlying21
 a21:=Tryz.isAgg21
 z21:=Tryz.sizeOf21
 v21:=Tryz.zeroValue21
 t46:=underlying206
 a46:=Tryz.isAgg206
 z46:=Tryz.sizeOf206
 v46:=Tryz.zeroValue206
 t116:=underlying263
 a116:=Tryz.isAgg263
 z116:=Tryz.sizeOf263
 t117:=underlying264
 a117:=Tryz.isAgg264
 z117:=Tryz.sizeOf264
 v117:=Tryz.zeroValue264
 t124:=underlying267
 a124:=Tryz.isAgg267
 z124:=Tryz.sizeOf267
 v124:=Tryz.zeroValue267 }
def Tryz.lays160_ren:Go.Shelf.Ren:=⟨fun|160=>131|232=>180|231=>179|227=>181|234=>183|233=>182|236=>185|235=>184|228=>237|271=>240|151=>239|197=>238|120=>278|152=>277|260=>276|137=>188|119=>298|224=>288|225=>287|217=>242|266=>279|n=>n,fun|9=>9|4=>4|3=>3|5=>5|117=>264|116=>263|0=>0|124=>267|21=>21|105=>309|46=>206|119=>258|139=>369|138=>368|n=>n,fun|3=>6|4=>7|n=>n⟩
theorem Tryz.lays160:Go.Proofs.Lays.n160 prog Tryz.lays160_ren:={
 mixed:=by kernel_rfl
 f119:=func298.trans (congrArg some (by kernel_rfl))
 f120:=func278.trans (congrArg some (by kernel_rfl))
 f137:=func188.trans (congrArg some (by kernel_rfl))
 f151:=func239.trans (congrArg some (by kernel_rfl))
 f152:=func277.trans (congrArg some (by kernel_rfl))
 f160:=func131.trans (congrArg some (by kernel_rfl))
 f197:=func238.trans (congrArg some (by kernel_rfl))
 f217:=func242.trans (congrArg some (by kernel_rfl))
 f224:=func288.trans (congrArg some (by kernel_rfl))
 f225:=func287.trans (congrArg some (by kernel_rfl))
 f227:=func181.trans (congrArg some (by kernel_rfl))
 f228:=func237.trans (congrArg some (by kernel_rfl))
 f231:=func179.trans (congrArg some (by kernel_rfl))
 f232:=func180.trans (congrArg some (by kernel_rfl))
 f233:=func182.trans (congrArg some (by kernel_rfl))
 f234:=func183.trans (congrArg some (by kernel_rfl))
 f235:=func184.trans (congrArg some (by kernel_rfl))
 f236:=func185.trans (congrArg some (by kernel_rfl))
 f260:=func276.trans (congrArg some (by kernel_rfl))
 f266:=func279.trans (congrArg some (by kernel_rfl))
 f271:=func240.trans (congrArg some (by kernel_rfl))
 t0:=underlying0
 a0:=Tryz.isAgg0
 z0:=Tryz.sizeOf0
 v0:=Tryz.zeroValue0
 t3:=underlying3
 a3:=Tryz.isAgg3
 z3:=Tryz.sizeOf3
 v3:=Tryz.zeroValue3
 t4:=underlying4
 a4:=Tryz.isAgg4
 z4:=Tryz.sizeOf4
 v4:=Tryz.zeroValue4
 t5:=underlying5
 a5:=Tryz.isAgg5
 z5:=Tryz.sizeOf5
 v5:=Tryz.zeroValue5
 t9:=underlying9
 a9:=Tryz.isAgg9
 z9:=Tryz.sizeOf9
 v9:=Tryz.zeroValue9
 t21:=underlying21
 a21:=Tryz.isAgg21
 z21:=Tryz.sizeOf21
 v21:=Tryz.zeroValue21
 t46:=underlying206
 a46:=Tryz.isAgg206
 z46:=Tryz.sizeOf206
 v46:=Tryz.zeroValue206
 t105:=underlying309
 a105:=Tryz.isAgg309
 z105:=Tryz.sizeOf309
 v105:=Tryz.zeroValue309
 t116:=underlying263
 a116:=Tryz.isAgg263
 z116:=Tryz.sizeOf263
 t117:=underlying264
 a117:=Tryz.isAgg264
 z117:=Tryz.sizeOf264
 v117:=Tryz.zeroValue264
 t119:=underlying258
 a119:=Tryz.isAgg258
 z119:=Tryz.sizeOf258
 t124:=underlying267
 a124:=Tryz.isAgg267
 z124:=Tryz.sizeOf267
 v124:=Tryz.zeroValue267
 t138:=underlying368
 a138:=Tryz.isAgg368
 z138:=Tryz.sizeOf368
 v138:=Tryz.zeroValue368
 t139:=underlying369
 a139:=Tryz.isAgg369
 z139:=Tryz.sizeOf369
 v139:=Tryz.zeroValue369
 g3:=by kernel_rfl
 g4:=by kernel_rfl }
def Tryz.lays161_ren:Go.Shelf.Ren:=⟨fun|161=>143|231=>179|227=>181|233=>182|235=>184|228=>237|197=>238|151=>239|260=>276|152=>277|137=>188|119=>298|224=>288|225=>287|217=>242|266=>279|n=>n,fun|9=>9|4=>4|3=>3|5=>5|117=>264|116=>263|0=>0|124=>267|105=>309|21=>21|119=>258|46=>206|139=>369|138=>368|n=>n,fun|3=>6|4=>7|n=>n⟩
theorem Tryz.lays161:Go.Proofs.Lays.n161 prog Tryz.lays161_ren:={
 mixed:=by kernel_rfl
 f119:=func298.trans (congrArg some (by kernel_rfl))
 f137:=func188.trans (congrArg some (by kernel_rfl))
 f151:=func239.trans (congrArg some (by kernel_rfl))
 f152:=func277.trans (congrArg some (by kernel_rfl))
 f161:=func143.trans (congrArg some (by kernel_rfl))
 f197:=func238.trans (congrArg some (by kernel_rfl))
 f217:=func242.trans (congrArg some (by kernel_rfl))
 f224:=func288.trans (congrArg some (by kernel_rfl))
 f225:=func287.trans (congrArg some (by kernel_rfl))
 f227:=func181.trans (congrArg some (by kernel_rfl))
 f228:=func237.trans (congrArg some (by kernel_rfl))
 f231:=func179.trans (congrArg some (by kernel_rfl))
 f233:=func182.trans (congrArg some (by kernel_rfl))
 f235:=func184.trans (congrArg some (by kernel_rfl))
 f260:=func276.trans (congrArg some (by kernel_rfl))
 f266:=func279.trans (congrArg some (by kernel_rfl))
 t0:=underlying0
 a0:=Tryz.isAgg0
 z0:=Tryz.sizeOf0
 v0:=Tryz.zeroValue0
 t3:=underlying3
 a3:=Tryz.isAgg3
 z3:=Tryz.sizeOf3
 v3:=Tryz.zeroValue3
 t4:=underlying4
 a4:=Tryz.isAgg4
 z4:=Tryz.sizeOf4
 v4:=Tryz.zeroValue4
 t5:=underlying5
 a5:=Tryz.isAgg5
 z5:=Tryz.sizeOf5
 v5:=Tryz.zeroValue5
 t9:=underlying9
 a9:=Tryz.isAgg9
 z9:=Tryz.sizeOf9
 v9:=Tryz.zeroValue9
 t21:=underlying21
 a21:=Tryz.isAgg21
 z21:=Tryz.sizeOf21
 v21:=Tryz.zeroValue21
 t46:=underlying206
 a46:=Tryz.isAgg206
 z46:=Tryz.sizeOf206
 v46:=Tryz.zeroValue206
 t105:=underlying309
 a105:=Tryz.isAgg309
 z105:=Tryz.sizeOf309
 v105:=Tryz.zeroValue309
 t116:=underlying263
 a116:=Tryz.isAgg263
 z116:=Tryz.sizeOf263
 t117:=underlying264
 a117:=Tryz.isAgg264
 z117:=Tryz.sizeOf264
 v117:=Tryz.zeroValue264
 t119:=underlying258
 a119:=Tryz.isAgg258
 z119:=Tryz.sizeOf258
 t124:=underlying267
 a124:=Tryz.isAgg267
 z124:=Tryz.sizeOf267
 v124:=Tryz.zeroValue267
 t138:=underlying368
 a138:=Tryz.isAgg368
 z138:=Tryz.sizeOf368
 v138:=Tryz.zeroValue368
 t139:=underlying369
 a139:=Tryz.isAgg369
 z139:=Tryz.sizeOf369
 v139:=Tryz.zeroValue369
 g3:=by kernel_rfl
 g4:=by kernel_rfl }
def Tryz.laysC172_ren:Go.Shelf.Ren:=⟨fun|172=>94|244=>144|245=>145|247=>194|279=>195|280=>196|281=>197|282=>198|287=>249|316=>250|171=>91|205=>251|321=>285|322=>286|243=>140|246=>192|283=>245|284=>246|285=>247|286=>248|129=>222|317=>281|318=>282|319=>283|320=>284|337=>300|338=>301|n=>n,fun|9=>9|3=>3|75=>176|76=>177|4=>4|5=>5|167=>274|37=>210|0=>0|85=>275|2=>2|168=>277|53=>254|175=>318|46=>206|210=>322|127=>257|145=>358|143=>356|21=>21|171=>314|173=>316|212=>353|51=>251|20=>20|213=>354|232=>371|233=>372|80=>103|n=>n,fun|15=>3|16=>4|17=>5|18=>8|19=>9|n=>n⟩
theorem Tryz.laysC172:Go.Proofs.LaysC.n172 prog Tryz.laysC172_ren:={
 mixed:=by kernel_rfl
 f129:=func222.trans (congrArg some (by kernel_rfl))
 f171:=func91.trans (congrArg some (by kernel_rfl))
 f172:=func94.trans (congrArg some (by kernel_rfl))
 f205:=func251.trans (congrArg some (by kernel_rfl))
 f243:=func140.trans (congrArg some (by kernel_rfl))
 f244:=func144.trans (congrArg some (by kernel_rfl))
 f245:=func145.trans (congrArg some (by kernel_rfl))
 f246:=func192.trans (congrArg some (by kernel_rfl))
 f247:=func194.trans (congrArg some (by kernel_rfl))
 f279:=func195.trans (congrArg some (by kernel_rfl))
 f280:=func196.trans (congrArg some (by kernel_rfl))
 f281:=func197.trans (congrArg some (by kernel_rfl))
 f282:=func198.trans (congrArg some (by kernel_rfl))
 f283:=func245.trans (congrArg some (by kernel_rfl))
 f284:=func246.trans (congrArg some (by kernel_rfl))
 f285:=func247.trans (congrArg some (by kernel_rfl))
 f286:=func248.trans (congrArg some (by kernel_rfl))
 f287:=func249.trans (congrArg some (by kernel_rfl))
 f316:=func250.trans (congrArg some (by kernel_rfl))
 f317:=func281.trans (congrArg some (by kernel_rfl))
 f318:=func282.trans (congrArg some (by kernel_rfl))
 f319:=func283.trans (congrArg some (by kernel_rfl))
 f320:=func284.trans (congrArg some (by kernel_rfl))
 f321:=func285.trans (congrArg some (by kernel_rfl))
 f322:=func286.trans (congrArg some (by kernel_rfl))
 f337:=func300.trans (congrArg some (by kernel_rfl))
 f338:=func301.trans (congrArg some (by kernel_rfl))
 t0:=underlying0
 a0:=Tryz.isAgg0
 z0:=Tryz.sizeOf0
 v0:=Tryz.zeroValue0
 t2:=underlying2
 a2:=Tryz.isAgg2
 z2:=Tryz.sizeOf2
 v2:=Tryz.zeroValue2
 t3:=underlying3
 a3:=Tryz.isAgg3
 z3:=Tryz.sizeOf3
 v3:=Tryz.zeroValue3
 t4:=underlying4
 a4:=Tryz.isAgg4
 z4:=Tryz.sizeOf4
 v4:=Tryz.zeroValue4
 t5:=underlying5
 a5:=Tryz.isAgg5
 z5:=Tryz.sizeOf5
 v5:=Tryz.zeroValue5
 t9:=underlying9
 a9:=Tryz.isAgg9
 z9:=Tryz.sizeOf9
 v9:=Tryz.zeroValue9
 t20:=underlying20
 a20:=Tryz.isAgg20
 z20:=Tryz.sizeOf20
 v20:=Tryz.zeroValue20
 t21:=underlying21
 a21:=Tryz.isAgg21
 z21:=Tryz.sizeOf21
 v21:=Tryz.zeroValue21
 t37:=underlying210
 a37:=Tryz.isAgg210
 z37:=Tryz.sizeOf210
 v37:=Tryz.zeroValue210
 t46:=underlying206
 a46:=Tryz.isAgg206
 z46:=Tryz.sizeOf206
 v46:=Tryz.zeroValue206
 t51:=underlying251
 a51:=Tryz.isAgg251
 z51:=Tryz.sizeOf251
 v51:=Tryz.zeroValue251
 t53:=underlying254
 a53:=Tryz.isAgg254
 z53:=Tryz.sizeOf254
 v53:=Tryz.zeroValue254
 t75:=underlying176
 a75:=Tryz.isAgg176
 z75:=Tryz.sizeOf176
 v75:=Tryz.zeroValue176
 t76:=underlying177
 a76:=Tryz.isAgg177
 z76:=Tryz.sizeOf177
 v76:=Tryz.zeroValue177
 t85:=underlying275
 a85:=Tryz.isAgg275
 z85:=Tryz.sizeOf275
 v85:=Tryz.zeroValue275
 t127:=underlying257
 a127:=Tryz.isAgg257
 z127:=Tryz.sizeOf257
 v127:=Tryz.zeroValue257
 t143:=underlying356
 a143:=Tryz.isAgg356
 z143:=Tryz.sizeOf356
 v143:=Tryz.zeroValue356
 t145:=underlying358
 a145:=Tryz.isAgg358
 z145:=Tryz.sizeOf358
 v145:=Tryz.zeroValue358
 t167:=underlying274
 a167:=Tryz.isAgg274
 z167:=Tryz.sizeOf274
 v167:=Tryz.zeroValue274
 t168:=underlying277
 a168:=Tryz.isAgg277
 z168:=Tryz.sizeOf277
 v168:=Tryz.zeroValue277
 t171:=underlying314
 a171:=Tryz.isAgg314
 z171:=Tryz.sizeOf314
 v171:=Tryz.zeroValue314
 t173:=underlying316
 a173:=Tryz.isAgg316
 z173:=Tryz.sizeOf316
 v173:=Tryz.zeroValue316
 t175:=underlying318
 a175:=Tryz.isAgg318
 z175:=Tryz.sizeOf318
 v175:=Tryz.zeroValue318
 t210:=underlying322
 a210:=Tryz.isAgg322
 z210:=Tryz.sizeOf322
 v210:=Tryz.zeroValue322
 t212:=underlying353
 a212:=Tryz.isAgg353
 z212:=Tryz.sizeOf353
 v212:=Tryz.zeroValue353
 t213:=underlying354
 a213:=Tryz.isAgg354
 z213:=Tryz.sizeOf354
 t232:=underlying371
 a232:=Tryz.isAgg371
 z232:=Tryz.sizeOf371
 v232:=Tryz.zeroValue371
 t233:=underlying372
 a233:=Tryz.isAgg372
 z233:=Tryz.sizeOf372
 v233:=Tryz.zeroValue372
 g15:=by kernel_rfl
 g16:=by kernel_rfl
 g17:=by kernel_rfl
 g18:=by kernel_rfl
 g19:=by kernel_rfl
 t80:=underlying103
 a80:=Tryz.isAgg103
 z80:=Tryz.sizeOf103
 v80:=Tryz.zeroValue103
 i0:=by kernel_rfl
 i2:=by kernel_rfl
 i3:=by kernel_rfl
 i4:=by kernel_rfl
 i5:=by kernel_rfl
 i9:=by kernel_rfl
 i20:=by kernel_rfl
 i21:=by kernel_rfl
 i37:=by kernel_rfl
 i46:=by kernel_rfl
 i51:=by kernel_rfl
 i53:=by kernel_rfl
 i75:=by kernel_rfl
 i76:=by kernel_rfl
 i80:=by kernel_rfl
 i85:=by kernel_rfl
 i127:=by kernel_rfl
 i143:=by kernel_rfl
 i145:=by kernel_rfl
 i167:=by kernel_rfl
 i168:=by kernel_rfl
 i171:=by kernel_rfl
 i173:=by kernel_rfl
 i175:=by kernel_rfl
 i210:=by kernel_rfl
 i212:=by kernel_rfl
 i232:=by kernel_rfl
 i233:=by kernel_rfl
 m15:=by kernel_rfl
 m16:=by kernel_rfl
 m17:=by kernel_rfl
 m18:=by kernel_rfl
 m19:=by kernel_rfl
 c0:=by kernel_rfl
 c2:=by kernel_rfl
 c3:=by kernel_rfl
 c4:=by kernel_rfl
 c5:=by kernel_rfl
 c9:=by kernel_rfl
 c20:=by kernel_rfl
 c21:=by kernel_rfl
 c37:=by kernel_rfl
 c46:=by kernel_rfl
 c51:=by kernel_rfl
 c53:=by kernel_rfl
 c75:=by kernel_rfl
 c76:=by kernel_rfl
 c80:=by kernel_rfl
 c85:=by kernel_rfl
 c127:=by kernel_rfl
 c143:=by kernel_rfl
 c145:=by kernel_rfl
 c167:=by kernel_rfl
 c168:=by kernel_rfl
 c171:=by kernel_rfl
 c173:=by kernel_rfl
 c175:=by kernel_rfl
 c210:=by kernel_rfl
 c212:=by kernel_rfl
 c213:=by kernel_rfl
 c232:=by kernel_rfl
 c233:=by kernel_rfl }
end Go.Proofs
namespace Go.Proofs.YtnfkjpihaficbaaGreatDoor
open Go Go.Av Go.RowKit _root_.Go.Proofs.Tryz
theorem AwM{f:FuncId}{args:List AV}{r:AV}(vs:List Value)(v:Value)(hb:AaB prog f=true)(ha:∀ h vs',RL h Lf0 true vs' args->vs'=vs)(hr:∀ h,RV h Lf0 true v r)
  (H:∀ w,Calls prog f vs.toArray w fun e w'=>e=.returned v/\Below w.heap.size w w'):Pc prog f args (· = r):=by
 refine⟨hb,fun h w vs' hm hv=>?_⟩;have:=ha h vs' hv;subst this;refine(H w).mono ?_;rintro e w' ⟨rfl,hs⟩;have hs:Same w w':=⟨hs.os,hs.tape,⟨hs.output,trivial⟩,hs.size,hs.block⟩;exact⟨v,r,h,rfl,rfl,fun b o v e=>⟨hs.cell (hm b o v e).1,(hm b o v e).2⟩,fun _ _ _ x=>x,fun b o e n=>(n e).elim,hs,hr h⟩
def AcL(s:List UInt8):Prop:=∀ b∈s,b.toNat<128
theorem AhY{s:List UInt8}(h:AcL s):∀ (j:Nat) b,(⟨s.toArray⟩:ByteArray).data.toList[j]? = some b->b.toNat<128:=fun j b hb=>h b (List.mem_of_getElem? hb)
theorem AcI{s:List UInt8}(h:s.all (fun b=>decide (b.toNat<128))=true):AcL s:=fun b hb=>of_decide_eq_true (List.all_eq_true.1 h b hb)
theorem AzD{s:List UInt8}(h:s.all okB=true):AcL s:=fun b hb=>by
 have:=List.all_eq_true.1 h b hb;simp only[okB,Bool.and_eq_true,Bool.not_eq_true',decide_eq_false_iff_not]at this;omega
theorem BlH:(prog.info? (Tryz.lays150_ren.t 116)).map (fun i=>(i.zero,i.size))=some (some (.agg (Array.replicate 256 (.bool false))),256):=by kernel_rfl
theorem BlI:(prog.info? (Tryz.lays160_ren.t 116)).map (fun i=>(i.zero,i.size))=some (some (.agg (Array.replicate 256 (.bool false))),256):=by kernel_rfl
theorem BlJ:(prog.info? (Tryz.lays161_ren.t 116)).map (fun i=>(i.zero,i.size))=some (some (.agg (Array.replicate 256 (.bool false))),256):=by kernel_rfl
theorem AgT(s p:List UInt8)(hs:s.length<4294967281)(hp:p.length<4294967281)(h1:AcL s)(h2:AcL p):Pc prog 292 [.str s,.str p] (· = .bool (Lib.containsAny s p)) :=
 AwM [_,_] (.bool (Lib.containsAny s p)) hB292 (AdB s p) (fun h=>.bool _) fun w=>Any.strings_ContainsAny_laid Tryz.lays150 BlH ⟨s.toArray⟩ ⟨p.toArray⟩ w hs hp (AhY h1) (AhY h2)
theorem AmN(s p:List UInt8)(hs:s.length<4294967281)(hp:p.length<4294967281)(h2:AcL p):Pc prog 131 [.str s,.str p] (· = .str (Lib.trimS s p)) :=
 AwM [_,_] (.string ⟨(Lib.trimS s p).toArray⟩) hB131 (AdB s p) (fun h=>.str _) fun w=>Any.strings_Trim_laid Tryz.lays160 BlI ⟨s.toArray⟩ ⟨p.toArray⟩ w (show s.length<=_ by omega) hp (AhY h2)
theorem AwN(s p:List UInt8)(hp:p.length<4294967281)(h2:AcL p):Pc prog 143 [.str s,.str p] (· = .str (Lib.trimLeftS s p)) :=
 AwM [_,_] (.string ⟨(Lib.trimLeftS s p).toArray⟩) hB143 (AdB s p) (fun h=>.str _) fun w=>Any.strings_TrimLeft_laid Tryz.lays161 BlJ ⟨s.toArray⟩ ⟨p.toArray⟩ w hp (AhY h2)
def A2H(c:UInt8):Bool:=capI c.toNat||(((c.toNat:Int)==32)||((c.toNat:Int)==46))
def isTurnL(s:List UInt8):Bool:=s.all A2H&&decide ((s.length:Int)<=40)
theorem A6D(s:List UInt8)(hs:s.length<1000000):Pc prog 293 [.str s] (· = .bool (isTurnL s)):=by
 refine zpIN func293 rfl fun h ρ w=>?_
 simp only[go_sem];refine AaC (ι:=Nat) (fun i=>s.length-i) (fun i=>[(6,.int .i64 i),(5,.int .i64 s.length),(0,.str s)]) (fun _=>[]) (fun i=>i<=s.length/\(s.take i).all A2H=true) 0 ⟨by omega,by simp⟩ ?_ ?_
 .refine Shift.weak ?_
  simp only[go_sem]
 .rintro i ⟨g1,g2⟩ J hJ
  refine zgN ?_
  by_cases hi:i<s.length
  .have d1:decide ((i:Int)<(s.length:Int))=true:=by simp; omega
   have hx:s.getD i 0=s[i]:=by simp[List.getD,hi]
   simp only[go_sem,d1,hx];refine⟨by omega,by simpa using hi,?_⟩;refine zpN (AbR _) ?_;have bad:A2H s[i]=false->isTurnL s=false:=fun h=>by simp only[isTurnL,AcB hi h,Bool.false_and]
   have again:A2H s[i]=true->(s.take (i+1)).all A2H=true:=fun h=>AaX hi g2 h
   have e1:(i:Int)+1=((i+1:Nat):Int):=by omega
   unfold A2H at bad again
   cases q1:capI s[i].toNat with
   | true =>
    simp only[go_sem];rw[e1]
    repeat refine ao ?_
    refine ainv (hJ (i+1) ⟨by omega,again (by rw[q1]; rfl)⟩ (by omega)) (Shift.weak ?_);simp only[go_sem]
   | false =>
    cases q2:((s[i].toNat:Int)==32)with
    | true =>
     have q2':((s[i].toNat:Int) != 32)=false:=by rw[bne,q2]; rfl
     simp only[go_sem,q2',hx];rw[e1]
     repeat refine ao ?_
     refine ainv (hJ (i+1) ⟨by omega,again (by rw[q1,q2]; rfl)⟩ (by omega)) (Shift.weak ?_);simp only[go_sem]
    | false =>
     have q2':((s[i].toNat:Int) != 32)=true:=by rw[bne,q2]; rfl
     cases q3:((s[i].toNat:Int)==46)with
     | true =>
      have q3':((s[i].toNat:Int) != 46)=false:=by rw[bne,q3]; rfl
      simp only[go_sem,q2',q3',hx];rw[e1]
      repeat refine ao ?_
      refine ainv (hJ (i+1) ⟨by omega,again (by rw[q1,q2,q3]; rfl)⟩ (by omega)) (Shift.weak ?_);simp only[go_sem]
     | false =>
      have q3':((s[i].toNat:Int) != 46)=true:=by rw[bne,q3]; rfl
      simp only[go_sem,q2',q3',hx]
      repeat refine ao ?_
      exact aret [2] rfl ⟨by rw[bad (by rw[q1,q2,q3]; rfl)]; rfl,rfl⟩
  .have d1:decide ((i:Int)<(s.length:Int))=false:=by simp; omega
   have:i=s.length:=by omega
   subst this;simp only[go_sem,d1];refine aret [2] rfl ⟨?_,rfl⟩;rw[List.take_length]at g2
   simp[resV,Av.get,isTurnL,g2]
def BlK(s:List UInt8):Bool:=properL s 30 [39,46,45]
theorem A2I{S:Std}(hS:LibOk S)(s:List UInt8)(hs:s.length<1000000):PcH prog S 291 [.str s] (· = .bool (BlK s)):=by
 refine zqIN func291 rfl fun h ρ w hg=>?_
 simp only[go_sem];refine zqN hg (AoY hS s 30 _ hs) ?_;simp only[go_sem];exact zt [2]
def followsL(k l:Int):Bool:=if k==3 then l==2||l==4 else if k==4 then l==2||(l==3||l==4) else l != 2&&l != 3
theorem A2J(k l:Int):Pc prog 257 [.int .i64 k,.int .i64 l] (· = .bool (followsL k l)):=by
 refine zpIN func257 rfl fun h ρ w=>?_
 unfold followsL
 cases q3:k==3 with
 | true =>
  cases q:l==2 <;>
  .simp only [go_sem,q3,q]
   exact zt [4]
 | false =>
  cases q4:k==4 with
  | true =>
   cases q:l==2 <;> cases q':l==3 <;>
   .simp only [go_sem,q3,q4,q,q']
    exact zt [4]
  | false =>
   cases q:l != 2 <;>
   .simp only [go_sem,q3,q4,q]
    exact zt [4]
structure Pa where
 kind:Int
 text:List UInt8
structure Sc where
 no:List UInt8
 place:Int
 set:List UInt8
 time:Int
 paras:List Pa
structure Sr where
 title:List UInt8
 scenes:List Sc
def paA(p:Pa):AV:=.agg [.int .i64 p.kind,.str p.text]
def scA(x:Sc):AV:=.agg [.str x.no,.int .i64 x.place,.str x.set,.int .i64 x.time,.fz 2 (x.paras.map paA)]
def srA(x:Sr):AV:=.agg [.str x.title,.fz 5 (x.scenes.map scA)]
def paraOk(p:Pa):Bool:=decide (1<=p.kind)&&(decide (p.kind<=5)&&(p.text != []&&(plainL p.text&&(decide (p.text.length<=2000) &&
 ((p.kind != 2||BlK p.text)&&((p.kind != 3||(decide (p.text.length<=200)&&!Lib.containsAny p.text [40,41]))&&(p.kind != 5||isTurnL p.text)))))))
theorem AqT{S:Std}(hS:LibOk S)(p:Pa)(h:paraOk p=true):PcH prog S 256 [paA p] (· = .int .i64 0):=by
 obtain⟨k,s⟩:=p;simp only[paraOk,Bool.and_eq_true,decide_eq_true_eq,bne_iff_ne,ne_eq,Bool.or_eq_true,Bool.not_eq_true']at h;obtain⟨h1,h2,h3,h4,h5,h6,h7,h8⟩:=h;have e0:(s==[])=false:=by simpa using h3
 have hs:s.length<1000000:=by omega
 have d2:decide ((s.length:Int)>2000)=false:=by simp; omega
 have hasc:AcL s:=AzD (by simp only[plainL,Bool.and_eq_true]at h4; exact h4.1);unfold paA;have hk:k=1\/k=2\/k=3\/k=4\/k=5:=by omega
 refine zqIN func256 rfl fun h ρ w hg=>?_
 rcases hk with rfl|rfl|rfl|rfl|rfl
 .simp only [go_sem,e0,d2]
  refine zqN hg (AbM hS s hs) ?_;rw[h4];simp only[go_sem,e0,d2];exact zt [2]
 .simp only [go_sem,e0,d2]
  refine zqN hg (AbM hS s hs) ?_;rw[h4];simp only[go_sem,e0,d2];refine zqN hg (A2I hS s hs) ?_;rw[h6.resolve_left (by simp)];simp only[go_sem];exact zt [2]
 .have h7:=h7.resolve_left (by simp)
  have d3:decide ((s.length:Int)>200)=false:=by simp; omega
  simp only[go_sem,e0,d2,d3];refine zqN hg (AbM hS s hs) ?_;rw[h4];simp only[go_sem,e0,d2,d3];refine zpN (AgT s [40,41] (by omega) (by decide) hasc (AcI rfl)) ?_;rw[h7.2];simp only[go_sem];exact zt [2]
 .simp only [go_sem,e0,d2]
  refine zqN hg (AbM hS s hs) ?_;rw[h4];simp only[go_sem,e0,d2];exact zt [2]
 .simp only [go_sem,e0,d2]
  refine zqN hg (AbM hS s hs) ?_;rw[h4];simp only[go_sem,e0,d2];refine zpN (A6D s hs) ?_;rw[h8.resolve_left (by simp)];simp only[go_sem];exact zt [2]
end Go.Proofs.YtnfkjpihaficbaaGreatDoor
set_option linter.unusedSectionVars false
namespace Go.Av
open Go Go.RowKit
variable [Tr]
def cellTo(n:Nat)(a a':AV):Prop:=a'=a\/(a=.raw (.slice none 0 0)/\(a'=.sl n 0 0 0\/∃ es,a'=.fz es []))
def toC(n:Nat):List AV->List AV->Prop
 | [],[]=>True
 | a::r,a'::r'=>cellTo n a a'/\toC n r r'
 | _,_=>False
theorem cellTo.refl{n:Nat}{a:AV}:cellTo n a a:=.inl rfl
theorem cellTo.sl{n:Nat}:cellTo n (.raw (.slice none 0 0)) (.sl n 0 0 0):=.inr ⟨rfl,.inl rfl⟩
theorem cellTo.fz{n es:Nat}:cellTo n (.raw (.slice none 0 0)) (.fz es []):=.inr ⟨rfl,.inr ⟨es,rfl⟩⟩
section
variable {h:Mem}{ρ:Own}{s:List Blk}{w:World}
theorem BfG{n es:Nat}(hn:s[n]? = some (.arr es [])):∀ {l l':List AV}{vs:List Value},toC n l l'->RL h (Lf ρ s) false vs l->RL h (Lf ρ s) false vs l'
 | [],[],_,_,r=>r
 | a::l,a'::l',_,t,r=>by
  cases r with
  | cons r1 r2 =>
   refine .cons ?_ (BfG hn t.2 r2)
   rcases t.1 with rfl|⟨rfl,rfl|⟨e,rfl⟩⟩
   .exact r1
   .rw [AbF r1]
    exact .leaf ⟨rfl,by simp only[LfC,hn]; exact⟨by simp,fun _=>.inl ⟨trivial,trivial,none,rfl⟩⟩⟩
   .rw [AbF r1]
    exact .fznil e
 | [],_::_,_,t,_=>t.elim
 | _::_,[],_,t,_=>t.elim
theorem Mine.recell(m:Mine h ρ s w){id n es es':Nat}{l l':List AV}(hb:s[id]? = some (.arr es l))(hlen:l'.length=l.length)(hcl:∀ x∈l',(cellsOf x).length=es)(hn:s[n]? = some (.arr es' []))(ht:toC n (flat l) (flat l')) :
  Mine h ρ (s.set id (.arr es l')) w/\Later h ρ s w h ρ (s.set id (.arr es l')) w:=by
 have hid:=(List.getElem?_eq_some_iff.1 hb).1;have hk:∀ v a,Lf ρ s v a->Lf ρ (s.set id (.arr es l')) v a:=fun v a x=>⟨x.1,AbQ (b':=.arr es l') hb (fun _ _=>rfl) (Or.inl ⟨rfl,hlen,rfl⟩) x.2⟩
 refine⟨⟨m.mem,?_,fun i hi=>m.out i (by simpa using hi),m.inj,m.disj⟩,⟨fun _ _ _ x=>x,fun _ _ a b=>(b a).elim,hk,rfl,rfl,⟨rfl,Tr.same rfl⟩,Nat.le_refl _,fun _ _ _=>rfl,fun i _ t x=>.inl ⟨i,t,x⟩⟩⟩;intro i blk e
 by_cases hi:i=id
 .subst hi
  simp[hid]at e
  subst e
  rcases m.own i _ hb with⟨h1,h2⟩|⟨g,tot,cur,t,h1,h2,h3,h4,h5,h6,h7,h8,h9⟩
  .exact .inl ⟨by subst h1; simpa using hlen,h2⟩
  .refine .inr ⟨g,tot,cur,t,h1,h2,h3,by omega,h5,h6,hcl,h8,?_⟩
   rw[hlen];exact(BfG hn ht h9).mono (fun _ _ _ x=>x) hk
 .rw [List.getElem?_set_ne (Ne.symm hi)]at e
  exact(m.own i blk e).mono (fun _ _ _ x=>x) hk rfl (fun _ _ _=>rfl)
end
variable {c:Cx}{e:Env}{s:List Blk}
theorem Shift.cells(id es':Nat){es:Nat}{l:List AV}(l':List AV)(hb:s.getD id .dead=.arr es l)(hlen:l'.length=l.length)(hcl:∀ x∈l',(cellsOf x).length=es)(ht:toC s.length (flat l) (flat l')) :
  Shift c e s e (List.set (s++[Blk.arr es' []]) id (Blk.arr es l')):=by
 rintro a w ⟨hh,ρ,hm,hlt,he,hdf,hsz,hX⟩;obtain⟨m1,l1⟩:=hm.pushNil es';have hid:=AcE hb;have hlt':id<s.length:=(List.getElem?_eq_some_iff.1 hid).1;obtain⟨m2,l2⟩:=m1.recell (id:=id) (n:=s.length) (es':=es') (by rw[List.getElem?_append_left hlt']; exact hid) hlen hcl (by simp) ht;exact⟨hh,ρ,m2,hlt.trans (l1.trans l2),fun t=>((he t).mono l1.hle l1.keep).mono l2.hle l2.keep,hdf,hsz,c.hx.later hm (l1.trans l2) hX⟩
end Go.Av
namespace Go.Av
open Go Go.RowKit
variable [Tr]
def lowC(n:Nat):AV->Bool
 | .sl m _ _ _=>decide (m<n)
 | .ptr m _ _ _=>decide (m<n)
 | .mp m=>decide (m<n)
 | v=>frozen v
def lowV(n:Nat):AV->Bool
 | .agg r=>r.all (lowC n)
 | .fn _ r=>r.all (lowC n)
 | v=>lowC n v
def lowB(n:Nat):Blk->Bool
 | .arr _ l=>(flat l).all (lowC n)
 | .mp es=>es.all fun x=>lowV n x.2
 | .it mid _ _=>decide (mid<n)
 | .dead=>true
def wkl(n:Nat)(e:Env):Env->Prop
 | []=>True
 | (t,v)::r=>(lowV n v=true/\get e t=v)/\wkl n e r
def lowρ(ρ:Own)(n:Nat):Own:=fun i=>if i<n then ρ i else none
theorem AqU{n:Nat}{v:AV}(h:frozen v=true):lowC n v=true:=by
 cases v <;> first|exact h|(simp[frozen]at h)
theorem AaD{n:Nat}{l:List AV}(h:l.all frozen=true):l.all (lowC n)=true:=by
 rw[List.all_eq_true]at h |-;exact fun x hx=>AqU (h x hx)
section
variable {h:Mem}{ρ:Own}{s:List Blk}{w:World}{n:Nat}
theorem AmO(hn:n<=s.length){v:Value}{a:AV}(hl:lowC n a=true)(l:LfC ρ s v a):LfC (lowρ ρ n) (s.take n) v a:=by
 cases a with
 | sl i o x cp =>
  have hi:i<n:=of_decide_eq_true hl;simp only[LfC,List.getElem?_take,hi,if_true,lowρ]at l |-; exact l
 | ptr i m j o =>
  have hi:i<n:=of_decide_eq_true hl;simp only[LfC,List.getElem?_take,hi,if_true,lowρ]at l |-; exact l
 | mp i =>
  have hi:i<n:=of_decide_eq_true hl;simp only[LfC,List.getElem?_take,hi,if_true,lowρ]at l |-; exact l
 | _=>exact l.elim
theorem AwO(hn:n<=s.length){v:Value}{a:AV}(hl:lowC n a=true)(r:RV h (Lf ρ s) false v a):RV h (Lf (lowρ ρ n) (s.take n)) false v a:=by
 have frz:frozen a=true->RV h (Lf (lowρ ρ n) (s.take n)) false v a:=fun hf=>(AeM r hf).thaw (fun _ _ _ x=>x)
 cases a with
 | sl i o x cp=>exact .leaf ⟨(AbL r).1,AmO hn hl (AbL r).2⟩
 | ptr i m j o=>exact .leaf ⟨(AcD r).1,AmO hn hl (AcD r).2⟩
 | mp i=>exact .leaf ⟨(AgR r).1,AmO hn hl (AgR r).2⟩
 | _=>exact frz hl
theorem AgA(hn:n<=s.length):∀ {l:List AV}{vs:List Value},l.all (lowC n)=true->RL h (Lf ρ s) false vs l->RL h (Lf (lowρ ρ n) (s.take n)) false vs l
 | [],_,_,r=>by cases r; exact .nil
 | a::l,_,hl,r=>by
  simp only[List.all_cons,Bool.and_eq_true]at hl
  cases r with|cons r1 r2=>exact .cons (AwO hn hl.1 r1) (AgA hn hl.2 r2)
theorem BhO(hn:n<=s.length){u:Value}{y:AV}(h1:lowV n y=true)(hx:RV h (Lf ρ s) false u y):RV h (Lf (lowρ ρ n) (s.take n)) false u y:=by
 cases y with
 | agg r =>
  obtain⟨vs,rfl,rl⟩:=AaO hx;exact .agg vs r (AgA hn h1 rl)
 | fn f r =>
  cases hx with
  | leaf p=>exact p.2.elim
  | fn _ vs _ rl=>exact .fn f vs r (AgA hn h1 rl)
 | _=>exact AwO hn h1 hx
theorem Mine.low(m:Mine h ρ s w)(hn:n<=s.length)(hb:(s.take n).all (lowB n)=true):Mine h (lowρ ρ n) (s.take n) w:=by
 have hρ:∀ i g t,lowρ ρ n i=some (g,t)->i<n/\ρ i=some (g,t):=by
  intro i g t e;unfold lowρ at e
  split at e
  .exact ⟨by assumption,e⟩
  .cases e
 refine⟨m.mem,?_,?_,?_,?_⟩
 .intro i b e
  have hi:i<n:=by
   have:=(List.getElem?_eq_some_iff.1 e).1
   simp at this; omega
  have hlow:lowB n b=true:=List.all_eq_true.1 hb b (List.mem_of_getElem? e);rw[List.getElem?_take,if_pos hi]at e;have o:=m.own i b e;have hρi:lowρ ρ n i=ρ i:=by simp[lowρ,hi]
  cases b with
  | arr es l =>
   rcases o with⟨h1,h2⟩|⟨g,tot,cur,t,h1,h2,h3,h4,h5,h6,h7,h8,h9⟩
   .exact .inl ⟨h1,hρi.trans h2⟩
   .exact .inr ⟨g,tot,cur,t,hρi.trans h1,h2,h3,h4,h5,h6,h7,h8,AgA hn hlow h9⟩
  | mp es =>
   obtain⟨g,en,cl,h1,h2,h3,h4,h5⟩:=o;refine⟨g,en,cl,hρi.trans h1,h2,h3,fun k x y hx hy=>?_,h5⟩;obtain⟨p,q⟩:=h4 k x y hx hy;simp only[lowB,List.all_eq_true]at hlow;have:=hlow x (ApY (List.mem_of_getElem? hx));exact⟨p.thaw (fun _ _ _ x=>x),BhO hn this q⟩
  | it mid k seen =>
   obtain⟨g,gm,h1,h2,h3,h4⟩:=o;exact⟨g,gm,hρi.trans h1,h2,⟨h3.1,AmO hn (a:=.mp mid) hlow h3.2⟩,h4⟩
  | dead=>exact hρi.trans o
 .intro i hi
  have:¬ i<n:=by simp at hi; omega
  simp[lowρ,this]
 .intro i j g t t' hi hj
  exact m.inj i j g t t' (hρ i g t hi).2 (hρ j g t' hj).2
 .intro i g t e
  exact m.disj i g t (hρ i g t e).2
end
variable {c:Cx}{e:Env}{s:List Blk}
theorem BhP{n:Nat}{e e':Env}(h:wkl n e e')(t:Nat):get e' t=.any\/(lowV n (get e' t)=true/\get e t=get e' t):=by
 induction e' with
 | nil=>exact .inl rfl
 | cons x r ih =>
  obtain⟨k,v⟩:=x;simp only[get]
  by_cases hk:k=t
  .subst hk; simp; exact .inr h.1
  .have:(k==t)=false:=by simpa using hk
   simp only[this,cond_false];exact ih h.2
theorem Shift.low(n:Nat){e':Env}(hc:c.sto.length<=n)(hn:n<=s.length)(hb:(s.take n).all (lowB n)=true)(hw:wkl n e e'):Shift c e s e' (s.take n):=by
 rintro a w ⟨hh,ρ,hm,hlt,he,hdf,hsz,hX⟩;have low:∀ v x,Lf c.ρ c.sto v x->Lf (lowρ ρ n) (s.take n) v x:=by
  intro v x lf;have l2:=hlt.keep v x lf;refine⟨lf.1,AmO hn ?_ l2.2⟩;have hx:=lf.2
  cases x <;> simp only[LfC]at hx
  .rename_i i o l cp
   cases hq:c.sto[i]? with
   | none=>simp[hq]at hx
   | some y=>exact decide_eq_true (Nat.lt_of_lt_of_le (List.getElem?_eq_some_iff.1 hq).1 hc)
  .rename_i i n j o
   cases hq:c.sto[i]? with
   | none=>simp[hq]at hx
   | some y=>exact decide_eq_true (Nat.lt_of_lt_of_le (List.getElem?_eq_some_iff.1 hq).1 hc)
  .rename_i i
   cases hq:c.sto[i]? with
   | none=>simp[hq]at hx
   | some y=>exact decide_eq_true (Nat.lt_of_lt_of_le (List.getElem?_eq_some_iff.1 hq).1 hc)
 have hρ:∀ i g t,lowρ ρ n i=some (g,t)->ρ i=some (g,t):=by
  intro i g t e;unfold lowρ at e
  split at e
  .exact e
  .cases e
 refine⟨hh,lowρ ρ n,hm.low hn hb,⟨hlt.hle,hlt.hnew,low,hlt.os,hlt.tape,hlt.output,hlt.size,hlt.block,fun i g t hi=>hlt.newown i g t (hρ i g t hi)⟩,fun t=>?_,hdf,hsz,c.hx.fewer (fun i g t hi=>⟨i,t,hρ i g t hi⟩) hX⟩;have hx:=he t
 rcases BhP hw t with hq|⟨h1,hq⟩
 .rw [hq]; exact .any _
 .rw [hq]at hx
  generalize Av.get e' t=y at h1 hx |-
  cases y with
  | agg r =>
   obtain⟨vs,hv,rl⟩:=AaO hx;rw[hv];exact .agg vs r (AgA hn h1 rl)
  | fn f r =>
   generalize a.tmps.getD t undef=u at hx |-
   cases hx with
   | leaf p=>exact p.2.elim
   | fn _ vs _ rl=>exact .fn f vs r (AgA hn h1 rl)
  | _=>exact AwO hn h1 hx
attribute [go_sem] wkl lowV lowC
