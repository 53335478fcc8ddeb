/- script.Check of right scripts. -/
import Derived.Test.YtnfkjpihaficbaaGreatDoorK19
import Derived.Shelf.Strings.OnBuilder
import Derived.Shelf.Strings.Fields
set_option maxRecDepth 100000
set_option maxHeartbeats 4000000
set_option linter.unusedSimpArgs false
set_option linter.unusedVariables false
namespace Go.Proofs.YtnfkjpihaficbaaGreatDoor
open Go Go.Av Go.RowKit _root_.Go.Proofs.Tryz
def seenM(ks:List (List UInt8)):List (AV×AV):=ks.map fun k=>(.str k,.bool true)
theorem AmT{k:List UInt8}:∀ {ks:List (List UInt8)}{n:Nat},k ∉ ks->mfind .string (.str k) (seenM ks) n=some none
 | [],n,_=>rfl
 | a::r,n,h=>by
  simp only[List.mem_cons,not_or]at h;have:(k==a)=false:=by simpa using h.1
  simp only[seenM,List.map_cons,mfind,keyEq,this];exact AmT h.2
theorem AzR{k:List UInt8}:∀ {ks:List (List UInt8)}{n:Nat},k∈ks->∃ i,mfind .string (.str k) (seenM ks) n=some (some (n+i,.bool true))/\ks[i]? = some k
 | [],n,h=>by simp at h
 | a::r,n,h=>by
  by_cases e:k=a
  .subst e
   exact⟨0,by simp[seenM,mfind,keyEq],rfl⟩
  .have:(k==a)=false:=by simpa using e
   obtain⟨i,h1,h2⟩:=AzR (n:=n+1) ((List.mem_cons.1 h).resolve_left e);refine⟨i+1,?_,by simpa using h2⟩;simp only[seenM,List.map_cons,mfind,keyEq,this];rw[show n+(i+1)=n+1+i by omega];exact h1
def dd(acc:List (List UInt8))(k:List UInt8):List (List UInt8):=if k∈acc then acc else acc++[k]
def AzS:List (List UInt8)->Bool->List Sc->Prop
 | _,_,[]=>True
 | acc,first,x::r=>(x.no=[]\/(numberL x.no=true/\x.no.length<1000000/\x.no ∉ acc))/\(1<=x.place/\x.place<=3)/\(1<=x.time/\x.time<=5)/\(first=true->x.time≠5)/\SceneOk x/\AzS (dd acc x.no) false r
def paraSum(l:List Sc):Nat:=(l.map fun x=>x.paras.length).sum
structure ScriptOk(x:Sr):Prop where
 title:1<=x.title.length/\x.title.length<=60
 plain:plainL x.title=true
 len:x.scenes.length<=300
 many:paraSum x.scenes<=4000
 ok:AzS [] true x.scenes
theorem AjX(l:List Sc)(i:Nat)(h:i<l.length):paraSum (l.take (i+1))=paraSum (l.take i)+l[i].paras.length:=by
 simp only[paraSum,List.take_add_one,List.map_append,List.sum_append]
 simp[h]
theorem AfJ(l:List Sc)(i:Nat):paraSum (l.take i)<=paraSum l:=by
 have:paraSum l=paraSum (l.take i)+paraSum (l.drop i):=by
  simp only[paraSum];rw[<- List.sum_append,<- List.map_append,List.take_append_drop]
 omega
theorem AgF(n:Nat)(ks:List (List UInt8)):lowB n (.mp (seenM ks))=true:=by
 show(seenM ks).all _=true
 rw[List.all_eq_true];intro x hx;simp only[seenM,List.mem_map]at hx;obtain⟨y,_,rfl⟩:=hx;rfl
theorem A6P{k:List UInt8}{ks:List (List UInt8)}:(∃ i v,mfind .string (.str k) (seenM ks) 0=some (some (i,v))/\(seenM ks).set i (.str k,.bool true)=seenM (dd ks k)) \/
  (mfind .string (.str k) (seenM ks) 0=some none/\seenM ks++[(.str k,.bool true)]=seenM (dd ks k)):=by
 by_cases h:k∈ks
 .left
  obtain⟨i,h1,h2⟩:=AzR (n:=0) h;refine⟨0+i,_,h1,?_⟩;have:(seenM ks)[i]? = some (.str k,.bool true):=by simp[seenM,h2]
  rw[Nat.zero_add];have hs:(seenM ks).set i (.str k,.bool true)=seenM ks:=by
   apply List.ext_getElem?;intro j;rw[List.getElem?_set]
   split
   .rename_i hj
    subst hj
    split
    .exact this.symm
    .rename_i hn
     rw[List.getElem?_eq_none (by omega)]at this
     cases this
   .rfl
  rw[hs]
  simp[dd,h]
 .right
  exact⟨AmT h,by simp[dd,h,seenM]⟩
theorem AtQ{S:Std}(hS:LibOk S)(x:Sr)(hx:ScriptOk x):PcH prog S 149 [srA x] (· = .int .i64 0):=by
 obtain⟨ti,xs⟩:=x;have t1:=hx.title;have t2:=hx.plain;have t3:=hx.len;have t4:=hx.many;have t5:=hx.ok;simp only at t1 t2 t3 t4 t5;have d1:decide ((ti.length:Int)<1)=false:=by simp; omega
 have d2:decide ((ti.length:Int)>60)=false:=by simp; omega
 simp only[srA];refine zqIN func149 rfl fun h ρ w hg=>?_
 simp only[go_sem,d1,d2];refine zqN hg (AbM hS ti (by omega)) ?_;rw[t2];simp only[go_sem];refine AaC (ι:=Nat) (fun i=>xs.length-i)
  (fun i=>[(29,.int .i64 i),(28,.int .i64 xs.length),(27,.fz 5 (xs.map scA)),(3,.int .i64 (paraSum (xs.take i))),(1,.ptr 0 1 0 0)])
  (fun _=>[.arr 2 [.agg [.str ti,.fz 5 (xs.map scA)]]]) (fun i=>i<=xs.length) 0 (by simp) ?_ ?_
 .refine Shift.weak ?_
  simp only[go_sem,List.length_map]
  simp[paraSum]
 .intro i g1 J hJ
  by_cases gi:i<xs.length
  .have di:decide ((i:Int)<(xs.length:Int))=true:=by simp; omega
   have hg':List.getD (List.map scA xs) i .any=.agg [.str xs[i].no,.int .i64 xs[i].place,.str xs[i].set,.int .i64 xs[i].time,.fz 2 (xs[i].paras.map paA)]:=by simp[List.getD,gi,scA]
   have hs:=AjX xs i gi;have hle:=AfJ xs (i+1);refine zgN ?_;simp only[go_sem,di,hg',List.length_map]
   repeat refine And.intro (by first|omega|simpa using gi) ?_
   rw[show(paraSum (xs.take i):Int)+(xs[i].paras.length:Int)=(paraSum (xs.take (i+1)):Int) by omega,show(i:Int)+1=((i+1:Nat):Int) by omega];refine ainv (hJ (i+1) (by omega) (by omega)) (Shift.low 1 (by simp) (by simp) ?_ ?_)
   .simp only [List.take_succ_cons,List.take_zero,List.all_cons,List.all_nil,lowB,flat,cellsOf,lowC,Av.frozen,List.append_nil,Bool.and_self]
   .simp only [go_sem]
  .have di:decide ((i:Int)<(xs.length:Int))=false:=by simp; omega
   have:i=xs.length:=by omega
   subst this;rw[List.take_length];have d3:decide ((xs.length:Int)>300)=false:=by simp; omega
   have d4:decide ((paraSum xs:Int)>4000)=false:=by simp; omega
   refine zgN ?_;simp only[go_sem,di,d3,d4,List.length_map];refine AaC (ι:=Nat×List (List UInt8)) (fun y=>xs.length-y.1)
    (fun y=>[(51,.int .i64 y.1),(50,.int .i64 xs.length),(49,.fz 5 (xs.map scA)),(6,.mp 1),(1,.ptr 0 1 0 0)])
    (fun y=>[.arr 2 [.agg [.str ti,.fz 5 (xs.map scA)]],.mp (seenM y.2)]) (fun y=>y.1<=xs.length/\AzS y.2 (decide (y.1=0)) (xs.drop y.1)) (0,[]) ⟨by simp,t5⟩ ?_ ?_
   .refine Shift.weak ?_
    simp only[go_sem]
   .clear hJ J
    rintro⟨i,acc⟩ ⟨g1,g2⟩ J hJ;simp only at g1 g2 hJ |-
    by_cases gi:i<xs.length
    .have di:decide ((i:Int)<(xs.length:Int))=true:=by simp; omega
     have hg':List.getD (List.map scA xs) i .any=.agg [.str xs[i].no,.int .i64 xs[i].place,.str xs[i].set,.int .i64 xs[i].time,.fz 2 (xs[i].paras.map paA)]:=by simp[List.getD,gi,scA]
     have hd:xs.drop i=xs[i]::xs.drop (i+1):=List.drop_eq_getElem_cons gi;rw[hd]at g2;obtain⟨c1,c2,c3,c4,c5,c6⟩:=g2;have e1:decide (xs[i].place<1)=false:=by simp; omega
     have e2:decide (xs[i].place>3)=false:=by simp; omega
     have e3:decide (xs[i].time<1)=false:=by simp; omega
     have e4:decide (xs[i].time>5)=false:=by simp; omega
     have e5:((i:Int)==0)=false\/((i:Int)==0)=true/\(xs[i].time==5)=false:=by
      by_cases h0:i=0
      .exact .inr ⟨by simp[h0],by simpa using c4 (by simp[h0])⟩
      .exact .inl (by simp; omega)
     have hsf:=AoD hS xs[i] c5;simp only[scA]at hsf;have nx:decide (i+1=0)=false:=by simp
     generalize hsc:xs[i]=sc at *;have fin:_:=fun h=>hJ (i+1,dd acc sc.no) ⟨by simp only; omega,by simp only; rw[nx]; exact c6⟩ h
     rcases c1 with h0|⟨n1,n2,n3⟩
     .have q0:(sc.no != [])=false:=by simp[h0]
      rcases e5 with e5|⟨e5,e6⟩
      .rcases @A6P sc.no acc with⟨j,v,m1,m2⟩|⟨m1,m2⟩
       .refine zgN ?_
        simp only[go_sem,di,hg',q0,e1,e2,e3,e4,e5,m1,m2]
        repeat refine And.intro (by first|omega|simpa using gi) ?_
        refine zqN hg (hsf) ?_;simp only[go_sem];refine⟨by omega,by omega,?_⟩;rw[ic i];refine ainv (fin (by simp only; omega)) (Shift.low 2 (by simp) (by simp) ?_ ?_)
        .simp only [List.take_succ_cons,List.take_zero,List.all_cons,List.all_nil,lowB,flat,cellsOf,lowC,Av.frozen,List.append_nil,Bool.and_self,↓AgF]
        .simp only [go_sem]
       .refine zgN ?_
        simp only[go_sem,di,hg',q0,e1,e2,e3,e4,e5,m1,m2]
        repeat refine And.intro (by first|omega|simpa using gi) ?_
        refine zqN hg (hsf) ?_;simp only[go_sem];refine⟨by omega,by omega,?_⟩;rw[ic i];refine ainv (fin (by simp only; omega)) (Shift.low 2 (by simp) (by simp) ?_ ?_)
        .simp only [List.take_succ_cons,List.take_zero,List.all_cons,List.all_nil,lowB,flat,cellsOf,lowC,Av.frozen,List.append_nil,Bool.and_self,↓AgF]
        .simp only [go_sem]
      .rcases @A6P sc.no acc with⟨j,v,m1,m2⟩|⟨m1,m2⟩
       .refine zgN ?_
        simp only[go_sem,di,hg',q0,e1,e2,e3,e4,e5,e6,m1,m2]
        repeat refine And.intro (by first|omega|simpa using gi) ?_
        refine zqN hg (hsf) ?_;simp only[go_sem];refine⟨by omega,by omega,?_⟩;rw[ic i];refine ainv (fin (by simp only; omega)) (Shift.low 2 (by simp) (by simp) ?_ ?_)
        .simp only [List.take_succ_cons,List.take_zero,List.all_cons,List.all_nil,lowB,flat,cellsOf,lowC,Av.frozen,List.append_nil,Bool.and_self,↓AgF]
        .simp only [go_sem]
       .refine zgN ?_
        simp only[go_sem,di,hg',q0,e1,e2,e3,e4,e5,e6,m1,m2]
        repeat refine And.intro (by first|omega|simpa using gi) ?_
        refine zqN hg (hsf) ?_;simp only[go_sem];refine⟨by omega,by omega,?_⟩;rw[ic i];refine ainv (fin (by simp only; omega)) (Shift.low 2 (by simp) (by simp) ?_ ?_)
        .simp only [List.take_succ_cons,List.take_zero,List.all_cons,List.all_nil,lowB,flat,cellsOf,lowC,Av.frozen,List.append_nil,Bool.and_self,↓AgF]
        .simp only [go_sem]
     .by_cases h0:sc.no=[]
      .rw [h0]at n1
       exact absurd n1 (by decide)
      have q0:(sc.no != [])=true:=by simp[h0]
      have m1:=@AmT sc.no acc 0 n3;have m2:seenM acc++[(.str sc.no,.bool true)]=seenM (dd acc sc.no):=by simp[dd,n3,seenM]
      rcases e5 with e5|⟨e5,e6⟩
      .refine zgN ?_
       simp only[go_sem,di,hg',q0,e1,e2,e3,e4,e5,m1,m2]
       repeat refine And.intro (by first|omega|simpa using gi) ?_
       refine zpN (AjU sc.no n2) ?_;rw[n1];simp only[go_sem,di,hg',q0,e1,e2,e3,e4,e5,m1,m2]
       repeat refine And.intro (by first|omega|simpa using gi) ?_
       refine zqN hg (hsf) ?_;simp only[go_sem];refine⟨by omega,by omega,?_⟩;rw[ic i];refine ainv (fin (by simp only; omega)) (Shift.low 2 (by simp) (by simp) ?_ ?_)
       .simp only [List.take_succ_cons,List.take_zero,List.all_cons,List.all_nil,lowB,flat,cellsOf,lowC,Av.frozen,List.append_nil,Bool.and_self,↓AgF]
       .simp only [go_sem]
      .refine zgN ?_
       simp only[go_sem,di,hg',q0,e1,e2,e3,e4,e5,e6,m1,m2]
       repeat refine And.intro (by first|omega|simpa using gi) ?_
       refine zpN (AjU sc.no n2) ?_;rw[n1];simp only[go_sem,di,hg',q0,e1,e2,e3,e4,e5,e6,m1,m2]
       repeat refine And.intro (by first|omega|simpa using gi) ?_
       refine zqN hg (hsf) ?_;simp only[go_sem];refine⟨by omega,by omega,?_⟩;rw[ic i];refine ainv (fin (by simp only; omega)) (Shift.low 2 (by simp) (by simp) ?_ ?_)
       .simp only [List.take_succ_cons,List.take_zero,List.all_cons,List.all_nil,lowB,flat,cellsOf,lowC,Av.frozen,List.append_nil,Bool.and_self,↓AgF]
       .simp only [go_sem]
    .have di:decide ((i:Int)<(xs.length:Int))=false:=by simp; omega
     refine zgN ?_;simp only[go_sem,di];exact zt [2]
end Go.Proofs.YtnfkjpihaficbaaGreatDoor
namespace Go.Proofs
open Go.Shelf _root_.Go.Proofs.Tryz
def Tryz.lays156_ren:Go.Shelf.Ren:=⟨fun|156=>98|165=>126|166=>127|169=>129|240=>175|241=>176|276=>234|277=>235|n=>n,fun|31=>71|9=>9|3=>3|4=>4|0=>0|20=>20|72=>212|76=>177|70=>209|37=>210|75=>176|127=>257|164=>301|5=>5|80=>103|n=>n,fun|n=>n⟩
theorem Tryz.lays156:Go.Proofs.Lays.n156 prog Tryz.lays156_ren:={
 mixed:=by kernel_rfl
 f156:=func98.trans (congrArg some (by kernel_rfl))
 f165:=func126.trans (congrArg some (by kernel_rfl))
 f166:=func127.trans (congrArg some (by kernel_rfl))
 f169:=func129.trans (congrArg some (by kernel_rfl))
 f240:=func175.trans (congrArg some (by kernel_rfl))
 f241:=func176.trans (congrArg some (by kernel_rfl))
 f276:=func234.trans (congrArg some (by kernel_rfl))
 f277:=func235.trans (congrArg some (by kernel_rfl))
 t0:=underlying0
 a0:=Tryz.isAgg0
 z0:=Tryz.sizeOf0
 v0:=Tryz.zeroValue0
 t3:=underlying3
 a3:=Tryz.isAgg3
 z3:=Tryz.sizeOf3
 v3:=Tryz.zeroValue3
 t4:=underlying4
 a4:=Tryz.isAgg4
 z4:=Tryz.sizeOf4
 v4:=Tryz.zeroValue4
 t9:=underlying9
 a9:=Tryz.isAgg9
 z9:=Tryz.sizeOf9
 v9:=Tryz.zeroValue9
 t20:=underlying20
 a20:=Tryz.isAgg20
 z20:=Tryz.sizeOf20
 v20:=Tryz.zeroValue20
 t31:=underlying71
 a31:=Tryz.isAgg71
 z31:=Tryz.sizeOf71
 v31:=Tryz.zeroValue71
 t37:=underlying210
 a37:=Tryz.isAgg210
 z37:=Tryz.sizeOf210
 v37:=Tryz.zeroValue210
 t70:=underlying209
 a70:=Tryz.isAgg209
 z70:=Tryz.sizeOf209
 v70:=Tryz.zeroValue209
 t72:=underlying212
 a72:=Tryz.isAgg212
 z72:=Tryz.sizeOf212
 v72:=Tryz.zeroValue212
 t75:=underlying176
 a75:=Tryz.isAgg176
 z75:=Tryz.sizeOf176
 v75:=Tryz.zeroValue176
 t76:=underlying177
 a76:=Tryz.isAgg177
 z76:=Tryz.sizeOf177
 v76:=Tryz.zeroValue177
 t127:=underlying257
 a127:=Tryz.isAgg257
 z127:=Tryz.sizeOf257
 v127:=Tryz.zeroValue257
 t164:=underlying301
 a164:=Tryz.isAgg301
 z164:=Tryz.sizeOf301
 v164:=Tryz.zeroValue301 }
def Tryz.lays157_ren:Go.Shelf.Ren:=⟨fun|157=>130|229=>177|199=>178|261=>236|311=>274|312=>275|n=>n,fun|9=>9|31=>71|3=>3|5=>5|4=>4|119=>258|0=>0|40=>260|152=>304|21=>21|154=>306|51=>251|141=>308|196=>343|193=>340|198=>346|49=>344|194=>341|201=>349|226=>365|46=>206|227=>366|n=>n,fun|0=>0|6=>2|n=>n⟩
theorem Tryz.lays157:Go.Proofs.Lays.n157 prog Tryz.lays157_ren:={
 mixed:=by kernel_rfl
 f157:=func130.trans (congrArg some (by kernel_rfl))
 f199:=func178.trans (congrArg some (by kernel_rfl))
 f229:=func177.trans (congrArg some (by kernel_rfl))
 f261:=func236.trans (congrArg some (by kernel_rfl))
 f311:=func274.trans (congrArg some (by kernel_rfl))
 f312:=func275.trans (congrArg some (by kernel_rfl))
 t0:=underlying0
 a0:=Tryz.isAgg0
 z0:=Tryz.sizeOf0
 v0:=Tryz.zeroValue0
 t3:=underlying3
 a3:=Tryz.isAgg3
 z3:=Tryz.sizeOf3
 v3:=Tryz.zeroValue3
 t4:=underlying4
 a4:=Tryz.isAgg4
 z4:=Tryz.sizeOf4
 v4:=Tryz.zeroValue4
 t5:=underlying5
 a5:=Tryz.isAgg5
 z5:=Tryz.sizeOf5
 v5:=Tryz.zeroValue5
 t9:=underlying9
 a9:=Tryz.isAgg9
 z9:=Tryz.sizeOf9
 v9:=Tryz.zeroValue9
 t21:=underlying21
 a21:=Tryz.isAgg21
 z21:=Tryz.sizeOf21
 v21:=Tryz.zeroValue21
 t31:=underlying71
 a31:=Tryz.isAgg71
 z31:=Tryz.sizeOf71
 v31:=Tryz.zeroValue71
 t40:=underlying260
 a40:=Tryz.isAgg260
 z40:=Tryz.sizeOf260
 v40:=Tryz.zeroValue260
 t46:=underlying206
 a46:=Tryz.isAgg206
 z46:=Tryz.sizeOf206
 v46:=Tryz.zeroValue206
 t49:=underlying344
 a49:=Tryz.isAgg344
 z49:=Tryz.sizeOf344
 v49:=Tryz.zeroValue344
 t51:=underlying251
 a51:=Tryz.isAgg251
 z51:=Tryz.sizeOf251
 v51:=Tryz.zeroValue251
 t119:=underlying258
 a119:=Tryz.isAgg258
 z119:=Tryz.sizeOf258
 t141:=underlying308
 a141:=Tryz.isAgg308
 z141:=Tryz.sizeOf308
 v141:=Tryz.zeroValue308
 t152:=underlying304
 a152:=Tryz.isAgg304
 z152:=Tryz.sizeOf304
 v152:=Tryz.zeroValue304
 t154:=underlying306
 a154:=Tryz.isAgg306
 z154:=Tryz.sizeOf306
 v154:=Tryz.zeroValue306
 t193:=underlying340
 a193:=Tryz.isAgg340
 z193:=Tryz.sizeOf340
 v193:=Tryz.zeroValue340
 t194:=underlying341
 a194:=Tryz.isAgg341
 z194:=Tryz.sizeOf341
 v194:=Tryz.zeroValue341
 t196:=underlying343
 a196:=Tryz.isAgg343
 z196:=Tryz.sizeOf343
 v196:=Tryz.zeroValue343
 t198:=underlying346
 a198:=Tryz.isAgg346
 z198:=Tryz.sizeOf346
 v198:=Tryz.zeroValue346
 t201:=underlying349
 a201:=Tryz.isAgg349
 z201:=Tryz.sizeOf349
 v201:=Tryz.zeroValue349
 t226:=underlying365
 a226:=Tryz.isAgg365
 z226:=Tryz.sizeOf365
 v226:=Tryz.zeroValue365
 t227:=underlying366
 a227:=Tryz.isAgg366
 z227:=Tryz.sizeOf366
 v227:=Tryz.zeroValue366
 g0:=by kernel_rfl
 g6:=by kernel_rfl }
theorem Tryz.Builder_Extra_156:Builder.Extra prog Tryz.lays156_ren:={
 sizeBuilder:=by kernel_rfl
 liesBuilder:=by kernel_rfl
 t5:=underlying5
 a5:=Tryz.isAgg5
 z5:=Tryz.sizeOf5
 v5:=Tryz.zeroValue5
 infoByte:=by kernel_rfl
 cellsByte:=by kernel_rfl
 sizeByte:=by kernel_rfl
 neB5:=by decide }
end Go.Proofs
namespace Go.Proofs.YtnfkjpihaficbaaGreatDoor
open Go Go.Av Go.RowKit _root_.Go.Proofs.Tryz
theorem h_str{h:Mem}{v:Value}{s:List UInt8}(r:RV h Lf0 true v (.str s)):v=.string ⟨s.toArray⟩:=by cases r with|str=>rfl
structure LibR(S:Std):Prop where
 ok:LibOk S
 spc:∃ t z,S 0=some (.cells (Lib.asciiSpaceTab.map fun z=>Value.int .u8 z).toArray t z)
theorem BcT{sep:List UInt8}{m:Nat}:∀ {ls:List (List UInt8)},(∀ x∈ls,x.length<=m)->(Lib.join ls sep).length<=ls.length*(m+sep.length)
 | [],_=>by simp[Lib.join]
 | x::r,h=>by
  rw[Lib.join_cons,List.length_append];have h1:=h x (by simp);have h2:(Lib.joinTail sep r).length<=r.length*(m+sep.length):=by
   unfold Lib.joinTail;clear h1;have hr:∀ y∈r,y.length<=m:=fun y hy=>h y (List.mem_cons_of_mem _ hy)
   clear h
   induction r with
   | nil=>simp
   | cons y r ih =>
    have:=ih fun z hz=>hr z (List.mem_cons_of_mem _ hz)
    have h3:=hr y (by simp);simp only[List.map_cons,List.flatten_cons,List.length_append,List.length_cons,Nat.add_mul,Nat.one_mul]at this |-;omega
  rw[List.length_cons,Nat.add_mul,Nat.one_mul];omega
theorem AdC:∀ (s cur:List UInt8),∀ x∈Lib.fieldsGo cur s,x.length<=cur.length+s.length
 | [],cur,x,hx=>by
  simp only[Lib.fieldsGo]at hx
  split at hx
  .cases hx
  .rw [List.mem_singleton.1 hx]; simp
 | b::l,cur,x,hx=>by
  simp only[Lib.fieldsGo]at hx
  split at hx
  .split at hx
   .have:=AdC l [] x hx
    simp only[List.length_cons,List.length_nil]at this |-;omega
   .rcases List.mem_cons.1 hx with rfl|hx
    .simp
    .have:=AdC l [] x hx
     simp only[List.length_cons,List.length_nil]at this |-;omega
  .have:=AdC l _ x hx
   simp only[List.length_cons,List.length_append,List.length_nil]at this |-;omega
theorem A6Q:∀ (l:List UInt8)(ws:Bool),Lib.cntF ws l<=l.length
 | [],_=>by simp[Lib.cntF]
 | b::l,ws=>by
  have:=A6Q l (Lib.isSp b);simp only[Lib.cntF,List.length_cons]
  split <;> omega
theorem A6R(s:List UInt8):(Lib.fields s).length<=s.length/\∀ x∈Lib.fields s,x.length<=s.length:=by
 refine⟨by rw[Lib.fields_length]; exact A6Q _ _,fun x hx=>?_⟩;have:=AdC s [] x hx
 simpa using this
theorem A2L{S:Std}(hS:LibR S)(s:List UInt8)(hs:s.length<1000000)(ha:AcL s):PcH prog S 130 [.str s] (· = .fz 1 (strs (Lib.fields s))):=by
 refine ⟨hB130,fun h w vs' hg hm hv=>?_⟩;have:=AwV s h vs' hv;subst this;obtain ⟨t,z,hcell⟩:=hS.spc;have htab:Lib.TabIs prog w "strings.asciiSpace" .u8 Lib.asciiSpaceTab:=by
  have h1:prog.globalNamed "strings.asciiSpace" = some 0:=by kernel_rfl
  have h2:=hg _ _ hcell;unfold Lib.TabIs World.var?;rw[h1];simp only[Option.bind_some,h2]
 refine(Any.strings_Fields Tryz.lays157 (by kernel_rfl) (by kernel_rfl) ⟨s.toArray⟩ w (show s.length<_ by omega) (AhY ha) htab).mono ?_;rintro e w' ⟨rfl,rfl⟩;have hdl:(⟨s.toArray⟩:ByteArray).data.toList=s:=rfl;rw[hdl];generalize Lib.fields s=sl;have hval:(sl.map fun l=>Value.string ⟨l.toArray⟩)=sl.map sval:=rfl;rw[hval];have h1:∀ v∈sl.map sval,v.oneCell'=true:=by intro v hv; obtain⟨x,_,rfl⟩:=List.mem_map.1 hv; rfl
 have hmine:Mine h (fun _=>none) [] w:=⟨hm,fun id blk e=>by simp at e,fun _ _=>rfl,fun i j g t t' e=>by simp at e,fun i g t e=>by simp at e⟩;obtain⟨m2,l2⟩:=hmine.freezeNew (sl.map sval) 9 h1;refine⟨_,_,Mem.add h w.heap.size (sl.map sval),rfl,rfl,m2.mem,l2.hle,fun b o e n=>?_,.alloc w _,?_⟩
 .rcases l2.hnew b o e n with⟨j,t,hj⟩|hs
  .cases hj
  .exact hs
 .have:=RV.fz (h:=Mem.add h w.heap.size (sl.map sval)) (Lf:=Lf0) (fl:=true) w.heap.size 0 sl.length 1 (strs sl) (sl.map sval) ?_ (by simp[cellsOf]) ?_ (by simp)
  .simpa using this
  .rw [AhV]
   generalize Mem.add h w.heap.size (sl.map sval)=hh;generalize sl=z
   induction z with
   | nil=>exact .nil
   | cons x z ih=>exact .cons (.str x) ih
  .intro k v hv
   simp only[Mem.add,Nat.zero_add,if_true];exact hv
theorem AzT{h:Mem}:∀ {l:List (List UInt8)}{vs:List Value}{Lf:Value->AV->Prop},RL h Lf true vs (strs l)->vs=l.map sval
 | [],_,_,r=>by cases r; rfl
 | x::l,_,_,r=>by
  cases r with
  | cons r1 r2 =>
   rw[AzT r2]
   cases r1 with
   | str=>rfl
theorem AzU(ls:List (List UInt8))(sep:List UInt8)(h1:ls.length<=1000000)(h2:(Lib.join ls sep).length<=140737488355328):Pc prog 98 [.fz 1 (strs ls),.str sep] (· = .str (Lib.join ls sep)):=by
 refine⟨hB98,fun h w vs' hm hv=>?_⟩
 cases hv with
 | cons r1 r=>cases r with
  | cons r2 r =>
   cases r
   rw[h_str r2];have hfin:∀ (u:Value),Calls prog 98 #[u,.string ⟨sep.toArray⟩] w (fun e w'=>e=.returned (.string ⟨(Lib.join ls sep).toArray⟩)/\Below w.heap.size w w')->Calls prog 98 [u,.string ⟨sep.toArray⟩].toArray w fun en w'=>∃ v r h',en=.returned v/\r=.str (Lib.join ls sep)/\(∀ b o v,h' b o=some v->w'.cell? ⟨b,o,none⟩=some v/\v.oneCell'=true)/\(∀ b o v,h b o=some v->h' b o=some v)/\(∀ b o,h b o=none->h' b o≠none->w.heap.size<=b)/\Same w w'/\RV h' Lf0 true v r:=fun u hc=>by
    refine hc.mono ?_;rintro e w' ⟨rfl,hs⟩;have hs:Same w w':=⟨hs.os,hs.tape,⟨hs.output,trivial⟩,hs.size,hs.block⟩;exact⟨_,_,h,rfl,rfl,fun b o v e=>⟨hs.cell (hm b o v e).1,(hm b o v e).2⟩,fun _ _ _ x=>x,fun b o e n=>(n e).elim,hs,.str _⟩
   rcases AeZ (ρ:=fun _=>none) (sto:=[]) (r1.thaw (fun _ _ _ x=>x) (fl:=false))with⟨hl,hu⟩|⟨b,o,c,vs,hu,q1,q2,q3,q4⟩
   .have hl:ls=[]:=by simpa using hl
    subst hl hu;exact hfin _ ((Any.strings_Join_none Tryz.lays156 Tryz.Builder_Extra_156 none 0 ⟨sep.toArray⟩ w).mono fun e w' ⟨he,hw⟩=>⟨he,hw▸Below.refl _ _⟩)
   .subst hu
    rw[AhV]at q1;have hvs:=AzT q1;rw[List.length_map]at q4 |-
    cases hls:ls with
    | nil =>
     rw[<- hls];have hz:ls.length=0:=by rw[hls]; rfl
     rw[hz];refine hfin _ ?_;rw[hls];exact(Any.strings_Join_none Tryz.lays156 Tryz.Builder_Extra_156 (some ⟨b,o,none⟩) c ⟨sep.toArray⟩ w).mono fun e w' ⟨he,hw⟩=>⟨he,hw▸Below.refl _ _⟩
    | cons x r =>
     rw[<- hls];have hcell:∀ (j:Nat) (y:List UInt8),ls[j]? = some y->w.cell? ⟨b,o+j,none⟩=some (sval y):=fun j y hy=>(hm _ _ _ (q3 j (sval y) (by rw[hvs,List.getElem?_map,hy]; rfl))).1
     have hb:b<w.heap.size:=World.block_lt_of_cell? w _ (hcell 0 x (by rw[hls]; rfl));have hdl:(ls.map fun s=>(⟨s.toArray⟩:ByteArray)).map (·.data.toList)=ls:=by
      rw[List.map_map];exact List.map_id ls
     refine hfin _ ?_;have hj:=Any.strings_Join Tryz.lays156 Tryz.Builder_Extra_156 b o c (ls.map fun s=>⟨s.toArray⟩) ⟨sep.toArray⟩ w (fun j y hy=>by
      rw[List.getElem?_map]at hy
      cases hq:ls[j]? with
      | none=>rw[hq]at hy; cases hy
      | some z =>
       rw[hq]at hy
       cases hy
       exact hcell j z hq) hb (by rw[List.length_map]; omega) (by rw[List.length_map]; exact q4) (by rw[hdl]; exact h2)
     rw[hdl,List.length_map]at hj;exact hj
def okR(c:UInt8):Bool:=!decide ((c.toNat:Int)<32)&&!decide ((c.toNat:Int)>126)
def plainR(s:List UInt8):Bool:=s.all okR&&(Lib.join (Lib.fields s) [32]==s)
theorem AdF{S:Std}(hS:LibR S)(s:List UInt8)(hs:s.length<1000000):PcH prog S 76 [.str s] (· = .bool (plainR s)):=by
 refine zqIB func76 rfl fun h ρ w hg=>?_
 simp only[go_sem];refine AaC (ι:=Nat) (fun i=>s.length-i) (fun i=>[(3,.int .i64 i),(0,.str s)]) (fun _=>[]) (fun i=>i<=s.length/\(s.take i).all okR=true) 0 ⟨by omega,by simp⟩ ?_ ?_
 .refine Shift.weak ?_
  simp only[go_sem]
 .rintro i ⟨g1,g2⟩ J hJ
  by_cases gi:i<s.length
  .have di:decide ((i:Int)<(s.length:Int))=true:=by simp; omega
   have hx:s.getD i 0=s[i]:=by simp[List.getD,gi]
   have bad:okR s[i]=false->plainR s=false:=fun h=>by simp only[plainR,AcB gi h,Bool.false_and]
   have again:okR s[i]=true->(s.take (i+1)).all okR=true:=fun h=>AaX gi g2 h
   unfold okR at bad again;refine zgB ?_
   cases d1:decide ((s[i].toNat:Int)<32)with
   | true =>
    simp only[go_sem,di,hx,d1]
    repeat refine aqc ?_
    exact aret [2] rfl ⟨by rw[bad (by rw[d1]; rfl)]; rfl,rfl⟩
   | false =>
    cases d2:decide ((s[i].toNat:Int)>126)with
    | true =>
     simp only[go_sem,di,hx,d1,d2]
     repeat refine aqc ?_
     exact aret [2] rfl ⟨by rw[bad (by rw[d1,d2]; rfl)]; rfl,rfl⟩
    | false =>
     simp only[go_sem,di,hx,d1,d2]
     repeat refine aqc ?_
     rw[ic i];refine ainv (hJ (i+1) ⟨by omega,again (by rw[d1,d2]; rfl)⟩ (by omega)) (Shift.weak ?_);simp only[go_sem]
  .have di:decide ((i:Int)<(s.length:Int))=false:=by simp; omega
   have hi:i=s.length:=by omega
   rw[hi,List.take_length]at g2;have hasc:AcL s:=fun b hb=>by
    have:=List.all_eq_true.1 g2 b hb;simp only[okR,Bool.and_eq_true,Bool.not_eq_true',decide_eq_false_iff_not]at this;omega
   have hf:=A2L hS s hs hasc;obtain⟨b1,b2⟩:=A6R s;have hjl:=BcT (sep:=[32]) (m:=s.length) b2;have hj:=AzU (Lib.fields s) [32] (by omega) (Nat.le_trans hjl (Nat.le_trans (Nat.mul_le_mul (n₁:=(Lib.fields s).length) (n₂:=1000000) (m₁:=s.length+[32].length) (m₂:=1000001) (by omega) (by simp only[List.length_cons,List.length_nil]; omega)) (by decide)));refine zgB ?_;simp only[go_sem,di];refine zqB hg (hf) ?_;simp only[go_sem];refine zpB (hj) ?_;simp only[go_sem];exact aret [2] rfl ⟨by simp only[resV,Av.get,Av.put,plainR,g2,Bool.true_and,beq_self_eq_true,cond_true],rfl⟩
def AeR(s p:List UInt8):Bool:=Lib.trimS s p==[]
theorem AdU(s p:List UInt8)(hs:s.length<1000000)(hp:p.length<1000)(h2:AcL p):Pc prog 77 [.str s,.str p] (· = .bool (AeR s p)):=by
 have ht:=AmN s p (by omega) (by omega) h2;refine zpIB func77 rfl fun h ρ w=>?_
 simp only[go_sem];refine zpB (ht) ?_;simp only[go_sem];exact zt [4]
def longR(s:List UInt8)(a b:Int):Bool:=decide ((s.length:Int)>=a)&&decide ((s.length:Int)<=b)
theorem AgG(s:List UInt8)(a b:Int):Pc prog 75 [.str s,.int .i64 a,.int .i64 b] (· = .bool (longR s a b)):=by
 refine zpIB func75 rfl fun h ρ w=>?_
 cases d1:decide ((s.length:Int)>=a)with
 | true =>
  simp only[go_sem,d1];exact aret [6] rfl ⟨by simp[resV,Av.get,Av.put,longR,d1],rfl⟩
 | false =>
  simp only[go_sem,d1];exact aret [6] rfl ⟨by simp[resV,Av.get,Av.put,longR,d1],rfl⟩
def setSet:List UInt8:=[65,66,67,68,69,70,71,72,73,74,75,76,77,78,79,80,81,82,83,84,85,86,87,88,89,90,48,49,50,51,52,53,54,55,56,57,32,39,46,45,47]
def nameSet:List UInt8:=[65,66,67,68,69,70,71,72,73,74,75,76,77,78,79,80,81,82,83,84,85,86,87,88,89,90,48,49,50,51,52,53,54,55,56,57,32,39,46,45]
def AiX:List UInt8:=[65,66,67,68,69,70,71,72,73,74,75,76,77,78,79,80,81,82,83,84,85,86,87,88,89,90,32,46]
def nameR(s:List UInt8):Bool:=longR s 1 30&&(plainR s&&(AeR s nameSet&&AeR (s.take 1) CAPS))
theorem AtR{S:Std}(hS:LibR S)(s:List UInt8)(hs:s.length<1000000):PcH prog S 74 [.str s] (· = .bool (nameR s)):=by
 have h1:=AgG s 1 30;have h2:=AdF hS s hs;have h3:=AdU s nameSet hs (by decide) (AcI (by decide));have h4:=AdU (s.take 1) CAPS (by simp; omega) (by decide) (AcI (by decide));simp only[nameSet,CAPS]at h3 h4;refine zqIB func74 rfl fun h ρ w hg=>?_
 simp only[go_sem];refine zpB (h1) ?_
 cases e1:longR s 1 30 with
 | false =>
  simp only[go_sem];exact aret [2] rfl ⟨by simp[resV,Av.get,Av.put,nameR,e1],rfl⟩
 | true =>
  have e0:decide ((1:Int)<=(s.length:Int))=true:=by simp[longR]at e1 |-; omega
  simp only[go_sem];refine zqB hg (h2) ?_
  cases e2:plainR s with
  | false =>
   simp only[go_sem];exact aret [2] rfl ⟨by simp[resV,Av.get,Av.put,nameR,e1,e2],rfl⟩
  | true =>
   simp only[go_sem];refine zpB (h3) ?_
   cases e3:AeR s nameSet with
   | false =>
    simp only[nameSet]at e3;rw[e3];simp only[go_sem];exact aret [2] rfl ⟨by simp[resV,Av.get,Av.put,nameR,e1,e2,nameSet,e3],rfl⟩
   | true =>
    have e3':=e3;simp only[nameSet]at e3;rw[e3];simp only[go_sem,e0];refine And.intro (by simp[longR]at e1; omega) ?_;refine zpB (h4) ?_;simp only[go_sem];exact aret [2] rfl ⟨by simp[resV,Av.get,Av.put,nameR,e1,e2,e3',CAPS],rfl⟩
def setR(s:List UInt8):Bool:=longR s 1 60&&(plainR s&&(AeR s setSet&&(AeR (s.take 1) CAPS&&(!Lib.contains s [32,45,32]&&!Lib.hasSuffix s [32,45]))))
theorem BcU{S:Std}(hS:LibR S)(s:List UInt8)(hs:s.length<1000000):PcH prog S 296 [.str s] (· = .bool (setR s)):=by
 have h1:=AgG s 1 60;have h2:=AdF hS s hs;have h3:=AdU s setSet hs (by decide) (AcI (by decide));have h4:=AdU (s.take 1) CAPS (by simp; omega) (by decide) (AcI (by decide));have h5:=AfI hS.ok s [32,45,32] (by omega);have h6:=AcA s [32,45] (by omega);simp only[setSet,CAPS]at h3 h4;refine zqIB func296 rfl fun h ρ w hg=>?_
 simp only[go_sem];refine zpB (h1) ?_
 cases e1:longR s 1 60 with
 | false =>
  simp only[go_sem];exact aret [2] rfl ⟨by simp[resV,Av.get,Av.put,setR,e1],rfl⟩
 | true =>
  have e0:decide ((1:Int)<=(s.length:Int))=true:=by simp[longR]at e1 |-; omega
  simp only[go_sem];refine zqB hg (h2) ?_
  cases e2:plainR s with
  | false =>
   simp only[go_sem];exact aret [2] rfl ⟨by simp[resV,Av.get,Av.put,setR,e1,e2],rfl⟩
  | true =>
   simp only[go_sem];refine zpB (h3) ?_
   cases e3:AeR s setSet with
   | false =>
    simp only[setSet]at e3;rw[e3];simp only[go_sem];exact aret [2] rfl ⟨by simp[resV,Av.get,Av.put,setR,e1,e2,setSet,e3],rfl⟩
   | true =>
    have e3':=e3;simp only[setSet]at e3;rw[e3];simp only[go_sem,e0];refine And.intro (by simp[longR]at e1; omega) ?_;refine zpB (h4) ?_
    cases e4:AeR (s.take 1) CAPS with
    | false =>
     have e4':=e4;simp only[CAPS]at e4;rw[e4];simp only[go_sem];exact aret [2] rfl ⟨by simp[resV,Av.get,Av.put,setR,e1,e2,e3',e4'],rfl⟩
    | true =>
     have e4':=e4;simp only[CAPS]at e4;rw[e4];simp only[go_sem];refine zqB hg (h5) ?_
     cases e5:Lib.contains s [32,45,32]with
     | true =>
      simp only[go_sem];exact aret [2] rfl ⟨by simp[resV,Av.get,Av.put,setR,e1,e2,e3',e4',e5],rfl⟩
     | false =>
      simp only[go_sem];refine zpB (h6) ?_;simp only[go_sem];exact aret [2] rfl ⟨by simp[resV,Av.get,Av.put,setR,e1,e2,e3',e4',e5],rfl⟩
def A6S(p:Pa):Int:=if plainR p.text then(if p.kind==2&&!nameR p.text then 5 else if p.kind==5&&!AeR p.text AiX then 3 else 0) else 3
theorem A6T{S:Std}(hS:LibR S)(p:Pa)(b:Int)(h:paraOk p=true)(hf:followsL p.kind b=true):PcH prog S 270 [paA p,.int .i64 b] (· = .int .i64 (A6S p)):=by
 obtain⟨k,s⟩:=p;simp only[paraOk,Bool.and_eq_true,decide_eq_true_eq,bne_iff_ne,ne_eq,Bool.or_eq_true,Bool.not_eq_true']at h;obtain⟨h1,h2,h3,h4,h5,h6,h7,h8⟩:=h;have e0:(s==[])=false:=by simpa using h3
 have hs:s.length<1000000:=by omega
 have d2:decide ((s.length:Int)>2000)=false:=by simp; omega
 have hasc:AcL s:=AzD (by simp only[plainL,Bool.and_eq_true]at h4; exact h4.1);have c2:=AdF hS s hs;have c3:=AtR hS s hs;have c4:=AdU s AiX hs (by decide) (AcI (by decide));simp only[AiX]at c4;unfold paA A6S;simp only at hf |-;have hk:k=1\/k=2\/k=3\/k=4\/k=5:=by omega
 unfold followsL at hf;refine zqIB func270 rfl fun h ρ w hg=>?_
 rcases hk with rfl|rfl|rfl|rfl|rfl
 .simp at hf
  have f2:(b==2)=false:=by simpa using hf.1
  have f3:(b==3)=false:=by simpa using hf.2
  simp only[go_sem,e0,d2];refine zqB hg (c2) ?_
  cases e2:plainR s with
  | false =>
   simp only[go_sem];exact zt [4]
  | true =>
   simp only[go_sem,e0,d2,f2,f3];exact zt [4]
 .simp at hf
  have f2:(b==2)=false:=by simpa using hf.1
  have f3:(b==3)=false:=by simpa using hf.2
  simp only[go_sem,e0,d2];refine zqB hg (c2) ?_
  cases e2:plainR s with
  | false =>
   simp only[go_sem];exact zt [4]
  | true =>
   simp only[go_sem,e0,d2,f2,f3];refine zqB hg (c3) ?_
   cases e3:nameR s with
   | false =>
    simp only[go_sem];exact zt [4]
   | true =>
    simp only[go_sem,e0,d2,f2,f3];exact zt [4]
 .have h7:=h7.resolve_left (by simp)
  have d3:decide ((s.length:Int)>200)=false:=by simp; omega
  simp at hf
  have hf':b=2\/b=4:=hf;simp only[go_sem,e0,d2,d3];refine zqB hg (c2) ?_
  cases e2:plainR s with
  | false =>
   simp only[go_sem];exact zt [4]
  | true =>
   simp only[go_sem,e0,d2,d3];refine zpB (AgT s [40,41] (by omega) (by decide) hasc (AcI rfl)) ?_;rw[h7.2]
   rcases hf' with rfl|rfl
   .simp only [go_sem]
    exact zt [4]
   .simp only [go_sem]
    exact zt [4]
 .simp at hf
  have hf':b=2\/b=3\/b=4:=by omega
  simp only[go_sem,e0,d2];refine zqB hg (c2) ?_
  cases e2:plainR s with
  | false =>
   simp only[go_sem];exact zt [4]
  | true =>
   rcases hf' with rfl|rfl|rfl <;>
   .simp only [go_sem,e0,d2]
    exact zt [4]
 .simp at hf
  have f2:(b==2)=false:=by simpa using hf.1
  have f3:(b==3)=false:=by simpa using hf.2
  have hl:=h8.resolve_left (by simp);have d4:decide ((s.length:Int)>40)=false:=by simp[isTurnL]at hl |-; omega
  simp only[go_sem,e0,d2];refine zqB hg (c2) ?_
  cases e2:plainR s with
  | false =>
   simp only[go_sem];exact zt [4]
  | true =>
   simp only[go_sem,e0,d2,f2,f3,d4];refine zpB (c4) ?_
   cases e3:AeR s AiX with
   | false =>
    simp only[AiX]at e3;rw[e3];simp only[go_sem];exact zt [4]
   | true =>
    simp only[AiX]at e3;rw[e3];simp only[go_sem,e0,d2,f2,f3,d4];exact zt [4]
end Go.Proofs.YtnfkjpihaficbaaGreatDoor
namespace Go.Proofs.YtnfkjpihaficbaaGreatDoor
open Go Go.Av Go.RowKit Go.ChangeShapes Go.WideShapes Go.ChangeAt _root_.Go.Proofs.Tryz
theorem BcV:Rows.laid_strings_asciiSpace=Lib.tabData (H:=Unit) .u8 Lib.asciiSpaceTab:=by kernel_rfl
theorem BhZ{W:World}(h:W.ShapedOpen prog){laid:List (String×DataW Unit)}(hp:(laid.all fun x=>x.2.handleName?.isNone)=true)(hL:laidMetH prog laid W)
  (e1:laid.filter (fun x=>x.1 == "internal/strconv.uint64pow10")=[("internal/strconv.uint64pow10",Rows.laid_internal_strconv_uint64pow10)])
  (e2:laid.filter (fun x=>x.1 == "strconv.ErrSyntax")=[("strconv.ErrSyntax",Rows.laid_strconv_ErrSyntax)])
  (e3:laid.filter (fun x=>x.1 == "strings.asciiSpace")=[("strings.asciiSpace",Rows.laid_strings_asciiSpace)]):LibR (A6A W):=by
 refine ⟨BlG h hp hL e1 e2,?_⟩;rw [MakeChecks.laidMetH_plain _ _ _ hp] at hL;have h1:=hL.filter (fun x=>x.1 == "strings.asciiSpace");rw [e3,BcV] at h1;have ht:=Lib.tabIs_of_head (g:=0) (t:=258) (e:=5) (n:=256) (by kernel_rfl) (by kernel_rfl) underlying258 underlying5 (by kernel_rfl) (by kernel_rfl) h1;exact AqS (by kernel_rfl) ht
