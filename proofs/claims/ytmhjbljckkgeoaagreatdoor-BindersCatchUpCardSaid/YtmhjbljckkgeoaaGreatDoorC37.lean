/- sent: what goes out to those who have leaves. -/
import Derived.Test.YtmhjbljckkgeoaaGreatDoorC36
import Derived.Lib.AppendZerosOnto
import Derived.Lib.Overlaps
set_option maxRecDepth 100000
set_option maxHeartbeats 8000000
set_option linter.all false
namespace Go.Proofs.YtmhjbljckkgeoaaGreatDoor
open Av RowKit Proofs.Tryz
def AcS(l:List Le')(f:Le'):Bool:=match l.find? (fun x=>x.name==f.name)with
 | some x=>!ArS x f
 | none=>true
def sentL(l nl:List Le'):List Le':=nl.filter (AcS l)
def isThr(nl:List Le')(f:Le'):Bool:=(nl.find? (fun x=>x.name==f.name)).isNone
def thrL(l nl:List Le'):List LU:=(l.filter (isThr nl)).map (·.name)
def sdT(no:Int)(a b:AV):Blk:=.arr 3 [.agg [.int .i64 no,a,b]]
theorem ApG{p:Le'->Bool}{l:List Le'}{i:Nat}(h:i<l.length):(l.take (i+1)).filter p=(l.take i).filter p++(bif p l[i] then[l[i]] else[]):=by
 rw[lad h,List.filter_append]
 cases hp:p l[i] <;> simp[hp]
theorem BfU(id es:Nat)(q:LY)(l:List Le'):frzB id es q (.mp (sM (lvE l)))=.mp (sM (lvE l)):=by
 unfold frzB sM lvE;simp only[lbb];rfl
theorem BtT(l:List Le')(hl:l.length<=100000)(hn:(l.map (·.name)).Nodup)(hi:∀ f∈l,LeafIn f)(d:Dr)(hdl:d.La.length<=100000)(hdn:(d.La.map (·.name)).Nodup)(hdi:∀ f∈d.La,LeafIn f) :
  Pc prog 34 [.fz 4 (l.map leA),drA d] (· = .agg [.int .i64 d.no,.fz 4 ((sentL l d.La).map leA),.fz 1 ((thrL l d.La).map .str)]):=by
 have hb1:=AjO l hl hn;have hb2:=AjO d.La hdl hdn;obtain⟨dno,dti,dsc,dgo,nl⟩:=d;simp only[drA]at hdl hdn hdi hb2 |-;refine zpIB func34 rfl fun h ρ w=>?_
 simp only[go_sem];refine AqU [1,4] 100 [] AaF (by decide) rfl rfl 100 ?_;simp only[go_sem,Go.Av.dxq,Go.Av.dxqc,Go.Av.gOnB,↓Go.Av.AbM,↓Go.Av.AaZ,Go.Av.dbrq];refine icc (hb1 _) ⟨_,_,rfl,rfl⟩ ?_;rintro _ _ ⟨rfl,rfl⟩;refine⟨Agr.push' (by simp) _,?_⟩;refine icc (hb2 _) ⟨_,_,rfl,rfl⟩ ?_;rintro _ _ ⟨rfl,rfl⟩;refine⟨Agr.push' (by simp) _,?_⟩;simp only[go_sem,Go.Av.dxq,Go.Av.dxqc,Go.Av.gOnB,↓Go.Av.AbM,↓Go.Av.AaZ,Go.Av.dbrq];apply zgB;simp only[go_sem,laa];refine AaC (ι:=Nat) (fun i=>nl.length-i) (fun i=>[(27,.int .i64 i),(26,.int .i64 nl.length),(25,.fz 4 (nl.map leA)),(7,.mp 3),(6,.mp 2),(5,.ptr 1 1 0 0),(4,.ptr 0 1 0 0),(0,.fz 4 (l.map leA))])
  (fun i=>[sdT 0 (.raw (.slice none 0 0)) (.raw (.slice none 0 0)),sdT dno (.sl 4 0 ((nl.take i).filter (AcS l)).length ((nl.take i).filter (AcS l)).length) (.raw (.slice none 0 0)),.mp (sM (lvE l)),.mp (sM (lvE nl)),.arr 4 (((nl.take i).filter (AcS l)).map leA)]) (fun i=>i<=nl.length) 0 (by simp) ?_ ?_
 .refine Shift.trans (Shift.cells 1 4 [.agg [.int .i64 dno,.sl 4 0 0 0,.raw (.slice none 0 0)]] rfl rfl (by simp[cellsOf]) ⟨.refl,.sl,.refl,trivial⟩) (Lu ?_ (by simp[sdT]))
  simp only[go_sem]
 .intro i g1 J hJ
  simp only[sdT]at hJ |-
  by_cases gi:i<nl.length
  .have di:decide ((i:Int)<(nl.length:Int))=true:=by rw[laj]; omega
   have hle:=AaY gi;have hcp:=AkU nl[i] (hdi _ (lac gi));have hfs:=ApG (p:=AcS l) gi;have hfl:((nl.take i).filter (AcS l)).length<=i:=by
    have:=List.length_filter_le (AcS l) (nl.take i);simp only[List.length_take]at this;omega
   have hfin:=hJ (i+1) (by omega) (by omega)
   rcases ArF l nl[i].name with⟨j,y,hf,mf⟩|⟨hf,mf⟩
   .have hsm:=AyQ y nl[i] (hi y (List.mem_of_find?_eq_some hf)) (hdi _ (lac gi))
    have hnw:AcS l nl[i]=!ArS y nl[i]:=by unfold AcS; rw[hf]
    simp only[leA]at hle hcp mf hsm;rw[show(y.name==nl[i].name&&(y.Lj==nl[i].Lj&&(y.first==nl[i].first&&y.Lb==nl[i].Lb)))=ArS y nl[i] from rfl]at hsm;apply zgB;simp only[go_sem,di,hle,mf]
    repeat refine aqb ?_
    refine zpB (hsm) ?_
    cases hs:ArS y nl[i]with
    | true =>
     rw[hs]at hnw;have hsk:(nl.take i).filter (AcS l)=(nl.take (i+1)).filter (AcS l):=by
      rw[hfs,hnw]; simp
     rw[<- hsk]at hfin;simp only[go_sem]
     repeat refine aqb ?_
     rw[ic i];refine ainv hfin (Shift.low 5 (by simp) (by simp) ?_ ?_)
     .simp only[go_sem,↓AeF,↓AcK,↓AfP,lowB,flat]
     .simp only[go_sem]
    | false =>
     rw[hs]at hnw;simp only[go_sem];have hap:((nl.take i).filter (AcS l)).map leA++[.agg [.str nl[i].name,.int .i64 nl[i].Lj,.str nl[i].first,.fz 1 (nl[i].Lb.map .str)]]=((nl.take (i+1)).filter (AcS l)).map leA:=by
      rw[hfs,hnw]; simp[leA]
     have hln:((nl.take i).filter (AcS l)).length+1=((nl.take (i+1)).filter (AcS l)).length:=by
      rw[hfs,hnw]; simp
     refine zr [.agg [.str nl[i].name,.int .i64 nl[i].Lj,.str nl[i].first,.fz 1 (nl[i].Lb.map .str)]] AaF ?_;simp only[go_sem,laa,hap,hln]
     repeat refine And.intro (by first|exact hcp.at|omega|exact .inl trivial|rfl|(simp; done)|(simp; omega)) ?_
     apply zgB;simp only[go_sem,laa]
     repeat refine aqb ?_
     rw[ic i];refine ainv hfin (Shift.low 5 (by simp) (by simp) ?_ ?_)
     .simp only[go_sem,↓AeF,↓AcK,↓AfP,lowB,flat]
     .simp only[go_sem]
   .have hnw:AcS l nl[i]=true:=by unfold AcS; rw[hf]
    simp only[leA]at hle hcp mf;apply zgB;simp only[go_sem,di,hle,mf]
    repeat refine aqb ?_
    have hap:((nl.take i).filter (AcS l)).map leA++[.agg [.str nl[i].name,.int .i64 nl[i].Lj,.str nl[i].first,.fz 1 (nl[i].Lb.map .str)]]=((nl.take (i+1)).filter (AcS l)).map leA:=by
     rw[hfs,hnw]; simp[leA]
    have hln:((nl.take i).filter (AcS l)).length+1=((nl.take (i+1)).filter (AcS l)).length:=by
     rw[hfs,hnw]; simp
    refine zr [.agg [.str nl[i].name,.int .i64 nl[i].Lj,.str nl[i].first,.fz 1 (nl[i].Lb.map .str)]] AaF ?_;simp only[go_sem,laa,hap,hln]
    repeat refine And.intro (by first|exact hcp.at|omega|exact .inl trivial|rfl|(simp; done)|(simp; omega)) ?_
    apply zgB;simp only[go_sem,laa]
    repeat refine aqb ?_
    rw[ic i];refine ainv hfin (Shift.low 5 (by simp) (by simp) ?_ ?_)
    .simp only[go_sem,↓AeF,↓AcK,↓AfP,lowB,flat]
    .simp only[go_sem]
  .have di:decide ((i:Int)<(nl.length:Int))=false:=by rw[lai]; omega
   have hi':i=nl.length:=by omega
   subst hi';rw[lap];refine AWp.shift (Shift.frz 4 rfl (AdS _)) ?_;have htk:List.take ((nl.filter (AcS l)).length) (List.map leA (nl.filter (AcS l)))=List.map leA (nl.filter (AcS l)):=lae (by simp);simp only[go_sem,↓BfU,frzE,frzC,frz,frz1,frzB,laa,lab,htk];apply zgB;simp only[go_sem,di,laa];refine AaC (ι:=Nat) (fun i=>l.length-i) (fun i=>[(56,.int .i64 i),(55,.int .i64 l.length),(54,.fz 4 (l.map leA)),(7,.mp 3),(5,.ptr 1 1 0 0),(4,.ptr 0 1 0 0)])
    (fun i=>[sdT 0 (.raw (.slice none 0 0)) (.raw (.slice none 0 0)),sdT dno (.fz 4 ((nl.filter (AcS l)).map leA)) (.sl 5 0 (thrL (l.take i) nl).length (thrL (l.take i) nl).length),.mp (sM (lvE l)),.mp (sM (lvE nl)),.dead,.arr 1 ((thrL (l.take i) nl).map .str)]) (fun i=>i<=l.length) 0 (by simp) ?_ ?_
   .refine Shift.trans (Shift.cells 1 1 [.agg [.int .i64 dno,.fz 4 ((nl.filter (AcS l)).map leA),.sl 5 0 0 0]] rfl rfl (by simp[cellsOf]) ⟨.refl,.refl,.sl,trivial⟩) (Lu ?_ (by simp[sdT,thrL]))
    simp only[go_sem]
   .clear hJ J
    intro i g1 J hJ;simp only[sdT]at hJ |-
    by_cases gi:i<l.length
    .have di:decide ((i:Int)<(l.length:Int))=true:=by rw[laj]; omega
     have hle:=AaY gi;have hfs:=ApG (p:=isThr nl) gi;have hfl:(thrL (l.take i) nl).length<=i:=by
      have:=List.length_filter_le (isThr nl) (l.take i);simp only[List.length_take]at this;simp only[thrL,laa];omega
     have hfin:=hJ (i+1) (by omega) (by omega)
     rcases ArF nl l[i].name with⟨j,y,hf,mf⟩|⟨hf,mf⟩
     .have hnw:isThr nl l[i]=false:=by unfold isThr; rw[hf]; rfl
      have hsk:thrL (l.take i) nl=thrL (l.take (i+1)) nl:=by
       unfold thrL; rw[hfs,hnw]; simp
      rw[<- hsk]at hfin;simp only[leA]at hle mf;apply zgB;simp only[go_sem,di,hle,mf,laa]
      repeat refine aqb ?_
      rw[ic i];refine ainv hfin (Shift.low 6 (by simp) (by simp) ?_ ?_)
      .simp only[go_sem,↓AeF,↓AcK,↓AfP,lowB,flat]
      .simp only[go_sem]
     .have hnw:isThr nl l[i]=true:=by unfold isThr; rw[hf]; rfl
      have hap:(thrL (l.take i) nl).map AV.str++[.str l[i].name]=(thrL (l.take (i+1)) nl).map AV.str:=by
       unfold thrL; rw[hfs,hnw]; simp
      have hln:(thrL (l.take i) nl).length+1=(thrL (l.take (i+1)) nl).length:=by
       unfold thrL; rw[hfs,hnw]; simp
      apply zgB;simp only[go_sem,di,hle,mf,laa,hap,hln]
      repeat refine aqb ?_
      rw[ic i];refine ainv hfin (Shift.low 6 (by simp) (by simp) ?_ ?_)
      .simp only[go_sem,↓AeF,↓AcK,↓AfP,lowB,flat]
      .simp only[go_sem]
    .have di:decide ((i:Int)<(l.length:Int))=false:=by rw[lai]; omega
     have hi':i=l.length:=by omega
     subst hi';rw[lap];refine AWp.shift (Shift.frz 5 rfl (AcY _)) ?_;have htk:List.take ((thrL l nl).length) (List.map AV.str (thrL l nl))=List.map AV.str (thrL l nl):=lae (by simp);simp only[go_sem,↓BfU,frzE,frzC,frz,frz1,frzB,laa,lab,htk];apply zgB;simp only[go_sem,di];exact AbF [.cell 4 39] rfl [_] ⟨by simp only[go_sem,sideIs,sentL],trivial⟩ ⟨rfl,rfl⟩
theorem LeafOk.bound{f:Le'}(h:LeafOk f):f.name.length<1000000/\f.first.length<1000000/\f.Lb.length<1000000/\∀ s∈f.Lb,s.length<4000000:=by
 refine⟨by have:=AbW h.name; omega,?_,by have:=h.Lb.few; omega,fun s hs=>by have:=(h.Lb.all s hs).len; omega⟩
 rcases h.first with e|e
 .grind
 .have:=(number_okA e).2.1; omega
theorem LeafOk.leafIn{f:Le'}(h:LeafOk f):LeafIn f:=⟨by have:=h.Lb.few; omega⟩
theorem BinderOk.riseN{l:List Le'}(h:BinderOk l):AeC (l.map (·.name)):=by
 refine A5T (fun n hn=>?_) fun i hi=>?_
 .obtain ⟨f,hf,rfl⟩:=List.mem_map.1 hn
  exact(h.all f hf).name
 .simp at hi
  simpa using h.rise i hi
theorem BinderOk.apart{l:List Le'}(h:BinderOk l):(l.map (·.name)).Nodup:=AoV (fun n hn=>by
 obtain⟨f,hf,rfl⟩:=List.mem_map.1 hn;exact(h.all f hf).name) h.riseN
theorem BinderOk.sub{l m:List Le'}(h:BinderOk l)(hs:m.Sublist l):BinderOk m:=by
 refine⟨Nat.le_trans hs.length_le h.few,fun f hf=>h.all f (hs.subset hf),fun i hi=>?_⟩;have:=List.pairwise_iff_getElem.1 (h.riseN.sublist (hs.map _)) i (i+1) (by grind) (by grind) (by omega)
 grind
theorem ApH{l:List Le'}(hn:(l.map (·.name)).Nodup){f:Le'}(hf:f∈l):l.find? (fun x=>x.name==f.name)=some f:=by
 induction l<;>grind
theorem BfV{l:List Le'}{k:LU}(h:l.find? (fun x=>x.name==k)=none):∀ f∈l,f.name≠k:=by grind
theorem BmW{l:List Le'}{k:LU}{f:Le'}(h:l.find? (fun x=>x.name==k)=some f):f∈l/\f.name=k:=by grind
def AdK(S:List Le')(thr:List LU)(f:Le'):Bool:=(S.find? (fun x=>x.name==f.name)).isNone&&!thr.contains f.name
theorem A8T{l:List Le'}(hn:(l.map (·.name)).Nodup){f:Le'}:AcS l f=true ↔ f ∉ l:=by
 unfold AcS
 cases h:l.find? (fun x=>x.name==f.name)with
 | none =>
  grind
 | some x =>
  simp only[lcb,Bool.eq_false_iff,ne_eq,A8R]
  constructor
  .intro hne hf
   simp_all[ApH]
  grind
theorem name_inj{l:List Le'}(hn:(l.map (·.name)).Nodup){f g:Le'}(hf:f∈l)(hg:g∈l)(e:f.name=g.name):f=g:=by
 have h1:=ApH hn hf
 simp_all[ApH]
theorem thr_mem{l nl:List Le'}{n:LU}:n∈thrL l nl ↔ ∃ f∈l,f.name=n/\∀ g∈nl,g.name≠n:=by
 grind[thrL,isThr,Option.isNone_iff_eq_none,List.find?_eq_none]
theorem AuO{l nl:List Le'}(hn:(l.map (·.name)).Nodup){f:Le'}:f∈sentL l nl ↔ f∈nl/\f ∉ l:=by
 grind[sentL,A8T]
theorem keep_mem{l nl:List Le'}(hl:(l.map (·.name)).Nodup)(hn:(nl.map (·.name)).Nodup){f:Le'}:f∈l.filter (AdK (sentL l nl) (thrL l nl)) ↔ f∈l/\f∈nl:=by
 rw[List.mem_filter];unfold AdK;rw[lag,Option.isNone_iff_eq_none,List.find?_eq_none,lcb,Bool.eq_false_iff,ne_eq,List.contains_iff_mem,thr_mem]
 grind[name_inj,AuO]
theorem AcH{l:List Le'}(h:(l.map (·.name)).Nodup):l.Nodup:=by
 unfold List.Nodup at *;rw[List.pairwise_map]at h;exact h.imp fun hne e=>hne (by rw[e])
theorem BfW{l nl:List Le'}(hl:(l.map (·.name)).Nodup)(hn:(nl.map (·.name)).Nodup):(l.filter (AdK (sentL l nl) (thrL l nl))++sentL l nl).Perm nl:=by
 refine(List.perm_ext_iff_of_nodup ?_ (AcH hn)).2 fun f=>?_
 .rw [List.nodup_append]
  refine⟨(AcH hl).sublist List.filter_sublist,(AcH hn).sublist List.filter_sublist,fun f hf g hg e=>?_⟩<;>grind[AuO]
 grind[keep_mem,AuO]
def sdA(no:Int)(S:List Le')(thr:List LU):AV:=.agg [.int .i64 no,.fz 4 (S.map leA),.fz 1 (thr.map .str)]
def goE(l:List LU):List (LU×AV):=l.map fun n=>(n,.bool true)
theorem BpP(l:List LU)(k:LU):(k∈l/\∃ i,mfind .string (.str k) (sM (goE l)) 0=some (some (i,.bool true)))\/(k ∉ l/\mfind .string (.str k) (sM (goE l)) 0=some none):=by
 rcases AoE k (goE l) 0 with⟨i,v,h1,h2⟩|⟨h1,h2⟩
 .grind[goE]
 .right
  refine⟨fun hk=>?_,h2⟩;have:=List.find?_eq_none.1 h1 (k,.bool true) (List.mem_map.2 ⟨k,hk,rfl⟩)
  grind
theorem BmX(l:List LU)(n:LU):sM (goE l)++[(.str n,.bool true)]=sM (goE (l++[n])):=by grind[goE,sM]
theorem ApI(n:Nat)(l:List LU):lowB n (.mp (sM (goE l)))=true:=AoF (by intro p hp; simp only[goE,List.mem_map]at hp; obtain⟨n,_,rfl⟩:=hp; rfl)
theorem BxB{l:List Le'}(h:∀ f∈l,leafNameL f.name=true):∃ q:List Lq,q.map (·.1)=l/\q.map lqA=l.map leA:=by
 refine⟨l.attachWith (fun f=>leafNameL f.name=true) h,List.attachWith_map_subtype_val h,?_⟩;have:=List.attachWith_map_subtype_val h
 conv=>rhs; rw[<- this]
 rw[lbb];rfl
theorem BtU(σ:List Nat)(l:List Le'):(l.map leA).map (renC σ)=l.map leA:=by
 rw[lbb];exact lbe fun s _=>rfl
theorem A8U{St:Std}(hS:LibOk St)(l S nl:List Le')(no:Int)(thr:List LU)(hl:BinderOk l)(hs:BinderOk S)(hn:BinderOk nl)
  (ht:thr.length<=100000) (h1:∀ n∈thr,∃ f∈l,f.name=n) (h2:∀ n∈thr,∀ f∈S,f.name≠n) (h3:thr.Nodup) (hp:(l.filter (AdK S thr)++S).Perm nl) :
  PcH prog St 10 [.fz 4 (l.map leA),sdA no S thr] (· = .tup [.fz 4 (nl.map leA),.int .i64 0]):=by
 have hc1:=AbV hS l (by have:=hl.few; omega) (fun f hf=>(hl.all f hf).bound);have hc2:=AbV hS S (by have:=hs.few; omega) (fun f hf=>(hs.all f hf).bound);have hc3:=AbV hS nl (by have:=hn.few; omega) (fun f hf=>(hn.all f hf).bound);have hb1:=AjO l (by have:=hl.few; omega) hl.apart;have hb2:=AjO S (by have:=hs.few; omega) hs.apart;have d0:((0:Int) != 0)=false:=by decide
 have hlf:=hl.few;have hsf:=hs.few;have hnf:=hn.few;simp only[sdA];refine zqIB func10 rfl fun h ρ w hg=>?_
 simp only[go_sem];refine AeK hg hc1 rfl rfl rfl ?_;rintro _ ⟨n,rfl,hq⟩;obtain rfl:=hq.2 hl;apply zgB;simp only[go_sem,d0];refine AeK hg hc2 rfl rfl rfl ?_;rintro _ ⟨n,rfl,hq'⟩;obtain rfl:=hq'.2 hs;apply zgB;simp only[go_sem,d0];refine AqU [1,4] 100 [] AaF (by decide) rfl rfl 100 ?_;simp only[go_sem,Go.Av.dxq,Go.Av.dxqc,Go.Av.gOnB,↓Go.Av.AbM,↓Go.Av.AaZ,Go.Av.dbrq];refine icc (hb1 _) ⟨_,_,rfl,rfl⟩ ?_;rintro _ _ ⟨rfl,rfl⟩;refine⟨Agr.push' (by simp) _,?_⟩;refine icc (hb2 _) ⟨_,_,rfl,rfl⟩ ?_;rintro _ _ ⟨rfl,rfl⟩;refine⟨Agr.push' (by simp) _,?_⟩;simp only[go_sem,Go.Av.dxq,Go.Av.dxqc,Go.Av.gOnB,↓Go.Av.AbM,↓Go.Av.AaZ,Go.Av.dbrq];apply zgB;simp only[go_sem,laa];refine AaC (ι:=Nat) (fun i=>thr.length-i) (fun i=>[(45,.int .i64 i),(44,.int .i64 thr.length),(43,.fz 1 (thr.map .str)),(10,.mp 2),(9,.mp 1),(8,.mp 0),(3,.pin 3 [.agg [.int .i64 no,.fz 4 (S.map leA),.fz 1 (thr.map .str)]] 0 0),(0,.fz 4 (l.map leA))])
  (fun i=>[.mp (sM (lvE l)),.mp (sM (lvE S)),.mp (sM (goE (thr.take i)))]) (fun i=>i<=thr.length) 0 (by simp) ?_ ?_
 .refine Lu ?_ (by simp[goE,sM])
  simp only[go_sem]
 .intro i g1 J hJ
  by_cases gi:i<thr.length
  .have di:decide ((i:Int)<(thr.length:Int))=true:=by rw[laj]; omega
   have hgt:List.getD (thr.map AV.str) i .any=.str thr[i]:=by simp[List.getD,gi]
   have hm:=lac gi;have hfin:=hJ (i+1) (by omega) (by omega);have m3:mfind .string (.str thr[i]) (sM (goE (thr.take i))) 0=some none:=by
    rcases BpP (thr.take i) thr[i]with⟨h,_⟩|⟨_,h⟩
    .exfalso
     obtain⟨k,hk,e⟩:=List.mem_iff_getElem.1 h;simp only[List.length_take]at hk;rw[List.getElem_take]at e;exact List.pairwise_iff_getElem.1 h3 k i (by omega) gi (by omega) e
    .exact h
   have m4:=BmX (thr.take i) thr[i];rw[<- lad gi]at m4
   rcases ArF l thr[i]with⟨j,y,hf,mf⟩|⟨hf,mf⟩
   .rcases ArF S thr[i]with⟨j',y',hf',mf'⟩|⟨hf',mf'⟩
    .have:=BmW hf'
     exact absurd this.2 (h2 _ hm y' this.1)
    .simp only [leA]at mf
     apply zgB;simp only[go_sem,di,hgt,mf,mf',m3,m4,laa]
     repeat refine aqb ?_
     rw[ic i];refine ainv hfin (Shift.low 3 (by simp) (by simp) ?_ ?_)
     .simp only[go_sem,↓AeF,↓ApI,lowB,flat]
     .simp only[go_sem]
   .obtain ⟨f,hf1,hf2⟩:=h1 _ hm
    exact absurd hf2 (BfV hf f hf1)
  .have di:decide ((i:Int)<(thr.length:Int))=false:=by rw[lai]; omega
   have hi:i=thr.length:=by omega
   subst hi;rw[lap];apply zgB;simp only[go_sem,di,laa];clear hJ J;refine AaC (ι:=Nat) (fun i=>l.length-i) (fun i=>[(74,.int .i64 i),(73,.int .i64 l.length),(72,.fz 4 (l.map leA)),(17,.sl 3 0 ((l.take i).filter (AdK S thr)).length ((l.take i).filter (AdK S thr)).length),(10,.mp 2),(9,.mp 1),(3,.pin 3 [.agg [.int .i64 no,.fz 4 (S.map leA),.fz 1 (thr.map .str)]] 0 0)])
    (fun i=>[.mp (sM (lvE l)),.mp (sM (lvE S)),.mp (sM (goE thr)),.arr 4 (((l.take i).filter (AdK S thr)).map leA)]) (fun i=>i<=l.length) 0 (by simp) ?_ ?_
   .refine Shift.trans (Lv 17 4 rfl) (Lu ?_ (by simp))
    simp only[go_sem]
    simp
   .intro i g1 J hJ
    by_cases gi:i<l.length
    .have di:decide ((i:Int)<(l.length:Int))=true:=by rw[laj]; omega
     have hle:=AaY gi;have hcp:=AkU l[i] (hl.all _ (lac gi)).leafIn;have hfs:=ApG (p:=AdK S thr) gi;have hfl:((l.take i).filter (AdK S thr)).length<=i:=by
      have:=List.length_filter_le (AdK S thr) (l.take i);simp only[List.length_take]at this;omega
     have hfin:=hJ (i+1) (by omega) (by omega)
     rcases ArF S l[i].name with⟨j,y,hf,mf⟩|⟨hf,mf⟩
     .have hnw:AdK S thr l[i]=false:=by unfold AdK; rw[hf]; rfl
      have mg:=True.intro;simp only[leA]at mf;have hsk:(l.take i).filter (AdK S thr)=(l.take (i+1)).filter (AdK S thr):=by
       rw[hfs,hnw]; simp
      rw[<- hsk]at hfin;apply zgB;simp only[go_sem,di,hle,mf,mg,laa]
      repeat refine aqb ?_
      rw[ic i];refine ainv hfin (Shift.low 4 (by simp) (by simp) ?_ ?_)
      .simp only[go_sem,↓AeF,↓ApI,↓AcK,lowB,flat]
      .simp only[go_sem]
     .rcases BpP thr l[i].name with⟨hm,k,mg⟩|⟨hm,mg⟩
      .have hnw:AdK S thr l[i]=false:=by
        unfold AdK;rw[hf,List.contains_iff_mem.2 hm]; rfl
       have hsk:(l.take i).filter (AdK S thr)=(l.take (i+1)).filter (AdK S thr):=by
        rw[hfs,hnw]; simp
       rw[<- hsk]at hfin;apply zgB;simp only[go_sem,di,hle,mf,mg,laa]
       repeat refine aqb ?_
       rw[ic i];refine ainv hfin (Shift.low 4 (by simp) (by simp) ?_ ?_)
       .simp only[go_sem,↓AeF,↓ApI,↓AcK,lowB,flat]
       .simp only[go_sem]
      .have hnw:AdK S thr l[i]=true:=by
        unfold AdK;rw[hf,Bool.eq_false_iff.2 (fun h=>hm (List.contains_iff_mem.1 h))]; rfl
       have hap:((l.take i).filter (AdK S thr)).map leA++[.agg [.str l[i].name,.int .i64 l[i].Lj,.str l[i].first,.fz 1 (l[i].Lb.map .str)]]=((l.take (i+1)).filter (AdK S thr)).map leA:=by
        rw[hfs,hnw]; simp[leA]
       have hln:((l.take i).filter (AdK S thr)).length+1=((l.take (i+1)).filter (AdK S thr)).length:=by
        rw[hfs,hnw]; simp
       simp only[leA]at hcp;apply zgB;simp only[go_sem,di,hle,mf,mg]
       repeat refine aqb ?_
       refine zpB (hcp) ?_;simp only[go_sem,laa,hap,hln]
       repeat refine aqb ?_
       rw[ic i];refine ainv hfin (Shift.low 4 (by simp) (by simp) ?_ ?_)
       .simp only[go_sem,↓AeF,↓ApI,↓AcK,lowB,flat]
       .simp only[go_sem]
    .have di:decide ((i:Int)<(l.length:Int))=false:=by rw[lai]; omega
     have hi:i=l.length:=by omega
     subst hi;rw[lap];have hkl:(l.filter (AdK S thr)).length<=l.length:=List.length_filter_le _ _;generalize l.filter (AdK S thr)=kp at *;apply zgB;simp only[go_sem,di,laa];clear hJ J;refine AaC (ι:=Nat) (fun i=>S.length-i) (fun i=>[(103,.int .i64 i),(102,.int .i64 S.length),(101,.fz 4 (S.map leA)),(17,.sl 3 0 (kp++S.take i).length (kp++S.take i).length)])
      (fun i=>[.mp (sM (lvE l)),.mp (sM (lvE S)),.mp (sM (goE thr)),.arr 4 ((kp++S.take i).map leA)]) (fun i=>i<=S.length) 0 (by simp) ?_ ?_
     .refine Lu ?_ (by simp)
      simp only[go_sem]
     .intro i g1 J hJ
      by_cases gi:i<S.length
      .have di:decide ((i:Int)<(S.length:Int))=true:=by rw[laj]; omega
       have hle:=AaY gi;have hcp:=AkU S[i] (hs.all _ (lac gi)).leafIn;have hkn:(kp++S.take i).length<=kp.length+i:=by simp; omega
       have hfin:=hJ (i+1) (by omega) (by omega);have hst:=lad gi;have hap:(kp++S.take i).map leA++[.agg [.str S[i].name,.int .i64 S[i].Lj,.str S[i].first,.fz 1 (S[i].Lb.map .str)]]=(kp++S.take (i+1)).map leA:=by
        rw[hst]; simp only[laf,lca,lak,lao,leA]
       have hln:kp.length+(S.take i).length+1=kp.length+(S.take (i+1)).length:=by
        rw[hst,lah]; rfl
       simp only[leA]at hcp;apply zgB;simp only[go_sem,di,hle]
       repeat refine aqb ?_
       refine zpB (hcp) ?_;simp only[go_sem,laa,hap,hln]
       repeat refine aqb ?_
       rw[ic i];refine ainv hfin (Shift.low 4 (by simp) (by simp) ?_ ?_)
       .simp only[go_sem,↓AeF,↓ApI,↓AcK,lowB,flat]
       .simp only[go_sem]
      .have di:decide ((i:Int)<(S.length:Int))=false:=by rw[lai]; omega
       have hi:i=S.length:=by omega
       subst hi;rw[lap];have hpl:=hp.length_eq;generalize hout:kp++S=out at *;obtain⟨oq,o1,o2⟩:=BxB (l:=out) fun f hf=>(hn.all f (hp.mem_iff.1 hf)).name
       obtain⟨nq,n1,n2⟩:=BxB (l:=nl) fun f hf=>(hn.all f hf).name
       have hol:oq.length=out.length:=by rw[<- o1,laa]
       have hso:=A2G hS oq (by omega);have hpq:oq.Perm nq:=by
        have e1:(oq.map (·.1)).Nodup:=by rw[o1]; exact hp.nodup_iff.2 (AcH hn.apart)
        have e2:(nq.map (·.1)).Nodup:=by rw[n1]; exact AcH hn.apart
        have f1:oq.Nodup:=(List.pairwise_map.1 e1).imp fun hne e=>hne (by rw[e])
        have f2:nq.Nodup:=(List.pairwise_map.1 e2).imp fun hne e=>hne (by rw[e])
        have key:∀ (q:List Lq) (x:Lq),x∈q ↔ x.1∈q.map (·.1):=fun q x =>
         ⟨fun h=>List.mem_map.2 ⟨x,h,rfl⟩,fun h=>by
          obtain⟨y,hy,e⟩:=List.mem_map.1 h;rw[<- Subtype.ext e]; exact hy⟩
        refine(List.perm_ext_iff_of_nodup f1 f2).2 fun x=>?_
        rw[key oq,key nq,o1,n1];exact hp.mem_iff
       have hrs:nq.Pairwise kl:=by
        have h:=hn.riseN;unfold AeC at h;rw[<- n1,lbb,List.pairwise_map]at h;refine h.imp fun{a b} hab=>?_
        unfold kl kf
        rcases(ends_num a.2).2.2 with e|e
        .rw [e]; exact hab
        .exact nLt_trans e hab
       rw[hol,o2]at hso;refine AWp.shift (Shift.ren [3] rfl) ?_;simp only[go_sem,↓BtU,renE,renV,ren1,renS,renB,renC,idx];apply zgB;simp only[go_sem,di,laa];refine A3T hg hso rfl rfl ?_;rintro _ _ ⟨l',p1,p2,rfl,rfl⟩;have hfin:l'=nq:=BxA hrs (p1.trans hpq) (by rw[p1.length_eq]; exact p2);subst hfin;rw[n2];refine AWp.shift (Shift.frz 0 rfl (AdS _)) ?_;have htk:List.take nl.length (List.map leA nl)=List.map leA nl:=lae (by simp);simp only[go_sem,frzE,frzC,frz,frz1,frzB,laa,lab,htk,hpl];apply zgB;simp only[go_sem];refine AeK hg hc3 rfl rfl rfl ?_;rintro _ ⟨n,rfl,hq3⟩;obtain rfl:=hq3.2 hn;apply zgB;simp only[go_sem,d0];exact zt [4,5]
theorem A8V(x:Le')(hx:LeafIn x):Pc prog 43 [leA x,leA x] (· = .bool true):=by
 have hl:=AfD x.Lb x.Lb (by have:=hx.Lb; omega) (by have:=hx.Lb; omega);obtain⟨nm,dr,fi,ls⟩:=x;simp only[leA]at hl |-;rw[show(ls==ls)=true by simp]at hl;have h1:(nm==nm)=true:=by simp
 have h2:(dr==dr)=true:=by simp
 have h3:(fi==fi)=true:=by simp
 refine zpIB func43 rfl fun h ρ w=>?_
 simp only[go_sem,h1,h2,h3];refine zpB (hl) ?_;simp only[go_sem];exact zt [4]
theorem A2H(l:List Le')(hl:l.length<=100000)(hx:∀ f∈l,LeafIn f):Pc prog 42 [.fz 4 (l.map leA),.fz 4 (l.map leA),.fn (.func 43) []] (· = .bool true):=by
 have d0:((l.length:Int) != (l.length:Int))=false:=by simp
 refine zpIB func42 rfl fun h ρ w=>?_
 simp only[go_sem,d0,laa];refine AaC (ι:=Nat) (fun i=>l.length-i) (fun i=>[(17,.int .i64 i),(16,.int .i64 l.length),(15,.fz 4 (l.map leA)),(2,.fn (.func 43) []),(1,.fz 4 (l.map leA)),(0,.fz 4 (l.map leA))]) (fun _=>[]) (fun i=>i<=l.length) 0 (by simp) ?_ ?_
 .refine Ls ?_
  simp only[go_sem]
 .rintro i g1 J hJ
  by_cases gi:i<l.length
  .have di:decide ((i:Int)<(l.length:Int))=true:=by simp; omega
   have e1:=AaY gi;have hc:=A8V l[i] (hx _ (lac gi));simp only[leA]at hc;have hfin:=hJ (i+1) (by omega) (by omega);apply zgB;simp only[go_sem,di,e1,laa]
   repeat refine aqb ?_
   refine zpB (hc) ?_;simp only[go_sem]
   repeat refine aqb ?_
   rw[ic i];refine ainv hfin (Shift.low 0 (by simp) (by simp) rfl ?_);simp only[go_sem]
  .have di:decide ((i:Int)<(l.length:Int))=false:=by simp; omega
   have hi:i=l.length:=by omega
   subst hi;apply zgB;simp only[go_sem,di];exact zt [6]
theorem AuP(l:List Le')(hl:l.length<=100000)(hx:∀ f∈l,LeafIn f):Pc prog 12 [.fz 4 (l.map leA),.fz 4 (l.map leA)] (· = .bool true):=by
 have hq:=A2H l hl hx;refine zpIB func12 rfl fun h ρ w=>?_
 simp only[go_sem];refine zpB (hq) ?_;simp only[go_sem];exact zt [4]
end Go.Proofs.YtmhjbljckkgeoaaGreatDoor
namespace Go.Av
open RowKit
variable [Tr]
def junk(sz:Nat):AV:=.agg (List.replicate sz .any)
theorem ApJ(sz:Nat):∀ k,flat (List.replicate k (junk sz))=List.replicate (k*sz) .any
 | 0=>by simp[flat]
 | k+1=>by
  show List.replicate sz .any++flat (List.replicate k (junk sz))=_
  rw[ApJ sz k,List.replicate_append_replicate,show(k+1)*sz=sz+k*sz by rw[Nat.succ_mul,Nat.add_comm]]
theorem BfX{h:Mem}{Lf:Value->AV->Prop}{fl:Bool}:∀ vs:List Value,RL h Lf fl vs (List.replicate vs.length .any)
 | []=>.nil
 | v::vs=>.cons (.any v) (BfX vs)
def Fz0(h:Mem)(g sz:Nat)(l:LY):Prop:=∃ vs,RL h (fun _ _=>False) true vs (flat l)/\(∀ x∈l,(cellsOf x).length=sz)/\∀ (k:Nat) v,vs[k]? = some v->h g k=some v
theorem Fz0.rv{h:Mem}{g sz:Nat}{l:LY}(f:Fz0 h g sz l){c:Nat}(hc:l.length<=c){Lf:Value->AV->Prop}{fl:Bool}:RV h Lf fl (.slice (some ⟨g,0,none⟩) l.length c) (.fz sz l):=by
 obtain⟨vs,h1,h2,h3⟩:=f;exact .fz g 0 c sz l vs (h1.thaw (fun _ _ _ x=>x)) h2 (fun k v hk=>by grind) hc
theorem AuQ{x:Mem->Own->World->Prop}(hx:Stb x)(g sz:Nat)(l:LY):Stb fun h ρ w=>x h ρ w/\Fz0 h g sz l :=
 ⟨fun m lt ⟨h1,vs,h2,h3,h4⟩=>⟨hx.later m lt h1,vs,h2.thaw lt.hle,h3,fun k v hk=>lt.hle _ _ _ (h4 k v hk)⟩,fun hq ⟨h1,h2⟩=>⟨hx.fewer hq h1,h2⟩⟩
theorem WQ_y(c:Cx)(x:Mem->Own->World->Prop)(hx:Stb x):∀ k,WQ { c with x:=x,hx:=hx } k=WQ c k
 | []=>by funext ex a w; cases ex <;> rfl
 | y::k=>by
  have ih:=WQ_y c x hx k
  funext ex a w
  cases ex <;> cases y <;> simp only[WQ,ih]
variable {c:Cx}{k:List It}{e:Env}{s:LB}
theorem AWp.room{t:Tmp}{id n es:Nat}{l:LY}(hv:get e t=.sl id 0 n n)(hb:s.getD id .dead=.arr es l)(hn:l.length=n)(h0:0<n)(hf:(flat l).all frozen=true)
  (hA:AWp c k (put e (some t) (.sl id 0 n (n+1))) (s.set id (.arr es (l++[junk es]))))
  (hB:∀ g (x:Mem->Own->World->Prop) (hx:Stb x),(∀ h ρ w,x h ρ w->c.x h ρ w/\Fz0 h g es l)->AWp { c with x:=x,hx:=hx } k (put e (some t) (.raw (.slice (some ⟨g,0,none⟩) n n))) (s.set id .dead)):AWp c k e s:=by
 intro a w hsim;obtain⟨hh,ρ,hm,hlt,he,hdf,hsz,hX⟩:=hsim;have hso:=AcO hb;have hlf:=AbL (by have:=he t; rw[hv]at this; omega);have hl:=hlf.2;simp only[LfC,hso]at hl
 rcases hl.2 (by omega)with⟨h6,_⟩|⟨g,tot,h5,hval,h7⟩
 .omega
 rcases hm.own id _ hso with⟨_,hno⟩|⟨g',tot',cur,ty,h3,h4,h5',h6,h7',h8,h9,h10,h11⟩
 .grind
 rw[h3]at h5
 simp at h5
 obtain⟨rfl,rfl⟩:=h5;simp only[Nat.zero_mul,Nat.sub_zero]at hval
 by_cases hroom:n+1<=tot'
 .have hmul:n*es+es<=tot'*es:=by
   have:=lbg es hroom
   grind
  have hk:∀ v a,Lf ρ s v a->Lf ρ (s.set id (.arr es (l++[junk es]))) v a:=fun v a q=>⟨q.1,AbI hso (fun _ _=>rfl) (show(es=es/\_/\_)\/l.length<(l++[junk es]).length from .inr (by simp)) q.2⟩
  have hn':OwnB hh ρ (s.set id (.arr es (l++[junk es]))) w id (.arr es (l++[junk es])):=by
   refine .inr ⟨g',tot',cur,ty,h3,h4,h5',by grind,h7',h8,?_,h10,?_⟩
   .grind[junk,cellsOf]
   .have e1:(l++[junk es]).length*es=l.length*es+es:=by grind
    have e2:cur.toList.take (l.length*es+es)=cur.toList.take (l.length*es)++(cur.toList.drop (l.length*es)).take es:=by rw[List.take_add]
    have e3:((cur.toList.drop (l.length*es)).take es).length=es:=by grind
    have e4:=ApJ es 1
    simp at e4
    rw[e1,e2,flat_append,e4];have e5:=BfX (h:=hh) (Lf:=Lf ρ (s.set id (.arr es (l++[junk es])))) (fl:=false) ((cur.toList.drop (l.length*es)).take es);rw[e3]at e5;exact RL.append (h11.mono (fun _ _ _ x=>x) hk) e5
  obtain⟨m',l'⟩:=hm.write hso h3 (show(es=es/\_)\/l.length<(l++[junk es]).length from .inr (by simp)) rfl rfl ⟨rfl,Tr.same rfl⟩ rfl (fun _ _=>rfl) hn';refine hA a w ⟨hh,ρ,m',hlt.trans l',fun t'=>?_,hdf,hsz,c.hx.later hm l' hX⟩;rw[get_put]
  split
  .rename_i ht
   simp at ht
   subst ht;refine .leaf ⟨hlf.1,?_⟩<;>grind[LfC]
  .exact (he t').mono l'.hle l'.keep
 .have htot:tot'=n:=by omega
  subst htot;obtain⟨h',ρ',m',l',key⟩:=hm.freeze hso hf;have hq:=key _ _ _ _ hlf.2 (by omega) (lab _);rw[lbu,lae (by omega),hval]at hq;have hfz:Fz0 h' g' es l:=by
   rcases AhK hq with⟨hnil,_⟩|⟨b,o,cc,vs,hvv,k1,k2,k3,k4⟩
   .grind
   .simp at hvv
    obtain⟨⟨rfl,rfl,_⟩,_,_⟩:=hvv;exact⟨vs,k1.thaw (fun _ _ _ x=>x),k2,fun k v hk=>by grind⟩
  rw[<- WQ_y c _ (AuQ c.hx g' es l) k];refine hB g' _ (AuQ c.hx g' es l) (fun _ _ _ x=>x) a w ⟨h',ρ',m',hlt.trans l',fun t'=>?_,hdf,hsz,c.hx.later hm l' hX,hfz⟩;rw[get_put]
  split
  .rename_i ht
   simp at ht
   subst ht;rw[hval];exact .raw _
  .exact (he t').mono l'.hle l'.keep
theorem AyR{o:Oper}{all os:List Oper}{Q:AV->LB->Prop}{N:Nat}(hN:c.fn.ntmps=N)(hd:dOk N o.dst=true)(hg:o.guard=none)
  (hok:∀ h ρ a w,Mine h ρ s w->EnvOk h ρ s e a->c.x h ρ w->∃ v s',Q v s'/\Okv h ρ s w ((execOp a.eval o).run c.P w) v s')
  (hk:∀ v s',Q v s'->AWp c (.ops all os::k) (put e o.dst v) s'):AWp c (.ops all (o::os)::k) e s:=by
 subst hN;intro a w hsim;obtain⟨hh,ρ,hm,hl,he,hdf,hsz,hX⟩:=hsim;obtain⟨v,s',hq,ok⟩:=hok hh ρ a w hm he hX;have:=AmV hl he hdf hsz hm hX hd ok (hk v s' hq) hd
 grind[wpList,WQ,Region.wanted]
theorem Shift.tell(t:Tmp){v:Value}{x:AV}(hv:get e t=.raw v)(h:∀ h ρ w,c.x h ρ w->RV h (Lf ρ s) false v x):Shift c e s (put e (some t) x) s:=by
 rintro a w ⟨hh,ρ,hm,hlt,he,hdf,hsz,hX⟩;refine⟨hh,ρ,hm,hlt,fun t'=>?_,hdf,hsz,hX⟩;rw[get_put]
 split
 .rename_i ht
  simp at ht
  have:=he t
  grind[inv_raw]
 .exact he t'
section
variable {h:Mem}{ρ:Own}{w:World}{P:Program}{a:Act}
theorem BfY{o:Oper}{ty el:TypeId}{x:Operand}(ho:o.op=.call { callee:=.builtin .cap,args:=#[x],argTypes:=#[ty] })(hu:P.underlying ty=some (.slice el)){ad:Option Addr}{n cp:Nat}(hx:a.eval x=.slice ad n cp) :
  (execOp a.eval o).run P w=.ok (.value (.int .i64 cp)) w:=by
 simp[execOp,ho,resolve,invoke,builtin,Builtin.cap_,run_underlying hu,hx,goInt]
end
theorem BtV{o:Oper}{all os:List Oper}{ty el:TypeId}{t:Tmp}{id n cp es:Nat}{l:LY}{N:Nat}(hN:c.fn.ntmps=N)(hd:dOk N o.dst=true)(hg:o.guard=none)
  (ho:o.op=.call { callee:=.builtin .cap,args:=#[.tmp t],argTypes:=#[ty] }) (hu:c.P.underlying ty=some (.slice el)) (hv:get e t=.sl id 0 n cp) (hb:s.getD id .dead=.arr es l) (hn:l.length=cp) (h0:0<n)
  (hk:∀ m:Nat,cp<=m->AWp c (.ops all os::k) (put e o.dst (.int .i64 m)) s):AWp c (.ops all (o::os)::k) e s:=by
 refine AyR (Q:=fun v s'=>s'=s/\∃ m:Nat,cp<=m/\v=.int .i64 m) hN hd hg (fun h ρ a w hm he _=>?_) ?_
 .have hso:=AcO hb
  have hlf:=AbL (by have:=he t; rw[hv]at this; omega);have hl:=hlf.2;simp only[LfC,hso]at hl
  rcases hl.2 (by omega)with⟨h6,_⟩|⟨g,tot,h5,hval,h7⟩
  .omega
  rcases hm.own id _ hso with⟨_,hno⟩|⟨g',tot',cur,ty',h3,h4,h5',h6,_⟩
  .grind
  rw[h3]at h5
  simp at h5
  obtain⟨rfl,rfl⟩:=h5;refine⟨.int .i64 tot',s,⟨rfl,tot',by omega,rfl⟩,AaB hm (BfY ho hu (n:=n) (ad:=some ⟨g',0*es,none⟩) ?_) (.int _ _)⟩
  show a.tmps.getD t undef=_
  omega
 .rintro _ _ ⟨rfl,m,hm,rfl⟩
  exact hk m hm
theorem BtW{o:Oper}{all os:List Oper}{ty el:TypeId}{t:Tmp}{ad:Option Addr}{n cp:Nat}{N:Nat}(hN:c.fn.ntmps=N)(hd:dOk N o.dst=true)(hg:o.guard=none)
  (ho:o.op=.call { callee:=.builtin .cap,args:=#[.tmp t],argTypes:=#[ty] }) (hu:c.P.underlying ty=some (.slice el)) (hv:get e t=.raw (.slice ad n cp))
  (hk:AWp c (.ops all os::k) (put e o.dst (.int .i64 cp)) s):AWp c (.ops all (o::os)::k) e s:=by
 refine AyR (Q:=fun v s'=>s'=s/\v=.int .i64 cp) hN hd hg (fun h ρ a w hm he _=>?_) ?_
 .refine ⟨_,s,⟨rfl,rfl⟩,AaB hm (BfY ho hu (n:=n) (ad:=ad) ?_) (.int _ _)⟩
  have:=he t;rw[hv]at this;exact inv_raw this
 .rintro _ _ ⟨rfl,rfl⟩
  exact hk
theorem BtX{o:Oper}{all os:List Oper}{ty el:TypeId}{t u:Tmp}{g n cp i:Nat}{N:Nat}(hN:c.fn.ntmps=N)(hd:dOk N o.dst=true)(hg:o.guard=none)
  (ho:o.op=.slice ty (.tmp t) none (some (.tmp u)) none) (hu:c.P.underlying ty=some (.slice el)) (hp:0<tsize c.P el) (hv:get e t=.raw (.slice (some ⟨g,0,none⟩) n cp)) (hi:get e u=.int .i64 i) (h1:i<=cp) (h0:0<cp)
  (hk:AWp c (.ops all os::k) (put e o.dst (.raw (.slice (some ⟨g,0,none⟩) i cp))) s):AWp c (.ops all (o::os)::k) e s:=by
 refine AyR (Q:=fun v s'=>s'=s/\v=.raw (.slice (some ⟨g,0,none⟩) i cp)) hN hd hg (fun h ρ a w hm he _=>?_) ?_
 .refine ⟨_,s,⟨rfl,rfl⟩,AaB hm ?_ (.raw _)⟩
  have e1:a.eval (.tmp t)=.slice (some ⟨g,0,none⟩) n cp:=by
   have:=he t;rw[hv]at this;exact inv_raw this
  have hb:=AdW (P:=c.P) (w:=w) (n:=n) (c:=cp) (lo:=none) (hi:=some (.tmp u)) he true rfl (by simp only[evo,ev,hi]; rfl) (by omega) (by omega) (by omega);have hr:=AbR hu hp (ad:=some ⟨g,0,none⟩) hb
  simp_all[execOp,Addr.add_mid]
 .rintro _ _ ⟨rfl,rfl⟩
  exact hk
