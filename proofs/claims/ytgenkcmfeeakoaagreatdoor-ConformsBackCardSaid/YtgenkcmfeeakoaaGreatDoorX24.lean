/- The reference's faults of a drawn story. -/
import Derived.Test.YtgenkcmfeeakoaaGreatDoorX19
import Derived.Test.YtgenkcmfeeakoaaGreatDoorX23
set_option maxRecDepth 100000
set_option maxHeartbeats 8000000
set_option linter.all false
namespace Go.Proofs.YtgenkcmfeeakoaaGreatDoor
open Av RowKit Proofs.Tryz
structure StoryOk(x:Sr):Prop where
 Lk:x.Lk∈TitleL
 len:x.Lc.length<=5
 no:∀ i,(h:i<x.Lc.length)->x.Lc[i].no=AbJ (i+1)
 all:∀ i,(h:i<x.Lc.length)->DrawnS ⟨[],x.Lc[i].place,x.Lc[i].set,x.Lc[i].time,x.Lc[i].Ld⟩
 first:∀ y,x.Lc.head? = some y->y.time≠5
theorem A6W{x:Sr}(h:DrawnR x):StoryOk (numR x):=by
 have hg:∀ i,(hi:i<(numR x).Lc.length)->∃ (h2:i<x.Lc.length),(numR x).Lc[i]=nm i x.Lc[i]:=fun i hi=>by
  simp only[numR,numL_len]at hi;refine⟨hi,?_⟩;have:=AvD x.Lc 0 i hi;simp only[laq]at this;exact(List.getElem?_eq_some_iff.1 this).2
 refine⟨h.Lk,by simp only[numR,numL_len]; exact h.len,fun i hi=>?_,fun i hi=>?_,fun y hy=>?_⟩
 .obtain ⟨h2,e⟩:=hg i hi
  rw[e];exact A6Q i (by have:=h.len; omega)
 .obtain ⟨h2,e⟩:=hg i hi
  rw[e];have hd:=h.all _ (lac h2);exact⟨rfl,hd.place,hd.set,hd.time,hd.run,hd.len,hd.all,hd.wt⟩
 .have:=h.first
  obtain⟨ti,xs⟩:=x
  cases xs with
  | nil=>simp[numR,numL]at hy
  | cons a r =>
   simp only[numR,numL,List.head?_cons,lao]at hy;rw[<- hy];exact this a rfl
theorem AjZ(i:Nat)(hi:i<5):Lib.trimLeftS (AbJ (i+1)) DIG=[]/\1<=(AbJ (i+1)).length/\(AbJ (i+1)).length<=3/\(AbJ (i+1)).getD 0 0≠48/\(AbJ (i+1)==[])=false:=by
 have h:∀ i:Fin 5,Lib.trimLeftS (AbJ (i.1+1)) DIG=[]/\1<=(AbJ (i.1+1)).length/\(AbJ (i.1+1)).length<=3/\(AbJ (i.1+1)).getD 0 0≠48/\(AbJ (i.1+1)==[])=false:=by decide +kernel
 exact h ⟨i,hi⟩
theorem no_ne(i j:Nat)(hi:i<5)(hj:j<5)(h:i≠j):AbJ (i+1)≠AbJ (j+1):=by
 have h':∀ i j:Fin 5,i.1≠j.1->AbJ (i.1+1)≠AbJ (j.1+1):=by decide +kernel
 exact h' ⟨i,hi⟩ ⟨j,hj⟩ h
theorem B0L:∀ s∈SetL,s.length<1000:=by decide
theorem BoB:∀ s∈TitleL,1<=s.length/\s.length<=60:=by decide
theorem StoryOk.inj{x:Sr}(h:StoryOk x){i j:Nat}(hi:i<x.Lc.length)(hj:j<x.Lc.length)(e:x.Lc[i].no=x.Lc[j].no):i=j:=by
 rw[h.no i hi,h.no j hj]at e;have:=h.len;exact Classical.byContradiction fun hn=>no_ne i j (by omega) (by omega) hn e
theorem BfM{S:Std}(hS:LibR S)(x:Sc)(i:Nat)(hi:i<5)(hno:x.no=AbJ (i+1))(hp:1<=x.place/\x.place<=3)(ht:1<=x.time/\x.time<=5)(hs:x.set.length<1000) :
  PcH prog S 123 [scA x] (· = .int .i64 (if setR x.set then 0 else 3)):=by
 obtain⟨a1,a2,a3,a4,a5⟩:=AjZ i hi;rw[<- hno]at a1 a2 a3 a4 a5;have e0:(x.no != [])=true:=by rw[bne,a5]; rfl
 have hn:=AoN x.no a1 a2 a3 a4;have e1:decide (x.place<1)=false:=by simp; omega
 have e2:decide (x.place>3)=false:=by simp; omega
 have e3:decide (x.time<1)=false:=by simp; omega
 have e4:decide (x.time>5)=false:=by simp; omega
 have hset:=A6M hS x.set (by omega);simp only[scA];refine zqIB func123 rfl fun h ρ w hg=>?_
 simp only[go_sem,e0];refine zpB (hn) ?_;simp only[go_sem,e1,e2,e3,e4];refine zqB hg (hset) ?_
 cases e5:setR x.set with
 | false =>
  simp only[go_sem];exact zt [2]
 | true =>
  simp only[go_sem];exact zt [2]
theorem BfN(x y:Sc):Pc prog 124 [scA x,.pin 5 [scA y] 0 0] (· = .bool (x.no==y.no)):=by
 simp only[scA];refine zpIB func124 rfl fun h ρ w=>?_
 simp only[go_sem];exact zt [3]
def ArZ:List Pa->Int
 | []=>0
 | p::r=>if A2R p != 0 then A2R p else ArZ r
def AyD(x:Sc):Int:=if setR x.set then ArZ x.Ld else 3
theorem A9V{S:Std}(hS:LibR S)(x:Sr)(hx:StoryOk x)(k:Nat)(hk:k<x.Lc.length):PcH prog S 64 [.fz 5 (x.Lc.map scA),.int .i64 k] (· = .int .i64 (AyD x.Lc[k])):=by
 have hlen:=hx.len;have hd:=hx.all k hk;have hno:=hx.no k hk;obtain⟨a1,a2,a3,a4,a5⟩:=AjZ k (by omega);rw[<- hno]at a1 a2 a3 a4 a5;have e0:(x.Lc[k].no != [])=true:=by rw[bne,a5]; rfl
 have hh:=BfM hS x.Lc[k] k (by omega) hno hd.place hd.time (B0L _ hd.set);have hnew:(x.Lc.take k).any (fun y=>y.no==x.Lc[k].no)=false:=by
  rw[List.any_eq_false];intro y hy;obtain⟨j,hj,rfl⟩:=List.getElem_of_mem hy;rw[lci]at hj;rw[List.getElem_take];simp only[lbr];exact fun e=>absurd (hx.inj (by omega) hk e) (by omega)
 have hany:=AvC 124 [.pin 5 [scA x.Lc[k]] 0 0] rfl (fun y=>y.no==x.Lc[k].no) (x.Lc.take k) (by rw[lci]; omega) (fun y _=>BfN y x.Lc[k]);rw[hnew,lco]at hany;have hft:((k:Int)==0)=false\/(x.Lc[k].time==5)=false:=by
  by_cases h0:k=0
  .subst h0
   right
   have:=hx.first x.Lc[0] (by rw[List.head?_eq_getElem?,lab hk])
   simpa using this
  .left; simp; omega
 obtain⟨e,hr,h2,h3⟩:=hd.run;simp only at hr;have hget:=AgE x.Lc k hk;have hres:(if setR x.Lc[k].set then ArZ x.Lc[k].Ld else 3)=AyD x.Lc[k]:=rfl;have hm:=hd.len;simp only at hm;generalize hsc:x.Lc[k]=sc at *;rw[<- hres];have hbor:=Ct.borrowF (P:=prog) (f:=33) (args:=[.fz 5 (List.take k (x.Lc.map scA)),.fn (.func 124) [.ptr 0 1 0 0]]) 1 [.arr 5 [scA sc]] (post:=(· = .bool false)) hany (by rintro r rfl; rfl);simp only[scA]at hbor hh;have hk2:decide ((k:Int)<=(x.Lc.length:Int))=true:=by simp; omega
 refine zqIB func64 rfl fun h ρ w hg=>?_
 simp only[go_sem,hget,laa]
 repeat refine aj ?_
 refine zqB hg (hh) ?_;have hq:(((k:Int)==0)=true/\(sc.time==5)=false)\/(((k:Int)==0)=false/\True):=by
  cases h0:((k:Int)==0)with
  | true =>
   rw[h0]at hft;exact .inl ⟨rfl,hft.resolve_left (by simp)⟩
  | false=>exact .inr ⟨rfl,trivial⟩
 rcases hq with⟨q1,q2⟩|⟨q1,q2⟩ <;>
 .cases e5:setR sc.set with
  | false =>
   simp only[lan,if_false];simp only[go_sem,e0,hk2]
   repeat refine aj ?_
   refine za (hbor) ?_;rintro _ _ ⟨rfl,rfl⟩;apply zgB;simp only[go_sem,q1,q2];exact zt [4]
  | true =>
   simp only[if_true];simp only[go_sem,e0,hk2]
   repeat refine aj ?_
   refine za (hbor) ?_;rintro _ _ ⟨rfl,rfl⟩;apply zgB;simp only[go_sem,q1,q2];refine AaE (ι:=Nat×Int) (fun y=>sc.Ld.length-y.1)
    (fun y=>[(46,.int .i64 y.1),(45,.int .i64 sc.Ld.length),(44,.fz 2 (sc.Ld.map paA)),(7,.int .i64 y.2)])
    (fun _=>[.arr 5 [.agg [.str sc.no,.int .i64 sc.place,.str sc.set,.int .i64 sc.time,.fz 2 (sc.Ld.map paA)]]])
    (fun y=>y.1<=sc.Ld.length/\runL y.2 (sc.Ld.drop y.1)=some e/\ArZ (sc.Ld.drop y.1)=ArZ sc.Ld) (0,0) ⟨by simp,hr,by simp⟩ ?_ ?_
   .refine Lt ?_ rfl
    simp only[go_sem,laa]
   .rintro ⟨i,l⟩ ⟨g1,g2,g3⟩ J hJ
    simp only at g1 g2 g3 hJ |-
    by_cases gi:i<sc.Ld.length
    .have di:decide ((i:Int)<(sc.Ld.length:Int))=true:=by simp; omega
     have hdr:sc.Ld.drop i=sc.Ld[i]::sc.Ld.drop (i+1):=lbc gi;rw[hdr]at g2 g3;simp only[runL]at g2
     split at g2
     rotate_left
     .cases g2
     rename_i hp;simp only[lae]at hp;have hpf:=AxZ hS sc.Ld[i] l hp.1 hp.2;simp only[paA]at hpf;simp only[ArZ]at g3;apply zgB;simp only[go_sem,di,BwA sc.Ld i gi,laa]
     repeat refine aj ?_
     refine zqB hg (hpf) ?_
     cases e6:A2R sc.Ld[i] != 0 with
     | true =>
      rw[e6]at g3;simp only[go_sem,e6];exact aret [4] rfl ⟨by rw[<- g3]; rfl,rfl⟩
     | false =>
      rw[e6]at g3;simp only[go_sem,e6]
      repeat refine aj ?_
      rw[ic i];refine ainv (hJ (i+1,sc.Ld[i].kind) ⟨by simp only; omega,g2,g3⟩ (by simp only; omega)) (Shift.low 1 (by simp) (by simp) ?_ ?_)
      .simp only[go_sem,lowB,flat]
      .simp only [go_sem]
    .have di:decide ((i:Int)<(sc.Ld.length:Int))=false:=by simp; omega
     have:i=sc.Ld.length:=by omega
     subst this;rw[List.drop_length]at g2 g3;simp only[runL,lao]at g2;subst g2;have q2:(l==2)=false:=by simpa using h2
     have q3:(l==3)=false:=by simpa using h3
     apply zgB;simp only[go_sem,di,q2,q3];exact aret [4] rfl ⟨by rw[<- g3]; rfl,rfl⟩
def AlG:List Sc->Int
 | []=>0
 | x::r=>if AyD x != 0 then AyD x else AlG r
def AdH(x:Sr):Int:=if plainR x.Lk then AlG x.Lc else 3
theorem AyE{x:Sr}(h:StoryOk x):paraSum x.Lc<=300:=by
 have h1:=A6U x.Lc (fun z hz=>by
  obtain⟨i,hi,rfl⟩:=List.getElem_of_mem hz;exact(h.all i hi).len)
 have:=h.len;omega
theorem A2W{S:Std}(hS:LibR S)(x:Sr)(hx:StoryOk x):PcH prog S 25 [srA x] (· = .int .i64 (AdH x)):=by
 have htb:=BoB _ hx.Lk;have hlen:=hx.len;have hsum:=AyE hx;have h1:=AjV x.Lk 1 60;have hl:longR x.Lk 1 60=true:=by simp[longR]; omega
 rw[hl]at h1;have h2:=AfL hS x.Lk (by omega);have hsf:=fun k hk=>A9V hS x hx k hk
 have hres:(if plainR x.Lk then AlG x.Lc else 3)=AdH x:=rfl;rw[<- hres];obtain⟨ti,xs⟩:=x;simp only at htb hlen hsum h1 h2 hsf |-;simp only[srA];refine zqIB func25 rfl fun h ρ w hg=>?_
 simp only[go_sem];refine zpB (h1) ?_;simp only[go_sem];refine zqB hg (h2) ?_
 cases e1:plainR ti with
 | false =>
  simp only[go_sem];exact zt [2]
 | true =>
  simp only[if_true];simp only[go_sem];refine AaE (ι:=Nat) (fun i=>xs.length-i)
   (fun i=>[(21,.int .i64 i),(20,.int .i64 xs.length),(19,.fz 5 (xs.map scA)),(3,.int .i64 (paraSum (xs.take i))),(1,.pin 2 [.agg [.str ti,.fz 5 (xs.map scA)]] 0 0)])
   (fun _=>[]) (fun i=>i<=xs.length) 0 (by simp) ?_ ?_
  .refine Lt ?_ rfl
   simp only[go_sem,laa]
   simp[paraSum]
  .intro i g1 J hJ
   by_cases gi:i<xs.length
   .have di:decide ((i:Int)<(xs.length:Int))=true:=by simp; omega
    have hs:=AhC xs i gi;have hle:=AeF xs (i+1);apply zgB;simp only[go_sem,di,AgE xs i gi,laa]
    repeat refine aj ?_
    rw[show(paraSum (xs.take i):Int)+(xs[i].Ld.length:Int)=(paraSum (xs.take (i+1)):Int) by omega,show(i:Int)+1=((i+1:Nat):Int) by omega];refine ainv (hJ (i+1) (by omega) (by omega)) (Shift.low 0 (by simp) (by simp) ?_ ?_)
    .simp only [List.take_zero,lbn]
    .simp only [go_sem]
   .have di:decide ((i:Int)<(xs.length:Int))=false:=by simp; omega
    have:i=xs.length:=by omega
    subst this;rw[laz];have d3:decide ((xs.length:Int)>300)=false:=by simp; omega
    have d4:decide ((paraSum xs:Int)>4000)=false:=by simp; omega
    apply zgB;simp only[go_sem,di,d3,d4,laa];refine AaE (ι:=Nat) (fun y=>xs.length-y)
     (fun y=>[(42,.int .i64 y),(41,.int .i64 xs.length),(1,.pin 2 [.agg [.str ti,.fz 5 (xs.map scA)]] 0 0)])
     (fun y=>[]) (fun y=>y<=xs.length/\AlG (xs.drop y)=AlG xs) 0 ⟨by simp,by simp⟩ ?_ ?_
    .refine Lt ?_ rfl
     simp only[go_sem]
    .clear hJ J
     rintro i ⟨g1,g2⟩ J hJ
     by_cases gi:i<xs.length
     .have di:decide ((i:Int)<(xs.length:Int))=true:=by simp; omega
      have hd:xs.drop i=xs[i]::xs.drop (i+1):=lbc gi;rw[hd]at g2;simp only[AlG]at g2;apply zgB;simp only[go_sem,di];refine zqB hg (hsf i gi) ?_
      cases e6:AyD xs[i] != 0 with
      | true =>
       rw[e6]at g2;simp only[go_sem,e6];exact aret [2] rfl ⟨by rw[<- g2]; rfl,rfl⟩
      | false =>
       rw[e6]at g2;simp only[go_sem,e6]
       repeat refine aj ?_
       rw[ic i];refine ainv (hJ (i+1) ⟨by omega,g2⟩ (by omega)) (Lt ?_ rfl);simp only[go_sem]
     .have di:decide ((i:Int)<(xs.length:Int))=false:=by simp; omega
      have:i=xs.length:=by omega
      subst this;rw[List.drop_length]at g2;apply zgB;simp only[go_sem,di];exact aret [2] rfl ⟨by rw[<- g2]; rfl,rfl⟩
theorem BwI(x:Sc):Pc prog 102 [scA x] (· = .bool (x.no==[])):=by
 simp only[scA];refine zpIB func102 rfl fun h ρ w=>?_
 simp only[go_sem];exact zt [2]
theorem AyF{x:Sr}(hx:StoryOk x):(x.Lc.any fun y=>y.no==[])=false:=by
 rw[List.any_eq_false];intro y hy;obtain⟨i,hi,rfl⟩:=List.getElem_of_mem hy;rw[hx.no i hi];have:=hx.len;have:=(AjZ i (by omega)).2.2.2.2
 simp[this]
theorem A9W{S:Std}(hS:LibR S)(x:Sr)(hx:StoryOk x):PcH prog S 54 [srA x] (· = .int .i64 (AdH x)):=by
 have h1:=A2W hS x hx;have h2:=AvC 102 [] rfl (fun y=>y.no==[]) x.Lc (by have:=hx.len; omega) (fun y _=>BwI y);rw[AyF hx]at h2;simp only[srA]at h1 |-;refine zqIB func54 rfl fun h ρ w hg=>?_
 simp only[go_sem];refine zqB hg (h1) ?_
 cases e1:AdH x != 0 with
 | true =>
  simp only[go_sem,e1];exact zt [2]
 | false =>
  simp only[go_sem,e1];refine zpB (h2) ?_;simp only[go_sem];exact aret [2] rfl ⟨by
   have:AdH x=0:=by simpa using e1
   rw[this]; rfl,rfl⟩
def RnL:List LU:=[[65,49],[65,50],[83,49],[],[97,49],[65,66,67,68,69,70,71,72,73]]
def AvF:LU:=[65,66,67,68,69,70,71,72,73,74,75,76,77,78,79,80,81,82,83,84,85,86,87,88,89,90,48,49,50,51,52,53,54,55,56,57]
def rnR(s:LU):Bool:=longR s 1 8&&AlF s AvF
def dayR(r:Int):Int:=if r=1 then 2073600 else if r=2 then 2160000 else if r=3 then 2592000 else if r=4 then 2589408 else 0
structure RlOk(x:Rl):Prop where
 name:rnR x.name=true
 rate:1<=x.rate/\x.rate<=4
 start:0<=x.start/\x.start<dayR x.rate
 long:1<=x.long/\x.long<=dayR x.rate-x.start
 drift:-1000<=x.drift/\x.drift<=1000
def RlAt(l:List Rl)(i:Nat)(x:Rl):Prop:=RlOk x/\((l.take i).any fun y=>y.name==x.name)=false
structure RollsOk(l:List Rl):Prop where
 len:l.length<=200
 at':∀ i x,l[i]? = some x->RlAt l i x
theorem RollsOk.no{l:List Rl}{i:Nat}{x:Rl}(hi:l[i]? = some x)(h:¬ RlAt l i x):¬ RollsOk l:=fun c=>h (c.at' i x hi)
theorem BtE:∀ s∈RnL,s.length<100:=by decide
theorem A6X(r:Int):Pc prog 103 [.int .i64 r] (fun v=>∃ a b c:Int,v=.tup [.int .i64 a,.int .i64 (dayR r),.int .i64 b,.int .i64 c,.bool (decide (1<=r/\r<=4))]):=by
 refine zpIB func103 rfl fun h ρ w=>?_
 by_cases h:1<=r/\r<=4
 .obtain rfl|rfl|rfl|rfl:r=1\/r=2\/r=3\/r=4:=by omega
  all_goals
   simp only[go_sem];exact aret [2,3,4,5,6] rfl ⟨⟨_,_,_,rfl⟩,rfl⟩
 .have e1:(r==1)=false:=by simp; omega
  have e2:(r==2)=false:=by simp; omega
  have e3:(r==3)=false:=by simp; omega
  have e4:(r==4)=false:=by simp; omega
  have hd:dayR r=0:=by unfold dayR; rw[if_neg (by omega),if_neg (by omega),if_neg (by omega),if_neg (by omega)]
  simp only[go_sem,e1,e2,e3,e4];exact aret [2,3,4,5,6] rfl ⟨⟨0,0,0,by rw[hd]; simp[resV,Av.get,Av.put,h]⟩,rfl⟩
theorem AvG(r f:Int)(h:1<=r/\r<=4):Pc prog 107 [.int .i64 r,.int .i64 f] (· = .bool (decide (0<=f)&&decide (f<dayR r))):=by
 have hr:=A6X r;have hd:decide (1<=r/\r<=4)=true:=by simpa using h
 refine zpIB func107 rfl fun h ρ w=>?_
 simp only[go_sem];refine ze (hr) ?_;rintro _ ⟨a,b,c,rfl⟩;apply zgB
 cases e1:decide (f>=0)with
 | true =>
  have e1':decide (0<=f)=true:=by simpa using e1
  simp only[go_sem,hd,e1];exact aret [4] rfl ⟨by simp[resV,Av.get,Av.put,e1'],rfl⟩
 | false =>
  have e1':decide (0<=f)=false:=by simpa using e1
  simp only[go_sem,hd,e1];exact aret [4] rfl ⟨by simp[resV,Av.get,Av.put,e1'],rfl⟩
theorem A2X(s:LU)(hs:s.length<100):Pc prog 104 [.str s] (· = .bool (rnR s)):=by
 have h1:=AjV s 1 8;have h3:=AgD s AvF (by omega) (by decide) (AbI (by decide));simp only[AvF]at h3;refine zpIB func104 rfl fun h ρ w=>?_
 simp only[go_sem];refine zpB (h1) ?_
 cases e1:longR s 1 8 with
 | false =>
  simp only[go_sem];exact aret [2] rfl ⟨by simp[resV,Av.get,Av.put,rnR,e1],rfl⟩
 | true =>
  simp only[go_sem];refine zpB (h3) ?_;simp only[go_sem];exact aret [2] rfl ⟨by simp[resV,Av.get,Av.put,rnR,e1,AvF],rfl⟩
theorem A2Y(x y:Rl):Pc prog 106 [rlA x,.pin 5 [rlA y] 0 0] (· = .bool (x.name==y.name)):=by
 simp only[rlA];refine zpIB func106 rfl fun h ρ w=>?_
 simp only[go_sem];exact zt [3]
theorem AyG(l:List Rl)(hl:l.length<=200)(hn:∀ x∈l,x.name.length<100):Pc prog 55 [.fz 5 (l.map rlA)] (fun r=>∃ n:Int,r=.int .i64 n/\(n=0 ↔ RollsOk l)):=by
 have d1:decide ((l.length:Int)>200)=false:=by simp; omega
 refine zpIB func55 rfl fun h ρ w=>?_
 simp only[go_sem,d1,laa];refine AaE (ι:=Nat) (fun y=>l.length-y)
  (fun y=>[(15,.int .i64 y),(14,.int .i64 l.length),(13,.fz 5 (l.map rlA)),(0,.fz 5 (l.map rlA))])
  (fun y=>[]) (fun y=>y<=l.length/\∀ j x,j<y->l[j]? = some x->RlAt l j x) 0 ⟨by simp,fun j _ h=>absurd h (by omega)⟩ ?_ ?_
 .refine Lt ?_ rfl
  simp only[go_sem,laa]
 .rintro i ⟨g1,g2⟩ J hJ
  by_cases gi:i<l.length
  .have di:decide ((i:Int)<(l.length:Int))=true:=by simp; omega
   obtain⟨x,hx⟩:∃ x,x=l[i]:=⟨_,rfl⟩;have hxi:l[i]? = some x:=by rw[hx]; exact lab gi
   have hnx:=hn x (by rw[hx]; exact lac gi);have hget:=A2T l i gi;rw[<- hx]at hget;have hret:∀ (n:Int),n≠0->¬ RlAt l i x->∃ m:Int,AV.int .i64 n=.int .i64 m/\(m=0 ↔ RollsOk l):=fun n hn hc=>⟨n,rfl,⟨fun h=>absurd h hn,fun h=>absurd h (RollsOk.no hxi hc)⟩⟩
   have hfin:RlAt l i x->∀ a w,Sim _ _ _ a w->J a w:=fun hc=>hJ (i+1) ⟨by omega,fun j y hj hy=>by
    rcases Nat.lt_or_ge j i with h2|h2
    .exact g2 j y h2 hy
    .have:j=i:=by omega
     subst this;rw[hxi]at hy
     cases hy
     exact hc⟩ (by omega)
   have hany:=BnV 106 [.pin 5 [rlA x] 0 0] rfl (fun y=>y.name==x.name) (l.take i) (by rw[lci]; omega) (fun y _=>A2Y y x);rw[lco]at hany;have hbor:=Ct.borrowF (P:=prog) (f:=105) (args:=[.fz 5 (List.take i (l.map rlA)),.fn (.func 106) [.ptr 0 1 0 0]]) 1 [.arr 5 [rlA x]] hany (by rintro r rfl; rfl);simp only[rlA]at hbor;have hk2:decide ((i:Int)<=(l.length:Int))=true:=by simp; omega
   have hrn:=A2X x.name hnx;apply zgB;simp only[go_sem,di,hget,laa]
   repeat refine aj ?_
   refine ze (A6X x.rate) ?_;rintro _ ⟨a,b,c,rfl⟩;apply zgB;simp only[go_sem];refine zpB (hrn) ?_
   cases e1:rnR x.name with
   | false =>
    simp only[go_sem];exact aret [2] rfl ⟨hret 5 (by decide) (fun h=>by rw[h.1.name]at e1; cases e1),rfl⟩
   | true =>
    simp only[go_sem,hk2,laa]
    repeat refine aj ?_
    refine za (hbor) ?_;rintro _ _ ⟨rfl,rfl⟩;apply zgB
    cases e2:((l.take i).any fun y=>y.name==x.name)with
    | true =>
     simp only[go_sem];exact aret [2] rfl ⟨hret 6 (by decide) (fun h=>by rw[h.2]at e2; cases e2),rfl⟩
    | false =>
     cases e3:decide (1<=x.rate/\x.rate<=4)with
     | false =>
      simp only[go_sem,e3];exact aret [2] rfl ⟨hret 4 (by decide) (fun h=>by have:=h.1.rate; simp at e3; omega),rfl⟩
     | true =>
      have hr:1<=x.rate/\x.rate<=4:=by simpa using e3
      have hdb:0<=dayR x.rate/\dayR x.rate<=2592000:=by
       obtain h|h|h|h:x.rate=1\/x.rate=2\/x.rate=3\/x.rate=4:=by omega
       all_goals rw[h]; decide
      simp only[go_sem,e3];refine zpB (AvG x.rate x.start hr) ?_
      cases e4:(decide (0<=x.start)&&decide (x.start<dayR x.rate))with
      | false =>
       simp only[go_sem];exact aret [2] rfl ⟨hret 1 (by decide) (fun h=>by have:=h.1.start; simp at e4; omega),rfl⟩
      | true =>
       have hst:0<=x.start/\x.start<dayR x.rate:=by simpa using e4
       cases e5:decide (x.long<1)with
       | true =>
        simp only[go_sem,e5];exact aret [2] rfl ⟨hret 1 (by decide) (fun h=>by have:=h.1.long; simp at e5; omega),rfl⟩
       | false =>
        cases e6:decide (x.long>dayR x.rate-x.start)with
        | true =>
         simp only[go_sem,e5,e6]
         repeat refine aj ?_
         exact aret [2] rfl ⟨hret 1 (by decide) (fun h=>by have:=h.1.long; simp at e6; omega),rfl⟩
        | false =>
         cases e7:decide (x.drift < -1000)with
         | true =>
          simp only[go_sem,e5,e6,e7]
          repeat refine aj ?_
          exact aret [2] rfl ⟨hret 1 (by decide) (fun h=>by have:=h.1.drift; simp at e7; omega),rfl⟩
         | false =>
          cases e8:decide (x.drift>1000)with
          | true =>
           simp only[go_sem,e5,e6,e7,e8]
           repeat refine aj ?_
           exact aret [2] rfl ⟨hret 1 (by decide) (fun h=>by have:=h.1.drift; simp at e8; omega),rfl⟩
          | false =>
           simp only[go_sem,e5,e6,e7,e8]
           repeat refine aj ?_
           rw[ic i];refine ainv (hfin ⟨⟨e1,hr,hst,by simp at e5 e6; omega,by simp at e7 e8; omega⟩,e2⟩) (Shift.low 0 (by simp) (by simp) ?_ ?_)
           .simp only [List.take_zero,lbn]
           .simp only [go_sem]
  .have di:decide ((i:Int)<(l.length:Int))=false:=by simp; omega
   apply zgB;simp only[go_sem,di];exact aret [2] rfl ⟨⟨0,rfl,⟨fun _=>⟨hl,fun j x hj=>g2 j x (by have:=(List.getElem?_eq_some_iff.1 hj).1; omega) hj⟩,fun _=>rfl⟩⟩,rfl⟩
def updR(L:List Int)(k u:Int)(x:Rl):Rl :=
 if u=0 then⟨oneF L k [[],[97,49],[65,49],[65,66,67,68,69,70,71,72,73]],x.rate,x.start,x.long,x.drift⟩
 else if u=1 then⟨x.name,pickF L k [0,5],x.start,x.long,x.drift⟩
 else if u=2 then⟨x.name,x.rate,pickF L k [-1,2592000,2073599],x.long,x.drift⟩
 else if u=3 then⟨x.name,x.rate,x.start,pickF L k [0,-1,2592000],x.drift⟩
 else⟨x.name,x.rate,x.start,x.long,pickF L k [1001,-1001]⟩
def rolls0(L:List Int)(k:Int):List Rl :=
 [⟨[65,49],pickF L k [1,1,2,3,4],pickF L (k+1) [0,1000,86000],3000,0⟩,⟨[65,50],pickF L k [1,1,2,3,4],pickF L (k+1+1) [0,5000],pickF L (k+1+1+1) [500,3000],0⟩,
  ⟨[83,49],pickF L (k+1+1+1+1) [pickF L k [1,1,2,3,4],pickF L k [1,1,2,3,4],1,4],0,100000,pickF L (k+1+1+1+1+1) [0,1000,-1000,7]⟩]
def rollsF(L:List Int)(k:Int):List Rl×Int :=
 if flipF L (k+6) 10 then
  ((rolls0 L k).set (nx L (k+7) 3).toNat (updR L (k+9) (nx L (k+8) 5) ((rolls0 L k).getD (nx L (k+7) 3).toNat ⟨[],0,0,0,0⟩)),k+10)
 else(rolls0 L k,k+7)
theorem BfO(L:List Int)(k u:Int)(x:Rl)(h:x.name∈RnL):(updR L k u x).name∈RnL:=by
 unfold updR
 split
 .have:=AbW (L:=L) (k:=k) (ls:=[[],[97,49],[65,49],[65,66,67,68,69,70,71,72,73]]) (by decide)
  revert this
  generalize oneF L k [[],[97,49],[65,49],[65,66,67,68,69,70,71,72,73]]=z;simp only[RnL,List.mem_cons,List.not_mem_nil,or_false];rintro(rfl|rfl|rfl|rfl) <;> simp
 .repeat (first|exact h|split)
theorem AoU(L:List Int)(k:Int):(rollsF L k).1.length=3/\(∀ x∈(rollsF L k).1,x.name∈RnL)/\k<=(rollsF L k).2/\(rollsF L k).2<=k+10:=by
 have h0:∀ x∈rolls0 L k,x.name∈RnL:=by
  intro x hx;simp only[rolls0,List.mem_cons,List.not_mem_nil,or_false]at hx
  rcases hx with rfl|rfl|rfl <;> simp[RnL]
 unfold rollsF
 split
 .have hb:=AgF L (k+7) 3 (by decide)
  have hlt:(nx L (k+7) 3).toNat<(rolls0 L k).length:=by simp[rolls0]; omega
  refine⟨by simp[rolls0],fun x hx=>?_,by simp only; omega,by simp only; omega⟩
  rcases List.mem_or_eq_of_mem_set hx with hx|rfl
  .exact h0 x hx
  .refine BfO L _ _ _ (h0 _ ?_)
   rw[lay,lab hlt];exact lac hlt
 .exact ⟨by simp[rolls0],h0,by simp only; omega,by simp only; omega⟩
theorem BfP:∀ l:List Rl,(flat (l.map rlA)).all Av.frozen=true
 | []=>rfl
 | x::r=>by simpa[flat,cellsOf,rlA,Av.frozen]using BfP r
theorem BfQ(L:List Int)(k:Int)(h3:0<=k)(h4:k<=800000) :
  Mc prog 101 2 (str L k) [] (fun r s=>r=.fz 5 ((rollsF L k).1.map rlA)/\s=str L (rollsF L k).2):=by
 obtain⟨⟨z,kz⟩,hz⟩:∃ z,z=rollsF L k:=⟨_,rfl⟩;rw[<- hz];unfold rollsF rolls0 at hz;have p1:=AbQ L k [1,1,2,3,4] (by decide) (by decide) (by omega) (by omega);have p2:=AbQ L (k+1) [0,1000,86000] (by decide) (by decide) (by omega) (by omega);have p3:=AbQ L (k+1+1) [0,5000] (by decide) (by decide) (by omega) (by omega);have p4:=AbQ L (k+1+1+1) [500,3000] (by decide) (by decide) (by omega) (by omega);generalize pickF L k [1,1,2,3,4]=ra at *;have p5:=AbQ L (k+1+1+1+1) [ra,ra,1,4] (by simp) (by simp) (by omega) (by omega);have p6:=AbQ L (k+1+1+1+1+1) [0,1000,-1000,7] (by decide) (by decide) (by omega) (by omega);generalize pickF L (k+1) [0,1000,86000]=s1 at *;generalize pickF L (k+1+1) [0,5000]=s2 at *;generalize pickF L (k+1+1+1) [500,3000]=l2 at *;generalize pickF L (k+1+1+1+1) [ra,ra,1,4]=r3 at *;generalize pickF L (k+1+1+1+1+1) [0,1000,-1000,7]=d3 at *;have q6:k+1+1+1+1+1+1=k+6:=by omega
 have q7:k+6+1=k+7:=by omega
 have q8:k+7+1=k+8:=by omega
 have q9:k+8+1=k+9:=by omega
 have q10:k+9+1=k+10:=by omega
 rw[q6]at p6;have hfl:=AcN L (k+6) 10 (by decide) (by decide) (by omega) (by omega);have hn3:=AcX L (k+7) 3 (by decide) (by decide) (by omega) (by omega);have hn5:=AcX L (k+8) 5 (by decide) (by decide) (by omega) (by omega);rw[q7]at hfl;rw[q8]at hn3;rw[q9]at hn5;have b3:=AgF L (k+7) 3 (by decide);have b5:=AgF L (k+8) 5 (by decide);have u0:=AgG L (k+9) [[],[97,49],[65,49],[65,66,67,68,69,70,71,72,73]] (by decide) (by decide) (by omega) (by omega);have u1:=AbQ L (k+9) [0,5] (by decide) (by decide) (by omega) (by omega);have u2:=AbQ L (k+9) [-1,2592000,2073599] (by decide) (by decide) (by omega) (by omega);have u3:=AbQ L (k+9) [0,-1,2592000] (by decide) (by decide) (by omega) (by omega);have u4:=AbQ L (k+9) [1001,-1001] (by decide) (by decide) (by omega) (by omega);rw[q10]at u0 u1 u2 u3 u4;unfold updR at hz;generalize oneF L (k+9) [[],[97,49],[65,49],[65,66,67,68,69,70,71,72,73]]=v0 at *;generalize pickF L (k+9) [0,5]=v1 at *;generalize pickF L (k+9) [-1,2592000,2073599]=v2 at *;generalize pickF L (k+9) [0,-1,2592000]=v3 at *;generalize pickF L (k+9) [1001,-1001]=v4 at *;generalize nx L (k+7) 3=j at *;generalize nx L (k+8) 5=u at *;generalize flipF L (k+6) 10=fb at *;refine zcIF func101 rfl fun h ρ w=>?_
 simp only[go_sem];refine zm 0 (p1) ?_;rintro _ _ ⟨rfl,rfl⟩;apply zgF;simp only[go_sem];refine zm 0 (p2) ?_;rintro _ _ ⟨rfl,rfl⟩;apply zgF;simp only[go_sem];refine zm 0 (p3) ?_;rintro _ _ ⟨rfl,rfl⟩;apply zgF;simp only[go_sem];refine zm 0 (p4) ?_;rintro _ _ ⟨rfl,rfl⟩;apply zgF;simp only[go_sem];refine zm 0 (p5) ?_;rintro _ _ ⟨rfl,rfl⟩;apply zgF;simp only[go_sem];refine zm 0 (p6) ?_;rintro _ _ ⟨rfl,rfl⟩;apply zgN;simp only[go_sem];refine zm 0 (hfl) ?_;rintro _ _ ⟨rfl,rfl⟩
 cases fb with
 | false =>
  simp only[lan,if_false,lck]at hz;obtain⟨rfl,rfl⟩:=hz;apply zgN;simp only[go_sem];refine ARet.shift (Shift.freeze 2 (id:=1) rfl rfl (by simp) (lad _) (BfP [⟨[65,49],ra,s1,3000,0⟩,⟨[65,50],ra,s2,l2,0⟩,⟨[83,49],r3,0,100000,d3⟩])) (aret [2] rfl ⟨_,_,rfl,?_,rfl,rfl,rfl⟩)
  simp[resV,Av.get,Av.put,rlA]
 | true =>
  simp only[if_true,lck]at hz;have hj:j=0\/j=1\/j=2:=by omega
  have hu:u=0\/u=1\/u=2\/u=3\/u=4:=by omega
  obtain⟨hz,rfl⟩:=hz;have hfz:=BfP z
  rcases hj with rfl|rfl|rfl <;> rcases hu with rfl|rfl|rfl|rfl|rfl <;>
  .simp [List.getD]at hz
   apply zgN;simp only[go_sem];refine zm 0 (hn3) ?_;rintro _ _ ⟨rfl,rfl⟩;apply zgN;simp only[go_sem]
   repeat refine aj ?_
   refine zm 0 (hn5) ?_;rintro _ _ ⟨rfl,rfl⟩;apply zgF;simp only[go_sem]
   first
    | (refine A9I u0 rfl rfl (id:=0) rfl rfl rfl ?_)
    | (refine A9I u1 rfl rfl (id:=0) rfl rfl rfl ?_)
    | (refine A9I u2 rfl rfl (id:=0) rfl rfl rfl ?_)
    | (refine A9I u3 rfl rfl (id:=0) rfl rfl rfl ?_)
    | (refine A9I u4 rfl rfl (id:=0) rfl rfl rfl ?_)
   rintro _ _ ⟨rfl,rfl⟩;apply zgN;simp only[go_sem]
   repeat refine aj ?_
   subst hz;refine ARet.shift (Shift.freeze 2 (id:=1) rfl rfl (by simp) (lad _) hfz) (aret [2] rfl ⟨_,_,rfl,?_,rfl,rfl,rfl⟩)
   simp[resV,Av.get,Av.put,rlA]
def A6Y:List Rl:=[⟨[65,49],1,0,3000,0⟩,⟨[65,50],1,0,3000,0⟩,⟨[83,49],4,0,100000,0⟩]
open Classical in
noncomputable def rightF (L:List Int) (k:Int):List Rl:=if RollsOk (rollsF L k).1 then(rollsF L k).1 else A6Y
theorem rollsD_ok:RollsOk A6Y:=by
 refine⟨by decide,fun i x hx=>?_⟩;have hn:rnR [65,49]=true/\rnR [65,50]=true/\rnR [83,49]=true:=by decide
 have:i=0\/i=1\/i=2:=by
  have:=(List.getElem?_eq_some_iff.1 hx).1
  simp[A6Y]at this
  omega
 rcases this with rfl|rfl|rfl <;> (simp[A6Y]at hx; subst hx)
 .exact ⟨⟨hn.1,by decide,by decide,by decide,by decide⟩,by decide⟩
 .exact ⟨⟨hn.2.1,by decide,by decide,by decide,by decide⟩,by decide⟩
 .exact ⟨⟨hn.2.2,by decide,by decide,by decide,by decide⟩,by decide⟩
theorem BfR(L:List Int)(k:Int):RollsOk (rightF L k)/\(rightF L k).length=3/\∀ x∈rightF L k,x.name∈RnL:=by
 obtain⟨a,b,_,_⟩:=AoU L k;unfold rightF
 split
 .rename_i h
  exact⟨h,a,b⟩
 .exact ⟨rollsD_ok,rfl,by decide⟩
theorem BfS(L:List Int)(k:Int)(h3:0<=k)(h4:k<=800000) :
  Mc prog 51 2 (str L k) [] (fun r s=>r=.fz 5 ((rightF L k).map rlA)/\s=str L (rollsF L k).2):=by
 have hm:=BfQ L k h3 h4;obtain⟨a,b,_,_⟩:=AoU L k;unfold rightF;generalize rollsF L k=z at *;obtain⟨l,k'⟩:=z;simp only at hm a b |-;have hf:=AyG l (by omega) (fun x hx=>BtE _ (b x hx));refine zcIF func51 rfl fun h ρ w=>?_
 simp only[go_sem];refine zm 0 (hm) ?_;rintro _ _ ⟨rfl,rfl⟩;apply zgF;simp only[go_sem];refine ze (hf) ?_;rintro _ ⟨n,rfl,hn⟩;apply zgF
 cases e1:n != 0 with
 | true =>
  have h:¬ RollsOk l:=fun h=>by have:=hn.2 h; simp[this]at e1
  rw[if_neg h];simp only[go_sem,e1];exact aret [2] rfl ⟨_,_,rfl,rfl,rfl,rfl,rfl⟩
 | false =>
  have h:RollsOk l:=hn.1 (by simpa using e1);rw[if_pos h];simp only[go_sem,e1];exact aret [2] rfl ⟨_,_,rfl,rfl,rfl,rfl,rfl⟩
theorem A9X(L:List Int)(k:Int)(h3:0<=k)(h4:k<=800000) :
  Mc prog 17 2 (str L k) [] (fun r s=>r=.fz 5 ((rightF L k).map rlA)/\s=str L (rollsF L k).2):=by
 refine zcIF func17 rfl fun h ρ w=>?_
 simp only[go_sem];refine zm 0 (BfS L k h3 h4) ?_;rintro _ _ ⟨rfl,rfl⟩;apply zgF;simp only[go_sem];exact aret [2] rfl ⟨_,_,rfl,rfl,rfl,rfl,rfl⟩
theorem AyH(r:Int)(h:1<=r/\r<=4):Pc prog 98 [.int .i64 r] (· = .bool true):=by
 have e1:decide (r>=1)=true:=by simpa using h.1
 have e2:decide (r<=4)=true:=by simpa using h.2
 refine zpIB func98 rfl fun h ρ w=>?_
 simp only[go_sem,e1,e2];exact zt [2]
def cntR(r:Int):Int:=if r=1 then 24 else if r=2 then 25 else 30
theorem AsA(r:Int)(h:1<=r/\r<=4):Pc prog 158 [.int .i64 r] (· = .int .i64 (cntR r)):=by
 refine zpIB func158 rfl fun h ρ w=>?_
 obtain rfl|rfl|rfl|rfl:r=1\/r=2\/r=3\/r=4:=by omega
 all_goals
  simp only[go_sem];exact zt [2]
theorem AyI(r:Int)(h:1<=r/\r<=4):Pc prog 99 [.int .i64 r] (· = .int .i64 (dayR r)):=by
 refine zpIB func99 rfl fun h ρ w=>?_
 obtain rfl|rfl|rfl|rfl:r=1\/r=2\/r=3\/r=4:=by omega
 case inr.inr.inr =>
  simp only[go_sem];exact zt [2]
 all_goals
  simp only[go_sem];refine zpB (AsA _ (by decide)) ?_;simp only[go_sem,cntR];exact zt [2]
def rollC(c:UInt8):Bool:=(decide (65<=c.toNat)&&decide (c.toNat<=90))||(decide (48<=c.toNat)&&decide (c.toNat<=57))
theorem BoC:∀ s∈RnL,rnR s=true->s.all rollC=true/\1<=s.length/\s.length<=8:=by decide +kernel
theorem BfT(s:LU)(hal:s.all rollC=true)(h1:1<=s.length)(h2:s.length<=8):Pc prog 149 [.str s] (· = .bool true):=by
 have e1:decide ((s.length:Int)>=1)=true:=by simp; omega
 have e2:decide ((s.length:Int)<=8)=true:=by simp; omega
 refine zpIB func149 rfl fun h ρ w=>?_
 simp only[go_sem];refine AaE (ι:=Nat) (fun i=>s.length-i) (fun i=>[(6,.int .i64 i),(5,.int .i64 s.length),(0,.str s)]) (fun _=>[]) (fun i=>i<=s.length) 0 (by omega) ?_ ?_
 .refine Lt ?_ rfl
  simp only[go_sem]
 .intro i g1 J hJ
  by_cases gi:i<s.length
  .have di:decide ((i:Int)<(s.length:Int))=true:=by simp; omega
   have hx:s.getD i 0=s[i]:=by simp[List.getD,gi]
   have hc:=List.all_eq_true.1 hal s[i] (lac gi);simp only[rollC,lbj,lae,lag]at hc;have hgo:=hJ (i+1) (by omega) (by omega);apply zgB
   rcases hc with hc|hc
   .have q1:decide ((s[i].toNat:Int)<65)=false:=by simp; omega
    have q2:decide ((s[i].toNat:Int)>90)=false:=by simp; omega
    simp only[go_sem,di,hx,q1,q2]
    repeat refine aj ?_
    rw[ic i];refine ainv hgo (Lt ?_ rfl);simp only[go_sem]
   .have q1:decide ((s[i].toNat:Int)<65)=true:=by simp; omega
    have q2:decide ((s[i].toNat:Int)<48)=false:=by simp; omega
    have q3:decide ((s[i].toNat:Int)>57)=false:=by simp; omega
    simp only[go_sem,di,hx,q1,q2,q3]
    repeat refine aj ?_
    rw[ic i];refine ainv hgo (Lt ?_ rfl);simp only[go_sem]
  .have di:decide ((i:Int)<(s.length:Int))=false:=by simp; omega
   apply zgB;simp only[go_sem,di,e1,e2];exact zt [2]
theorem RollsOk.ne{l:List Rl}(h:RollsOk l){i j:Nat}{x y:Rl}(hi:l[i]? = some x)(hj:l[j]? = some y)(hij:i<j):x.name≠y.name:=by
 have:=(h.at' j y hj).2;rw[List.any_eq_false]at this;have h2:=this x (List.mem_iff_getElem?.2 ⟨i,by rw[lce,if_pos hij]; exact hi⟩)
 simpa using h2
theorem AvH(l:List Rl)(hok:RollsOk l)(hn:∀ x∈l,x.name∈RnL):Pc prog 87 [.fz 5 (l.map rlA)] (· = .int .i64 0):=by
 have hlen:=hok.len;have d1:decide ((l.length:Int)>200)=false:=by simp; omega
 refine zpIB func87 rfl fun h ρ w=>?_
 simp only[go_sem,d1,laa];refine AaE (ι:=Nat×List LU) (fun y=>l.length-y.1)
  (fun y=>[(12,.int .i64 y.1),(11,.int .i64 l.length),(10,.fz 5 (l.map rlA)),(3,.mp 0)])
  (fun y=>[.mp (seenM y.2)]) (fun y=>y.1<=l.length/\y.2=(l.take y.1).map (·.name)) (0,[]) ⟨by simp,by simp⟩ ?_ ?_
 .refine Lt ?_ rfl
  simp only[go_sem,laa]
 .rintro ⟨i,acc⟩ ⟨g1,g2⟩ J hJ
  simp only at g1 g2 hJ |-
  by_cases gi:i<l.length
  .have di:decide ((i:Int)<(l.length:Int))=true:=by simp; omega
   have hxi:l[i]? = some l[i]:=lab gi;obtain⟨hx,_⟩:=hok.at' i _ hxi;have hm:=hn _ (lac gi);obtain⟨r1,r2,r3⟩:=BoC _ hm hx.name;have hnew:l[i].name ∉ acc:=by
    rw[g2];intro hmem;obtain⟨y,hy,e⟩:=List.mem_map.1 hmem;obtain⟨j,hj,rfl⟩:=List.getElem_of_mem hy;rw[lci]at hj;rw[List.getElem_take]at e;exact hok.ne (lab (by omega)) hxi (by omega) e
   have m1:=@mfind_out l[i].name acc 0 hnew;have m2:seenM acc++[(.str l[i].name,.bool true)]=seenM (acc++[l[i].name]):=by simp[seenM]
   have hfin:=hJ (i+1,acc++[l[i].name]) ⟨by simp only; omega,by simp only; rw[g2,List.take_add_one,lak,hxi]; rfl⟩ (by simp only; omega);have hget:=A2T l i gi;have hs:=hx.start;have hg:=hx.long;have hd:=hx.drift;have hr:=hx.rate;generalize l[i]=x at *;have hdb:0<=dayR x.rate/\dayR x.rate<=2592000:=by
    obtain h|h|h|h:x.rate=1\/x.rate=2\/x.rate=3\/x.rate=4:=by omega
    all_goals rw[h]; decide
   have e1:decide (x.start<0)=false:=by simp; omega
   have e2:decide (x.start>=dayR x.rate)=false:=by simp; omega
   have e3:decide (x.long<1)=false:=by simp; omega
   have e4:decide (x.long>dayR x.rate-x.start)=false:=by simp; omega
   have e5:decide (x.drift < -1000)=false:=by simp; omega
   have e6:decide (x.drift>1000)=false:=by simp; omega
   apply zgB;simp only[go_sem,di,hget,laa]
   repeat refine aj ?_
   refine zpB (BfT x.name r1 r2 r3) ?_;simp only[go_sem,m1]
   repeat refine ak ?_
   refine zpB (AyH x.rate hr) ?_;simp only[go_sem];refine zr [.int .i64 (dayR x.rate),.int .i64 (dayR x.rate)] AaI ?_;simp only[go_sem,e1,e2,e3,e4,e5,e6]
   repeat refine And.intro (by first|omega|rfl|exact(AyI x.rate hr).at|(simp; done)|(simp; omega)) ?_
   apply zgB;simp only[go_sem,m1,m2]
   repeat refine ak ?_
   rw[ic i];refine ainv hfin (Shift.low 1 (by simp) (by simp) ?_ ?_)
   .simp only [List.take_succ_cons,List.take_zero,lat,lbn,↓AgC,lbh]
   .simp only [go_sem]
  .have di:decide ((i:Int)<(l.length:Int))=false:=by simp; omega
   apply zgB;simp only[go_sem,di];exact zt [2]
