/- Draws of the tags' rows: jumps. -/
import Derived.Test.YtnfkjpihaficbaaGreatDoorK24
import Derived.Test.YtnfkjpihaficbaaGreatDoorK25
import Derived.Test.YtnfkjpihaficbaaGreatDoorK20
set_option maxRecDepth 100000
set_option maxHeartbeats 4000000
set_option linter.unusedSimpArgs false
set_option linter.unusedVariables false
namespace Go.Proofs.YtnfkjpihaficbaaGreatDoor
open Go Go.Av Go.RowKit _root_.Go.Proofs.Tryz
structure Jm where
 scene:List UInt8
 by':Int
 to':Int
 flash:Bool
deriving DecidableEq
def jmA(j:Jm):AV:=.agg [.str j.scene,.int .i64 j.by',.int .i64 j.to',.bool j.flash]
theorem AjY:∀ l:List Jm,(flat (l.map jmA)).all Av.frozen=true
 | []=>rfl
 | x::r=>by simpa[flat,cellsOf,jmA,Av.frozen]using AjY r
def AjZ(L:List Int)(x:List Jm×Int)(y:Sc):List Jm×Int :=
 if flipF L x.2 3 then
  (if nx L (x.2+1) 4=0 then(x.1++[⟨y.no,rangeF L (x.2+1+1) 0 3,0,false⟩],x.2+1+1+1)
  else if nx L (x.2+1) 4=1 then(x.1++[⟨y.no,0,pickF L (x.2+1+1) [-5,1,2,10],false⟩],x.2+1+1+1)
  else if nx L (x.2+1) 4=2 then(x.1++[⟨y.no,0,pickF L (x.2+1+1) [-5,3],true⟩],x.2+1+1+1)
  else(x.1++[⟨y.no,0,0,false⟩],x.2+1+1))
 else(x.1,x.2+1)
theorem A7I(L:List Int)(x:List Jm×Int)(y:Sc):x.2<=(AjZ L x y).2/\(AjZ L x y).2<=x.2+3/\x.1.length<=(AjZ L x y).1.length/\(AjZ L x y).1.length<=x.1.length+1:=by
 unfold AjZ
 repeat(first|split|exact⟨by simp only; omega,by simp only; omega,by simp,by simp⟩)
def jmRun(L:List Int)(k:Int)(xs:List Sc):List Jm×Int:=xs.foldl (AjZ L) ([],k)
theorem ApH(L:List Int)(k:Int)(xs:List Sc)(i:Nat)(h:i<xs.length):jmRun L k (xs.take (i+1))=AjZ L (jmRun L k (xs.take i)) xs[i]:=by
 unfold jmRun;rw[List.take_add_one,List.getElem?_eq_getElem h,List.foldl_append];rfl
theorem ArF(L:List Int)(k:Int)(xs:List Sc):∀ i,i<=xs.length->k<=(jmRun L k (xs.take i)).2/\(jmRun L k (xs.take i)).2<=k+3*i/\(jmRun L k (xs.take i)).1.length<=i
 | 0,_=>⟨by simp[jmRun],by simp[jmRun],by simp[jmRun]⟩
 | i+1,h=>by
  obtain⟨h1,h2,h3⟩:=ArF L k xs i (by omega);rw[ApH L k xs i (by omega)];obtain⟨a1,a2,a3,a4⟩:=A7I L (jmRun L k (xs.take i)) (xs[i]'(by omega));exact⟨by omega,by omega,by omega⟩
def jumpsF(L:List Int)(k:Int)(x:Sr):List Jm×Int :=
 if flipF L (jmRun L k x.scenes).2 12 then
  ((jmRun L k x.scenes).1++[⟨(noF L ((jmRun L k x.scenes).2+1) x).1,pickF L (noF L ((jmRun L k x.scenes).2+1) x).2 [0,1,-1,1000,1001],pickF L ((noF L ((jmRun L k x.scenes).2+1) x).2+1) [0,0,1,-1000,-1001],flipF L ((noF L ((jmRun L k x.scenes).2+1) x).2+1+1) 2⟩],(noF L ((jmRun L k x.scenes).2+1) x).2+1+1+1)
 else((jmRun L k x.scenes).1,(jmRun L k x.scenes).2+1)
theorem AuB(L:List Int)(k:Int)(x:Sr)(hl:x.scenes.length<=1000):k<=(jumpsF L k x).2/\(jumpsF L k x).2<=k+3100/\(jumpsF L k x).1.length<=x.scenes.length+1:=by
 obtain⟨h1,h2,h3⟩:=ArF L k x.scenes x.scenes.length (Nat.le_refl _);rw[List.take_length]at h1 h2 h3;have:=A0A L ((jmRun L k x.scenes).2+1) x;unfold jumpsF
 split
 .exact ⟨by simp only; omega,by simp only; omega,by simp; omega⟩
 .exact ⟨by simp only; omega,by simp only; omega,by simp only; omega⟩
theorem A7J(L:List Int)(k:Int)(x:Sr)(hl:x.scenes.length<=1000)(h3:0<=k)(h4:k<=800000):Mc prog 60 2 (str L k) [srA x] (fun r s=>r=.fz 4 ((jumpsF L k x).1.map jmA)/\s=str L (jumpsF L k x).2):=by
 simp only[srA];refine zcIB func60 rfl fun h ρ w=>?_
 simp only[go_sem,List.length_map];refine AaC (ι:=Nat) (fun i=>x.scenes.length-i)
  (fun i=>[(13,.int .i64 i),(12,.int .i64 x.scenes.length),(11,.fz 5 (x.scenes.map scA)),(5,.sl 1 0 (jmRun L k (x.scenes.take i)).1.length (jmRun L k (x.scenes.take i)).1.length),(3,.pin 2 [.agg [.str x.title,.fz 5 (x.scenes.map scA)]] 0 0),(0,.ptr 0 1 0 0)])
  (fun i=>[.arr 2 [str L (jmRun L k (x.scenes.take i)).2],.arr 4 ((jmRun L k (x.scenes.take i)).1.map jmA)]) (fun i=>i<=x.scenes.length) 0 (by simp) ?_ ?_
 .refine Shift.trans (Shift.nilsl 5 4 rfl) (Shift.weakS ?_ rfl)
  simp only[go_sem,List.length_map]
  repeat(first|rfl|(simp; done)|refine And.intro (by first|rfl|(simp; done)) ?_)
 intro i g1 J hJ;obtain⟨b1,b2,b3⟩:=ArF L k x.scenes i g1
 by_cases gi:i<x.scenes.length
 .have di:decide ((i:Int)<(x.scenes.length:Int))=true:=by simp; omega
  have hget:=AdL x.scenes i gi;have hfin:=hJ (i+1) (by omega) (by omega);rw[ApH L k x.scenes i gi]at hfin;generalize jmRun L k (x.scenes.take i)=st at *;obtain⟨js,kk⟩:=st;simp only at b1 b2 b3 hfin |-;unfold AjZ at hfin;simp only at hfin;generalize x.scenes[i]=y at *;have hf:=AaZ L kk 3 (by decide) (by decide) (by omega) (by omega);have hn:=AbW L (kk+1) 4 (by decide) (by decide) (by omega) (by omega);have hr:=AdM L (kk+1+1) 0 3 (by decide) (by decide) (by decide) (by omega) (by omega);have hp1:=AcR L (kk+1+1) [-5,1,2,10] (by decide) (by decide) (by omega) (by omega);have hp2:=AcR L (kk+1+1) [-5,3] (by decide) (by decide) (by omega) (by omega);have hb:=AcV L (kk+1) 4 (by decide);generalize flipF L kk 3=fb at *;generalize nx L (kk+1) 4=v at *;generalize rangeF L (kk+1+1) 0 3=rr at *;generalize pickF L (kk+1+1) [-5,1,2,10]=pp at *;generalize pickF L (kk+1+1) [-5,3]=pq at *;refine zgB ?_;simp only[go_sem,di,hget,List.length_map]
  repeat refine aqd ?_
  refine zm 0 (hf) ?_;rintro _ _ ⟨rfl,rfl⟩
  cases fb with
  | false =>
   simp only[Bool.false_eq_true,if_false]at hfin;refine zgB ?_;simp only[go_sem]
   repeat refine aqd ?_
   rw[ic i];refine ainv hfin (Shift.low 2 (by simp) (by simp) ?_ ?_)
   .simp only [List.take_succ_cons,List.take_zero,List.all_cons,List.all_nil,lowB,AaD (AjY js),str,flat,cellsOf,lowC,Av.frozen,List.append_nil,List.cons_append,List.nil_append,Bool.and_self]
   .simp only [go_sem]
  | true =>
   simp only[if_true]at hfin;refine zgB ?_;simp only[go_sem];refine zm 0 (hn) ?_;rintro _ _ ⟨rfl,rfl⟩;have hv:v=0\/v=1\/v=2\/v=3:=by omega
   rcases hv with hv|hv|hv|hv
   .subst hv
    simp only[if_true,List.map_append,List.map_cons,List.map_nil,jmA,List.length_append,List.length_cons,List.length_nil,Nat.zero_add]at hfin;refine zgB ?_;simp only[go_sem];refine zm 0 (hr) ?_;rintro _ _ ⟨rfl,rfl⟩;refine zgB ?_;simp only[go_sem,List.length_map]
    repeat refine aqe ?_
    rw[ic i];refine ainv hfin (Shift.low 2 (by simp) (by simp) ?_ ?_)
    .simp only [List.take_succ_cons,List.take_zero,List.all_cons,List.all_nil,lowB,flat_append,List.all_append,AaD (AjY js),str,flat,cellsOf,lowC,Av.frozen,List.append_nil,List.cons_append,List.nil_append,Bool.and_self]
    .simp only [go_sem]
     repeat(first|rfl|(simp; done)|(simp; omega)|refine And.intro (by first|rfl|(simp; done)|(simp; omega)) ?_)
   .subst hv
    simp only[if_true,show ¬ (1:Int)=0 by decide,if_false,List.map_append,List.map_cons,List.map_nil,jmA,List.length_append,List.length_cons,List.length_nil,Nat.zero_add]at hfin;refine zgB ?_;simp only[go_sem];refine zm 0 (hp1) ?_;rintro _ _ ⟨rfl,rfl⟩;refine zgB ?_;simp only[go_sem,List.length_map]
    repeat refine aqe ?_
    rw[ic i];refine ainv hfin (Shift.low 2 (by simp) (by simp) ?_ ?_)
    .simp only [List.take_succ_cons,List.take_zero,List.all_cons,List.all_nil,lowB,flat_append,List.all_append,AaD (AjY js),str,flat,cellsOf,lowC,Av.frozen,List.append_nil,List.cons_append,List.nil_append,Bool.and_self]
    .simp only [go_sem]
     repeat(first|rfl|(simp; done)|(simp; omega)|refine And.intro (by first|rfl|(simp; done)|(simp; omega)) ?_)
   .subst hv
    simp only[if_true,show ¬ (2:Int)=0 by decide,show ¬ (2:Int)=1 by decide,if_false,List.map_append,List.map_cons,List.map_nil,jmA,List.length_append,List.length_cons,List.length_nil,Nat.zero_add]at hfin;refine zgB ?_;simp only[go_sem];refine zm 0 (hp2) ?_;rintro _ _ ⟨rfl,rfl⟩;refine zgB ?_;simp only[go_sem,List.length_map]
    repeat refine aqe ?_
    rw[ic i];refine ainv hfin (Shift.low 2 (by simp) (by simp) ?_ ?_)
    .simp only [List.take_succ_cons,List.take_zero,List.all_cons,List.all_nil,lowB,flat_append,List.all_append,AaD (AjY js),str,flat,cellsOf,lowC,Av.frozen,List.append_nil,List.cons_append,List.nil_append,Bool.and_self]
    .simp only [go_sem]
     repeat(first|rfl|(simp; done)|(simp; omega)|refine And.intro (by first|rfl|(simp; done)|(simp; omega)) ?_)
   .subst hv
    simp only[show ¬ (3:Int)=0 by decide,show ¬ (3:Int)=1 by decide,show ¬ (3:Int)=2 by decide,if_false,List.map_append,List.map_cons,List.map_nil,jmA,List.length_append,List.length_cons,List.length_nil,Nat.zero_add]at hfin;refine zgB ?_;simp only[go_sem,List.length_map]
    repeat refine aqe ?_
    rw[ic i];refine ainv hfin (Shift.low 2 (by simp) (by simp) ?_ ?_)
    .simp only [List.take_succ_cons,List.take_zero,List.all_cons,List.all_nil,lowB,flat_append,List.all_append,AaD (AjY js),str,flat,cellsOf,lowC,Av.frozen,List.append_nil,List.cons_append,List.nil_append,Bool.and_self]
    .simp only [go_sem]
     repeat(first|rfl|(simp; done)|(simp; omega)|refine And.intro (by first|rfl|(simp; done)|(simp; omega)) ?_)
 .have di:decide ((i:Int)<(x.scenes.length:Int))=false:=by simp; omega
  have hi:i=x.scenes.length:=by omega
  subst hi;rw[List.take_length]at b1 b2 b3;rw[List.take_length];clear hJ;unfold jumpsF;generalize jmRun L k x.scenes=st at *;obtain⟨js,kk⟩:=st;simp only at b1 b2 b3 |-;have hf:=AaZ L kk 12 (by decide) (by decide) (by omega) (by omega);have hn:=BfJ L (kk+1) x hl (by omega) (by omega);have hnb:=A0A L (kk+1) x;simp only[srA]at hn;generalize noF L (kk+1) x=nn at *;obtain⟨no,k2⟩:=nn;simp only at hn hnb |-;have hp1:=AcR L k2 [0,1,-1,1000,1001] (by decide) (by decide) (by omega) (by omega);have hp2:=AcR L (k2+1) [0,0,1,-1000,-1001] (by decide) (by decide) (by omega) (by omega);have hf2:=AaZ L (k2+1+1) 2 (by decide) (by decide) (by omega) (by omega);generalize flipF L kk 12=fb at *;generalize pickF L k2 [0,1,-1,1000,1001]=p1 at *;generalize pickF L (k2+1) [0,0,1,-1000,-1001]=p2 at *;generalize flipF L (k2+1+1) 2=f2 at *;refine zgB ?_;simp only[go_sem,di];refine zm 0 (hf) ?_;rintro _ _ ⟨rfl,rfl⟩
  cases fb with
  | false =>
   have htk:((js.map jmA).drop 0).take js.length=js.map jmA:=by rw[List.drop_zero,List.take_of_length_le (by simp)]
   simp only[Bool.false_eq_true,if_false];refine zgB ?_;simp only[go_sem];exact ARet.shift (Shift.freeze 4 (id:=1) (l:=js.map jmA) rfl rfl (by simp) (Nat.le_refl _) (AjY js)) (aret [4] rfl ⟨_,_,rfl,by simp only[resV,Av.get,Av.put,beq_self_eq_true,cond_true,htk],rfl,rfl,rfl⟩)
  | true =>
   simp only[if_true];refine zgB ?_;simp only[go_sem];refine zm 0 (hn) ?_;rintro _ _ ⟨rfl,rfl⟩;refine zgB ?_;simp only[go_sem];refine zm 0 (hp1) ?_;rintro _ _ ⟨rfl,rfl⟩;refine zgB ?_;simp only[go_sem];refine zm 0 (hp2) ?_;rintro _ _ ⟨rfl,rfl⟩;refine zgB ?_;simp only[go_sem];refine zm 0 (hf2) ?_;rintro _ _ ⟨rfl,rfl⟩;refine zgB ?_;simp only[go_sem,List.length_map]
   repeat refine aqe ?_
   have htk:((js.map jmA++[jmA ⟨no,p1,p2,f2⟩]).drop 0).take (js.length+1)=(js++[(⟨no,p1,p2,f2⟩:Jm)]).map jmA:=by
    rw[List.drop_zero,List.take_of_length_le (by simp),List.map_append]; rfl
   simp only[jmA]at htk;exact ARet.shift (Shift.freeze 4 (id:=1) (l:=js.map jmA++[jmA ⟨no,p1,p2,f2⟩]) rfl rfl (by simp) (Nat.le_refl _) (by have:=AjY (js++[(⟨no,p1,p2,f2⟩:Jm)]); rw[List.map_append]at this; exact this)) (aret [4] rfl ⟨_,_,rfl,by simp only[resV,Av.get,Av.put,beq_self_eq_true,cond_true,jmA,htk],rfl,rfl,rfl⟩)
def faA(f:Fa):AV:=.agg [.str f.scene,.int .i64 f.el.kind,.str f.el.name,.str f.facet,.str f.value]
theorem AiZ(l:List Fa)(i:Nat)(h:i<l.length):List.getD (List.map faA l) i .any=.agg [.str l[i].scene,.int .i64 l[i].el.kind,.str l[i].el.name,.str l[i].facet,.str l[i].value]:=by simp[List.getD,h,faA]
theorem ApI:∀ l:List Fa,(flat (l.map faA)).all Av.frozen=true
 | []=>rfl
 | x::r=>by simpa[flat,cellsOf,faA,Av.frozen]using ApI r
def sameFa(y f:Fa):Bool:=y.scene==f.scene&&(y.el==f.el&&y.facet==f.facet)
theorem el_beq(a b:El):(a==b)=(a.kind==b.kind&&a.name==b.name):=by
 cases a; cases b
 rw[Bool.eq_iff_iff]
 simp
theorem BdD(f:FuncId)(caps:List AV)(hc:caps.all frozen0=true)(p:Fa->Bool)(l:List Fa)(hl:l.length<100000000)(hf:∀ x∈l,Pc prog f (faA x::caps) (· = .bool (p x))) :
  Pc prog 163 [.fz 5 (l.map faA),.fn (.func f) caps] (· = .int .i64 (idxP p l)):=by
 refine zpIB func163 rfl fun h ρ w=>?_
 simp only[go_sem];refine AaC (ι:=Nat) (fun i=>l.length-i) (fun i=>[(8,.int .i64 i),(7,.int .i64 l.length),(1,.fn (.func f) caps),(0,.fz 5 (l.map faA))]) (fun _=>[]) (fun i=>i<=l.length/\∀ j,(hj:j<l.length)->j<i->p l[j]=false) 0 ⟨by simp,fun j _ h=>absurd h (by omega)⟩ ?_ ?_
 .refine Shift.weak ?_
  simp only[go_sem,List.length_map]
 .rintro i ⟨g1,g2⟩ J hJ
  by_cases gi:i<l.length
  .have di:decide ((i:Int)<(l.length:Int))=true:=by simp; omega
   have hfx:=hf _ (List.getElem_mem gi);simp only[faA]at hfx;refine zgB ?_;simp only[go_sem,di,AiZ l i gi,List.length_map]
   repeat refine aqa ?_
   cases hp:p l[i]with
   | true =>
    rw[hp]at hfx;refine AdS hfx (AkW rfl hc) rfl rfl (zgB ?_);simp only[go_sem];exact aret [4] rfl ⟨congrArg _ (AtM gi hp fun j hj=>g2 j (by omega) hj).symm,rfl⟩
   | false =>
    rw[hp]at hfx;refine AdS hfx (AkW rfl hc) rfl rfl (zgB ?_);simp only[go_sem]
    repeat refine aqb ?_
    rw[ic i];refine ainv (hJ (i+1) ⟨by omega,fun j hj h=>?_⟩ (by omega)) (Shift.weak ?_)
    .rcases Nat.lt_or_ge j i with h2|h2
     .exact g2 j hj h2
     .have:j=i:=by omega
      subst this; exact hp
    .simp only [go_sem]
  .have di:decide ((i:Int)<(l.length:Int))=false:=by simp; omega
   refine zgB ?_;simp only[go_sem,di];exact aret [4] rfl ⟨congrArg _ (AtL fun j hj=>g2 j hj (by omega)).symm,rfl⟩
theorem A0E(f:FuncId)(caps:List AV)(hc:caps.all frozen0=true)(p:Fa->Bool)(l:List Fa)(hl:l.length<100000000)(hf:∀ x∈l,Pc prog f (faA x::caps) (· = .bool (p x))) :
  Pc prog 114 [.fz 5 (l.map faA),.fn (.func f) caps] (· = .bool (l.any p)):=by
 refine zpIB func114 rfl fun h ρ w=>?_
 simp only[go_sem];refine AdS (BdD f caps hc p l hl hf) (by simp only[List.all_cons,List.all_nil,nr1,Av.frozen,hc,Bool.and_self]) rfl rfl (zgB ?_);simp only[go_sem];refine aret [4] rfl ⟨?_,rfl⟩;simp only[resV,Av.get,Av.put,cond_true,beq_self_eq_true];rw[<- AzJ]
theorem BiH(y f:Fa):Pc prog 115 [faA y,.pin 5 [faA f] 0 0] (· = .bool (sameFa y f)):=by
 simp only[faA,sameFa,el_beq];refine zpIB func115 rfl fun h ρ w=>?_
 cases e1:y.scene==f.scene with
 | false =>
  simp only[go_sem,e1];exact aret [3] rfl ⟨by simp[resV,Av.get,Av.put],rfl⟩
 | true =>
  cases e2:(y.el.kind==f.el.kind&&y.el.name==f.el.name)with
  | false =>
   simp only[go_sem,e1,e2]
   repeat refine aqf ?_
   exact aret [3] rfl ⟨by simp[resV,Av.get,Av.put],rfl⟩
  | true =>
   simp only[go_sem,e1,e2]
   repeat refine aqf ?_
   exact aret [3] rfl ⟨by simp[resV,Av.get,Av.put],rfl⟩
theorem BdE(y f:Fa):Pc prog 120 [faA y,.pin 5 [faA f] 0 0] (· = .bool (sameFa y f)):=by
 simp only[faA,sameFa,el_beq];refine zpIB func120 rfl fun h ρ w=>?_
 cases e1:y.scene==f.scene with
 | false =>
  simp only[go_sem,e1];exact aret [3] rfl ⟨by simp[resV,Av.get,Av.put],rfl⟩
 | true =>
  cases e2:(y.el.kind==f.el.kind&&y.el.name==f.el.name)with
  | false =>
   simp only[go_sem,e1,e2]
   repeat refine aqf ?_
   exact aret [3] rfl ⟨by simp[resV,Av.get,Av.put],rfl⟩
  | true =>
   simp only[go_sem,e1,e2]
   repeat refine aqf ?_
   exact aret [3] rfl ⟨by simp[resV,Av.get,Av.put],rfl⟩
def FcA:List (List UInt8):=[[99,111,97,116],[102,97,99,101],[99,111,97,116]]
def VlA:List (List UInt8):=[[114,101,100],[98,108,117,101],[],[97,32,47,32,98]]
def FcB:List (List UInt8):=[[],[67,111,97,116],[97,32,98]]
def VlB:List (List UInt8):=[[32,97],[118,118,118,118,118,118,118,118,118,118,118,118,118,118,118,118,118,118,118,118,118,118,118,118,118,118,118,118,118,118,118,118,118,118,118,118,118,118,118,118,118,118,118,118,118,118,118,118,118,118,118,118,118,118,118,118,118,118,118,118],[118,118,118,118,118,118,118,118,118,118,118,118,118,118,118,118,118,118,118,118,118,118,118,118,118,118,118,118,118,118,118,118,118,118,118,118,118,118,118,118,118,118,118,118,118,118,118,118,118,118,118,118,118,118,118,118,118,118,118,118,118]]
def fcF(L:List Int)(k:Int):List UInt8×Int:=if flipF L (k+1+1) 15 then(oneF L (k+1+1+1) FcB,k+1+1+1+1) else(oneF L k FcA,k+1+1+1)
def vlF(L:List Int)(k kk:Int):List UInt8×Int:=if flipF L kk 15 then(oneF L (kk+1) VlB,kk+1+1) else(oneF L (k+1) VlA,kk+1)
def faF(L:List Int)(x:Sr)(k:Int):Fa×Int :=
 (⟨(noF L k x).1,(elF L (noF L k x).2).1,(fcF L (elF L (noF L k x).2).2).1,(vlF L (elF L (noF L k x).2).2 (fcF L (elF L (noF L k x).2).2).2).1⟩,(vlF L (elF L (noF L k x).2).2 (fcF L (elF L (noF L k x).2).2).2).2)
theorem A7K(L:List Int)(k:Int):k<=(fcF L k).2/\(fcF L k).2<=k+4/\(fcF L k).1∈FcA++FcB:=by
 unfold fcF
 split
 .exact ⟨by simp only; omega,by simp only; omega,List.mem_append_right _ (AaI (by decide))⟩
 .exact ⟨by simp only; omega,by simp only; omega,List.mem_append_left _ (AaI (by decide))⟩
theorem A7L(L:List Int)(k kk:Int):kk<=(vlF L k kk).2/\(vlF L k kk).2<=kk+2/\(vlF L k kk).1∈VlA++VlB:=by
 unfold vlF
 split
 .exact ⟨by simp only; omega,by simp only; omega,List.mem_append_right _ (AaI (by decide))⟩
 .exact ⟨by simp only; omega,by simp only; omega,List.mem_append_left _ (AaI (by decide))⟩
def AkA(L:List Int)(x:Sr)(st:List Fa×Int):List Fa×Int :=
 if st.1.any (fun y=>sameFa y (faF L x st.2).1) then
  (if flipF L (faF L x st.2).2 15 then(st.1++[(faF L x st.2).1],(faF L x st.2).2+1) else(st.1,(faF L x st.2).2+1))
 else(st.1++[(faF L x st.2).1],(faF L x st.2).2)
theorem BlR(L:List Int)(x:Sr)(k:Int):k<=(faF L x k).2/\(faF L x k).2<=k+12:=by
 have h1:=A0A L k x;have h2:=A0B L (noF L k x).2;have h3:=A7K L (elF L (noF L k x).2).2;have h4:=A7L L (elF L (noF L k x).2).2 (fcF L (elF L (noF L k x).2).2).2;exact⟨by simp only[faF]; omega,by simp only[faF]; omega⟩
theorem A7M(L:List Int)(x:Sr)(st:List Fa×Int):st.2<=(AkA L x st).2/\(AkA L x st).2<=st.2+13/\(AkA L x st).1.length<=st.1.length+1:=by
 have:=BlR L x st.2;unfold AkA
 repeat(first|split|exact⟨by simp only; omega,by simp only; omega,by simp⟩)
def faRun(L:List Int)(x:Sr)(k:Int):Nat->List Fa×Int
 | 0=>([],k)
 | n+1=>AkA L x (faRun L x k n)
theorem ArG(L:List Int)(x:Sr)(k:Int):∀ n,k<=(faRun L x k n).2/\(faRun L x k n).2<=k+13*n/\(faRun L x k n).1.length<=n
 | 0=>⟨by simp[faRun],by simp[faRun],by simp[faRun]⟩
 | n+1=>by
  obtain⟨h1,h2,h3⟩:=ArG L x k n;obtain⟨a1,a2,a3⟩:=A7M L x (faRun L x k n);simp only[faRun];exact⟨by omega,by omega,by omega⟩
def factsF(L:List Int)(k:Int)(x:Sr):List Fa×Int:=faRun L x (k+1) (nx L k 8).toNat
theorem AuC(L:List Int)(k:Int)(x:Sr):k<=(factsF L k x).2/\(factsF L k x).2<=k+200/\(factsF L k x).1.length<=8:=by
 have hb:=AcV L k 8 (by decide);obtain⟨h1,h2,h3⟩:=ArG L x (k+1) (nx L k 8).toNat;unfold factsF;exact⟨by omega,by omega,by omega⟩
theorem A7N:(TitleL.all fun t=>plainL t&&(decide (1<=t.length)&&decide (t.length<=60)))=true:=by decide +kernel
theorem BiI:(SetL.all fun t=>isSetL t&&decide (t.length<1000000))=true:=by decide +kernel
theorem AxA{x:Sc}(h:DrawnS x):SceneOk x:=by
 have:=List.all_eq_true.1 BiI x.set h.set;simp only[Bool.and_eq_true,decide_eq_true_eq]at this;exact⟨this.1,this.2,by have:=h.len; omega,h.run⟩
theorem BfM:∀ (l:List Sc),(∀ y∈l,y.paras.length<=60)->paraSum l<=60*l.length
 | [],_=>by simp[paraSum]
 | x::r,h=>by
  have h1:=h x (by simp);have h2:=BfM r (fun y hy=>h y (by simp[hy]));simp only[paraSum,List.map_cons,List.sum_cons,List.length_cons]at h2 |-;omega
def accN(i:Nat):List (List UInt8):=(List.range i).map fun j=>AbI (j+1)
theorem BiJ:∀ i,i<5->AbI (i+1) ∉ accN i/\numberL (AbI (i+1))=true/\(AbI (i+1)).length<1000000:=by
 have h:∀ i:Fin 5,AbI (i.1+1) ∉ accN i.1/\numberL (AbI (i.1+1))=true/\(AbI (i.1+1)).length<1000000:=by decide +kernel
 exact fun i hi=>h ⟨i,hi⟩
end Go.Proofs.YtnfkjpihaficbaaGreatDoor
set_option linter.unusedSectionVars false
namespace Go.Av
open Go Go.RowKit
variable [Tr]
theorem acut{c:Cx}{x:It}{B:Code}{k:List It}{e:Env}{s:List Blk}{ι:Type}(E:ι->Env)(S:ι->List Blk)(H:ι->Prop)
  (h1:∀ J:Act->World->Prop,(∀ y,H y->∀ a w,Sim c (E y) (S y) a w->J a w)->AWp c (x::.inv J::k) e s)
  (h2:∀ y,H y->AWp c (.code B::k) (E y) (S y)):AWp c (x::.code B::k) e s:=by
 intro a w hs;have h:=h1 (fun a w=>B.wp c.P (WQ c k) a w) (fun y hy a w hs=>h2 y hy a w hs) a w hs;have e1:WQ c (.inv (fun a w=>B.wp c.P (WQ c k) a w)::k)=WQ c (.code B::k):=by
  funext en a w
  cases en <;> rfl
 have e2:WQ c (x::.inv (fun a w=>B.wp c.P (WQ c k) a w)::k)=WQ c (x::.code B::k):=by
  funext en a w
  cases en <;> simp only[WQ,e1]
 rw[e2]at h;exact h
end Go.Av
namespace Go.Proofs.YtnfkjpihaficbaaGreatDoor
open Go Go.Av Go.RowKit _root_.Go.Proofs.Tryz
structure StoryOk(x:Sr):Prop where
 title:x.title∈TitleL
 len:x.scenes.length<=5
 no:∀ i,(h:i<x.scenes.length)->x.scenes[i].no=AbI (i+1)
 all:∀ i,(h:i<x.scenes.length)->DrawnS ⟨[],x.scenes[i].place,x.scenes[i].set,x.scenes[i].time,x.scenes[i].paras⟩
 first:∀ y,x.scenes.head? = some y->y.time≠5
theorem A0F{x:Sr}(h:DrawnR x):StoryOk (numR x):=by
 have hg:∀ i,(hi:i<(numR x).scenes.length)->∃ (h2:i<x.scenes.length),(numR x).scenes[i]=nm i x.scenes[i]:=fun i hi=>by
  simp only[numR,numL_len]at hi;refine⟨hi,?_⟩;have:=ArB x.scenes 0 i hi;simp only[Nat.zero_add]at this;exact(List.getElem?_eq_some_iff.1 this).2
 refine⟨h.title,by simp only[numR,numL_len]; exact h.len,fun i hi=>?_,fun i hi=>?_,fun y hy=>?_⟩
 .obtain ⟨h2,e⟩:=hg i hi
  rw[e];exact AzW i (by have:=h.len; omega)
 .obtain ⟨h2,e⟩:=hg i hi
  rw[e];have hd:=h.all _ (List.getElem_mem h2);exact⟨rfl,hd.place,hd.set,hd.time,hd.run,hd.len,hd.all⟩
 .have:=h.first
  obtain⟨ti,xs⟩:=x
  cases xs with
  | nil=>simp[numR,numL]at hy
  | cons a r =>
   simp only[numR,numL,List.head?_cons,Option.some.injEq]at hy;rw[<- hy];exact this a rfl
theorem AiD(i:Nat)(hi:i<5):Lib.trimLeftS (AbI (i+1)) DIG=[]/\1<=(AbI (i+1)).length/\(AbI (i+1)).length<=3/\(AbI (i+1)).getD 0 0≠48/\(AbI (i+1)==[])=false:=by
 have h:∀ i:Fin 5,Lib.trimLeftS (AbI (i.1+1)) DIG=[]/\1<=(AbI (i.1+1)).length/\(AbI (i.1+1)).length<=3/\(AbI (i.1+1)).getD 0 0≠48/\(AbI (i.1+1)==[])=false:=by decide +kernel
 exact h ⟨i,hi⟩
theorem no_ne(i j:Nat)(hi:i<5)(hj:j<5)(h:i≠j):AbI (i+1)≠AbI (j+1):=by
 have h':∀ i j:Fin 5,i.1≠j.1->AbI (i.1+1)≠AbI (j.1+1):=by decide +kernel
 exact h' ⟨i,hi⟩ ⟨j,hj⟩ h
theorem BlS:∀ s∈SetL,s.length<1000:=by decide
theorem BdF:∀ s∈TitleL,1<=s.length/\s.length<=60:=by decide
theorem StoryOk.inj{x:Sr}(h:StoryOk x){i j:Nat}(hi:i<x.scenes.length)(hj:j<x.scenes.length)(e:x.scenes[i].no=x.scenes[j].no):i=j:=by
 rw[h.no i hi,h.no j hj]at e;have:=h.len;exact Classical.byContradiction fun hn=>no_ne i j (by omega) (by omega) hn e
theorem A7O{S:Std}(hS:LibR S)(x:Sc)(i:Nat)(hi:i<5)(hno:x.no=AbI (i+1))(hp:1<=x.place/\x.place<=3)(ht:1<=x.time/\x.time<=5)(hs:x.set.length<1000) :
  PcH prog S 268 [scA x] (· = .int .i64 (if setR x.set then 0 else 3)):=by
 obtain⟨a1,a2,a3,a4,a5⟩:=AiD i hi;rw[<- hno]at a1 a2 a3 a4 a5;have e0:(x.no != [])=true:=by rw[bne,a5]; rfl
 have hn:=AmS x.no a1 a2 a3 a4;have e1:decide (x.place<1)=false:=by simp; omega
 have e2:decide (x.place>3)=false:=by simp; omega
 have e3:decide (x.time<1)=false:=by simp; omega
 have e4:decide (x.time>5)=false:=by simp; omega
 have hset:=BcU hS x.set (by omega);simp only[scA];refine zqIB func268 rfl fun h ρ w hg=>?_
 simp only[go_sem,e0];refine zpB (hn) ?_;simp only[go_sem,e1,e2,e3,e4];refine zqB hg (hset) ?_
 cases e5:setR x.set with
 | false =>
  simp only[go_sem];exact zt [2]
 | true =>
  simp only[go_sem];exact zt [2]
theorem A7P(x y:Sc):Pc prog 269 [scA x,.pin 5 [scA y] 0 0] (· = .bool (x.no==y.no)):=by
 simp only[scA];refine zpIB func269 rfl fun h ρ w=>?_
 simp only[go_sem];exact zt [3]
def ApJ:List Pa->Int
 | []=>0
 | p::r=>if A6S p != 0 then A6S p else ApJ r
def AuD(x:Sc):Int:=if setR x.set then ApJ x.paras else 3
theorem A2Q{S:Std}(hS:LibR S)(x:Sr)(hx:StoryOk x)(k:Nat)(hk:k<x.scenes.length):PcH prog S 224 [.fz 5 (x.scenes.map scA),.int .i64 k] (· = .int .i64 (AuD x.scenes[k])):=by
 have hlen:=hx.len;have hd:=hx.all k hk;have hno:=hx.no k hk;obtain⟨a1,a2,a3,a4,a5⟩:=AiD k (by omega);rw[<- hno]at a1 a2 a3 a4 a5;have e0:(x.scenes[k].no != [])=true:=by rw[bne,a5]; rfl
 have hh:=A7O hS x.scenes[k] k (by omega) hno hd.place hd.time (BlS _ hd.set);have hnew:(x.scenes.take k).any (fun y=>y.no==x.scenes[k].no)=false:=by
  rw[List.any_eq_false];intro y hy;obtain⟨j,hj,rfl⟩:=List.getElem_of_mem hy;rw[List.length_take]at hj;rw[List.getElem_take];simp only[beq_iff_eq];exact fun e=>absurd (hx.inj (by omega) hk e) (by omega)
 have hany:=AzL 269 [.pin 5 [scA x.scenes[k]] 0 0] rfl (fun y=>y.no==x.scenes[k].no) (x.scenes.take k) (by rw[List.length_take]; omega) (fun y _=>A7P y x.scenes[k]);rw[hnew,List.map_take]at hany;have hft:((k:Int)==0)=false\/(x.scenes[k].time==5)=false:=by
  by_cases h0:k=0
  .subst h0
   right
   have:=hx.first x.scenes[0] (by rw[List.head?_eq_getElem?,List.getElem?_eq_getElem hk])
   simpa using this
  .left; simp; omega
 obtain⟨e,hr,h2,h3⟩:=hd.run;simp only at hr;have hget:=AdL x.scenes k hk;have hres:(if setR x.scenes[k].set then ApJ x.scenes[k].paras else 3)=AuD x.scenes[k]:=rfl;have hm:=hd.len;simp only at hm;generalize hsc:x.scenes[k]=sc at *;rw[<- hres];have hbor:=Ct.borrowF (P:=prog) (f:=165) (args:=[.fz 5 (List.take k (x.scenes.map scA)),.fn (.func 269) [.ptr 0 1 0 0]]) 1 [.arr 5 [scA sc]] (post:=(· = .bool false)) hany (by rintro r rfl; rfl);simp only[scA]at hbor hh;have hk2:decide ((k:Int)<=(x.scenes.length:Int))=true:=by simp; omega
 refine zqIB func224 rfl fun h ρ w hg=>?_
 simp only[go_sem,hget,List.length_map]
 repeat refine aj ?_
 refine zqB hg (hh) ?_;have hq:(((k:Int)==0)=true/\(sc.time==5)=false)\/(((k:Int)==0)=false/\True):=by
  cases h0:((k:Int)==0)with
  | true =>
   rw[h0]at hft;exact .inl ⟨rfl,hft.resolve_left (by simp)⟩
  | false=>exact .inr ⟨rfl,trivial⟩
 rcases hq with⟨q1,q2⟩|⟨q1,q2⟩ <;>
 .cases e5:setR sc.set with
  | false =>
   simp only[Bool.false_eq_true,if_false];simp only[go_sem,e0,hk2]
   repeat refine aj ?_
   refine za (hbor) ?_;rintro _ _ ⟨rfl,rfl⟩;refine zgB ?_;simp only[go_sem,q1,q2];exact zt [4]
  | true =>
   simp only[if_true];simp only[go_sem,e0,hk2]
   repeat refine aj ?_
   refine za (hbor) ?_;rintro _ _ ⟨rfl,rfl⟩;refine zgB ?_;simp only[go_sem,q1,q2];refine AaC (ι:=Nat×Int) (fun y=>sc.paras.length-y.1)
    (fun y=>[(46,.int .i64 y.1),(45,.int .i64 sc.paras.length),(44,.fz 2 (sc.paras.map paA)),(7,.int .i64 y.2)])
    (fun _=>[.arr 5 [.agg [.str sc.no,.int .i64 sc.place,.str sc.set,.int .i64 sc.time,.fz 2 (sc.paras.map paA)]]])
    (fun y=>y.1<=sc.paras.length/\runL y.2 (sc.paras.drop y.1)=some e/\ApJ (sc.paras.drop y.1)=ApJ sc.paras) (0,0) ⟨by simp,hr,by simp⟩ ?_ ?_
   .refine Shift.weakS ?_ rfl
    simp only[go_sem,List.length_map]
   .rintro ⟨i,l⟩ ⟨g1,g2,g3⟩ J hJ
    simp only at g1 g2 g3 hJ |-
    by_cases gi:i<sc.paras.length
    .have di:decide ((i:Int)<(sc.paras.length:Int))=true:=by simp; omega
     have hdr:sc.paras.drop i=sc.paras[i]::sc.paras.drop (i+1):=List.drop_eq_getElem_cons gi;rw[hdr]at g2 g3;simp only[runL]at g2
     split at g2
     rotate_left
     .cases g2
     rename_i hp;simp only[Bool.and_eq_true]at hp;have hpf:=A6T hS sc.paras[i] l hp.1 hp.2;simp only[paA]at hpf;simp only[ApJ]at g3;refine zgB ?_;simp only[go_sem,di,AwT sc.paras i gi,List.length_map]
     repeat refine aj ?_
     refine zqB hg (hpf) ?_
     cases e6:A6S sc.paras[i] != 0 with
     | true =>
      rw[e6]at g3;simp only[go_sem,e6];exact aret [4] rfl ⟨by rw[<- g3]; rfl,rfl⟩
     | false =>
      rw[e6]at g3;simp only[go_sem,e6]
      repeat refine aj ?_
      rw[ic i];refine ainv (hJ (i+1,sc.paras[i].kind) ⟨by simp only; omega,g2,g3⟩ (by simp only; omega)) (Shift.low 1 (by simp) (by simp) ?_ ?_)
      .simp only [List.take_succ_cons,List.take_zero,List.all_cons,List.all_nil,lowB,flat,cellsOf,lowC,Av.frozen,List.append_nil,Bool.and_self]
      .simp only [go_sem]
    .have di:decide ((i:Int)<(sc.paras.length:Int))=false:=by simp; omega
     have:i=sc.paras.length:=by omega
     subst this;rw[List.drop_length]at g2 g3;simp only[runL,Option.some.injEq]at g2;subst g2;have q2:(l==2)=false:=by simpa using h2
     have q3:(l==3)=false:=by simpa using h3
     refine zgB ?_;simp only[go_sem,di,q2,q3];exact aret [4] rfl ⟨by rw[<- g3]; rfl,rfl⟩
def AjA:List Sc->Int
 | []=>0
 | x::r=>if AuD x != 0 then AuD x else AjA r
def AdN(x:Sr):Int:=if plainR x.title then AjA x.scenes else 3
theorem AuE{x:Sr}(h:StoryOk x):paraSum x.scenes<=300:=by
 have h1:=BfM x.scenes (fun z hz=>by
  obtain⟨i,hi,rfl⟩:=List.getElem_of_mem hz;exact(h.all i hi).len)
 have:=h.len;omega
theorem AxB{S:Std}(hS:LibR S)(x:Sr)(hx:StoryOk x):PcH prog S 164 [srA x] (· = .int .i64 (AdN x)):=by
 have htb:=BdF _ hx.title;have hlen:=hx.len;have hsum:=AuE hx;have h1:=AgG x.title 1 60;have hl:longR x.title 1 60=true:=by simp[longR]; omega
 rw[hl]at h1;have h2:=AdF hS x.title (by omega);have hsf:=fun k hk=>A2Q hS x hx k hk
 have hres:(if plainR x.title then AjA x.scenes else 3)=AdN x:=rfl;rw[<- hres];obtain⟨ti,xs⟩:=x;simp only at htb hlen hsum h1 h2 hsf |-;simp only[srA];refine zqIB func164 rfl fun h ρ w hg=>?_
 simp only[go_sem];refine zpB (h1) ?_;simp only[go_sem];refine zqB hg (h2) ?_
 cases e1:plainR ti with
 | false =>
  simp only[go_sem];exact zt [2]
 | true =>
  simp only[if_true];simp only[go_sem];refine AaC (ι:=Nat) (fun i=>xs.length-i)
   (fun i=>[(21,.int .i64 i),(20,.int .i64 xs.length),(19,.fz 5 (xs.map scA)),(3,.int .i64 (paraSum (xs.take i))),(1,.pin 2 [.agg [.str ti,.fz 5 (xs.map scA)]] 0 0)])
   (fun _=>[]) (fun i=>i<=xs.length) 0 (by simp) ?_ ?_
  .refine Shift.weakS ?_ rfl
   simp only[go_sem,List.length_map]
   simp[paraSum]
  .intro i g1 J hJ
   by_cases gi:i<xs.length
   .have di:decide ((i:Int)<(xs.length:Int))=true:=by simp; omega
    have hs:=AjX xs i gi;have hle:=AfJ xs (i+1);refine zgB ?_;simp only[go_sem,di,AdL xs i gi,List.length_map]
    repeat refine aj ?_
    rw[show(paraSum (xs.take i):Int)+(xs[i].paras.length:Int)=(paraSum (xs.take (i+1)):Int) by omega,show(i:Int)+1=((i+1:Nat):Int) by omega];refine ainv (hJ (i+1) (by omega) (by omega)) (Shift.low 0 (by simp) (by simp) ?_ ?_)
    .simp only [List.take_zero,List.all_nil]
    .simp only [go_sem]
   .have di:decide ((i:Int)<(xs.length:Int))=false:=by simp; omega
    have:i=xs.length:=by omega
    subst this;rw[List.take_length];have d3:decide ((xs.length:Int)>300)=false:=by simp; omega
    have d4:decide ((paraSum xs:Int)>4000)=false:=by simp; omega
    refine zgB ?_;simp only[go_sem,di,d3,d4,List.length_map];refine AaC (ι:=Nat) (fun y=>xs.length-y)
     (fun y=>[(42,.int .i64 y),(41,.int .i64 xs.length),(1,.pin 2 [.agg [.str ti,.fz 5 (xs.map scA)]] 0 0)])
     (fun y=>[]) (fun y=>y<=xs.length/\AjA (xs.drop y)=AjA xs) 0 ⟨by simp,by simp⟩ ?_ ?_
    .refine Shift.weakS ?_ rfl
     simp only[go_sem]
    .clear hJ J
     rintro i ⟨g1,g2⟩ J hJ
     by_cases gi:i<xs.length
     .have di:decide ((i:Int)<(xs.length:Int))=true:=by simp; omega
      have hd:xs.drop i=xs[i]::xs.drop (i+1):=List.drop_eq_getElem_cons gi;rw[hd]at g2;simp only[AjA]at g2;refine zgB ?_;simp only[go_sem,di];refine zqB hg (hsf i gi) ?_
      cases e6:AuD xs[i] != 0 with
      | true =>
       rw[e6]at g2;simp only[go_sem,e6];exact aret [2] rfl ⟨by rw[<- g2]; rfl,rfl⟩
      | false =>
       rw[e6]at g2;simp only[go_sem,e6]
       repeat refine aj ?_
       rw[ic i];refine ainv (hJ (i+1) ⟨by omega,g2⟩ (by omega)) (Shift.weakS ?_ rfl);simp only[go_sem]
     .have di:decide ((i:Int)<(xs.length:Int))=false:=by simp; omega
      have:i=xs.length:=by omega
      subst this;rw[List.drop_length]at g2;refine zgB ?_;simp only[go_sem,di];exact aret [2] rfl ⟨by rw[<- g2]; rfl,rfl⟩
theorem BiK(x:Sc):Pc prog 166 [scA x] (· = .bool (x.no==[])):=by
 simp only[scA];refine zpIB func166 rfl fun h ρ w=>?_
 simp only[go_sem];exact zt [2]
theorem A7Q{x:Sr}(hx:StoryOk x):(x.scenes.any fun y=>y.no==[])=false:=by
 rw[List.any_eq_false];intro y hy;obtain⟨i,hi,rfl⟩:=List.getElem_of_mem hy;rw[hx.no i hi];have:=hx.len;have:=(AiD i (by omega)).2.2.2.2
 simp[this]
theorem ApK{S:Std}(hS:LibR S)(x:Sr)(hx:StoryOk x):PcH prog S 116 [srA x] (· = .int .i64 (AdN x)):=by
 have h1:=AxB hS x hx;have h2:=AzL 166 [] rfl (fun y=>y.no==[]) x.scenes (by have:=hx.len; omega) (fun y _=>BiK y);rw[A7Q hx]at h2;simp only[srA]at h1 |-;refine zqIB func116 rfl fun h ρ w hg=>?_
 simp only[go_sem];refine zqB hg (h1) ?_
 cases e1:AdN x != 0 with
 | true =>
  simp only[go_sem,e1];exact zt [2]
 | false =>
  simp only[go_sem,e1];refine zpB (h2) ?_;simp only[go_sem];exact aret [2] rfl ⟨by
   have:AdN x=0:=by simpa using e1
   rw[this]; rfl,rfl⟩
