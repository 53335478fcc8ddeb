/- The rules drawn, exact. -/
import Derived.Test.YtnfkjpihaficbaaGreatDoorK32
set_option maxRecDepth 100000
set_option maxHeartbeats 8000000
set_option linter.unusedSimpArgs false
set_option linter.unusedVariables false
namespace Go.Proofs.YtnfkjpihaficbaaGreatDoor
open Go Go.Av Go.RowKit _root_.Go.Proofs.Tryz
structure Ru where
 el:El
 pat:List UInt8
 inn:Option (List Int)
 set:List UInt8
def inO:Option (List Int)->AV
 | none=>.raw (.slice none 0 0)
 | some l=>.fz 1 (l.map (.int .i64))
def ruA(r:Ru):AV:=.agg [.int .i64 r.el.kind,.str r.el.name,.str r.pat,inO r.inn,.str r.set]
def gunsB:List UInt8:=[103,117,110,115]
def gunB:List UInt8:=[103,117,110,42]
def InL:List (List Int):=[[1],[3,4],[5],[2],[4,1],[1,3,4,5]]
def AuM:List (List UInt8):=[[72,65,76,76],[77,73,76,76],[104,97,108,108],[66,65,82,78,32,47,32,76,79,70,84]]
def ruEl(L:List Int)(e:El)(k:Int):El×Int:=if e.kind=11 then(if flipF L k 8 then(e,k+1) else(⟨2,gunsB⟩,k+1)) else(e,k)
def ruPat(L:List Int)(p:List UInt8)(k:Int):List UInt8×Int:=(if flipF L k 5 then p else if patR p=0 then p else gunB,k+1)
def ruIn(L:List Int)(k:Int):Option (List Int)×Int:=if flipF L k 3 then(some (InL.getD (nx L (k+1) 6).toNat []),k+1+1) else(none,k+1)
def ruSet(L:List Int)(k:Int):List UInt8×Int:=if flipF L k 3 then(oneF L (k+1) AuM,k+1+1) else([],k+1)
def ruF(L:List Int)(k:Int):Ru×Int :=
 let e:=elF L k
 let p:=patF L e.2
 let e':=ruEl L e.1 p.2
 let p':=ruPat L p.1 e'.2
 let i:=ruIn L p'.2
 let s:=ruSet L i.2
 (⟨e'.1,p'.1,i.1,s.1⟩,s.2)
def ruRun(L:List Int)(k:Int):Nat->List Ru×Int
 | 0=>([],k)
 | n+1=>let s:=ruRun L k n; let r:=ruF L s.2; (s.1++[r.1],r.2)
def rulesF(L:List Int)(k:Int):List Ru×Int:=ruRun L (k+1) (nx L k 5).toNat
theorem A8J(L:List Int)(e:El)(k:Int):k<=(ruEl L e k).2/\(ruEl L e k).2<=k+1:=by
 unfold ruEl
 split
 .split <;> exact⟨by simp only; omega,by simp only; omega⟩
 .exact ⟨by simp only; omega,by simp only; omega⟩
theorem A8K(L:List Int)(k:Int):k<=(ruIn L k).2/\(ruIn L k).2<=k+2:=by
 unfold ruIn
 split <;> exact⟨by simp only; omega,by simp only; omega⟩
theorem BdS(L:List Int)(k:Int):k<=(ruSet L k).2/\(ruSet L k).2<=k+2:=by
 unfold ruSet
 split <;> exact⟨by simp only; omega,by simp only; omega⟩
theorem BlV(L:List Int)(k:Int):k<=(ruF L k).2/\(ruF L k).2<=k+40:=by
 have h1:=A0B L k;have h2:=AxG L (elF L k).2;have h3:=A8J L (elF L k).1 (patF L (elF L k).2).2;have h4:=A8K L (ruPat L (patF L (elF L k).2).1 (ruEl L (elF L k).1 (patF L (elF L k).2).2).2).2;have h5:=BdS L (ruIn L (ruPat L (patF L (elF L k).2).1 (ruEl L (elF L k).1 (patF L (elF L k).2).2).2).2).2;have h6:(ruPat L (patF L (elF L k).2).1 (ruEl L (elF L k).1 (patF L (elF L k).2).2).2).2=(ruEl L (elF L k).1 (patF L (elF L k).2).2).2+1:=rfl;unfold ruF;simp only;omega
theorem ArP(L:List Int)(k:Int):∀ n,(ruRun L k n).1.length=n/\k<=(ruRun L k n).2/\(ruRun L k n).2<=k+40*n
 | 0=>⟨rfl,by simp[ruRun],by simp[ruRun]⟩
 | n+1=>by
  obtain⟨h1,h2,h3⟩:=ArP L k n;have h4:=BlV L (ruRun L k n).2;rw[ruRun];simp only;refine⟨by simp[h1],by omega,by omega⟩
theorem A8L:∀ l:List Ru,(flat (l.map ruA)).all Av.frozen=true
 | []=>rfl
 | r::l=>by
  obtain⟨e,p,i,s⟩:=r;have ih:=A8L l
  cases i with
  | none=>simpa[ruA,inO,flat,cellsOf,Av.frozen]using ih
  | some i=>simpa[ruA,inO,flat,cellsOf,Av.frozen]using ih
theorem A2Z{S:Std}(hS:LibOk S)(L:List Int)(k:Int)(h3:0<=k)(h4:k<=700000):McH prog S 9 2 (str L k) [] (fun r s=>r=.fz 5 ((rulesF L k).1.map ruA)/\s=str L (rulesF L k).2):=by
 have hb:=AcV L k 5 (by decide);have hn0:=AbW L k 5 (by decide) (by decide) h3 (by omega);unfold rulesF;generalize nx L k 5=v at *;obtain⟨b1,b2⟩:=hb;obtain⟨n,rfl⟩:∃ n:Nat,v=n:=⟨v.toNat,by omega⟩;rw[show((n:Int)).toNat=n by omega];refine zdIB func9 rfl fun h ρ w hg=>?_
 simp only[go_sem];refine zm 0 (hn0) ?_;rintro _ _ ⟨rfl,rfl⟩;refine zgB ?_;simp only[go_sem];refine AaC (ι:=Nat) (fun i=>n-i)
  (fun i=>[(7,.int .i64 i),(6,.int .i64 n),(3,.sl 1 0 (ruRun L (k+1) i).1.length (ruRun L (k+1) i).1.length),(0,.ptr 0 1 0 0)])
  (fun i=>[.arr 2 [str L (ruRun L (k+1) i).2],.arr 5 ((ruRun L (k+1) i).1.map ruA)]) (fun i=>i<=n) 0 (by simp) ?_ ?_
 .refine Shift.trans (Shift.nilsl 3 5 rfl) (Shift.weakS ?_ rfl)
  simp only[go_sem,List.length_map]
  repeat(first|rfl|(simp; done)|refine And.intro (by first|rfl|(simp; done)) ?_)
 intro i g1 J hJ;obtain⟨c1,c2,c3⟩:=ArP L (k+1) i
 by_cases gi:i<n
 .have di:decide ((i:Int)<(n:Int))=true:=by simp; omega
  have hfin:=hJ (i+1) (by omega) (by omega);simp only[ruRun]at hfin;generalize ruRun L (k+1) i=st at *;obtain⟨rs,kk⟩:=st;simp only at c1 c2 c3 hfin |-;clear hJ;unfold ruF at hfin;simp only at hfin;have w1:=BfK L kk (by omega) (by omega);have n1:=A0B L kk;generalize elF L kk=ee at *;obtain⟨el,k1⟩:=ee;simp only[elA]at w1 n1 hfin;have w2:=BiW L k1 (by omega) (by omega);have n2:=AxG L k1;generalize patF L k1=pp at *;obtain⟨p,k2⟩:=pp;simp only at w2 n2 hfin;refine zgB ?_;simp only[go_sem,di]
  repeat refine aqd ?_
  refine zm 0 (w1) ?_;rintro _ _ ⟨rfl,rfl⟩;refine zgB ?_;simp only[go_sem];refine zm 0 (w2) ?_;rintro _ _ ⟨rfl,rfl⟩;refine goB rfl 8 ?_;simp only[go_sem];have hE:ruEl L el k2=if el.kind=11 then(if flipF L k2 8 then(el,k2+1) else(⟨2,gunsB⟩,k2+1)) else(el,k2):=rfl
  have n3:=A8J L el k2;have w3:=AaZ L k2 8 (by decide) (by decide) (by omega) (by omega);generalize ruEl L el k2=e2 at *;obtain⟨e',k3⟩:=e2;simp only at n3 hfin;generalize flipF L k2 8=b3 at *;refine acut (ι:=Unit) (fun _=>[(4,.ptr 2 1 0 0),(7,.int .i64 i),(6,.int .i64 n),(3,.sl 1 0 rs.length rs.length),(0,.ptr 0 1 0 0)]) (fun _=>[.arr 2 [str L k3],.arr 5 (rs.map ruA),.arr 5 [.agg [.int .i64 e'.kind,.str e'.name,.str p,.raw (.slice none 0 0),.str []]]]) (fun _=>True) ?_ ?_
  .intro Jc hJc
   have fc:=hJc () trivial;clear hfin
   by_cases h11:el.kind=11
   .have d11:(el.kind==11)=true:=by simpa using h11
    rw[if_pos h11]at hE
    cases b3 with
    | true =>
     simp only[if_true,Prod.mk.injEq]at hE;obtain⟨rfl,rfl⟩:=hE;refine zgB ?_;simp only[go_sem,d11]
     repeat refine ai ?_
     refine zm 0 (w3) ?_;rintro _ _ ⟨rfl,rfl⟩;refine zgB ?_;simp only[go_sem]
     repeat refine ai ?_
     refine ainv fc (Shift.weakS ?_ rfl);simp only[go_sem]
    | false =>
     simp only[Bool.false_eq_true,if_false,Prod.mk.injEq]at hE;obtain⟨rfl,rfl⟩:=hE;refine zgB ?_;simp only[go_sem,d11]
     repeat refine ai ?_
     refine zm 0 (w3) ?_;rintro _ _ ⟨rfl,rfl⟩;refine zgB ?_;simp only[go_sem]
     repeat refine ai ?_
     refine ainv fc (Shift.weakS ?_ rfl);simp only[go_sem]
   .have d11:(el.kind==11)=false:=by simpa using h11
    rw[if_neg h11,Prod.mk.injEq]at hE;obtain⟨rfl,rfl⟩:=hE;refine zgB ?_;simp only[go_sem,d11]
    repeat refine ai ?_
    refine ainv fc (Shift.weakS ?_ rfl);simp only[go_sem]
  rintro _ _;have w4:=AaZ L k3 5 (by decide) (by decide) (by omega) (by omega);have w5:=BdM hS p (by omega);have hP:ruPat L p k3=(if flipF L k3 5 then p else if patR p=0 then p else gunB,k3+1):=rfl;generalize ruPat L p k3=p2 at *;obtain⟨p',k4⟩:=p2;simp only at hfin;generalize flipF L k3 5=b4 at *;rw[Prod.mk.injEq]at hP;obtain⟨hP,hk4⟩:=hP;subst hk4;clear hE w3;refine goB rfl 1 ?_;simp only[go_sem];refine acut (ι:=Unit) (fun _=>[(4,.ptr 2 1 0 0),(7,.int .i64 i),(6,.int .i64 n),(3,.sl 1 0 rs.length rs.length),(0,.ptr 0 1 0 0)]) (fun _=>[.arr 2 [str L (k3+1)],.arr 5 (rs.map ruA),.arr 5 [.agg [.int .i64 e'.kind,.str e'.name,.str p',.raw (.slice none 0 0),.str []]]]) (fun _=>True) ?_ ?_
  .intro Jc hJc
   have fc:=hJc () trivial;clear hfin
   cases b4 with
   | true =>
    simp only[if_true]at hP;subst hP;refine zgB ?_;simp only[go_sem];refine zm 0 (w4) ?_;rintro _ _ ⟨rfl,rfl⟩;refine zgB ?_;simp only[go_sem]
    repeat refine ai ?_
    refine ainv fc (Shift.weakS ?_ rfl);simp only[go_sem]
   | false =>
    simp only[Bool.false_eq_true,if_false]at hP
    by_cases hp0:patR p=0
    .rw [if_pos hp0]at hP
     subst hP;rw[hp0]at w5;refine zgB ?_;simp only[go_sem];refine zm 0 (w4) ?_;rintro _ _ ⟨rfl,rfl⟩;refine zgB ?_;simp only[go_sem];refine zqB hg (w5) ?_;simp only[go_sem]
     repeat refine ai ?_
     refine ainv fc (Shift.weakS ?_ rfl);simp only[go_sem]
    .rw [if_neg hp0]at hP
     subst hP;have dp:(patR p != 0)=true:=by simpa using hp0
     refine zgB ?_;simp only[go_sem];refine zm 0 (w4) ?_;rintro _ _ ⟨rfl,rfl⟩;refine zgB ?_;simp only[go_sem];refine zqB hg (w5) ?_;simp only[go_sem,dp]
     repeat refine ai ?_
     refine ainv fc (Shift.weakS ?_ rfl);simp only[go_sem]
  rintro _ _;clear hP w4 w5;have w6:=AaZ L (k3+1) 3 (by decide) (by decide) (by omega) (by omega);have w7:=AbW L (k3+1+1) 6 (by decide) (by decide) (by omega) (by omega);have n6:=AcV L (k3+1+1) 6 (by decide);have hI:ruIn L (k3+1)=if flipF L (k3+1) 3 then(some (InL.getD (nx L (k3+1+1) 6).toNat []),k3+1+1+1) else(none,k3+1+1):=rfl
  have n5:=A8K L (k3+1);generalize ruIn L (k3+1)=ii at *;obtain⟨inn,k5⟩:=ii;simp only at n5 hfin;generalize flipF L (k3+1) 3=b6 at *;generalize nx L (k3+1+1) 6=v6 at *;obtain⟨v6,rfl⟩:∃ m:Nat,v6=m:=⟨v6.toNat,by omega⟩;have pin:List.getD [AV.fz 1 [.int .i64 1],.fz 1 [.int .i64 3,.int .i64 4],.fz 1 [.int .i64 5],.fz 1 [.int .i64 2],.fz 1 [.int .i64 4,.int .i64 1],.fz 1 [.int .i64 1,.int .i64 3,.int .i64 4,.int .i64 5]] v6 .any=.fz 1 ((InL.getD v6 []).map (.int .i64)):=by
   have h6:v6<6:=by omega
   match v6,h6 with
   | 0,_=>rfl
   | 1,_=>rfl
   | 2,_=>rfl
   | 3,_=>rfl
   | 4,_=>rfl
   | 5,_=>rfl
  refine goB rfl 1 ?_;simp only[go_sem];refine acut (ι:=Unit) (fun _=>[(4,.ptr 2 1 0 0),(7,.int .i64 i),(6,.int .i64 n),(3,.sl 1 0 rs.length rs.length),(0,.ptr 0 1 0 0)]) (fun _=>[.arr 2 [str L k5],.arr 5 (rs.map ruA),.arr 5 [.agg [.int .i64 e'.kind,.str e'.name,.str p',inO inn,.str []]]]) (fun _=>True) ?_ ?_
  .intro Jc hJc
   have fc:=hJc () trivial;clear hfin
   cases b6 with
   | true =>
    simp only[if_true,Prod.mk.injEq,Int.toNat_natCast]at hI;obtain⟨rfl,rfl⟩:=hI;simp only[inO]at fc;refine zgB ?_;simp only[go_sem];refine zm 0 (w6) ?_;rintro _ _ ⟨rfl,rfl⟩;refine zgF ?_;simp only[go_sem];refine zm 0 (w7) ?_;rintro _ _ ⟨rfl,rfl⟩;refine zgF ?_;simp only[go_sem,Int.toNat_natCast,pin]
    repeat refine ai ?_
    refine ainv fc (Shift.weakS ?_ rfl);simp only[go_sem]
   | false =>
    simp only[Bool.false_eq_true,if_false,Prod.mk.injEq]at hI;obtain⟨rfl,rfl⟩:=hI;simp only[inO]at fc;refine zgB ?_;simp only[go_sem];refine zm 0 (w6) ?_;rintro _ _ ⟨rfl,rfl⟩;refine zgB ?_;simp only[go_sem]
    repeat refine ai ?_
    refine ainv fc (Shift.weakS ?_ rfl);simp only[go_sem]
  rintro _ _;clear hI w6 w7 pin;have w8:=AaZ L k5 3 (by decide) (by decide) (by omega) (by omega);have w9:=AbJ L (k5+1) AuM (by decide) (by decide) (by omega) (by omega);have hT:ruSet L k5=if flipF L k5 3 then(oneF L (k5+1) AuM,k5+1+1) else([],k5+1):=rfl
  generalize ruSet L k5=ss at *;obtain⟨st,k6⟩:=ss;simp only at hfin;generalize flipF L k5 3=b8 at *;generalize oneF L (k5+1) AuM=o9 at *;refine goB rfl 1 ?_;simp only[go_sem];refine acut (ι:=Unit) (fun _=>[(4,.ptr 2 1 0 0),(7,.int .i64 i),(6,.int .i64 n),(3,.sl 1 0 rs.length rs.length),(0,.ptr 0 1 0 0)]) (fun _=>[.arr 2 [str L k6],.arr 5 (rs.map ruA),.arr 5 [.agg [.int .i64 e'.kind,.str e'.name,.str p',inO inn,.str st]]]) (fun _=>True) ?_ ?_
  .intro Jc hJc
   have fc:=hJc () trivial;clear hfin
   cases inn with
   | none =>
    simp only[inO]at fc |-
    cases b8 with
    | true =>
     simp only[if_true,Prod.mk.injEq]at hT;obtain⟨rfl,rfl⟩:=hT;refine zgB ?_;simp only[go_sem];refine zm 0 (w8) ?_;rintro _ _ ⟨rfl,rfl⟩;refine zgF ?_;simp only[go_sem];refine zm 0 (w9) ?_;rintro _ _ ⟨rfl,rfl⟩;refine zgF ?_;simp only[go_sem]
     repeat refine ai ?_
     refine ainv fc (Shift.weakS ?_ rfl);simp only[go_sem]
    | false =>
     simp only[Bool.false_eq_true,if_false,Prod.mk.injEq]at hT;obtain⟨rfl,rfl⟩:=hT;refine zgB ?_;simp only[go_sem];refine zm 0 (w8) ?_;rintro _ _ ⟨rfl,rfl⟩;refine zgB ?_;simp only[go_sem]
     repeat refine ai ?_
     refine ainv fc (Shift.weakS ?_ rfl);simp only[go_sem]
   | some il =>
    simp only[inO]at fc |-
    cases b8 with
    | true =>
     simp only[if_true,Prod.mk.injEq]at hT;obtain⟨rfl,rfl⟩:=hT;refine zgB ?_;simp only[go_sem];refine zm 0 (w8) ?_;rintro _ _ ⟨rfl,rfl⟩;refine zgF ?_;simp only[go_sem];refine zm 0 (w9) ?_;rintro _ _ ⟨rfl,rfl⟩;refine zgF ?_;simp only[go_sem]
     repeat refine ai ?_
     refine ainv fc (Shift.weakS ?_ rfl);simp only[go_sem]
    | false =>
     simp only[Bool.false_eq_true,if_false,Prod.mk.injEq]at hT;obtain⟨rfl,rfl⟩:=hT;refine zgB ?_;simp only[go_sem];refine zm 0 (w8) ?_;rintro _ _ ⟨rfl,rfl⟩;refine zgB ?_;simp only[go_sem]
     repeat refine ai ?_
     refine ainv fc (Shift.weakS ?_ rfl);simp only[go_sem]
  rintro _ _;simp only[List.map_append,List.map_cons,List.map_nil,List.length_append,List.length_cons,List.length_nil,Nat.zero_add,ruA]at hfin;have hol:(rs.map ruA).length=rs.length:=by simp
  have hfz:lowB 2 (.arr 5 (rs.map ruA++[.agg [.int .i64 e'.kind,.str e'.name,.str p',inO inn,.str st]]))=true:=AaD (by
   have:=A8L (rs++[⟨e',p',inn,st⟩]);rw[List.map_append]at this;exact this)
  generalize rs.map ruA=R at *
  cases inn with
  | none =>
   simp only[inO]at hfin hfz |-;refine zgB ?_;simp only[go_sem,hol]
   repeat refine ai ?_
   rw[ic i];refine ainv hfin ?_;refine Shift.trans (Shift.low 2 (by simp) (by simp) (e':=[(7,.int .i64 (i+1:Nat)),(6,.int .i64 n),(3,.sl 1 0 (rs.length+1) (rs.length+1)),(0,.ptr 0 1 0 0)]) (by simp only[List.take_succ_cons,List.take_zero,List.all_cons,List.all_nil,hfz,Bool.and_true]; rfl) ?_) (Shift.weakS ?_ rfl)
   .simp only [go_sem]
    try simp
   .simp only [go_sem]
  | some il =>
   simp only[inO]at hfin hfz |-;refine zgB ?_;simp only[go_sem,hol]
   repeat refine ai ?_
   rw[ic i];refine ainv hfin ?_;refine Shift.trans (Shift.low 2 (by simp) (by simp) (e':=[(7,.int .i64 (i+1:Nat)),(6,.int .i64 n),(3,.sl 1 0 (rs.length+1) (rs.length+1)),(0,.ptr 0 1 0 0)]) (by simp only[List.take_succ_cons,List.take_zero,List.all_cons,List.all_nil,hfz,Bool.and_true]; rfl) ?_) (Shift.weakS ?_ rfl)
   .simp only [go_sem]
    try simp
   .simp only [go_sem]
 have di:decide ((i:Int)<(n:Int))=false:=by simp; omega
 have hin:i=n:=by omega
 subst hin;clear hJ;generalize ruRun L (k+1) i=st at *;obtain⟨rs,kk⟩:=st;simp only at c1 c2 c3 |-;have htk:((rs.map ruA).drop 0).take rs.length=rs.map ruA:=by rw[List.drop_zero,List.take_of_length_le (by simp)]
 refine zgB ?_;simp only[go_sem,di];exact ARet.shift (Shift.freeze 2 (id:=1) (l:=rs.map ruA) rfl rfl (by simp) (Nat.le_refl _) (A8L rs)) (aret [2] rfl ⟨_,_,rfl,by simp only[resV,Av.get,Av.put,beq_self_eq_true,cond_true,htk],rfl,rfl,rfl⟩)
theorem AuN{S:Std}(hS:LibOk S)(s:List UInt8)(hl:s.length<1000000):PcH prog S 133 [.str s] (· = .bool (isThingL s)):=by
 cases hw:isThingL s with
 | true=>exact AnB hS s hw
 | false =>
 have hp:=AbM hS s (by omega)
 by_cases h1:1<=s.length
 rotate_left
 .have d1:decide ((s.length:Int)<1)=true:=by simp; omega
  refine zqIN func133 rfl fun h ρ w hg=>?_
  simp only[go_sem,d1];exact zt [2]
 have d1:decide ((s.length:Int)<1)=false:=by simp; omega
 by_cases h2:s.length<=40
 rotate_left
 .have d2:decide ((s.length:Int)>40)=true:=by simp; omega
  refine zqIN func133 rfl fun h ρ w hg=>?_
  simp only[go_sem,d1,d2];exact zt [2]
 have d2:decide ((s.length:Int)>40)=false:=by simp; omega
 cases h3:plainL s with
 | false =>
  rw[h3]at hp;refine zqIN func133 rfl fun h ρ w hg=>?_
  simp only[go_sem,d1,d2];refine zqN hg (hp) ?_;simp only[go_sem];exact zt [2]
 | true =>
 rw[h3]at hp;have h4:s.all thB=false:=by
  simp only[isThingL,h1,h2,h3,decide_true,Bool.true_and]at hw;exact hw
 refine zqIN func133 rfl fun h ρ w hg=>?_
 simp only[go_sem,d1,d2];refine zqN hg (hp) ?_;simp only[go_sem];refine AaC (ι:=Nat) (fun i=>s.length-i) (fun i=>[(19,.int .i64 i),(18,.int .i64 s.length),(0,.str s)]) (fun _=>[]) (fun i=>i<=s.length/\(s.take i).all thB=true) 0 (by simp) ?_ ?_
 .refine Shift.weak ?_
  simp only[go_sem]
 .rintro i ⟨g1,g2⟩ J hJ
  refine zgN ?_
  by_cases hi:(i:Int)<s.length
  .have hil:i<s.length:=by omega
   have hgd:s.getD i 0=s[i]:=by simp[List.getD,hil]
   have hfin:=fun(h:thB s[i]=true)=>hJ (i+1) ⟨by omega,by rw[List.take_succ_eq_append_getElem hil,List.all_append,g2]; simp[h]⟩ (by omega)
   simp only[thB]at hfin;simp only[go_sem,hi,hgd]
   repeat refine ao ?_
   refine zpN (AdO _) ?_
   cases c1:smI (s[i].toNat:Int)with
   | true =>
    have hfin:=hfin (by rw[c1]; rfl);simp only[go_sem];rw[ic i]
    repeat refine ao ?_
    refine ainv hfin (Shift.weak ?_);simp only[go_sem]
   | false =>
    simp only[go_sem,hi,hgd]
    repeat refine ao ?_
    refine zpN (AaN _) ?_
    cases c2:digI (s[i].toNat:Int)with
    | true =>
     have hfin:=hfin (by rw[c1,c2]; rfl);simp only[go_sem];rw[ic i]
     repeat refine ao ?_
     refine ainv hfin (Shift.weak ?_);simp only[go_sem]
    | false =>
     cases c3:((s[i].toNat:Int) != 32)with
     | false =>
      have hfin:=hfin (by rw[c1,c2]; simpa using c3);simp only[go_sem,hi,hgd,c3];rw[ic i]
      repeat refine ao ?_
      refine ainv hfin (Shift.weak ?_);simp only[go_sem]
     | true =>
      simp only[go_sem,hi,hgd,c3]
      repeat refine ao ?_
      exact zt [2]
  .rw [List.take_of_length_le (by omega),h4]at g2
   cases g2
theorem AxH{S:Std}(hS:LibOk S)(s:List UInt8)(hl:s.length<1000000):PcH prog S 132 [.str s] (· = .bool (isNameL s)):=by
 cases hw:isNameL s with
 | true=>exact AnC hS s hw
 | false =>
 have hp:=AbM hS s (by omega)
 by_cases h1:1<=s.length
 rotate_left
 .have d1:decide ((s.length:Int)<1)=true:=by simp; omega
  refine zqIN func132 rfl fun h ρ w hg=>?_
  simp only[go_sem,d1];exact zt [2]
 have d1:decide ((s.length:Int)<1)=false:=by simp; omega
 by_cases h2:s.length<=30
 rotate_left
 .have d2:decide ((s.length:Int)>30)=true:=by simp; omega
  refine zqIN func132 rfl fun h ρ w hg=>?_
  simp only[go_sem,d1,d2];exact zt [2]
 have d2:decide ((s.length:Int)>30)=false:=by simp; omega
 cases k1:decide (((s.getD 0 0).toNat:Int)<65)with
 | true =>
  refine zqIN func132 rfl fun h ρ w hg=>?_
  simp only[go_sem,d1,d2,k1]
  repeat refine ao ?_
  exact zt [2]
 | false =>
 cases k2:decide (((s.getD 0 0).toNat:Int)>90)with
 | true =>
  refine zqIN func132 rfl fun h ρ w hg=>?_
  simp only[go_sem,d1,d2,k1,k2]
  repeat refine ao ?_
  exact zt [2]
 | false =>
 cases h3:plainL s with
 | false =>
  rw[h3]at hp;refine zqIN func132 rfl fun h ρ w hg=>?_
  simp only[go_sem,d1,d2,k1,k2]
  repeat refine ao ?_
  refine zqN hg (hp) ?_;simp only[go_sem];exact zt [2]
 | true =>
 rw[h3]at hp;have h4:s.all nmB=false:=by
  simp only[isNameL,h1,h2,h3,k1,k2,decide_true,Bool.true_and,Bool.not_false]at hw;exact hw
 refine zqIN func132 rfl fun h ρ w hg=>?_
 simp only[go_sem,d1,d2,k1,k2]
 repeat refine ao ?_
 refine zqN hg (hp) ?_;simp only[go_sem];refine AaC (ι:=Nat) (fun i=>s.length-i) (fun i=>[(29,.int .i64 i),(28,.int .i64 s.length),(0,.str s)]) (fun _=>[]) (fun i=>i<=s.length/\(s.take i).all nmB=true) 0 (by simp) ?_ ?_
 .refine Shift.weak ?_
  simp only[go_sem]
 .rintro i ⟨g1,g2⟩ J hJ
  refine zgN ?_
  by_cases hi:(i:Int)<s.length
  .have hil:i<s.length:=by omega
   have hgd:s.getD i 0=s[i]:=by simp[List.getD,hil]
   have hfin:=fun(h:nmB s[i]=true)=>hJ (i+1) ⟨by omega,by rw[List.take_succ_eq_append_getElem hil,List.all_append,g2]; simp[h]⟩ (by omega)
   simp only[nmB]at hfin
   cases c0:(!decide ((s[i].toNat:Int)<65)&&!decide ((s[i].toNat:Int)>90))with
   | true =>
    have hfin:=hfin (by rw[c0]; rfl);simp only[Bool.and_eq_true,Bool.not_eq_true']at c0;simp only[go_sem,hi,hgd,c0.1,c0.2]
    repeat refine ao ?_
    rw[ic i]
    repeat refine ao ?_
    refine ainv hfin (Shift.weak ?_);simp only[go_sem]
   | false =>
    have c0':decide ((s[i].toNat:Int)<65)=true\/(decide ((s[i].toNat:Int)<65)=false/\decide ((s[i].toNat:Int)>90)=true):=by
     cases h1:decide ((s[i].toNat:Int)<65) <;> cases h2:decide ((s[i].toNat:Int)>90) <;> simp_all
    have hb:((s[i].toNat:Int)).toNat.toUInt8=s[i]:=by simp
    rcases c0' with c0'|⟨c0',c9⟩
    .cases c2:digI (s[i].toNat:Int)with
     | true =>
      have hfin:=hfin (by rw[c0,c2]; rfl);simp only[go_sem,hi,hgd,c0']
      repeat refine ao ?_
      refine zpN (AaN _) ?_;rw[c2];simp only[go_sem];rw[ic i]
      repeat refine ao ?_
      refine ainv hfin (Shift.weak ?_);simp only[go_sem]
     | false =>
      simp only[go_sem,hi,hgd,c0']
      repeat refine ao ?_
      refine zpN (AaN _) ?_;rw[c2];simp only[go_sem,hi,hgd]
      repeat refine ao ?_
      refine zpN (AcU [32,39,46,45] (s[i].toNat:Int)) ?_;rw[hb]
      cases c3:decide (Lib.indexByte [32,39,46,45] s[i]<0)with
      | false =>
       have hfin:=hfin (by rw[c0,c2,c3]; rfl);simp only[go_sem,c3];rw[ic i]
       repeat refine ao ?_
       refine ainv hfin (Shift.weak ?_);simp only[go_sem]
      | true =>
       simp only[go_sem,c3]
       repeat refine ao ?_
       exact zt [2]
    .cases c2:digI (s[i].toNat:Int)with
     | true =>
      have hfin:=hfin (by rw[c0,c2]; rfl);simp only[go_sem,hi,hgd,c0',c9]
      repeat refine ao ?_
      refine zpN (AaN _) ?_;rw[c2];simp only[go_sem];rw[ic i]
      repeat refine ao ?_
      refine ainv hfin (Shift.weak ?_);simp only[go_sem]
     | false =>
      simp only[go_sem,hi,hgd,c0',c9]
      repeat refine ao ?_
      refine zpN (AaN _) ?_;rw[c2];simp only[go_sem,hi,hgd]
      repeat refine ao ?_
      refine zpN (AcU [32,39,46,45] (s[i].toNat:Int)) ?_;rw[hb]
      cases c3:decide (Lib.indexByte [32,39,46,45] s[i]<0)with
      | false =>
       have hfin:=hfin (by rw[c0,c2,c3]; rfl);simp only[go_sem,c3];rw[ic i]
       repeat refine ao ?_
       refine ainv hfin (Shift.weak ?_);simp only[go_sem]
      | true =>
       simp only[go_sem,c3]
       repeat refine ao ?_
       exact zt [2]
  .rw [List.take_of_length_le (by omega),h4]at g2
   cases g2
def elC(e:El):Int:=if e.kind<1\/e.kind>11 then 4 else if e.kind=11 then(if isNameL e.name then 0 else 5) else if isThingL e.name then 0 else 5
theorem A8M{S:Std}(hS:LibOk S)(e:El)(hl:e.name.length<1000000):PcH prog S 78 [elA e] (· = .int .i64 (elC e)):=by
 obtain⟨ek,en⟩:=e;have hn1:=AxH hS en hl;have hn2:=AuN hS en hl;simp only[elA,elC]at hl |-
 by_cases h1:ek<1
 .have d1:decide (ek<1)=true:=by simpa using h1
  rw[if_pos (.inl h1)];refine zqIB func78 rfl fun h ρ w hg=>?_
  simp only[go_sem,d1];exact zt [2]
 have d1:decide (ek<1)=false:=by simpa using h1
 by_cases h2:ek>11
 .have d2:decide (ek>11)=true:=by simpa using h2
  rw[if_pos (.inr h2)];refine zqIB func78 rfl fun h ρ w hg=>?_
  simp only[go_sem,d1,d2];exact zt [2]
 have d2:decide (ek>11)=false:=by simpa using h2
 rw[if_neg (by omega)]
 by_cases hk:ek=11
 .have d3:(ek==11)=true:=by simpa using hk
  have d4:(ek != 11)=false:=by simpa using hk
  rw[if_pos hk]
  cases hb:isNameL en with
  | true =>
   rw[hb]at hn1;rw[if_pos rfl];refine zqIB func78 rfl fun h ρ w hg=>?_
   simp only[go_sem,d1,d2,d3];refine zqB hg (hn1) ?_;simp only[go_sem,d4];exact zt [2]
  | false =>
   rw[hb]at hn1;rw[if_neg (by simp)];refine zqIB func78 rfl fun h ρ w hg=>?_
   simp only[go_sem,d1,d2,d3];refine zqB hg (hn1) ?_;simp only[go_sem,d4];exact zt [2]
 .have d3:(ek==11)=false:=by simpa using hk
  have d4:(ek != 11)=true:=by simpa using hk
  rw[if_neg hk]
  cases hb:isThingL en with
  | true =>
   rw[hb]at hn2;rw[if_pos rfl];refine zqIB func78 rfl fun h ρ w hg=>?_
   simp only[go_sem,d1,d2,d3,d4];refine zqB hg (hn2) ?_;simp only[go_sem];exact zt [2]
  | false =>
   rw[hb]at hn2;rw[if_neg (by simp)];refine zqIB func78 rfl fun h ρ w hg=>?_
   simp only[go_sem,d1,d2,d3,d4];refine zqB hg (hn2) ?_;simp only[go_sem];exact zt [2]
theorem AuO{S:Std}(hS:LibOk S)(p:List UInt8)(hl:p.length<900):PcH prog S 205 [.str p] (· = .int .i64 (if(patT p).2 then 0 else 9)):=by
 have hp:=ArN hS p hl;generalize patT p=z at *;obtain⟨z1,z2⟩:=z;simp only at hp |-
 cases z1 with
 | none =>
  simp only[patA]at hp
  cases z2 with
  | true =>
   refine zqIB func205 rfl fun h ρ w hg=>?_
   simp only[go_sem];refine zqB hg (hp) ?_;simp only[go_sem];exact zt [2]
  | false =>
   refine zqIB func205 rfl fun h ρ w hg=>?_
   simp only[go_sem];refine zqB hg (hp) ?_;simp only[go_sem];exact zt [2]
 | some l =>
  simp only[patA]at hp
  cases z2 with
  | true =>
   refine zqIB func205 rfl fun h ρ w hg=>?_
   simp only[go_sem];refine zqB hg (hp) ?_;simp only[go_sem];exact zt [2]
  | false =>
   refine zqIB func205 rfl fun h ρ w hg=>?_
   simp only[go_sem];refine zqB hg (hp) ?_;simp only[go_sem];exact zt [2]
