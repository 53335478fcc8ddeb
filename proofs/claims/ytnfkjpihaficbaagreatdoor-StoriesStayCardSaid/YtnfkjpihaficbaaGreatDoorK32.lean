/- tag.hitAt and tag.hits, exact. -/
import Derived.Test.YtnfkjpihaficbaaGreatDoorK31
set_option maxRecDepth 100000
set_option maxHeartbeats 8000000
set_option linter.unusedSimpArgs false
set_option linter.unusedVariables false
namespace Go.Proofs.YtnfkjpihaficbaaGreatDoor
open Go Go.Av Go.RowKit _root_.Go.Proofs.Tryz
def it0:It2:=⟨false,false,false,none⟩
def AhI(ps:List It2)(ws:List (List UInt8))(at':Nat):Nat->Int
 | 0=>0
 | i+1=>if(ps.getD i it0).count&&AhI ps ws at' i==0 then cntI (ws.getD (at'+i) []) else AhI ps ws at' i
def allM(ps:List It2)(ws:List (List UInt8))(at' n:Nat):Bool:=(List.range n).all fun i=>matI (ps.getD i it0) (ws.getD (at'+i) [])
def hitI(ps:List It2)(ws:List (List UInt8))(at':Nat):Option Int :=
 if at'+ps.length>ws.length then none else if allM ps ws at' ps.length then some (if AhI ps ws at' ps.length<1 then 1 else AhI ps ws at' ps.length) else none
def hitV(ps:List It2)(at':Nat):Option Int->AV
 | none=>.tup [.agg [.int .i64 0,.int .i64 0,.int .i64 0],.bool false]
 | some c=>.tup [.agg [.int .i64 at',.int .i64 ps.length,.int .i64 c],.bool true]
theorem BiU(ps:List It2)(i:Nat)(h:i<ps.length):(ps.map itB).getD i .any=itB (ps.getD i it0):=by simp[List.getD,h]
theorem allM_succ(ps:List It2)(ws:List (List UInt8))(at' n:Nat):allM ps ws at' (n+1)=(allM ps ws at' n&&matI (ps.getD n it0) (ws.getD (at'+n) [])):=by
 unfold allM;rw[List.range_succ,List.all_append]
 simp
theorem BdP(ps:List It2)(ws:List (List UInt8))(at' n i:Nat)(h:i<n)(hb:matI (ps.getD i it0) (ws.getD (at'+i) [])=false):allM ps ws at' n=false:=by
 unfold allM;rw[List.all_eq_false];exact⟨i,by simpa using h,by rw[hb]; simp⟩
theorem BiV(ps:List It2)(hps:∀ x∈ps,ItOk x)(hpl:ps.length<1000)(ws:List (List UInt8))(hws:∀ w∈ws,w.length<1000000)(hwl:ws.length<1000000)(at':Nat)(hat:at'<=ws.length) :
  Pc prog 157 [.fz 4 (ps.map itB),.fz 1 (ws.map .str),.int .i64 at'] (· = hitV ps at' (hitI ps ws at')):=by
 unfold hitI
 by_cases h1:at'+ps.length>ws.length
 .have d1:decide ((at':Int)+(ps.length:Int)>(ws.length:Int))=true:=by simp; omega
  rw[if_pos h1];simp only[hitV];refine zpIB func157 rfl fun h ρ w=>?_
  simp only[go_sem,d1,List.length_map]
  repeat refine ai ?_
  exact AcH [.cell 6 130,.tmp 7] rfl [_,_] ⟨by simp only[go_sem,sideIs],rfl,trivial⟩ ⟨rfl,rfl⟩
 have d1:decide ((at':Int)+(ps.length:Int)>(ws.length:Int))=false:=by simp; omega
 rw[if_neg h1];refine zpIB func157 rfl fun h ρ w=>?_
 simp only[go_sem,d1,List.length_map]
 repeat refine ai ?_
 refine AaC (ι:=Nat) (fun i=>ps.length-i) (fun i=>[(25,.int .i64 i),(24,.int .i64 ps.length),(23,.fz 4 (ps.map itB)),(8,.ptr 1 1 0 0),(6,.ptr 0 1 0 0),(2,.int .i64 at'),(1,.fz 1 (ws.map .str))])
  (fun i=>[.arr 3 [.agg [.int .i64 0,.int .i64 0,.int .i64 0]],.arr 3 [.agg [.int .i64 at',.int .i64 ps.length,.int .i64 (AhI ps ws at' i)]]]) (fun i=>i<=ps.length/\allM ps ws at' i=true) 0 ⟨Nat.zero_le _,rfl⟩ ?_ ?_
 .refine Shift.weakS ?_ rfl
  simp only[go_sem,AhI]
  try rfl
 rintro i ⟨g1,g2⟩ J hJ
 by_cases hi:i<ps.length
 .have di:decide ((i:Int)<(ps.length:Int))=true:=by simp; omega
  have p1:=BiU ps i hi;have hwi:at'+i<ws.length:=by omega
  have hwe:ws.getD (at'+i) []=ws[at'+i]:=by simp[List.getD,hwi]
  have p2:(ws.map AV.str).getD (at'+i) .any=.str (ws.getD (at'+i) []):=by simp[List.getD,hwi]
  have e1:((at':Int)+(i:Int)).toNat=at'+i:=by omega
  have hxm:ps.getD i it0∈ps:=by
   rw[List.getD_eq_getElem?_getD,List.getElem?_eq_getElem hi];exact List.getElem_mem hi
  have hwm:(ws.getD (at'+i) []).length<1000000:=by rw[hwe]; exact hws _ (List.getElem_mem hwi)
  have hm:=BiT _ (hps _ hxm) _ hwm;have hc:=A8E _ hwm;have hbad:=fun h=>show(if allM ps ws at' ps.length then some (if AhI ps ws at' ps.length<1 then 1 else AhI ps ws at' ps.length) else none)=none by rw[BdP ps ws at' ps.length i hi h]; rfl
  have hfin:=fun(h:matI (ps.getD i it0) (ws.getD (at'+i) [])=true)=>hJ (i+1) ⟨by omega,by rw[allM_succ,g2,h]; rfl⟩ (by omega)
  rw[AhI]at hfin;clear hJ hxm hps;generalize ps.getD i it0=x at *;obtain⟨x1,x2,x3,x4⟩:=x;simp only at hfin
  cases x4 with
  | none =>
   simp only[itB,wdsA]at p1 hm
   cases hmt:matI ⟨x1,x2,x3,none⟩ (ws.getD (at'+i) [])with
   | false =>
    rw[hmt]at hm;refine zgB ?_;simp only[go_sem,di,p1,List.length_map]
    repeat first|refine And.intro (by first|exact hm.at) ?_|refine ai ?_
    refine zr [.bool false] mixed ?_;simp only[go_sem,p2,e1,List.length_map]
    repeat first|refine And.intro (by first|exact hm.at) ?_|refine ai ?_
    rw[hbad hmt];refine zgB ?_;simp only[go_sem]
    repeat first|refine And.intro (by first|exact hm.at) ?_|refine ai ?_
    exact AcH [.cell 6 130,.tmp 7] rfl [_,_] ⟨by simp only[go_sem,sideIs],rfl,trivial⟩ ⟨rfl,rfl⟩
   | true =>
    rw[hmt]at hm;have hfin:=hfin hmt
    cases x2 with
    | false =>
     simp only[Bool.false_and,Bool.false_eq_true,if_false]at hfin;refine zgB ?_;simp only[go_sem,di,p1,List.length_map]
     repeat first|refine And.intro (by first|exact hm.at) ?_|refine ai ?_
     refine zr [.bool true] mixed ?_;simp only[go_sem,p2,e1,List.length_map]
     repeat first|refine And.intro (by first|exact hm.at) ?_|refine ai ?_
     refine zgB ?_;simp only[go_sem,p2,e1,List.length_map]
     repeat first|refine And.intro (by first|exact hm.at) ?_|refine ai ?_
     rw[ic i];refine ainv hfin (Shift.trans (Shift.low 2 (by simp) (by simp) (e':=[(25,.int .i64 (i+1:Nat)),(24,.int .i64 ps.length),(23,.fz 4 (ps.map itB)),(8,.ptr 1 1 0 0),(6,.ptr 0 1 0 0),(2,.int .i64 at'),(1,.fz 1 (ws.map .str))]) rfl ?_) (Shift.weakS ?_ rfl))
     .simp only [go_sem]
     .simp only [go_sem]
    | true =>
     by_cases hz:AhI ps ws at' i=0
     .have dz:(AhI ps ws at' i==0)=true:=by simpa using hz
      simp only[Bool.true_and,dz,if_true]at hfin;refine zgB ?_;simp only[go_sem,di,p1,List.length_map]
      repeat first|refine And.intro (by first|exact hm.at) ?_|refine ai ?_
      refine zr [.bool true] mixed ?_;simp only[go_sem,p2,e1,List.length_map]
      repeat first|refine And.intro (by first|exact hm.at) ?_|refine ai ?_
      refine zgB ?_;simp only[go_sem,p2,e1,List.length_map,dz]
      repeat first|refine And.intro (by first|exact hm.at) ?_|refine ai ?_
      refine zpB (hc) ?_;simp only[go_sem]
      repeat first|refine And.intro (by first|exact hm.at) ?_|refine ai ?_
      rw[ic i];refine ainv hfin (Shift.trans (Shift.low 2 (by simp) (by simp) (e':=[(25,.int .i64 (i+1:Nat)),(24,.int .i64 ps.length),(23,.fz 4 (ps.map itB)),(8,.ptr 1 1 0 0),(6,.ptr 0 1 0 0),(2,.int .i64 at'),(1,.fz 1 (ws.map .str))]) rfl ?_) (Shift.weakS ?_ rfl))
      .simp only [go_sem]
      .simp only [go_sem]
     .have dz:(AhI ps ws at' i==0)=false:=by simpa using hz
      simp only[Bool.true_and,dz,Bool.false_eq_true,if_false]at hfin;refine zgB ?_;simp only[go_sem,di,p1,List.length_map]
      repeat first|refine And.intro (by first|exact hm.at) ?_|refine ai ?_
      refine zr [.bool true] mixed ?_;simp only[go_sem,p2,e1,List.length_map]
      repeat first|refine And.intro (by first|exact hm.at) ?_|refine ai ?_
      refine zgB ?_;simp only[go_sem,p2,e1,List.length_map,dz]
      repeat first|refine And.intro (by first|exact hm.at) ?_|refine ai ?_
      rw[ic i];refine ainv hfin (Shift.trans (Shift.low 2 (by simp) (by simp) (e':=[(25,.int .i64 (i+1:Nat)),(24,.int .i64 ps.length),(23,.fz 4 (ps.map itB)),(8,.ptr 1 1 0 0),(6,.ptr 0 1 0 0),(2,.int .i64 at'),(1,.fz 1 (ws.map .str))]) rfl ?_) (Shift.weakS ?_ rfl))
      .simp only [go_sem]
      .simp only [go_sem]
  | some l0 =>
   simp only[itB,wdsA]at p1 hm
   cases hmt:matI ⟨x1,x2,x3,some l0⟩ (ws.getD (at'+i) [])with
   | false =>
    rw[hmt]at hm;refine zgB ?_;simp only[go_sem,di,p1,List.length_map]
    repeat first|refine And.intro (by first|exact hm.at) ?_|refine ai ?_
    refine zr [.bool false] mixed ?_;simp only[go_sem,p2,e1,List.length_map]
    repeat first|refine And.intro (by first|exact hm.at) ?_|refine ai ?_
    rw[hbad hmt];refine zgB ?_;simp only[go_sem]
    repeat first|refine And.intro (by first|exact hm.at) ?_|refine ai ?_
    exact AcH [.cell 6 130,.tmp 7] rfl [_,_] ⟨by simp only[go_sem,sideIs],rfl,trivial⟩ ⟨rfl,rfl⟩
   | true =>
    rw[hmt]at hm;have hfin:=hfin hmt
    cases x2 with
    | false =>
     simp only[Bool.false_and,Bool.false_eq_true,if_false]at hfin;refine zgB ?_;simp only[go_sem,di,p1,List.length_map]
     repeat first|refine And.intro (by first|exact hm.at) ?_|refine ai ?_
     refine zr [.bool true] mixed ?_;simp only[go_sem,p2,e1,List.length_map]
     repeat first|refine And.intro (by first|exact hm.at) ?_|refine ai ?_
     refine zgB ?_;simp only[go_sem,p2,e1,List.length_map]
     repeat first|refine And.intro (by first|exact hm.at) ?_|refine ai ?_
     rw[ic i];refine ainv hfin (Shift.trans (Shift.low 2 (by simp) (by simp) (e':=[(25,.int .i64 (i+1:Nat)),(24,.int .i64 ps.length),(23,.fz 4 (ps.map itB)),(8,.ptr 1 1 0 0),(6,.ptr 0 1 0 0),(2,.int .i64 at'),(1,.fz 1 (ws.map .str))]) rfl ?_) (Shift.weakS ?_ rfl))
     .simp only [go_sem]
     .simp only [go_sem]
    | true =>
     by_cases hz:AhI ps ws at' i=0
     .have dz:(AhI ps ws at' i==0)=true:=by simpa using hz
      simp only[Bool.true_and,dz,if_true]at hfin;refine zgB ?_;simp only[go_sem,di,p1,List.length_map]
      repeat first|refine And.intro (by first|exact hm.at) ?_|refine ai ?_
      refine zr [.bool true] mixed ?_;simp only[go_sem,p2,e1,List.length_map]
      repeat first|refine And.intro (by first|exact hm.at) ?_|refine ai ?_
      refine zgB ?_;simp only[go_sem,p2,e1,List.length_map,dz]
      repeat first|refine And.intro (by first|exact hm.at) ?_|refine ai ?_
      refine zpB (hc) ?_;simp only[go_sem]
      repeat first|refine And.intro (by first|exact hm.at) ?_|refine ai ?_
      rw[ic i];refine ainv hfin (Shift.trans (Shift.low 2 (by simp) (by simp) (e':=[(25,.int .i64 (i+1:Nat)),(24,.int .i64 ps.length),(23,.fz 4 (ps.map itB)),(8,.ptr 1 1 0 0),(6,.ptr 0 1 0 0),(2,.int .i64 at'),(1,.fz 1 (ws.map .str))]) rfl ?_) (Shift.weakS ?_ rfl))
      .simp only [go_sem]
      .simp only [go_sem]
     .have dz:(AhI ps ws at' i==0)=false:=by simpa using hz
      simp only[Bool.true_and,dz,Bool.false_eq_true,if_false]at hfin;refine zgB ?_;simp only[go_sem,di,p1,List.length_map]
      repeat first|refine And.intro (by first|exact hm.at) ?_|refine ai ?_
      refine zr [.bool true] mixed ?_;simp only[go_sem,p2,e1,List.length_map]
      repeat first|refine And.intro (by first|exact hm.at) ?_|refine ai ?_
      refine zgB ?_;simp only[go_sem,p2,e1,List.length_map,dz]
      repeat first|refine And.intro (by first|exact hm.at) ?_|refine ai ?_
      rw[ic i];refine ainv hfin (Shift.trans (Shift.low 2 (by simp) (by simp) (e':=[(25,.int .i64 (i+1:Nat)),(24,.int .i64 ps.length),(23,.fz 4 (ps.map itB)),(8,.ptr 1 1 0 0),(6,.ptr 0 1 0 0),(2,.int .i64 at'),(1,.fz 1 (ws.map .str))]) rfl ?_) (Shift.weakS ?_ rfl))
      .simp only [go_sem]
      .simp only [go_sem]
 .have di:decide ((i:Int)<(ps.length:Int))=false:=by simp; omega
  have hie:i=ps.length:=by omega
  subst hie;rw[g2,if_pos rfl];simp only[hitV];clear hJ;refine zgB ?_;simp only[go_sem,di];exact AcH [.cell 6 130,.tmp 7] rfl [_,_] ⟨by simp only[go_sem,sideIs],rfl,trivial⟩ ⟨rfl,rfl⟩
def hitsTo(ps:List It2)(ws:List (List UInt8)):Nat->Nat->List (Nat×Int)
 | 0,_=>[]
 | f+1,a=>if a<ws.length then(match hitI ps ws a with
  | none=>hitsTo ps ws f (a+1)
  | some c=>(a,c)::hitsTo ps ws f (a+ps.length)) else[]
theorem AeS(ps:List It2)(ws:List (List UInt8))(hp:1<=ps.length):∀ (f g a:Nat),ws.length+1<=f+a->ws.length+1<=g+a->hitsTo ps ws f a=hitsTo ps ws g a
 | 0,0,_,_,_=>rfl
 | 0,g+1,a,h1,h2=>by
  rw[hitsTo,hitsTo,if_neg (by omega)]
 | f+1,0,a,h1,h2=>by
  rw[hitsTo,hitsTo,if_neg (by omega)]
 | f+1,g+1,a,h1,h2=>by
  rw[hitsTo,hitsTo]
  split
  .rw [AeS ps ws hp f g (a+1) (by omega) (by omega),AeS ps ws hp f g (a+ps.length) (by omega) (by omega)]
  .rfl
def hitsI(ps:List It2)(ws:List (List UInt8))(a:Nat):List (Nat×Int):=hitsTo ps ws (ws.length+1) a
theorem A8F(ps:List It2)(ws:List (List UInt8))(a:Nat)(h:ws.length<=a):hitsI ps ws a=[]:=by
 unfold hitsI;rw[hitsTo,if_neg (by omega)]
theorem A2X{ps:List It2}{ws:List (List UInt8)}{a:Nat}(hp:1<=ps.length)(h:a<ws.length)(hq:hitI ps ws a=none):hitsI ps ws a=hitsI ps ws (a+1):=by
 unfold hitsI;rw[hitsTo,if_pos h,hq];exact AeS ps ws hp _ _ _ (by omega) (by omega)
theorem A2Y{ps:List It2}{ws:List (List UInt8)}{a:Nat}{c:Int}(hp:1<=ps.length)(h:a<ws.length)(hq:hitI ps ws a=some c):hitsI ps ws a=(a,c)::hitsI ps ws (a+ps.length):=by
 unfold hitsI;rw[hitsTo,if_pos h,hq];simp only;rw[AeS ps ws hp ws.length (ws.length+1) (a+ps.length) (by omega) (by omega)]
def hA(ps:List It2)(x:Nat×Int):AV:=.agg [.int .i64 x.1,.int .i64 ps.length,.int .i64 x.2]
theorem A0K(ps:List It2):∀ l:List (Nat×Int),(flat (l.map (hA ps))).all Av.frozen=true
 | []=>rfl
 | a::l=>by simpa[hA,flat,cellsOf,Av.frozen]using A0K ps l
theorem A8G{ps:List It2}{ws:List (List UInt8)}{a:Nat}{c:Int}(hq:hitI ps ws a=some c):a+ps.length<=ws.length:=by
 unfold hitI at hq
 split at hq
 .cases hq
 .omega
theorem BdQ(ps:List It2)(hps:∀ x∈ps,ItOk x)(hp1:1<=ps.length)(hpl:ps.length<1000)(ws:List (List UInt8))(hws:∀ w∈ws,w.length<1000000)(hwl:ws.length<1000000) :
  Pc prog 107 [.fz 4 (ps.map itB),.fz 1 (ws.map .str)] (· = .fz 3 ((hitsI ps ws 0).map (hA ps))):=by
 refine zpIB func107 rfl fun h ρ w=>?_
 simp only[go_sem];refine AaC (ι:=Nat×List (Nat×Int)) (fun y=>ws.length-y.1) (fun y=>[(6,.int .i64 y.1),(5,.sl 0 0 y.2.length y.2.length),(1,.fz 1 (ws.map .str)),(0,.fz 4 (ps.map itB))])
  (fun y=>[.arr 3 (y.2.map (hA ps))]) (fun y=>y.1<=ws.length/\y.2.length<=y.1/\y.2++hitsI ps ws y.1=hitsI ps ws 0) (0,[]) ⟨by simp,by simp,rfl⟩ ?_ ?_
 .refine Shift.trans (Shift.nilsl 5 3 rfl) (Shift.weakS ?_ rfl)
  simp only[go_sem]
  try rfl
 rintro⟨a,o⟩ ⟨g1,g2,g3⟩ J hJ;simp only at g1 g2 g3 hJ |-;have hol:(o.map (hA ps)).length=o.length:=by simp
 by_cases ga:a<ws.length
 .have da:decide ((a:Int)<(ws.length:Int))=true:=by simp; omega
  have hc:=BiV ps hps hpl ws hws hwl a (by omega)
  cases hq:hitI ps ws a with
  | none =>
   have hfin:=hJ (a+1,o) ⟨by simp only; omega,by simp only; omega,by simp only; rw[<- A2X hp1 ga hq]; exact g3⟩ (by simp only; omega);rw[hq]at hc;simp only[hitV]at hc;clear hJ;refine zgB ?_;simp only[go_sem,da,List.length_map]
   repeat refine ai ?_
   refine zpB (hc) ?_;simp only[go_sem]
   repeat refine ai ?_
   rw[ic a];refine ainv hfin ?_;refine Shift.trans (Shift.low 1 (by simp) (by simp) (e':=[(6,.int .i64 (a+1:Nat)),(5,.sl 0 0 o.length o.length),(1,.fz 1 (ws.map .str)),(0,.fz 4 (ps.map itB))]) (by simp only[List.take_succ_cons,List.take_zero,List.all_cons,List.all_nil,Bool.and_true]; exact AaD (A0K ps o)) ?_) (Shift.weakS ?_ rfl)
   .simp only [go_sem]
    try simp
   .simp only [go_sem]
  | some c =>
   have hle:=A8G hq;have hfin:=hJ (a+ps.length,o++[(a,c)]) ⟨by simp only; omega,by simp; omega,by simp only; rw[<- g3,A2Y hp1 ga hq]; simp⟩ (by simp only; omega);rw[hq]at hc;simp only[hitV]at hc;simp only[List.map_append,List.map_cons,List.map_nil,List.length_append,List.length_cons,List.length_nil,Nat.zero_add]at hfin;have hfz:lowB 1 (.arr 3 (o.map (hA ps)++[hA ps (a,c)]))=true:=AaD (by
    have:=A0K ps (o++[(a,c)]);rw[List.map_append]at this;exact this)
   simp only[hA]at hfin hfz hol |-;generalize o.map (hA ps)=O at *;clear hJ;refine zgB ?_;simp only[go_sem,da,hol,List.length_map]
   repeat refine ai ?_
   refine zpB (hc) ?_;simp only[go_sem,hol,List.length_map]
   repeat refine ai ?_
   rw[show(a:Int)+(ps.length:Int)=((a+ps.length:Nat):Int) by omega];refine ainv hfin ?_;refine Shift.trans (Shift.low 1 (by simp) (by simp) (e':=[(6,.int .i64 (a+ps.length:Nat)),(5,.sl 0 0 (o.length+1) (o.length+1)),(1,.fz 1 (ws.map .str)),(0,.fz 4 (ps.map itB))]) (by simp only[List.take_succ_cons,List.take_zero,List.all_cons,List.all_nil,Bool.and_true]; exact hfz) ?_) (Shift.weakS ?_ rfl)
   .simp only [go_sem]
    try simp
   .simp only [go_sem]
 .have da:decide ((a:Int)<(ws.length:Int))=false:=by simp; omega
  rw[A8F ps ws a (by omega),List.append_nil]at g3;subst g3;clear hJ;generalize hitsI ps ws 0=o at *;have hcf:=A0K ps o;refine zgB ?_;simp only[go_sem,da,List.length_map];refine ARet.shift (Shift.freeze 4 (id:=0) (l:=o.map (hA ps)) rfl rfl (by simp) (Nat.le_refl _) hcf) (aret [4] rfl ⟨?_,rfl⟩);simp only[resV,Av.get,Av.put,List.map_cons,List.map_nil,beq_self_eq_true,cond_true,List.drop_zero,Nat.reduceBEq,cond_false];rw[List.take_of_length_le (by simp)]
def PatA:List (List UInt8):=[[103,117,110,42],[114,101,100],[63],[35],[99,97,114,124,103,117,110,115],[115,111,108,100,105,101,114,115],[97,124,116,104,101],[116,119,111],[100,111,110,39,116],[49,50]]
def PatB:List (List UInt8):=[[],[42],[97,124],[124,97],[71,117,110],[97,32,32,98],[32,97],[97,42,98],[39],[35,97],[97,124,98,42],Lib.repeatL [119] 20,Lib.repeatL [119] 21]
def patW(L:List Int)(k:Int)(n:Nat):List (List UInt8):=(List.range n).map fun i:Nat=>oneF L (k+i) PatA
theorem patW_succ(L:List Int)(k:Int)(n:Nat):patW L k (n+1)=patW L k n++[oneF L (k+n) PatA]:=by
 unfold patW;rw[List.range_succ,List.map_append];rfl
theorem A0L(L:List Int)(k:Int)(n:Nat):(patW L k n).length=n:=by simp[patW]
def patM(L:List Int)(k:Int):Nat:=(rangeF L (k+1) 1 (pickF L k [2,2,3,9])).toNat
def patF(L:List Int)(k:Int):List UInt8×Int :=
 if flipF L (k+1+1+patM L k) 6 then(oneF L (k+1+1+patM L k+1) PatB,k+1+1+patM L k+1+1) else(Lib.join (patW L (k+1+1) (patM L k)) [32],k+1+1+patM L k+1)
theorem A8H(L:List Int)(k:Int):2<=pickF L k [2,2,3,9]/\pickF L k [2,2,3,9]<=9:=by
 have h:pickF L k [2,2,3,9]∈[2,2,3,9]:=by
  unfold pickF;have:=AcV L k (([2,2,3,9]:List Int).length:Nat) (by decide);have hv:(nx L k (([2,2,3,9]:List Int).length:Nat)).toNat<([2,2,3,9]:List Int).length:=by
   simp only[List.length_cons,List.length_nil]at this |-;omega
  rw[List.getD_eq_getElem?_getD,List.getElem?_eq_getElem hv];exact List.getElem_mem hv
 simp only[List.mem_cons,List.not_mem_nil,or_false]at h;omega
theorem A8I(L:List Int)(k:Int):1<=patM L k/\patM L k<=9/\(patM L k:Int)=rangeF L (k+1) 1 (pickF L k [2,2,3,9]):=by
 have h1:=A8H L k;unfold patM rangeF;have:=AcV L (k+1) (pickF L k [2,2,3,9]-1+1) (by omega);omega
theorem A0M:∀ s∈PatA,s.length<=8:=by decide
theorem BdR:∀ s∈PatB,s.length<=21:=by decide
theorem ArO:∀ ls:List (List UInt8),(∀ s∈ls,s.length<=8)->(Lib.join ls [32]).length<=9*ls.length
 | [],_=>by simp[Lib.join]
 | [a],h=>by
  have:=h a (by simp);rw[Lib.join_cons]
  simp[Lib.joinTail]
  omega
 | a::b::r,h=>by
  have ih:=ArO (b::r) fun s hs=>h s (List.mem_cons_of_mem _ hs)
  have:=h a (by simp);rw[Lib.join_cons]at ih |-;have e:Lib.joinTail [32] (b::r)=32::(b++Lib.joinTail [32] r):=by simp[Lib.joinTail]
  rw[e];simp only[List.length_append,List.length_cons]at ih |-;omega
theorem AxG(L:List Int)(k:Int):(patF L k).1.length<=100/\k<=(patF L k).2/\(patF L k).2<=k+20:=by
 have hm:=A8I L k;unfold patF
 split
 .have:=BdR _ (AaI (L:=L) (k:=k+1+1+patM L k+1) (ls:=PatB) (by decide))
  refine⟨by simp only; omega,by simp only; omega,by simp only; omega⟩
 .have:=ArO (patW L (k+1+1) (patM L k)) fun s hs=>by
   unfold patW at hs;obtain⟨i,_,rfl⟩:=List.mem_map.1 hs;exact A0M _ (AaI (by decide))
  rw[A0L]at this;refine⟨by simp only; omega,by simp only; omega,by simp only; omega⟩
theorem BiW(L:List Int)(k:Int)(h3:0<=k)(h4:k<=800000):Mc prog 45 2 (str L k) [] (fun r s=>r=.str (patF L k).1/\s=str L (patF L k).2):=by
 have hpb:=A8H L k;have hm:=A8I L k;have hpi:=AcR L k [2,2,3,9] (by decide) (by decide) h3 (by omega);have hra:=AdM L (k+1) 1 (pickF L k [2,2,3,9]) (by decide) (by omega) (by omega) (by omega) (by omega);rw[<- hm.2.2]at hra;have hr1:=AeG [119] 20 (by decide) (by decide);have hr2:=AeG [119] 21 (by decide) (by decide);have hjl:=ArO (patW L (k+1+1) (patM L k)) fun s hs=>by
  unfold patW at hs;obtain⟨i,_,rfl⟩:=List.mem_map.1 hs;exact A0M _ (AaI (by decide))
 have hwl:=A0L L (k+1+1);rw[hwl]at hjl;have hjo:=AzU (patW L (k+1+1) (patM L k)) [32] (by rw[hwl]; omega) (by omega);have hfl:=AaZ L (k+1+1+patM L k) 6 (by decide) (by decide) (by omega) (by omega);have hob:=AbJ L (k+1+1+patM L k+1) PatB (by decide) (by decide) (by omega) (by omega);unfold patF;generalize pickF L k [2,2,3,9]=v1 at *;generalize patM L k=n at *;refine zcIB func45 rfl fun h ρ w=>?_
 simp only[go_sem];refine zm 0 (hpi) ?_;rintro _ _ ⟨rfl,rfl⟩;refine zgB ?_;simp only[go_sem];refine zm 0 (hra) ?_;rintro _ _ ⟨rfl,rfl⟩;refine zgB ?_;simp only[go_sem];refine AaC (ι:=Nat) (fun i=>n-i)
  (fun i=>[(10,.int .i64 i),(9,.int .i64 n),(3,.sl 1 0 i i),(0,.ptr 0 1 0 0)])
  (fun i=>[.arr 2 [str L (k+1+1+i)],.arr 1 ((patW L (k+1+1) i).map .str)]) (fun i=>i<=n) 0 (by simp) ?_ ?_
 .refine Shift.trans (Shift.nilsl 3 1 rfl) (Shift.weakS ?_ ?_)
  .simp only [go_sem,List.length_map]
   try rfl
  .simp [patW]
 intro i g1 J hJ;have hil:((patW L (k+1+1) i).map AV.str).length=i:=by rw[List.length_map,hwl]
 by_cases gi:i<n
 .have di:decide ((i:Int)<(n:Int))=true:=by simp; omega
  have hfin:=hJ (i+1) (by omega) (by omega);have hoa:=AbJ L (k+1+1+i) PatA (by decide) (by decide) (by omega) (by omega);rw[patW_succ,List.map_append,List.map_cons,List.map_nil,show k+1+1+((i+1:Nat):Int)=k+1+1+i+1 by omega]at hfin;generalize oneF L (k+1+1+i) PatA=w at *;generalize (patW L (k+1+1) i).map AV.str=W at *;clear hJ;refine zgB ?_;simp only[go_sem,di];refine zm 0 (hoa) ?_;rintro _ _ ⟨rfl,rfl⟩;refine zgB ?_;simp only[go_sem,hil]
  repeat refine ai ?_
  rw[ic i];refine ainv hfin (Shift.weakS ?_ rfl);simp only[go_sem]
 .have di:decide ((i:Int)<(n:Int))=false:=by simp; omega
  have hin:i=n:=by omega
  subst hin;have hcf:(flat ((patW L (k+1+1) i).map AV.str)).all Av.frozen=true:=by
   generalize patW L (k+1+1) i=l
   induction l with
   | nil=>rfl
   | cons a l ih=>simpa[flat,cellsOf,Av.frozen]using ih
  generalize patW L (k+1+1) i=l at *;clear hJ;have htk:((l.map AV.str).drop 0).take i=l.map AV.str:=by rw[List.drop_zero,List.take_of_length_le (by omega)]
  refine AWp.shift (Shift.freeze 3 (id:=1) (l:=l.map .str) rfl rfl (by omega) (Nat.le_refl _) hcf) ?_;rw[htk];generalize hp:Lib.join l [32]=p at *;unfold strs at hjo;generalize flipF L (k+1+1+i) 6=b at *;generalize oneF L (k+1+1+i+1) PatB=w at *;refine zgB ?_;simp only[go_sem,di];refine zpB (hjo) ?_;simp only[go_sem];refine zm 0 (hfl) ?_;rintro _ _ ⟨rfl,rfl⟩
  cases b with
  | true =>
   refine zgB ?_;simp only[go_sem];refine zpB (hr1) ?_;simp only[go_sem];refine zpB (hr2) ?_;simp only[go_sem];refine zm 0 (hob) ?_;rintro _ _ ⟨rfl,rfl⟩;refine zgB ?_;simp only[go_sem];exact AcH [.tmp 2] rfl [_] ⟨by simp only[go_sem,sideIs],trivial⟩ ⟨_,_,rfl,rfl,rfl,rfl,rfl⟩
  | false =>
   refine zgB ?_;simp only[go_sem];exact AcH [.tmp 2] rfl [_] ⟨by simp only[go_sem,sideIs],trivial⟩ ⟨_,_,rfl,rfl,rfl,rfl,rfl⟩
