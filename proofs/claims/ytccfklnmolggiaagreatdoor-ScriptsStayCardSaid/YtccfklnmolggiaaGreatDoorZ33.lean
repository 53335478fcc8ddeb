/- A text in lines, headings: the reference, walked. -/
import Derived.Test.YtccfklnmolggiaaGreatDoorZ32
set_option maxRecDepth 100000
set_option maxHeartbeats 2000000
set_option linter.all false
namespace Go.Proofs.YtccfklnmolggiaaGreatDoor
open Av RowKit Proofs.Tryz
theorem AhP{S:Std}(hS:LibR S)(t:LU)(W:Nat)(hW:0<W)(hW2:W<=1000)(hl:t.length<100000)(hc:spOk t)(ha:AeX t):PcH prog S 113 [.str t,.int .i64 W] (· = .fz 1 ((wrapL W t).map .str)):=by
 have hf:=A1H hS t (by omega) ha;obtain⟨hn,he⟩:=A5N t;rw[BdF hc];have hne:=A8K hc;simp only[strs]at hf;generalize Lib.fields t=ws at *;refine zqIF func113 rfl fun h ρ w hg=>?_
 simp only[go_sem];refine zqF hg (hf) ?_;simp only[go_sem,laa];refine AaI (ι:=Nat) (fun j=>ws.length-j)
  (fun j=>[(12,.int .i64 j),(11,.int .i64 ws.length),(10,.fz 1 (ws.map .str)),(5,.sl 0 0 (outW (wsR W ws j)).length (outW (wsR W ws j)).length),(1,.int .i64 W)])
  (fun j=>[.arr 1 ((outW (wsR W ws j)).map .str)]) (fun j=>j<=ws.length) 0 (by omega) ?_ ?_
 .refine Shift.trans (Ll 5 1 rfl) (Lp ?_ (by rfl))
  simp only[go_sem];rfl
 .intro j g1 J hJ
  have hlen:=A8L (W:=W) he j g1;have hlo:=BdG (wsR W ws j);have hm1:j*(t.length+1)<=100000*100001:=Nat.mul_le_mul (by omega) (by omega)
  by_cases gj:j<ws.length
  .have dj:decide ((j:Int)<(ws.length:Int))=true:=by simp; omega
   have hg':List.getD (ws.map AV.str) j .any=.str ws[j]:=by simp[List.getD,gj]
   have hw:=hne ws[j] (lai _);have hwl:=he ws[j] (lai _);have hstep:=BdH hW (wsR W ws j) hw;rw[<- A0E gj]at hstep;have hfin:=hJ (j+1) (by omega) (by omega);rw[hstep]at hfin;generalize ws[j]=w at *;have hwi:(wsR W ws j).2=[]->(wsR W ws j).1=[]:=(AhM hW (ws.take j) ([],[]) ⟨by simp,by simp⟩).1.2;generalize wsR W ws j=s at *;obtain⟨A,c⟩:=s;simp only at hlen hfin hwi
   by_cases hfit:c≠[]/\c.length+1+w.length<=W
   .rw [if_pos hfit]at hfin
    have eO:outW (A,c)=A++[c]:=by simp[outW,hfit.1]
    rw[eO]at hlo |-;have hk:((A.length+1:Nat):Int)-1=(A.length:Int):=by omega
    have d0:decide ((A.length:Int)>=0)=true:=by simp
    have d1:decide ((c.length:Int)+1+(w.length:Int)<=(W:Int))=true:=by simp; omega
    have gA:List.getD (List.map AV.str (A++[c])) A.length .any=.str c:=by simp[List.getD]
    have sA:List.set (List.map AV.str (A++[c])) A.length (.str (c++32::w))=List.map AV.str (A++[c++32::w]):=by simp
    simp only[lak,laf,lar,lau]at hfin |-;apply zgF;simp only[go_sem,dj,hg',hk,d0,d1,gA,sA,laa]
    repeat refine aqb ?_
    rw[ic j];refine ainv hfin (Lo ?_);simp only[go_sem]
   .rw [if_neg hfit]at hfin
    have hWI:c=[]->A=[]:=hwi;have hcs:outW (A,c)=[]\/(outW (A,c)=A++[c]/\decide ((c.length:Int)+1+(w.length:Int)<=(W:Int))=false):=by
     by_cases h0:c=[]
     .exact .inl (by simp[outW,h0,hWI h0])
     .refine .inr ⟨by simp[outW,h0],?_⟩
      rw[lbu];exact fun h=>hfit ⟨h0,by omega⟩
    obtain⟨O,hO⟩:∃ O,O=outW (A,c):=⟨_,rfl⟩;rw[<- hO]at hcs hlo hfin |-;simp only at hlo;refine hcs.elim (fun eO=>?_) (fun heO=>?_);have d0:decide (((0:Nat):Int)-1>=0)=false:=by decide
    rw[eO];simp only[lar,laq];apply zgF;simp only[go_sem,dj,hg',d0,laa]
    rotate_left
    obtain⟨eO,d1⟩:=heO;have hk:((A.length+1:Nat):Int)-1=(A.length:Int):=by omega
    have d0:decide ((A.length:Int)>=0)=true:=by simp
    have gA:List.getD (List.map AV.str (A++[c])) A.length .any=.str c:=by simp[List.getD]
    rw[eO];simp only[lak,laf,lar,lau];apply zgF;simp only[go_sem,dj,hg',hk,d0,d1,gA,laa]
    all_goals
     repeat refine aqb ?_
     refine AWp.shift (e':=[(5,.sl 0 0 O.length O.length),(7,.str w),(12,.int .i64 j),(11,.int .i64 ws.length),(10,.fz 1 (ws.map .str)),(1,.int .i64 W)]) (s':=[.arr 1 (O.map .str)]) (Lp (by rw[eO]; simp only[go_sem]) (by rw[eO] <;> rfl)) ?_;refine AaI (ι:=List LU×LU) (fun x=>x.2.length)
      (fun x=>[(5,.sl 0 0 x.1.length x.1.length),(7,.str x.2),(12,.int .i64 j),(11,.int .i64 ws.length),(10,.fz 1 (ws.map .str)),(1,.int .i64 W)])
      (fun x=>[.arr 1 (x.1.map .str)]) (fun x=>x.1++(chop W x.2).1++[(chop W x.2).2]=O++(chop W w).1++[(chop W w).2]/\x.1.length+x.2.length<=20000000000/\x.2.length<=1000000) (O,w) ⟨rfl,by simp only; omega,by simp only; omega⟩ ?_ ?_
     .refine Lo ?_
      simp only[go_sem]
     .rintro ⟨O',w'⟩ ⟨k1,k2,k3⟩ J2 hJ2
      simp only at k1 k2 k3 hJ2 |-
      by_cases hc:W<w'.length
      .have dc:decide ((w'.length:Int)>(W:Int))=true:=by simp; omega
       have hch:=AcR hc hW;rw[hch]at k1;simp only[lae,las,lbm]at k1;have hfin2:=hJ2 (O'++[w'.take W],w'.drop W) ⟨by simpa only [lae,las,lbm]using k1,by simp; omega,by simp; omega⟩ (by simp; omega);simp only[lak,laf,lar,lau]at hfin2;apply zgF;simp only[go_sem,dc];refine A8N (0) [] AaJ (by decide) rfl rfl 100 ?_;simp only[go_sem,laa,ckb,isApp,appOk]
       repeat refine aqb ?_
       apply zgF;simp only[go_sem,laa];refine ainv hfin2 (Lp ?_ (by simp));simp only[go_sem]
      .have dc:decide ((w'.length:Int)>(W:Int))=false:=by simp; omega
       rw[chop_end hc]at k1;simp only[lbg]at k1;rw[<- k1]at hfin;apply zgF;simp only[go_sem,dc,laa]
       repeat refine aqb ?_
       rw[ic j];refine ainv hfin (Lp ?_ (by simp));simp only[go_sem]
  .have dj:decide ((j:Int)<(ws.length:Int))=false:=by simp; omega
   have hj:j=ws.length:=by omega
   subst hj;apply zgF;simp only[go_sem,dj];refine ARet.shift (Shift.freeze 4 (id:=0) rfl rfl (by simp) (lab _) (AbN _)) (aret [4] rfl ⟨?_,rfl⟩)
   simp[resV,Av.get,Av.put,lag]
def kR(k:Int):Int:=if k==3 then 2 else if k==2 then 5 else k
def spB(b:Bl):List Bool:=if b.kind==3 then b.kinds.map (·==2) else[]
def rbA(b:Bl):AV:=.agg [.int .i64 (kR b.kind),.fz 1 (b.La.map .str),.fz 1 ((spB b).map .bool)]
structure RbOk(b:Bl):Prop where
 kind:b.kind=0\/b.kind=1\/b.kind=2\/b.kind=3
 kinds:b.kind=3->b.kinds.length=b.La.length
 len:b.La.length<=50000000
theorem AuF{b:Bl}(h:RbOk b):(kR b.kind==1)=(b.kind==1)/\(kR b.kind==2)=(b.kind==3)/\(kR b.kind==0)=(b.kind==0):=by
 rcases h.kind with e|e|e|e <;> rw[e] <;> exact⟨rfl,rfl,rfl⟩
theorem BhW(b:Bl)(h:RbOk b):Pc prog 110 [rbA b] (· = .int .i64 ((gapN b:Nat):Int)):=by
 have hk:=(AuF h).2.2;have hg:((gapN b:Nat):Int)=if b.kind==0 then 2 else 1:=by unfold gapN; split <;> rfl
 rw[hg];simp only[rbA]
 cases q:b.kind==0 with
 | true =>
  rw[q]at hk;refine zpIB func110 rfl fun h ρ w=>?_
  simp only[go_sem,hk];exact aret [2] rfl ⟨by simp[resV,Av.get],rfl⟩
 | false =>
  rw[q]at hk;refine zpIB func110 rfl fun h ρ w=>?_
  simp only[go_sem,hk];exact aret [2] rfl ⟨by simp[resV,Av.get],rfl⟩
theorem AmJ(b:Bl)(h:RbOk b)(fr k:Nat)(hf:fr<=50000000)(hk:k<b.La.length):Pc prog 108 [rbA b,.int .i64 (fr:Int),.int .i64 (k:Int)] (· = .bool (breaksL b fr (k+1))):=by
 obtain⟨k1,k2,k0⟩:=AuF h;have hn:=h.len;have hkd:=h.kinds;simp only[rbA];unfold breaksL
 cases q1:b.kind==1 with
 | true =>
  have q3:(b.kind==3)=false:=by
   have:b.kind=1:=by simpa using q1
   rw[this]; rfl
  rw[q1]at k1;rw[q3]at k2;simp only[if_true];have e1:decide ((((k+1:Nat)):Int)-fr>=2)=decide ((k:Int)-fr+1>=2):=by congr 1; apply propext; omega
  have e2:decide ((b.La.length:Int)-((k+1:Nat):Int)>=2)=decide ((b.La.length:Int)-k-1>=2):=by congr 1; apply propext; omega
  rw[e1,e2]
  cases d1:decide ((k:Int)-fr+1>=2)with
  | true =>
   refine zpIB func108 rfl fun h ρ w=>?_
   simp only[go_sem,k1,k2,d1,laa]
   repeat refine aqb ?_
   exact zt [6]
  | false =>
   refine zpIB func108 rfl fun h ρ w=>?_
   simp only[go_sem,k1,k2,d1,laa]
   repeat refine aqb ?_
   exact zt [6]
 | false =>
  rw[q1]at k1;simp only[lan,if_false]
  cases q3:b.kind==3 with
  | false =>
   rw[q3]at k2;simp only[lan,if_false];refine zpIB func108 rfl fun h ρ w=>?_
   simp only[go_sem,k1,k2,laa]
   repeat refine aqb ?_
   exact zt [6]
  | true =>
   rw[q3]at k2;have hkl:=hkd (by simpa using q3);have hsp:spB b=b.kinds.map (·==2):=by unfold spB; rw[q3]; rfl
   have hg:List.getD ((spB b).map AV.bool) k .any=.bool (b.kinds.getD k 0==2):=by
    have:k<b.kinds.length:=by omega
    rw[hsp]; simp[List.getD,this]
   have hsl:((spB b).map AV.bool).length=b.La.length:=by rw[hsp]; simp[hkl]
   simp only[if_true,Nat.add_sub_cancel];have e2:decide ((b.La.length:Int)-((k+1:Nat):Int)>=2)=decide ((b.La.length:Int)-k-1>=2):=by congr 1; apply propext; omega
   rw[e2];generalize hps:(spB b).map AV.bool=ps at *
   by_cases f0:fr=0
   .subst f0
    have e1:decide ((((k+1:Nat)):Int)-((0:Nat):Int)-(if(0:Nat)=0 then 1 else 0)>=2)=decide ((k:Int)-0+1-1>=2):=by rw[if_pos rfl]; congr 1
    rw[e1];simp only[Int.natCast_zero];have d0:((0:Int)==0)=true:=rfl
    cases p:b.kinds.getD k 0==2 with
    | false =>
     rw[p]at hg;refine zpIB func108 rfl fun h ρ w=>?_
     simp only[go_sem,k1,k2,d0,hg,hsl,laa]
     repeat refine aqb ?_
     exact zt [6]
    | true =>
     rw[p]at hg
     cases d1:decide ((k:Int)-0+1-1>=2)with
     | true =>
      refine zpIB func108 rfl fun h ρ w=>?_
      simp only[go_sem,k1,k2,d0,hg,hsl,d1,laa]
      repeat refine aqb ?_
      exact zt [6]
     | false =>
      refine zpIB func108 rfl fun h ρ w=>?_
      simp only[go_sem,k1,k2,d0,hg,hsl,d1,laa]
      repeat refine aqb ?_
      exact zt [6]
   .have e1:decide ((((k+1:Nat)):Int)-fr-(if fr=0 then 1 else 0)>=2)=decide ((k:Int)-fr+1>=2):=by rw[if_neg f0]; congr 1; apply propext; omega
    rw[e1];have d0:((fr:Int)==0)=false:=by rw[lbd]; omega
    cases p:b.kinds.getD k 0==2 with
    | false =>
     rw[p]at hg;refine zpIB func108 rfl fun h ρ w=>?_
     simp only[go_sem,k1,k2,d0,hg,hsl,laa]
     repeat refine aqb ?_
     exact zt [6]
    | true =>
     rw[p]at hg
     cases d1:decide ((k:Int)-fr+1>=2)with
     | true =>
      refine zpIB func108 rfl fun h ρ w=>?_
      simp only[go_sem,k1,k2,d0,hg,hsl,d1,laa]
      repeat refine aqb ?_
      exact zt [6]
     | false =>
      refine zpIB func108 rfl fun h ρ w=>?_
      simp only[go_sem,k1,k2,d0,hg,hsl,d1,laa]
      repeat refine aqb ?_
      exact zt [6]
theorem AuG(b:Bl)(h:RbOk b)(h0:b.La≠[]):Pc prog 68 [rbA b] (· = .int .i64 ((AaH b:Nat):Int)):=by
 obtain⟨k1,k2,k0⟩:=AuF h;have hn:=h.len;have hmb:=fun k hk=>AmJ b h 0 k (by omega) hk
 have hpos:=List.length_pos_iff.2 h0;unfold AaH;simp only[rbA,Int.natCast_zero]at hmb |-
 cases q1:b.kind==1 with
 | true =>
  have q3:(b.kind==3)=false:=by
   have:b.kind=1:=by simpa using q1
   rw[this]; rfl
  rw[q1]at k1;rw[q3]at k2;simp only[lbn,q3,Bool.false_and,lan,if_false]
  cases d1:decide ((b.La.length:Int)>3)with
  | true =>
   refine zpIB func68 rfl fun h ρ w=>?_
   simp only[go_sem,k1,k2,d1,laa];exact zt [2]
  | false =>
   refine zpIB func68 rfl fun h ρ w=>?_
   simp only[go_sem,k1,k2,d1,laa];exact zt [2]
 | false =>
  rw[q1]at k1;simp only[Bool.false_and,lan,if_false]
  cases q3:b.kind==3 with
  | false =>
   rw[q3]at k2;simp only[Bool.false_and,lan,if_false];refine zpIB func68 rfl fun h ρ w=>?_
   simp only[go_sem,k1,k2,laa];exact zt [2]
  | true =>
   rw[q3]at k2;simp only[lbn]
   cases d1:decide ((b.La.length:Int)>4)with
   | false =>
    simp only[lan,if_false];refine zpIB func68 rfl fun h ρ w=>?_
    simp only[go_sem,k1,k2,d1,laa];exact zt [2]
   | true =>
    simp only[if_true];generalize hX:firstB b (b.La.length-1) 1=X;refine zpIB func68 rfl fun h ρ w=>?_
    simp only[go_sem,k1,k2,d1,laa];refine AaI (ι:=Nat) (fun i=>b.La.length-i) (fun i=>[(27,.int .i64 i),(26,.int .i64 b.La.length),(1,.pin 3 [.agg [.int .i64 (kR b.kind),.fz 1 (b.La.map .str),.fz 1 ((spB b).map .bool)]] 0 0)])
     (fun _=>[]) (fun i=>i<=b.La.length/\firstB b (b.La.length-1-i) (i+1)=X) 0 ⟨by omega,hX⟩ ?_ ?_
    .refine Lo ?_
     simp only[go_sem]
    .rintro i ⟨g1,g2⟩ J hJ
     by_cases gi:i<b.La.length
     .have di:decide ((i:Int)<(b.La.length:Int))=true:=by simp; omega
      have hm:=hmb i gi;apply zgB;simp only[go_sem,di];refine zpB (hm) ?_
      cases hq:breaksL b 0 (i+1)with
      | true =>
       have hil:i<b.La.length-1:=by
        by_cases e:i=b.La.length-1
        .rw [show i+1=b.La.length by omega,break_end b 0 hpos]at hq
         cases hq
        .omega
       rw[show b.La.length-1-i=(b.La.length-1-(i+1))+1 by omega]at g2;simp only[firstB,hq,if_true]at g2;subst g2;simp only[go_sem]
       repeat refine aqb ?_
       exact aret [2] rfl ⟨by simp[resV,Av.get]; omega,rfl⟩
      | false =>
       have g2':firstB b (b.La.length-1-(i+1)) (i+1+1)=X:=by
        by_cases e:i=b.La.length-1
        .rw [show b.La.length-1-i=0 by omega]at g2
         rw[show b.La.length-1-(i+1)=0 by omega];exact g2
        .rw [show b.La.length-1-i=(b.La.length-1-(i+1))+1 by omega]at g2
         simp only[firstB,hq,lan,if_false]at g2;exact g2
       simp only[go_sem]
       repeat refine aqb ?_
       rw[ic i];refine ainv (hJ (i+1) ⟨by omega,g2'⟩ (by omega)) (Lo ?_);simp only[go_sem]
     .have di:decide ((i:Int)<(b.La.length:Int))=false:=by simp; omega
      rw[show b.La.length-1-i=0 by omega]at g2;simp only[firstB]at g2;subst g2;apply zgB;simp only[go_sem,di,laa];exact zt [2]
theorem BhX(ps:List (List Ln))(h1:ps.length<=1000000000)(h2:∀ p∈ps,p.length<=54):Pc prog 109 [.pin 1 [.agg [.fz 1 (ps.map pgA)]] 0 0] (· = .int .i64 ((AqR ps:Nat):Int)):=by
 rcases List.eq_nil_or_concat ps with rfl|⟨dn,cur,rfl⟩
 .refine zpIB func109 rfl fun h ρ w=>?_
  simp only[go_sem]
  repeat refine aqb ?_
  exact zt [2]
 .rw [List.concat_eq_append]at *
  have hc:=h2 cur (by simp);have d0:(((dn.length+1:Nat):Int)==0)=false:=by rw[lbd]; omega
  have hk:((dn.length+1:Nat):Int)-1=(dn.length:Int):=by omega
  have hg:List.getD (List.map pgA (dn++[cur])) dn.length .any=.fz 1 (cur.map .str):=by simp[List.getD,pgA]
  rw[room_snoc];simp only[lak,laf,lar,lau]at h1;refine zpIB func109 rfl fun h ρ w=>?_
  simp only[go_sem,d0,laa]
  repeat refine aqb ?_
  refine zr [] AaJ ?_;simp only[go_sem,hk,hg,laa]
  repeat refine aqb ?_
  apply zgB;simp only[go_sem];exact aret [2] rfl ⟨by simp[resV,Av.get]; omega,rfl⟩
theorem A2J(n:Nat)(hn:n<=1000)(ls:List LU)(hl:ls.length<=1000000000)(hs:∀ l∈ls,l.length<=1000000)(h0:ls≠[]) :
  Ct prog 115 [.int .i64 (n:Int),.fz 1 (ls.map .str)] [] (fun r s=>r=.sl 0 0 ls.length ls.length/\s=[.arr 1 ((ls.map (indent n)).map .str)]):=by
 have hr:=AdJ [32] n (by simp; omega) (by omega);have hbl:=AbP n;refine zcIF func115 rfl fun h ρ w=>?_
 simp only[go_sem,laa];refine AaI (ι:=Nat) (fun j=>ls.length-j) (fun j=>[(10,.int .i64 j),(9,.int .i64 ls.length),(8,.fz 1 (ls.map .str)),(5,.sl 0 0 j j),(0,.int .i64 n)])
  (fun j=>[.arr 1 (((ls.take j).map (indent n)).map .str)]) (fun j=>j<=ls.length) 0 (by omega) ?_ ?_
 .refine Shift.trans (Ll 5 1 rfl) (Lp ?_ (by rfl))
  simp only[go_sem]
 .intro j g1 J hJ
  by_cases gj:j<ls.length
  .have dj:decide ((j:Int)<(ls.length:Int))=true:=by simp; omega
   have hg':List.getD (List.map AV.str ls) j .any=.str ls[j]:=by simp[List.getD,gj]
   have hlt:(List.take j ls).length=j:=by simp; omega
   have hlj:=hs ls[j] (lai gj);apply zgF;simp only[go_sem,dj,hg',laa]
   repeat refine aqb ?_
   refine zpF (hr) ?_;simp only[go_sem,hlt,laa]
   repeat refine aqb ?_
   have e1:List.map AV.str (List.map (indent n) (List.take j ls))++[AV.str (Lib.repeatL [32] n++ls[j])]=List.map AV.str (List.map (indent n) (List.take (j+1) ls)):=by
    rw[lal gj]; simp only[lap,lah,laq]; rfl
   rw[e1,show(j:Int)+1=((j+1:Nat):Int) by omega];refine ainv (hJ (j+1) (by omega) (by omega)) (Lo ?_);simp only[go_sem]
  .have dj:decide ((j:Int)<(ls.length:Int))=false:=by simp; omega
   have hj:j=ls.length:=by omega
   subst hj;rw[lbt];apply zgF;simp only[go_sem,dj];exact zt [4]
theorem AiS(n:Nat)(hn:n<=1000)(ls:List LU)(hl:ls.length<=1000000000)(hs:∀ l∈ls,l.length<=1000000) :
  Pc prog 115 [.int .i64 (n:Int),.fz 1 (ls.map .str)] (· = .fz 1 ((ls.map (indent n)).map .str)):=by
 have hr:=AdJ [32] n (by simp; omega) (by omega);have hbl:=AbP n;refine zpIF func115 rfl fun h ρ w=>?_
 simp only[go_sem,laa];refine AaI (ι:=Nat) (fun j=>ls.length-j) (fun j=>[(10,.int .i64 j),(9,.int .i64 ls.length),(8,.fz 1 (ls.map .str)),(5,.sl 0 0 j j),(0,.int .i64 n)])
  (fun j=>[.arr 1 (((ls.take j).map (indent n)).map .str)]) (fun j=>j<=ls.length) 0 (by omega) ?_ ?_
 .refine Shift.trans (Ll 5 1 rfl) (Lp ?_ (by rfl))
  simp only[go_sem]
 .intro j g1 J hJ
  by_cases gj:j<ls.length
  .have dj:decide ((j:Int)<(ls.length:Int))=true:=by simp; omega
   have hg':List.getD (List.map AV.str ls) j .any=.str ls[j]:=by simp[List.getD,gj]
   have hlt:(List.take j ls).length=j:=by simp; omega
   have hlj:=hs ls[j] (lai gj);apply zgF;simp only[go_sem,dj,hg',laa]
   repeat refine aqb ?_
   refine zpF (hr) ?_;simp only[go_sem,hlt,laa]
   repeat refine aqb ?_
   have e1:List.map AV.str (List.map (indent n) (List.take j ls))++[AV.str (Lib.repeatL [32] n++ls[j])]=List.map AV.str (List.map (indent n) (List.take (j+1) ls)):=by
    rw[lal gj]; simp only[lap,lah,laq]; rfl
   rw[e1,show(j:Int)+1=((j+1:Nat):Int) by omega];refine ainv (hJ (j+1) (by omega) (by omega)) (Lo ?_);simp only[go_sem]
  .have dj:decide ((j:Int)<(ls.length:Int))=false:=by simp; omega
   have hj:j=ls.length:=by omega
   subst hj;rw[lbt];refine AWp.shift (Shift.freeze 5 (id:=0) rfl rfl (by simp) (lab _) (AbN _)) ?_;simp only[List.drop_zero,lbs,put];rw[lag (by simp)];apply zgF;simp only[go_sem,dj];exact zt [4]
theorem BhY(n:Nat)(l:List LU):shB n (.arr 1 (l.map .str))=.arr 1 (l.map .str):=by
 simp only[shB,List.map_map]
 congr 1
theorem A2K(n:Nat)(hn:n<=1000)(ls:List LU)(hl:ls.length<=1000000000)(hs:∀ l∈ls,l.length<=1000000)(h0:ls≠[])(T:LB) :
  Ct prog 115 [.int .i64 (n:Int),.fz 1 (ls.map .str)] T (fun r s=>r=.sl T.length 0 ls.length ls.length/\s=T++[.arr 1 ((ls.map (indent n)).map .str)]):=by
 have h:=Ct.liftN (A2J n hn ls hl hs h0) rfl (by rintro r s' ⟨_,rfl⟩; rfl) T;refine⟨h.1,fun hh ρ w vs m r=>(h.2 hh ρ w vs m r).mono ?_⟩;rintro en w' ⟨v,r2,s2,h',ρ',rfl,⟨r,s',⟨rfl,rfl⟩,rfl,rfl⟩,rest⟩;refine⟨v,_,_,h',ρ',rfl,⟨rfl,rfl⟩,?_⟩;have e:List.map (shB T.length) [Blk.arr 1 ((ls.map (indent n)).map .str)]=[.arr 1 ((ls.map (indent n)).map .str)]:=by
  simp only[lah,laq,BhY]
 rw[e]at rest
 simpa only [shV,shC,sh1,lau]using rest
theorem placesR_pc:Pc prog 150 [] (· = .fz 1 placeW):=by
 refine zpIF func150 rfl fun h ρ w=>?_
 simp only[go_sem];exact zt [0]
theorem timesR_pc:Pc prog 151 [] (· = .fz 1 AhF):=by
 refine zpIF func151 rfl fun h ρ w=>?_
 simp only[go_sem];exact zt [0]
theorem AuH(x:Sc)(hp:1<=x.place/\x.place<=3)(ht:1<=x.time/\x.time<=5)(hl:x.no.length<1000001)(hl2:x.set.length<10000):Pc prog 114 [scA x] (· = .str (headL x)):=by
 have h1:=AzG x.place hp;have h2:=A6G x.time ht;have l1:=AeJ x.place;have l2:=AfH x.time;simp only[scA];refine zpIB func114 rfl fun h ρ w=>?_
 simp only[go_sem];refine zr [.fz 1 placeW,.fz 1 AhF] AaJ ?_;simp only[go_sem,h1,h2]
 repeat refine And.intro (by first|omega|exact placesR_pc.at|exact timesR_pc.at|rfl|(simp[placeW,AhF]; done)|(simp[placeW,AhF]; omega)) ?_
 cases hn:x.no != []with
 | true =>
  apply zgB;simp only[go_sem,hn]
  repeat refine aqc ?_
  exact aret [2] rfl ⟨by simp[resV,Av.get,headL,hn,headLine],rfl⟩
 | false =>
  apply zgB;simp only[go_sem,hn];exact aret [2] rfl ⟨by simp[resV,Av.get,headL,hn,headLine],rfl⟩
