/- Statements whose order is open, in which an append may pass readers of other blocks, and. -/
import Derived.Test.YtgenkcmfeeakoaaGreatDoorX39
set_option linter.all false
namespace Go.Av
open RowKit
variable [Tr]
def ckb(n0 id:Nat)(i:Nat)(e:Env)(s:LB)(o:Oper):Prop :=
 (bif isApp o.op then appOk id e o.op=true/\n0<=s.length else True)/\(bif reader o.op&&!blind o.op then opOk n0 id e o.op=true else True)
theorem AqM{n0 id i:Nat}{e e':Env}{s s':LB}{o:Oper}(h:∀ x∈o.op.operands,ev e x=ev e' x)(hs:isApp o.op=true->n0<=s'.length)(hp:ckb n0 id i e s o):ckb n0 id i e' s' o:=by
 refine⟨?_,?_⟩
 .have h1:=hp.1
  grind[AoO]
 .have h2:=hp.2
  grind[opOk_agree]
theorem A4L{n0 id i:Nat}{e:Env}{s:LB}{o:Oper}(hp:ckb n0 id i e s o)(ha:isApp o.op=true):n0<=s.length:=by
 have:=hp.1
 grind
def ChB(c:Cx)(ops:Array Oper)(n0 id:Nat)(K:Env->LB->Prop):List Nat->Env->LB->Prop
 | [],e,s=>K e s
 | i::r,e,s=>match ops[i]? with
  | some o=>ckb n0 id i e s o/\∃ cv v s',Does c ops s o cv e v s'/\ChB c ops n0 id K r (put e o.dst v) s'
  | none=>False
def okAq(ops:List Oper)(j i:Nat):Bool:=match ops[j]?,ops[i]? with
 | some oj,some oi=>oj.apart ops.toArray oi&&(together oj oi||(reader oj.op&&isApp oi.op)||(isApp oj.op&&reader oi.op))
 | _,_=>false
theorem A0J{op:Op}(h:blind op=true):isApp op=false:=by
 cases op<;>grind[blind,isApp]
section
variable {cx:Cx}{ops:Array Oper}{K:Env->LB->Prop}{n0 id:Nat}
theorem ChB.congr(hK:∀ e e' s,Eqv e e'->K e s->K e' s):∀ {l:List Nat}{e e':Env}{s:LB},Eqv e e'->ChB cx ops n0 id K l e s->ChB cx ops n0 id K l e' s
 | [],e,e',s,h,c=>hK e e' s h c
 | i::r,e,e',s,h,c=>by
  unfold ChB at c |-
  split at c
  .obtain ⟨h0,cv,v,s',h1,h2⟩:=c
   exact⟨AqM (fun x _=>AeQ fun t _=>h t) (fun ha=>A4L h0 ha) h0,cv,v,s',h1.agree fun t _=>h t,ChB.congr hK (h.put _ _) h2⟩
  .exact c.elim
theorem ChB.swap{opl:List Oper}(hops:ops=opl.toArray)(hK:∀ e e' s,Eqv e e'->K e s->K e' s){i j:Nat}{r:List Nat}(hok:okAq opl j i=true){e:Env}{s:LB}(c:ChB cx ops n0 id K (j::i::r) e s) :
  ChB cx ops n0 id K (i::j::r) e s:=by
 unfold okAq at hok
 split at hok
 rotate_left
 .grind
 rename_i oj oi hj' hi';have hj:ops[j]? = some oj:=by grind
 have hi:ops[i]? = some oi:=by grind
 simp at hok
 obtain⟨ha,hok⟩:=hok;obtain⟨a1,a2,a3⟩:=Oper.apart_spec ha;simp only[ChB,hj,hi]at c |-;obtain⟨pj,cv,v,s1,h1,pi,cu,u,s2,h2,h3⟩:=c;have gi:∀ (e:Env) (v:AV),AiV ops oi (put e oj.dst v) e:=fun e v t ht=>by
  grind[get_put]
 have gj:∀ (e:Env) (v:AV),AiV ops oj e (put e oi.dst v):=fun e v t ht=>by
  grind[get_put]
 have h2':=h2.agree (gi e v);have h1':∀ {z z'},Does cx ops z oj cv e v z'->Does cx ops z oj cv (put e oi.dst u) v z':=fun hd=>hd.agree (gj e u)
 have h3':=ChB.congr hK (AjP a2) h3;have pi':∀ s',(isApp oi.op=true->n0<=s'.length)->ckb n0 id i e s' oi:=fun s' hs=>AqM (AaG (gi e v)) hs pi
 have pj':∀ s',(isApp oj.op=true->n0<=s'.length)->ckb n0 id j (put e oi.dst u) s' oj:=fun s' hs=>AqM (AaG (gj e u)) hs pj
 have lj:=fun ha=>A4L pj ha
 have li:=fun ha=>A4L pi ha
 rcases hok with(hok|hok)|hok
 .simp only [together,lbj,lae]at hok
  rcases hok with(⟨c1,c2⟩|c1)|c1
  .have e1:=h1.calm c1
   subst e1;have e2:=h2.calm c2
   grind
  .have e1:=h1.calm (blind_calm c1)
   subst e1;exact⟨pi' _ li,cu,u,_,h2',pj' _ (fun ha=>by grind[A0J]),cv,v,_,h1' (h1.blind c1),h3'⟩
  .have e2:=h2.calm (blind_calm c1)
   subst e2;exact⟨pi' _ (fun ha=>by grind[A0J]),cu,u,_,h2'.blind c1,pj' _ lj,cv,v,_,h1' h1,h3'⟩
 .obtain ⟨hr,hap⟩:=hok
  have e1:=h1.calm (reader_calm hr);subst e1;have pis:=pi' _ li;have hk:appOk id e oi.op=true:=by have:=pis.1; grind
  obtain⟨hag,hle⟩:=A2S hap hk h2';have hn:=li hap;have ok0:blind oj.op=false->opOk n0 id e oj.op=true:=fun hb=>by have:=pj.2; grind
  have hag':Agr n0 id s1 s2:=fun q hq hne=>hag q (by omega) hne
  exact⟨pis,cu,u,_,h2',pj' _ (fun _=>by omega),cv,v,_,h1' (AaJ hr ok0 hag' h1).2,h3'⟩
 .obtain ⟨hap,hr⟩:=hok
  have e2:=h2.calm (reader_calm hr);subst e2;have hk:appOk id e oj.op=true:=by have:=pj.1; grind
  obtain⟨hag,hle⟩:=A2S hap hk h1;have hn:=lj hap;have pis:=pi' s (fun ha=>hn);have ok0:blind oi.op=false->opOk n0 id e oi.op=true:=fun hb=>by have:=pis.2; grind
  have hag':Agr n0 id s2 s:=fun q hq hne=>(hag q (by omega) hne).symm
  exact⟨pis,cu,u,_,(AaJ hr ok0 hag' h2').2,pj' s (fun _=>hn),cv,v,_,h1' h1,h3'⟩
theorem ChB.front{opl:List Oper}(hops:ops=opl.toArray)(hK:∀ e e' s,Eqv e e'->K e s->K e' s){i:Nat}{r:List Nat}:∀ {l:List Nat}{e:Env}{s:LB},(∀ j∈l,okAq opl j i=true) ->
  ChB cx ops n0 id K (l++i::r) e s->ChB cx ops n0 id K (i::(l++r)) e s
 | [],_,_,_,c=>c
 | j::l,e,s,h,c=>by
  refine ChB.swap hops hK (h j (by simp)) ?_;simp only[lbb,ChB]at c |-
  split at c
  .obtain ⟨h0,cv,v,s',h1,h2⟩:=c
   exact⟨h0,cv,v,s',h1,ChB.front hops hK (fun k hk=>h k (by simp[hk])) h2⟩
  .exact c.elim
end
section
variable {c:Cx}{k:List It}{e:Env}{s:LB}
theorem AtN{all:List Oper}{n0 id:Nat}:∀ {r:List Oper}{m n:Nat}{cs:LA}{e:Env}{s:LB},(∀ (j:Nat),r[j]? = all[m+j]?)->all.length=m+r.length->dxg c all (ckb n0 id) k n r cs e s->ChB c all.toArray n0 id (fun e s=>AWp c k e s) (List.range' m r.length) e s
 | [],m,n,cs,e,s,_,_,h=>by
  rw[dxg]at h;exact h
 | o::r,m,n,cs,e,s,hr,hlen,h=>by
  obtain⟨h0,cv,v,n',cs',s',h1,h2⟩:=A5X h;have hat:all.toArray[m]? = some o:=by have:=hr 0; simpa using this.symm
  simp only[lam,List.range'_succ,ChB,hat];exact⟨h0,cv,v,s',h1,AtN (fun j=>by have:=hr (j+1); simpa[Nat.add_assoc,Nat.add_comm 1 j]using this) (by simp at hlen; omega) h2⟩
theorem A8Q(bid:Nat)(cs:LA){id:Nat}{ops:List Oper}(hm:c.P.follows .mixedOrders=true)(hok:AiW (okAq ops) ops=true){N:Nat}(hN:c.fn.ntmps=N)(hdst:ops.all (fun o=>dOk N o.dst)=true)(n:Nat)
  (h:dxg c ops (ckb s.length bid) k n ops cs e s):AWp c (.code (.region id ops.toArray true)::k) e s:=by
 intro a w hsim;obtain⟨n1,hn1⟩:∃ n1,n1=s.length:=⟨_,rfl⟩;rw[<- hn1]at h;have hch:=AtN (m:=0) (by grind) (by simp) h;rw[<- List.range_eq_range']at hch;refine wp_region_any hm ?_;have hsim':Sim c e s a { w with drawn:=w.drawn+1 }:=by
  obtain⟨hh,ρ,hmm,hl,he,hdf,hsz,hX⟩:=hsim;have sm:=Same.drew w;exact⟨hh,ρ,hmm.same sm,hl.trans (Later.same sm),he,hdf,hsz,c.hx.later hmm (Later.same sm) hX⟩
 have hd:∀ o∈ops,dOk c.fn.ntmps o.dst=true:=fun o ho=>by grind
 refine AfI (ChB c ops.toArray n1 bid (fun e s=>AWp c k e s)) hok (fun e s x=>x) (fun l i r e s hj x=>ChB.front rfl AWp.K hj x)
  (fun i o r e s a w Kc ho x hs hK=>?_)
  ops.length (Array.replicate ops.length false) (List.range ops.length) e s a _ (by simp) ?_ (by simp) ?_ hch hsim'
 .have ho':ops.toArray[i]? = some o:=by grind
  simp only[ChB,ho']at x;obtain⟨_,cv,v,s',h1,h2⟩:=x;exact AkZ hs (hd o (lar ho)) h1 fun a w hs'=>hK _ _ a w h2 hs'
 .symm
  simp_all
 .intro i hi j hj
  by_cases h1:i<ops.length
  all_goals simp_all[waits]
end
end Go.Av
set_option maxRecDepth 100000
set_option maxHeartbeats 2000000
namespace Go.Proofs.YtgenkcmfeeakoaaGreatDoor
open Av RowKit Proofs.Tryz
theorem AkM{S:Std}(hS:LibR S)(t:LU)(W:Nat)(hW:0<W)(hW2:W<=1000)(hl:t.length<100000)(hc:spOk t)(ha:AeD t):PcH prog S 128 [.str t,.int .i64 W] (· = .fz 1 ((wrapL W t).map .str)):=by
 have hf:=ArT hS t (by omega) ha;obtain⟨hn,he⟩:=AxY t;rw[BrG hc];have hne:=BjU hc;simp only[strs]at hf;generalize Lib.fields t=ws at *;refine zqIF func128 rfl fun h ρ w hg=>?_
 simp only[go_sem];refine zqF hg (hf) ?_;simp only[go_sem,laa];refine AaE (ι:=Nat) (fun j=>ws.length-j)
  (fun j=>[(12,.int .i64 j),(11,.int .i64 ws.length),(10,.fz 1 (ws.map .str)),(5,.sl 0 0 (outW (wsR W ws j)).length (outW (wsR W ws j)).length),(1,.int .i64 W)])
  (fun j=>[.arr 1 ((outW (wsR W ws j)).map .str)]) (fun j=>j<=ws.length) 0 (by omega) ?_ ?_
 .refine Shift.trans (Ls 5 1 rfl) (Lt ?_ (by rfl))
  simp only[go_sem];rfl
 .intro j g1 J hJ
  have hlen:=BjV (W:=W) he j g1;have hlo:=BrH (wsR W ws j);have hm1:j*(t.length+1)<=100000*100001:=Nat.mul_le_mul (by omega) (by omega)
  by_cases gj:j<ws.length
  .have dj:decide ((j:Int)<(ws.length:Int))=true:=by simp; omega
   have hg':List.getD (ws.map AV.str) j .any=.str ws[j]:=by simp[List.getD,gj]
   have hw:=hne ws[j] (lac _);have hwl:=he ws[j] (lac _);have hstep:=BrI hW (wsR W ws j) hw;rw[<- A8P gj]at hstep;have hfin:=hJ (j+1) (by omega) (by omega);rw[hstep]at hfin;generalize ws[j]=w at *;have hwi:(wsR W ws j).2=[]->(wsR W ws j).1=[]:=(AkH hW (ws.take j) ([],[]) ⟨by simp,by simp⟩).1.2;generalize wsR W ws j=s at *;obtain⟨A,c⟩:=s;simp only at hlen hfin hwi
   by_cases hfit:c≠[]/\c.length+1+w.length<=W
   .rw [if_pos hfit]at hfin
    have eO:outW (A,c)=A++[c]:=by simp[outW,hfit.1]
    rw[eO]at hlo |-;have hk:((A.length+1:Nat):Int)-1=(A.length:Int):=by omega
    have d0:decide ((A.length:Int)>=0)=true:=by simp
    have d1:decide ((c.length:Int)+1+(w.length:Int)<=(W:Int))=true:=by simp; omega
    have gA:List.getD (List.map AV.str (A++[c])) A.length .any=.str c:=by simp[List.getD]
    have sA:List.set (List.map AV.str (A++[c])) A.length (.str (c++32::w))=List.map AV.str (A++[c++32::w]):=by simp
    simp only[lah,lam,lap,laq]at hfin |-;apply zgF;simp only[go_sem,dj,hg',hk,d0,d1,gA,sA,laa]
    repeat refine aqg ?_
    rw[ic j];refine ainv hfin (Lr ?_);simp only[go_sem]
   .rw [if_neg hfit]at hfin
    have hWI:c=[]->A=[]:=hwi;have hcs:outW (A,c)=[]\/(outW (A,c)=A++[c]/\decide ((c.length:Int)+1+(w.length:Int)<=(W:Int))=false):=by
     by_cases h0:c=[]
     .exact .inl (by simp[outW,h0,hWI h0])
     .refine .inr ⟨by simp[outW,h0],?_⟩
      rw[lai];exact fun h=>hfit ⟨h0,by omega⟩
    obtain⟨O,hO⟩:∃ O,O=outW (A,c):=⟨_,rfl⟩;rw[<- hO]at hcs hlo hfin |-;simp only at hlo;refine hcs.elim (fun eO=>?_) (fun heO=>?_);have d0:decide (((0:Nat):Int)-1>=0)=false:=by decide
    rw[eO];simp only[lap,las];apply zgF;simp only[go_sem,dj,hg',d0,laa]
    rotate_left
    obtain⟨eO,d1⟩:=heO;have hk:((A.length+1:Nat):Int)-1=(A.length:Int):=by omega
    have d0:decide ((A.length:Int)>=0)=true:=by simp
    have gA:List.getD (List.map AV.str (A++[c])) A.length .any=.str c:=by simp[List.getD]
    rw[eO];simp only[lah,lam,lap,laq];apply zgF;simp only[go_sem,dj,hg',hk,d0,d1,gA,laa]
    all_goals
     repeat refine aqg ?_
     refine AWp.shift (e':=[(5,.sl 0 0 O.length O.length),(7,.str w),(12,.int .i64 j),(11,.int .i64 ws.length),(10,.fz 1 (ws.map .str)),(1,.int .i64 W)]) (s':=[.arr 1 (O.map .str)]) (Lt (by rw[eO]; simp only[go_sem]) (by rw[eO] <;> rfl)) ?_;refine AaE (ι:=List LU×LU) (fun x=>x.2.length)
      (fun x=>[(5,.sl 0 0 x.1.length x.1.length),(7,.str x.2),(12,.int .i64 j),(11,.int .i64 ws.length),(10,.fz 1 (ws.map .str)),(1,.int .i64 W)])
      (fun x=>[.arr 1 (x.1.map .str)]) (fun x=>x.1++(chop W x.2).1++[(chop W x.2).2]=O++(chop W w).1++[(chop W w).2]/\x.1.length+x.2.length<=20000000000/\x.2.length<=1000000) (O,w) ⟨rfl,by simp only; omega,by simp only; omega⟩ ?_ ?_
     .refine Lr ?_
      simp only[go_sem]
     .rintro ⟨O',w'⟩ ⟨k1,k2,k3⟩ J2 hJ2
      simp only at k1 k2 k3 hJ2 |-
      by_cases hc:W<w'.length
      .have dc:decide ((w'.length:Int)>(W:Int))=true:=by simp; omega
       have hch:=AfR hc hW;rw[hch]at k1;simp only[lbu,lbb,lbx]at k1;have hfin2:=hJ2 (O'++[w'.take W],w'.drop W) ⟨by simpa only [lbu,lbb,lbx]using k1,by simp; omega,by simp; omega⟩ (by simp; omega);simp only[lah,lam,lap,laq]at hfin2;apply zgF;simp only[go_sem,dc];refine A8Q (0) [] AaI (by decide) rfl rfl 100 ?_;simp only[go_sem,laa,ckb,isApp,appOk]
       repeat refine aqg ?_
       apply zgF;simp only[go_sem,laa];refine ainv hfin2 (Lt ?_ (by simp));simp only[go_sem]
      .have dc:decide ((w'.length:Int)>(W:Int))=false:=by simp; omega
       rw[chop_end hc]at k1;simp only[lca]at k1;rw[<- k1]at hfin;apply zgF;simp only[go_sem,dc,laa]
       repeat refine aqg ?_
       rw[ic j];refine ainv hfin (Lt ?_ (by simp));simp only[go_sem]
  .have dj:decide ((j:Int)<(ws.length:Int))=false:=by simp; omega
   have hj:j=ws.length:=by omega
   subst hj;apply zgF;simp only[go_sem,dj];refine ARet.shift (Shift.freeze 4 (id:=0) rfl rfl (by simp) (lad _) (AaH _)) (aret [4] rfl ⟨?_,rfl⟩)
   simp[resV,Av.get,Av.put,laj]
def kR(k:Int):Int:=if k==3 then 2 else if k==2 then 5 else k
def spB(b:Bl):List Bool:=if b.kind==3 then b.kinds.map (·==2) else[]
def rbA(b:Bl):AV:=.agg [.int .i64 (kR b.kind),.fz 1 (b.Lb.map .str),.fz 1 ((spB b).map .bool)]
structure RbOk(b:Bl):Prop where
 kind:b.kind=0\/b.kind=1\/b.kind=2\/b.kind=3
 kinds:b.kind=3->b.kinds.length=b.Lb.length
 len:b.Lb.length<=50000000
theorem A0K{b:Bl}(h:RbOk b):(kR b.kind==1)=(b.kind==1)/\(kR b.kind==2)=(b.kind==3)/\(kR b.kind==0)=(b.kind==0):=by
 rcases h.kind with e|e|e|e <;> rw[e] <;> exact⟨rfl,rfl,rfl⟩
theorem ByL(b:Bl)(h:RbOk b):Pc prog 186 [rbA b] (· = .int .i64 ((gapN b:Nat):Int)):=by
 have hk:=(A0K h).2.2;have hg:((gapN b:Nat):Int)=if b.kind==0 then 2 else 1:=by unfold gapN; split <;> rfl
 rw[hg];simp only[rbA]
 cases q:b.kind==0 with
 | true =>
  rw[q]at hk;refine zpIB func186 rfl fun h ρ w=>?_
  simp only[go_sem,hk];exact aret [2] rfl ⟨by simp[resV,Av.get],rfl⟩
 | false =>
  rw[q]at hk;refine zpIB func186 rfl fun h ρ w=>?_
  simp only[go_sem,hk];exact aret [2] rfl ⟨by simp[resV,Av.get],rfl⟩
theorem AqN(b:Bl)(h:RbOk b)(fr k:Nat)(hf:fr<=50000000)(hk:k<b.Lb.length):Pc prog 184 [rbA b,.int .i64 (fr:Int),.int .i64 (k:Int)] (· = .bool (breaksL b fr (k+1))):=by
 obtain⟨k1,k2,k0⟩:=A0K h;have hn:=h.len;have hkd:=h.kinds;simp only[rbA];unfold breaksL
 cases q1:b.kind==1 with
 | true =>
  have q3:(b.kind==3)=false:=by
   have:b.kind=1:=by simpa using q1
   rw[this]; rfl
  rw[q1]at k1;rw[q3]at k2;simp only[if_true];have e1:decide ((((k+1:Nat)):Int)-fr>=2)=decide ((k:Int)-fr+1>=2):=by congr 1; apply propext; omega
  have e2:decide ((b.Lb.length:Int)-((k+1:Nat):Int)>=2)=decide ((b.Lb.length:Int)-k-1>=2):=by congr 1; apply propext; omega
  rw[e1,e2]
  cases d1:decide ((k:Int)-fr+1>=2)with
  | true =>
   refine zpIB func184 rfl fun h ρ w=>?_
   simp only[go_sem,k1,k2,d1,laa]
   repeat refine aqg ?_
   exact zt [6]
  | false =>
   refine zpIB func184 rfl fun h ρ w=>?_
   simp only[go_sem,k1,k2,d1,laa]
   repeat refine aqg ?_
   exact zt [6]
 | false =>
  rw[q1]at k1;simp only[lan,if_false]
  cases q3:b.kind==3 with
  | false =>
   rw[q3]at k2;simp only[lan,if_false];refine zpIB func184 rfl fun h ρ w=>?_
   simp only[go_sem,k1,k2,laa]
   repeat refine aqg ?_
   exact zt [6]
  | true =>
   rw[q3]at k2;have hkl:=hkd (by simpa using q3);have hsp:spB b=b.kinds.map (·==2):=by unfold spB; rw[q3]; rfl
   have hg:List.getD ((spB b).map AV.bool) k .any=.bool (b.kinds.getD k 0==2):=by
    have:k<b.kinds.length:=by omega
    rw[hsp]; simp[List.getD,this]
   have hsl:((spB b).map AV.bool).length=b.Lb.length:=by rw[hsp]; simp[hkl]
   simp only[if_true,lcf];have e2:decide ((b.Lb.length:Int)-((k+1:Nat):Int)>=2)=decide ((b.Lb.length:Int)-k-1>=2):=by congr 1; apply propext; omega
   rw[e2];generalize hps:(spB b).map AV.bool=ps at *
   by_cases f0:fr=0
   .subst f0
    have e1:decide ((((k+1:Nat)):Int)-((0:Nat):Int)-(if(0:Nat)=0 then 1 else 0)>=2)=decide ((k:Int)-0+1-1>=2):=by rw[if_pos rfl]; congr 1
    rw[e1];simp only[Int.natCast_zero];have d0:((0:Int)==0)=true:=rfl
    cases p:b.kinds.getD k 0==2 with
    | false =>
     rw[p]at hg;refine zpIB func184 rfl fun h ρ w=>?_
     simp only[go_sem,k1,k2,d0,hg,hsl,laa]
     repeat refine aqg ?_
     exact zt [6]
    | true =>
     rw[p]at hg
     cases d1:decide ((k:Int)-0+1-1>=2)with
     | true =>
      refine zpIB func184 rfl fun h ρ w=>?_
      simp only[go_sem,k1,k2,d0,hg,hsl,d1,laa]
      repeat refine aqg ?_
      exact zt [6]
     | false =>
      refine zpIB func184 rfl fun h ρ w=>?_
      simp only[go_sem,k1,k2,d0,hg,hsl,d1,laa]
      repeat refine aqg ?_
      exact zt [6]
   .have e1:decide ((((k+1:Nat)):Int)-fr-(if fr=0 then 1 else 0)>=2)=decide ((k:Int)-fr+1>=2):=by rw[if_neg f0]; congr 1; apply propext; omega
    rw[e1];have d0:((fr:Int)==0)=false:=by rw[lbe]; omega
    cases p:b.kinds.getD k 0==2 with
    | false =>
     rw[p]at hg;refine zpIB func184 rfl fun h ρ w=>?_
     simp only[go_sem,k1,k2,d0,hg,hsl,laa]
     repeat refine aqg ?_
     exact zt [6]
    | true =>
     rw[p]at hg
     cases d1:decide ((k:Int)-fr+1>=2)with
     | true =>
      refine zpIB func184 rfl fun h ρ w=>?_
      simp only[go_sem,k1,k2,d0,hg,hsl,d1,laa]
      repeat refine aqg ?_
      exact zt [6]
     | false =>
      refine zpIB func184 rfl fun h ρ w=>?_
      simp only[go_sem,k1,k2,d0,hg,hsl,d1,laa]
      repeat refine aqg ?_
      exact zt [6]
theorem A0L(b:Bl)(h:RbOk b)(h0:b.Lb≠[]):Pc prog 126 [rbA b] (· = .int .i64 ((AaY b:Nat):Int)):=by
 obtain⟨k1,k2,k0⟩:=A0K h;have hn:=h.len;have hmb:=fun k hk=>AqN b h 0 k (by omega) hk
 have hpos:=List.length_pos_iff.2 h0;unfold AaY;simp only[rbA,Int.natCast_zero]at hmb |-
 cases q1:b.kind==1 with
 | true =>
  have q3:(b.kind==3)=false:=by
   have:b.kind=1:=by simpa using q1
   rw[this]; rfl
  rw[q1]at k1;rw[q3]at k2;simp only[lbt,q3,Bool.false_and,lan,if_false]
  cases d1:decide ((b.Lb.length:Int)>3)with
  | true =>
   refine zpIB func126 rfl fun h ρ w=>?_
   simp only[go_sem,k1,k2,d1,laa];exact zt [2]
  | false =>
   refine zpIB func126 rfl fun h ρ w=>?_
   simp only[go_sem,k1,k2,d1,laa];exact zt [2]
 | false =>
  rw[q1]at k1;simp only[Bool.false_and,lan,if_false]
  cases q3:b.kind==3 with
  | false =>
   rw[q3]at k2;simp only[Bool.false_and,lan,if_false];refine zpIB func126 rfl fun h ρ w=>?_
   simp only[go_sem,k1,k2,laa];exact zt [2]
  | true =>
   rw[q3]at k2;simp only[lbt]
   cases d1:decide ((b.Lb.length:Int)>4)with
   | false =>
    simp only[lan,if_false];refine zpIB func126 rfl fun h ρ w=>?_
    simp only[go_sem,k1,k2,d1,laa];exact zt [2]
   | true =>
    simp only[if_true];generalize hX:firstB b (b.Lb.length-1) 1=X;refine zpIB func126 rfl fun h ρ w=>?_
    simp only[go_sem,k1,k2,d1,laa];refine AaE (ι:=Nat) (fun i=>b.Lb.length-i) (fun i=>[(27,.int .i64 i),(26,.int .i64 b.Lb.length),(1,.pin 3 [.agg [.int .i64 (kR b.kind),.fz 1 (b.Lb.map .str),.fz 1 ((spB b).map .bool)]] 0 0)])
     (fun _=>[]) (fun i=>i<=b.Lb.length/\firstB b (b.Lb.length-1-i) (i+1)=X) 0 ⟨by omega,hX⟩ ?_ ?_
    .refine Lr ?_
     simp only[go_sem]
    .rintro i ⟨g1,g2⟩ J hJ
     by_cases gi:i<b.Lb.length
     .have di:decide ((i:Int)<(b.Lb.length:Int))=true:=by simp; omega
      have hm:=hmb i gi;apply zgB;simp only[go_sem,di];refine zpB (hm) ?_
      cases hq:breaksL b 0 (i+1)with
      | true =>
       have hil:i<b.Lb.length-1:=by
        by_cases e:i=b.Lb.length-1
        .rw [show i+1=b.Lb.length by omega,break_end b 0 hpos]at hq
         cases hq
        .omega
       rw[show b.Lb.length-1-i=(b.Lb.length-1-(i+1))+1 by omega]at g2;simp only[firstB,hq,if_true]at g2;subst g2;simp only[go_sem]
       repeat refine aqg ?_
       exact aret [2] rfl ⟨by simp[resV,Av.get]; omega,rfl⟩
      | false =>
       have g2':firstB b (b.Lb.length-1-(i+1)) (i+1+1)=X:=by
        by_cases e:i=b.Lb.length-1
        .rw [show b.Lb.length-1-i=0 by omega]at g2
         rw[show b.Lb.length-1-(i+1)=0 by omega];exact g2
        .rw [show b.Lb.length-1-i=(b.Lb.length-1-(i+1))+1 by omega]at g2
         simp only[firstB,hq,lan,if_false]at g2;exact g2
       simp only[go_sem]
       repeat refine aqg ?_
       rw[ic i];refine ainv (hJ (i+1) ⟨by omega,g2'⟩ (by omega)) (Lr ?_);simp only[go_sem]
     .have di:decide ((i:Int)<(b.Lb.length:Int))=false:=by simp; omega
      rw[show b.Lb.length-1-i=0 by omega]at g2;simp only[firstB]at g2;subst g2;apply zgB;simp only[go_sem,di,laa];exact zt [2]
theorem ByM(ps:List (List Ln))(h1:ps.length<=1000000000)(h2:∀ p∈ps,p.length<=54):Pc prog 185 [.pin 1 [.agg [.fz 1 (ps.map pgA)]] 0 0] (· = .int .i64 ((AwE ps:Nat):Int)):=by
 rcases List.eq_nil_or_concat ps with rfl|⟨dn,cur,rfl⟩
 .refine zpIB func185 rfl fun h ρ w=>?_
  simp only[go_sem]
  repeat refine aqg ?_
  exact zt [2]
 .rw [List.concat_eq_append]at *
  have hc:=h2 cur (by simp);have d0:(((dn.length+1:Nat):Int)==0)=false:=by rw[lbe]; omega
  have hk:((dn.length+1:Nat):Int)-1=(dn.length:Int):=by omega
  have hg:List.getD (List.map pgA (dn++[cur])) dn.length .any=.fz 1 (cur.map .str):=by simp[List.getD,pgA]
  rw[room_snoc];simp only[lah,lam,lap,laq]at h1;refine zpIB func185 rfl fun h ρ w=>?_
  simp only[go_sem,d0,laa]
  repeat refine aqg ?_
  refine zr [] AaI ?_;simp only[go_sem,hk,hg,laa]
  repeat refine aqg ?_
  apply zgB;simp only[go_sem];exact aret [2] rfl ⟨by simp[resV,Av.get]; omega,rfl⟩
theorem BbO(n:Nat)(hn:n<=1000)(ls:List LU)(hl:ls.length<=1000000000)(hs:∀ l∈ls,l.length<=1000000)(h0:ls≠[]) :
  Ct prog 130 [.int .i64 (n:Int),.fz 1 (ls.map .str)] [] (fun r s=>r=.sl 0 0 ls.length ls.length/\s=[.arr 1 ((ls.map (indent n)).map .str)]):=by
 have hr:=AjS [32] n (by simp; omega) (by omega);have hbl:=AfS n;refine zcIF func130 rfl fun h ρ w=>?_
 simp only[go_sem,laa];refine AaE (ι:=Nat) (fun j=>ls.length-j) (fun j=>[(10,.int .i64 j),(9,.int .i64 ls.length),(8,.fz 1 (ls.map .str)),(5,.sl 0 0 j j),(0,.int .i64 n)])
  (fun j=>[.arr 1 (((ls.take j).map (indent n)).map .str)]) (fun j=>j<=ls.length) 0 (by omega) ?_ ?_
 .refine Shift.trans (Ls 5 1 rfl) (Lt ?_ (by rfl))
  simp only[go_sem]
 .intro j g1 J hJ
  by_cases gj:j<ls.length
  .have dj:decide ((j:Int)<(ls.length:Int))=true:=by simp; omega
   have hg':List.getD (List.map AV.str ls) j .any=.str ls[j]:=by simp[List.getD,gj]
   have hlt:(List.take j ls).length=j:=by simp; omega
   have hlj:=hs ls[j] (lac gj);apply zgF;simp only[go_sem,dj,hg',laa]
   repeat refine aqg ?_
   refine zpF (hr) ?_;simp only[go_sem,hlt,laa]
   repeat refine aqg ?_
   have e1:List.map AV.str (List.map (indent n) (List.take j ls))++[AV.str (Lib.repeatL [32] n++ls[j])]=List.map AV.str (List.map (indent n) (List.take (j+1) ls)):=by
    rw[laf gj]; simp only[lak,lal,las]; rfl
   rw[e1,show(j:Int)+1=((j+1:Nat):Int) by omega];refine ainv (hJ (j+1) (by omega) (by omega)) (Lr ?_);simp only[go_sem]
  .have dj:decide ((j:Int)<(ls.length:Int))=false:=by simp; omega
   have hj:j=ls.length:=by omega
   subst hj;rw[laz];apply zgF;simp only[go_sem,dj];exact zt [4]
theorem AlU(n:Nat)(hn:n<=1000)(ls:List LU)(hl:ls.length<=1000000000)(hs:∀ l∈ls,l.length<=1000000) :
  Pc prog 130 [.int .i64 (n:Int),.fz 1 (ls.map .str)] (· = .fz 1 ((ls.map (indent n)).map .str)):=by
 have hr:=AjS [32] n (by simp; omega) (by omega);have hbl:=AfS n;refine zpIF func130 rfl fun h ρ w=>?_
 simp only[go_sem,laa];refine AaE (ι:=Nat) (fun j=>ls.length-j) (fun j=>[(10,.int .i64 j),(9,.int .i64 ls.length),(8,.fz 1 (ls.map .str)),(5,.sl 0 0 j j),(0,.int .i64 n)])
  (fun j=>[.arr 1 (((ls.take j).map (indent n)).map .str)]) (fun j=>j<=ls.length) 0 (by omega) ?_ ?_
 .refine Shift.trans (Ls 5 1 rfl) (Lt ?_ (by rfl))
  simp only[go_sem]
 .intro j g1 J hJ
  by_cases gj:j<ls.length
  .have dj:decide ((j:Int)<(ls.length:Int))=true:=by simp; omega
   have hg':List.getD (List.map AV.str ls) j .any=.str ls[j]:=by simp[List.getD,gj]
   have hlt:(List.take j ls).length=j:=by simp; omega
   have hlj:=hs ls[j] (lac gj);apply zgF;simp only[go_sem,dj,hg',laa]
   repeat refine aqg ?_
   refine zpF (hr) ?_;simp only[go_sem,hlt,laa]
   repeat refine aqg ?_
   have e1:List.map AV.str (List.map (indent n) (List.take j ls))++[AV.str (Lib.repeatL [32] n++ls[j])]=List.map AV.str (List.map (indent n) (List.take (j+1) ls)):=by
    rw[laf gj]; simp only[lak,lal,las]; rfl
   rw[e1,show(j:Int)+1=((j+1:Nat):Int) by omega];refine ainv (hJ (j+1) (by omega) (by omega)) (Lr ?_);simp only[go_sem]
  .have dj:decide ((j:Int)<(ls.length:Int))=false:=by simp; omega
   have hj:j=ls.length:=by omega
   subst hj;rw[laz];refine AWp.shift (Shift.freeze 5 (id:=0) rfl rfl (by simp) (lad _) (AaH _)) ?_;simp only[lcj,List.set_cons_zero,put];rw[laj (by simp)];apply zgF;simp only[go_sem,dj];exact zt [4]
theorem ByN(n:Nat)(l:List LU):shB n (.arr 1 (l.map .str))=.arr 1 (l.map .str):=by
 simp only[shB,lbi]
 congr 1
theorem BbP(n:Nat)(hn:n<=1000)(ls:List LU)(hl:ls.length<=1000000000)(hs:∀ l∈ls,l.length<=1000000)(h0:ls≠[])(T:LB) :
  Ct prog 130 [.int .i64 (n:Int),.fz 1 (ls.map .str)] T (fun r s=>r=.sl T.length 0 ls.length ls.length/\s=T++[.arr 1 ((ls.map (indent n)).map .str)]):=by
 have h:=Ct.liftN (BbO n hn ls hl hs h0) rfl (by rintro r s' ⟨_,rfl⟩; rfl) T;refine⟨h.1,fun hh ρ w vs m r=>(h.2 hh ρ w vs m r).mono ?_⟩;rintro en w' ⟨v,r2,s2,h',ρ',rfl,⟨r,s',⟨rfl,rfl⟩,rfl,rfl⟩,rest⟩;refine⟨v,_,_,h',ρ',rfl,⟨rfl,rfl⟩,?_⟩;have e:List.map (shB T.length) [Blk.arr 1 ((ls.map (indent n)).map .str)]=[.arr 1 ((ls.map (indent n)).map .str)]:=by
  simp only[lal,las,ByN]
 rw[e]at rest
 simpa only [shV,shC,sh1,laq]using rest
theorem placesR_pc:Pc prog 188 [] (· = .fz 1 placeW):=by
 refine zpIF func188 rfl fun h ρ w=>?_
 simp only[go_sem];exact zt [0]
theorem timesR_pc:Pc prog 189 [] (· = .fz 1 BgV):=by
 refine zpIF func189 rfl fun h ρ w=>?_
 simp only[go_sem];exact zt [0]
theorem A0M(x:Sc)(hp:1<=x.place/\x.place<=3)(ht:1<=x.time/\x.time<=5)(hl:x.no.length<1000001)(hl2:x.set.length<10000):Pc prog 129 [scA x] (· = .str (headL x)):=by
 have h1:=BpT x.place hp;have h2:=BxB x.time ht;have l1:=AlN x.place;have l2:=ApH x.time;simp only[scA];refine zpIB func129 rfl fun h ρ w=>?_
 simp only[go_sem];refine zr [.fz 1 placeW,.fz 1 BgV] AaI ?_;simp only[go_sem,h1,h2]
 repeat refine And.intro (by first|omega|exact placesR_pc.at|exact timesR_pc.at|rfl|(simp[placeW,BgV]; done)|(simp[placeW,BgV]; omega)) ?_
 cases hn:x.no != []with
 | true =>
  apply zgB;simp only[go_sem,hn]
  repeat refine aqh ?_
  exact aret [2] rfl ⟨by simp[resV,Av.get,headL,hn,headLine],rfl⟩
 | false =>
  apply zgB;simp only[go_sem,hn];exact aret [2] rfl ⟨by simp[resV,Av.get,headL,hn,headLine],rfl⟩
