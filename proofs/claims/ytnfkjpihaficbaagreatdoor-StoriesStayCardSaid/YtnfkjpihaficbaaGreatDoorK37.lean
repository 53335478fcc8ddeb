/- The order of scenes in the story: a stable sort of at most 20 numbers, exactly. -/
import Derived.Test.YtnfkjpihaficbaaGreatDoorK36
set_option maxRecDepth 100000
set_option maxHeartbeats 1000000
set_option linter.unusedSimpArgs false
set_option linter.unusedVariables false
namespace Go.Proofs.YtnfkjpihaficbaaGreatDoor
open Go Go.Av Go.RowKit _root_.Go.Proofs.Tryz
def sdA(d:Int×Int×Int):AV:=.agg [.int .i64 d.1,.int .i64 d.2.1,.int .i64 d.2.2]
theorem AxO(l:List (Int×Int×Int))(i:Nat)(h:i<l.length):(l.map sdA).getD i .any=.agg [.int .i64 l[i].1,.int .i64 l[i].2.1,.int .i64 l[i].2.2]:=by simp[List.getD,h,sdA]
def cmpD(ds:List (Int×Int×Int))(i j:Nat):Int:=orI (cmpI (ds.getD i (0,0,0)).1 (ds.getD j (0,0,0)).1) (cmpI (AaU (ds.getD i (0,0,0)).2.1) (AaU (ds.getD j (0,0,0)).2.1))
theorem AjE(ds:List (Int×Int×Int))(ht:∀ d∈ds,1<=d.2.1/\d.2.1<=4)(i j:Nat)(hi:i<ds.length)(hj:j<ds.length):Pc prog 137 [.int .i64 i,.int .i64 j,.pin 1 [.fz 3 (ds.map sdA)] 0 0] (· = .int .i64 (cmpD ds i j)):=by
 have g1:=AxO ds i hi;have g2:=AxO ds j hj;have r1:=AxN _ (ht _ (List.getElem_mem hi));have r2:=AxN _ (ht _ (List.getElem_mem hj));have e1:ds.getD i (0,0,0)=ds[i]:=by simp[List.getD,hi]
 have e2:ds.getD j (0,0,0)=ds[j]:=by simp[List.getD,hj]
 unfold cmpD;rw[e1,e2];generalize ds[i]=a at *;generalize ds[j]=b at *;obtain⟨a1,a2,a3⟩:=a;obtain⟨b1,b2,b3⟩:=b;simp only at g1 g2 r1 r2 |-;have ho:=BcR (cmpI a1 b1) (cmpI (AaU a2) (AaU b2));refine zpIB func137 rfl fun h ρ w=>?_
 simp only[go_sem];refine zr [.int .i64 (cmpI a1 b1),.int .i64 (AaU a2),.int .i64 (AaU b2),.int .i64 (cmpI (AaU a2) (AaU b2)),.int .i64 (orI (cmpI a1 b1) (cmpI (AaU a2) (AaU b2)))] mixed ?_;simp only[go_sem,g1,g2,List.length_map]
 repeat refine And.intro (by first|exact(AiV _ _).at|exact r1.at|exact r2.at|exact ho.at|omega|rfl|(simp; done)|(simp; omega)) ?_
 refine zgB ?_;simp only[go_sem];exact zt [5]
def insN(c:Nat->Nat->Int)(a:Nat):Nat->Nat->List Nat->List Nat
 | 0,_,q=>q
 | f+1,j,q=>if a<j/\c (q.getD j 0) (q.getD (j-1) 0)<0 then insN c a f (j-1) ((q.set j (q.getD (j-1) 0)).set (j-1) (q.getD j 0)) else q
def isN(c:Nat->Nat->Int)(a b:Nat):Nat->Nat->List Nat->List Nat
 | 0,_,q=>q
 | f+1,i,q=>if i<b then isN c a b f (i+1) (insN c a i i q) else q
theorem atN{q:List Nat}{i:Nat}(h:i<q.length):q.getD i 0=q[i]:=by simp[List.getD,h]
theorem AjF{q l:List Nat}(hq:q.Perm l){i j:Nat}(h1:i<q.length)(h2:j<q.length):((q.set i q[j]).set j q[i]).Perm l:=(List.set_set_perm h1 h2).trans hq
theorem AuS(c:Nat->Nat->Int)(a:Nat):∀ (f j:Nat)(q:List Nat),j<q.length->(insN c a f j q).Perm q
 | 0,_,q,_=>.refl _
 | f+1,j,q,h=>by
  rw[insN]
  split
  .have h2:j-1<q.length:=by omega
   rw[atN h,atN h2];exact(AuS c a f (j-1) _ (by simp; omega)).trans (AjF (.refl q) h h2)
  .exact .refl _
theorem A0T(c:Nat->Nat->Int)(a b:Nat):∀ (f i:Nat)(q:List Nat),b<=q.length->(isN c a b f i q).Perm q
 | 0,_,q,_=>.refl _
 | f+1,i,q,h=>by
  rw[isN]
  split
  .rename_i hi
   have hp:=AuS c a i i q (by omega);exact(A0T c a b f (i+1) _ (by rw[hp.length_eq]; exact h)).trans hp
  .exact .refl _
theorem A3C(cap:AV)(hcap:nr1 cap=true)(c:Nat->Nat->Int)(n:Nat)(hc:∀ i j,i<n->j<n->Pc prog 137 [.int .i64 i,.int .i64 j,cap] (· = .int .i64 (c i j)))(l:List Nat)(hn:∀ i∈l,i<n)(a b:Nat)(h2:a<=b)(h3:b<=l.length)(hl:l.length<1000000) :
  Ct prog 243 [.sl 0 0 l.length l.length,.int .i64 a,.int .i64 b,.fn (.func 137) [cap]] [.arr 1 (l.map inA)] (fun r s=>r=.tup []/\s=[.arr 1 ((isN c a b (b+1-(a+1)) (a+1) l).map inA)]):=by
 refine zcIB func243 rfl fun h ρ w=>?_
 simp only[go_sem]
 repeat refine ao ?_
 rw[ic a];refine AaC (ι:=Nat×List Nat) (fun y=>b+1-y.1) (fun y=>[(8,.int .i64 y.1),(3,.fn (.func 137) [cap]),(2,.int .i64 b),(1,.int .i64 a),(0,.sl 0 0 l.length l.length)]) (fun y=>[.arr 1 (y.2.map inA)])
  (fun y=>a+1<=y.1/\y.2.Perm l/\isN c a b (b+1-y.1) y.1 y.2=isN c a b (b+1-(a+1)) (a+1) l) (a+1,l) ⟨by simp,.refl _,rfl⟩ ?_ ?_
 .refine Shift.weakS ?_ rfl
  simp only[go_sem]
 .rintro ⟨i,q⟩ ⟨g1,g2,g3⟩ J hJ
  simp only at g1 g2 g3 hJ |-
  by_cases gi:i<b
  .have di:decide ((i:Int)<(b:Int))=true:=by simp; omega
   refine zgB ?_;simp only[go_sem,di];refine AaC (ι:=Nat×List Nat) (fun y=>y.1) (fun y=>[(9,.int .i64 y.1),(8,.int .i64 i),(3,.fn (.func 137) [cap]),(2,.int .i64 b),(1,.int .i64 a),(0,.sl 0 0 l.length l.length)]) (fun y=>[.arr 1 (y.2.map inA)])
    (fun y=>a<=y.1/\y.1<=i/\y.2.Perm l/\∃ f,y.1<=f/\insN c a f y.1 y.2=insN c a i i q) (i,q) ⟨by simp only; omega,by simp,g2,i,Nat.le_refl _,rfl⟩ ?_ ?_
   .refine Shift.weakS ?_ rfl
    simp only[go_sem]
   .rintro ⟨j,p⟩ ⟨k1,k2,k3,f0,k4,k5⟩ K hK
    simp only at k1 k2 k3 k4 k5 hK |-;have hgo:insN c a i i q=p->isN c a b (b+1-(i+1)) (i+1) p=isN c a b (b+1-(a+1)) (a+1) l:=fun e=>by
     rw[show b+1-i=(b+1-(i+1))+1 by omega,isN,if_pos gi,e]at g3;exact g3
    have hq:=k3.length_eq;have hpn:∀ k,(hk:k<p.length)->p[k]<n:=fun k hk=>hn _ (k3.mem_iff.1 (List.getElem_mem hk))
    by_cases hja:a<j
    .obtain ⟨f1,rfl⟩:∃ f1,f0=f1+1:=⟨f0-1,by omega⟩
     have dj:decide ((j:Int)>(a:Int))=true:=by simp; omega
     have e1:((j:Int)-1).toNat=j-1:=by omega
     have p1:=AdP p j (by omega);have p2:=AdP p (j-1) (by omega);have hc:=hc (p[j]'(by omega)) (p[j-1]'(by omega)) (hpn _ _) (hpn _ _);refine zgB ?_;simp only[go_sem];refine zr [.int .i64 (c (p[j]'(by omega)) (p[j-1]'(by omega)))] mixed ?_
     cases dc:decide (c (p[j]'(by omega)) (p[j-1]'(by omega))<0)with
     | true =>
      have p3:=AdP (p.set j (p[j-1]'(by omega))) (j-1) (by simp; omega);have s1:=AhK p j (p[j-1]'(by omega));have s2:=AhK (p.set j (p[j-1]'(by omega))) (j-1) (p[j]'(by omega));have hfin:=hK (j-1,_) ⟨by simp only; omega,by simp only; omega,AjF k3 (i:=j) (j:=j-1) (by omega) (by omega),f1,by simp only; omega,by
       rw[insN,atN (by omega),atN (by omega),if_pos ⟨hja,of_decide_eq_true dc⟩]at k5;exact k5⟩ (by simp only; omega)
      simp only[go_sem,dj,e1,p1,p2,dc,List.length_map]
      repeat first|refine And.intro (by first|exact hc.at|exact hcap) ?_|refine aj ?_
      refine zgB ?_;simp only[go_sem];refine AzZ [] mixed (by decide) rfl rfl 100 ?_;simp only[go_sem,e1,p1,p2,p3,s1,s2,List.length_map,List.length_set]
      repeat refine aj ?_
      refine zgB ?_;simp only[go_sem]
      repeat refine aj ?_
      rw[show(j:Int)-1=((j-1:Nat):Int) by omega];refine ainv hfin (Shift.weakS ?_ rfl);simp only[go_sem]
     | false =>
      rw[insN,atN (by omega),atN (by omega),if_neg (fun h=>of_decide_eq_false dc h.2)]at k5;have hfin:=hJ (i+1,p) ⟨by simp only; omega,k3,hgo k5.symm⟩ (by simp only; omega);simp only[go_sem,dj,e1,p1,p2,dc,List.length_map]
      repeat first|refine And.intro (by first|exact hc.at|exact hcap) ?_|refine aj ?_
      refine zgB ?_;simp only[go_sem]
      repeat refine aj ?_
      rw[ic i];refine ainv hfin (Shift.weakS ?_ rfl);simp only[go_sem]
    .have dj:decide ((j:Int)>(a:Int))=false:=by simp; omega
     have k6:insN c a f0 j p=p:=by
      cases f0 with
      | zero=>rfl
      | succ f=>rw[insN,if_neg (fun h=>hja h.1)]
     have hfin:=hJ (i+1,p) ⟨by simp only; omega,k3,hgo (by rw[<- k5,k6])⟩ (by simp only; omega);refine zgB ?_;simp only[go_sem];refine zr [.any] mixed ?_;simp only[go_sem,dj]
     repeat refine aj ?_
     refine zgB ?_;simp only[go_sem]
     repeat refine aj ?_
     rw[ic i];refine ainv hfin (Shift.weakS ?_ rfl);simp only[go_sem]
  .have di:decide ((i:Int)<(b:Int))=false:=by simp; omega
   refine zgB ?_;simp only[go_sem,di];have g4:isN c a b (b+1-i) i q=q:=by
    cases b+1-i with
    | zero=>rfl
    | succ f=>rw[isN,if_neg gi]
   exact aret [] rfl ⟨rfl,by rw[<- g3,g4]⟩
def A3D(c:Nat->Nat->Int)(l:List Nat):List Nat:=isN c 0 l.length l.length 1 l
theorem A3E(c:Nat->Nat->Int)(l:List Nat):(A3D c l).Perm l:=A0T c 0 l.length _ _ l (Nat.le_refl _)
theorem BjJ(cap:AV)(hcap:nr1 cap=true)(c:Nat->Nat->Int)(n:Nat)(hc:∀ i j,i<n->j<n->Pc prog 137 [.int .i64 i,.int .i64 j,cap] (· = .int .i64 (c i j)))(l:List Nat)(hn:∀ i∈l,i<n)(hl:l.length<20) :
  Ct prog 190 [.sl 0 0 l.length l.length,.int .i64 l.length,.fn (.func 137) [cap]] [.arr 1 (l.map inA)] (fun r s=>r=.tup []/\s=[.arr 1 ((A3D c l).map inA)]):=by
 have hr:=A3C cap hcap c n hc l hn 0 l.length (by omega) (by omega) (by omega);have d1:decide ((20:Int)<=(l.length:Int))=false:=by simp; omega
 have d2:decide ((20:Int)<(l.length:Int))=false:=by simp; omega
 refine zcIB func190 rfl fun h ρ w=>?_
 simp only[go_sem];refine AcY (around ?_);refine zgB ?_;simp only[go_sem,d1];refine za (hr) ?_;rintro _ _ ⟨rfl,rfl⟩;refine zgB ?_;simp only[go_sem];refine AcY (around ?_);refine zgB ?_;simp only[go_sem,d2];exact zt []
theorem AnN(cap:AV)(hcap:nr1 cap=true)(c:Nat->Nat->Int)(n:Nat)(hc:∀ i j,i<n->j<n->Pc prog 137 [.int .i64 i,.int .i64 j,cap] (· = .int .i64 (c i j)))(l:List Nat)(hn:∀ i∈l,i<n)(hl:l.length<20) :
  Ct prog 136 [.sl 0 0 l.length l.length,.fn (.func 137) [cap]] [.arr 1 (l.map inA)] (fun r s=>r=.tup []/\s=[.arr 1 ((A3D c l).map inA)]):=by
 have hr:=BjJ cap hcap c n hc l hn hl;refine zcIB func136 rfl fun h ρ w=>?_
 simp only[go_sem,List.length_map]
 repeat refine aqa ?_
 refine za (hr) ?_;rintro _ _ ⟨rfl,rfl⟩;refine zgB ?_;simp only[go_sem];exact zt []
def orderD(ds:List (Int×Int×Int)):List Nat:=A3D (cmpD ds) (List.range ds.length)
theorem AeT(ds:List (Int×Int×Int)):(orderD ds).Perm (List.range ds.length):=A3E _ _
theorem A9C(ds:List (Int×Int×Int))(ht:∀ d∈ds,1<=d.2.1/\d.2.1<=4)(hl:ds.length<=5):Pc prog 84 [.fz 3 (ds.map sdA)] (· = .fz 1 ((orderD ds).map inA)):=by
 have hr:=AnN (.pin 1 [.fz 3 (ds.map sdA)] 0 0) rfl (cmpD ds) ds.length (AjE ds ht) (List.range ds.length) (by simp) (by simp; omega);rw[List.length_range]at hr;refine zpIB func84 rfl fun h ρ w=>?_
 simp only[go_sem,List.length_map]
 repeat refine aj ?_
 refine AaC (ι:=Nat) (fun y=>ds.length-y) (fun y=>[(10,.int .i64 y),(9,.int .i64 ds.length),(3,.sl 0 0 ds.length ds.length),(1,.pin 1 [.fz 3 (ds.map sdA)] 0 0)])
  (fun y=>[.arr 1 (((List.range y)++List.replicate (ds.length-y) 0).map inA)]) (fun y=>y<=ds.length) 0 (by simp) ?_ ?_
 .refine Shift.weakS ?_ ?_
  .simp only [go_sem,List.length_map]
  .simp [inA]
 intro i g1 J hJ
 by_cases gi:i<ds.length
 .have di:decide ((i:Int)<(ds.length:Int))=true:=by simp; omega
  have hfin:=hJ (i+1) (by omega) (by omega);have hs:((List.range i++List.replicate (ds.length-i) 0).map inA).set i (.int .i64 (i:Int))=(List.range (i+1)++List.replicate (ds.length-(i+1)) 0).map inA:=by
   rw[AhK]
   congr 1
   obtain⟨m,hm⟩:∃ m,ds.length-i=m+1:=⟨ds.length-i-1,by omega⟩;rw[hm,show ds.length-(i+1)=m by omega,List.range_succ,List.set_append_right _ _ (by simp)]
   simp[List.replicate_succ]
  have hlen:((List.range i++List.replicate (ds.length-i) 0).map inA).length=ds.length:=by simp; omega
  obtain⟨v,hgt⟩:∃ v:Nat,((List.range i++List.replicate (ds.length-i) 0).map inA).getD i .any=.int .i64 v:=⟨_,AdP _ i (by simp; omega)⟩;generalize (List.range i++List.replicate (ds.length-i) 0).map inA=T at *;refine zgB ?_;simp only[go_sem,di,hs,hlen,hgt]
  repeat refine aj ?_
  rw[ic i];refine ainv hfin (Shift.weakS ?_ (by first|rfl|rw[List.range_succ]));simp only[go_sem]
 .have di:decide ((i:Int)<(ds.length:Int))=false:=by simp; omega
  have hi:i=ds.length:=by omega
  subst hi;rw[Nat.sub_self,List.replicate_zero,List.append_nil];refine zgB ?_;simp only[go_sem,di];refine za (hr) ?_;rintro _ _ ⟨rfl,rfl⟩;refine zgB ?_;simp only[go_sem];have hfr:=A9B (orderD ds);have hle:((orderD ds).map inA).length=ds.length:=by rw[List.length_map,(AeT ds).length_eq,List.length_range]
  refine ARet.shift (Shift.freeze 2 (id:=0) (l:=(orderD ds).map inA) rfl rfl (by simp[hle]) (Nat.le_refl _) hfr) (aret [2] rfl ⟨?_,rfl⟩)
  simp[resV,Av.get,Av.put,List.take_of_length_le,hle]
end Go.Proofs.YtnfkjpihaficbaaGreatDoor
set_option linter.unusedSectionVars false
namespace Go.Av
open Go Go.RowKit
variable [Tr]
def gOnB(ops:Array Oper)(e:Env)(o:Oper):Bool:=match o.guard with
 | none=>true
 | some (j,want)=>match yldD want e ops[j]? with
  | some b=>b==want
  | none=>false
theorem AiH{ops:Array Oper}{o:Oper}{e e':Env}(h:AfE ops o e e'):gOnB ops e o=gOnB ops e' o:=by
 unfold gOnB
 cases hg:o.guard with
 | none=>rfl
 | some p =>
  obtain⟨j,want⟩:=p;simp only;rw[AsW h hg]
def ImpG(c:Cx)(ops:Array Oper)(n:Nat)(id:Nat)(o:Oper)(e:Env)(s:List Blk)(K:AV->List Blk->Prop):Prop :=
 gOnB ops e o=true/\∃ f args,xop false true c.P e s o.op=.call f args/\ApE c n f args id s K
def ChG(c:Cx)(ops:Array Oper)(im:List Nat)(n0 id:Nat)(K:Env->List Blk->Prop):List Nat->Env->List Blk->Prop
 | [],e,s=>K e s
 | i::r,e,s=>match ops[i]? with
  | none=>False
  | some o=>bif im.contains i then ImpG c ops n0 id o e s (fun v s'=>ChG c ops im n0 id K r (put e o.dst v) s')
   else(reader o.op=true->blind o.op=false->opOk n0 id e o.op=true)/\∃ cv v s',Does c ops s o cv e v s'/\ChG c ops im n0 id K r (put e o.dst v) s'
def okG(ops:List Oper)(im:List Nat)(j i:Nat):Bool:=match ops[j]?,ops[i]? with
 | some oj,some oi=>oj.apart ops.toArray oi&&(bif im.contains i then !im.contains j&&reader oj.op else bif im.contains j then reader oi.op else together oj oi)
 | _,_=>false
section
variable {cx:Cx}{ops:Array Oper}{s:List Blk}{K:Env->List Blk->Prop}{im:List Nat}{n0 id:Nat}
theorem ImpG.agree{o:Oper}{e e':Env}{s:List Blk}{K K':AV->List Blk->Prop}(h:AfE ops o e e')(hK:∀ r s,K r s->K' r s)(x:ImpG cx ops n0 id o e s K):ImpG cx ops n0 id o e' s K':=by
 obtain⟨h1,f,args,h2,post,h4,h5,h6⟩:=x;exact⟨by rw[<- AiH h]; exact h1,f,args,by rw[<- AcG (AaG h)]; exact h2,post,h4,h5,fun r b hp=>⟨(h6 r b hp).1,hK _ _ (h6 r b hp).2⟩⟩
theorem ChG.congr(hK:∀ e e' s,Eqv e e'->K e s->K e' s):∀ {l:List Nat}{e e':Env}{s:List Blk},Eqv e e'->ChG cx ops im n0 id K l e s->ChG cx ops im n0 id K l e' s
 | [],e,e',s,h,x=>hK e e' s h x
 | i::r,e,e',s,h,x=>by
  unfold ChG at x |-
  split at x
  .exact x.elim
  .rename_i o ho
   cases hi:im.contains i with
   | true =>
    rw[hi]at x;exact ImpG.agree (fun t _=>h t) (fun r' s' z=>ChG.congr hK (h.put _ _) z) x
   | false =>
    rw[hi]at x;obtain⟨h1,cv,v,s',h2,h3⟩:=x;exact⟨fun hr hb=>by rw[<- AaM (e:=e) (fun y _=>AeQ fun t _=>h t)]; exact h1 hr hb,cv,v,s',h2.agree fun t _=>h t,ChG.congr hK (h.put _ _) h3⟩
theorem ChG.swap{opl:List Oper}(hops:ops=opl.toArray)(hK:∀ e e' s,Eqv e e'->K e s->K e' s){i j:Nat}{r:List Nat}(hok:okG opl im j i=true){e:Env}{s:List Blk}(x:ChG cx ops im n0 id K (j::i::r) e s) :
  ChG cx ops im n0 id K (i::j::r) e s:=by
 unfold okG at hok
 split at hok
 rotate_left
 .cases hok
 rename_i oj oi hj' hi';have hj:ops[j]? = some oj:=by rw[hops]; simpa using hj'
 have hi:ops[i]? = some oi:=by rw[hops]; simpa using hi'
 simp only[Bool.and_eq_true]at hok;obtain⟨ha,hok⟩:=hok;rw[<- hops]at ha;obtain⟨a1,a2,a3⟩:=Oper.apart_spec ha;have gi:∀ (e:Env) (v:AV),AfE ops oi (put e oj.dst v) e:=fun e v t ht=>by
  rw[get_put,if_neg]; intro h; exact a1 t h ht
 have gj:∀ (e:Env) (v:AV),AfE ops oj e (put e oi.dst v):=fun e v t ht=>by
  rw[get_put,if_neg]; intro h; exact a3 t h ht
 have sw:∀ (e:Env) (v u:AV),Eqv (put (put e oj.dst v) oi.dst u) (put (put e oi.dst u) oj.dst v):=fun e v u=>AfX a2
 simp only[ChG,hi,hj]at x |-
 cases mi:im.contains i with
 | true =>
  rw[mi]at hok x;simp only[cond_true,Bool.and_eq_true,Bool.not_eq_true']at hok;obtain⟨mj,rj⟩:=hok;rw[mj]at x |-;simp only[cond_true,cond_false]at x |-;obtain⟨o1,cv,v,s',d1,y⟩:=x;obtain⟨rfl,_⟩:=AaL rj (o1 rj) (Agr.rfl' (n:=n0) (id:=id)) d1;obtain⟨h1,f,args,h2,post,h4,h5,h6⟩:=y;refine⟨by rw[<- AiH (gi e v)]; exact h1,f,args,by rw[<- AcG (AaG (gi e v))]; exact h2,post,h4,h5,fun u b hp=>?_⟩;obtain⟨ag,hy⟩:=h6 u b hp;have hs:=(AaL rj (o1 rj) ag d1).2;refine⟨ag,fun _ hb=>?_,cv,v,_,hs.agree (gj e u),ChG.congr hK (sw e v u) hy⟩;rw[<- AaM (e:=e) (AaG (gj e u))];exact o1 rj hb
 | false =>
  rw[mi]at hok x;simp only[cond_false]at hok x |-
  cases mj:im.contains j with
  | true =>
   rw[mj]at hok x;simp only[cond_true]at hok x |-;obtain⟨h1,f,args,h2,post,h4,⟨u0,b0,h5⟩,h6⟩:=x;obtain⟨ag0,o0,cv0,v0,s0,d0,z0⟩:=h6 u0 b0 h5;have ok0:blind oi.op=false->opOk n0 id e oi.op=true:=fun hb=>by
    have:=o0 hok hb;rw[AaM (AaG (gi e u0))]at this;exact this
   have d0':Does cx ops b0 oi cv0 e v0 s0:=d0.agree (gi e u0);have d0s:=(AaL hok ok0 ag0.symm d0').2;refine⟨fun _=>ok0,cv0,v0,s,d0s,by rw[<- AiH (gj e v0)]; exact h1,f,args,?_,post,h4,⟨u0,b0,h5⟩,fun u b hp=>?_⟩
   .rw [<- AcG (AaG (gj e v0))]; exact h2
   .obtain ⟨ag,_,cv,v,s',d,y⟩:=h6 u b hp
    have d':Does cx ops b oi cv e v s':=d.agree (gi e u);obtain⟨e1,ds⟩:=AaL hok ok0 ag.symm d';subst e1;have:=AzC hok d0s ds;subst this;exact⟨ag,ChG.congr hK (sw e u v0) y⟩
  | false =>
   rw[mj]at hok x;simp only[cond_false]at hok x |-;obtain⟨o1,cv,v,s1,h1,o2,cu,u,s2,h2,h3⟩:=x;have h2':Does cx ops s1 oi cu e u s2:=h2.agree (gi e v);have h1':∀ {z z'},Does cx ops z oj cv e v z'->Does cx ops z oj cv (put e oi.dst u) v z':=fun hd=>hd.agree (gj e u)
   have h3':=ChG.congr hK (sw e v u) h3;have oi':∀ {n},reader oi.op=true->opOk n id (put e oj.dst v) oi.op=opOk n id e oi.op:=fun _=>AaM (AaG (gi e v))
   have oj':∀ {n},opOk n id e oj.op=opOk n id (put e oi.dst u) oj.op:=AaM (AaG (gj e u));simp only[Bool.or_eq_true,Bool.and_eq_true,together]at hok
   rcases hok with(⟨c1,c2⟩|c1)|c1
   .have e1:=h1.calm c1
    subst e1;have e2:=h2.calm c2;subst e2;exact⟨fun hr hb=>by rw[<- oi' hr]; exact o2 hr hb,cu,u,_,h2',fun hr hb=>by rw[<- oj']; exact o1 hr hb,cv,v,_,h1' h1,h3'⟩
   .have e1:=h1.calm (AaQ c1)
    subst e1;exact⟨fun hr hb=>by rw[<- oi' hr]; exact o2 hr hb,cu,u,_,h2',fun hr hb=>(by rw[c1]at hb; cases hb),cv,v,_,h1' (h1.blind c1),h3'⟩
   .have e2:=h2.calm (AaQ c1)
    subst e2;exact⟨fun hr hb=>(by rw[c1]at hb; cases hb),cu,u,_,h2'.blind c1,fun hr hb=>by rw[<- oj']; exact o1 hr hb,cv,v,_,h1' h1,h3'⟩
theorem ChG.front{opl:List Oper}(hops:ops=opl.toArray)(hK:∀ e e' s,Eqv e e'->K e s->K e' s):∀ (l:List Nat)(i:Nat)(r:List Nat)(e:Env)(s:List Blk),(∀ j∈l,okG opl im j i=true) ->
  ChG cx ops im n0 id K (l++i::r) e s->ChG cx ops im n0 id K (i::(l++r)) e s
 | [],_,_,_,_,_,x=>x
 | j::l,i,r,e,s,h,x=>by
  refine ChG.swap hops hK (h j (by simp)) ?_;have ih:=fun e s=>ChG.front hops hK l i r e s fun k hk=>h k (by simp[hk])
  simp only[List.cons_append,ChG]at x |-
  split at x
  .exact x.elim
  .rename_i o ho
   cases hm:im.contains j with
   | true =>
    rw[hm]at x;exact ImpG.agree (fun _ _=>rfl) (fun r' s' z=>ih _ _ z) x
   | false =>
    rw[hm]at x;obtain⟨h1,cv,v,s',h2,h3⟩:=x;exact⟨h1,cv,v,s',h2,ih _ _ h3⟩
end
section
variable {c:Cx}{k:List It}{e:Env}{s:List Blk}
theorem ApV{ops:Array Oper}{o:Oper}{a:Act}{w:World}(hs:Sim c e s a w)(hg:gOnB ops e o=true):Region.wanted o (yielded ops a.tmps):=by
 obtain⟨hh,ρ,hm,hl,he,hdf,hsz,hX⟩:=hs;unfold gOnB at hg
 cases hq:o.guard with
 | none=>simp[Region.wanted,hq]
 | some p =>
  obtain⟨j,want⟩:=p;rw[hq]at hg;simp only at hg
  cases hb:yldD want e ops[j]? with
  | none=>rw[hb]at hg; cases hg
  | some b =>
   rw[hb]at hg;have hy:=AeE (all:=ops.toList) he (by simpa using hb);simp only[Array.toArray_toList]at hy
   simp[Region.wanted,hq,hy.1 (by simpa using hg)]
theorem BeA{ops:List Oper}{im:List Nat}{n0 id:Nat}(hdst:∀ o∈ops,dOk c.fn.ntmps o.dst=true)(i:Nat)(o:Oper)(r:List Nat)(e:Env)(s:List Blk)(a:Act)(w:World)(Kc:Act->World->Prop)(ho:ops[i]? = some o)
  (x:ChG c ops.toArray im n0 id (fun e s=>AWp c k e s) (i::r) e s) (hs:Sim c e s a w) (hK:∀ e' s' a w,ChG c ops.toArray im n0 id (fun e s=>AWp c k e s) r e' s'->Sim c e' s' a w->Kc a w) :
  if Region.wanted o (yielded ops.toArray a.tmps) then o.wp c.P a w Kc (WQ c k) else Kc (a.put o.dst undef) w:=by
 have ho':ops.toArray[i]? = some o:=by simpa using ho
 have hd:=hdst o (List.mem_of_getElem? ho);simp only[ChG,ho']at x
 cases hm:im.contains i with
 | false =>
  rw[hm]at x;obtain⟨_,cv,v,s',h2,h3⟩:=x;exact AhC hs hd h2 fun a w hs'=>hK _ _ a w h3 hs'
 | true =>
  rw[hm]at x;obtain⟨hg,f,args,hx,post,h4,_,h6⟩:=x;rw[if_pos (ApV hs hg)];obtain⟨hh,ρ,hmm,hl,he,hdf,hsz,hX⟩:=hs;have hsnd:=AdI (P:=c.P) (wr:=false) (frz:=true) (o:=o) hmm he;rw[hx]at hsnd;obtain⟨vs,hv,hr⟩:=hsnd;unfold Oper.wp;rw[hr h4.1];refine(h4.2 hh ρ w vs hmm hl hv).mono ?_;rintro en w' ⟨u,r',b,h',ρ',rfl,hp,hm',hlt,rv⟩;have he':EnvOk h' ρ' b e a:=fun t=>(he t).mono hlt.hle hlt.keep
  exact hK _ _ _ _ (h6 r' b hp).2 ⟨h',ρ',hm',hl.trans hlt,he'.put (by rw[hsz]; exact hd) rv,by rw[AaE]; exact hdf,by rw[AaW]; exact hsz,c.hx.later hmm hlt hX⟩
mutual
def dxq(c:Cx)(all:List Oper)(im:List Nat)(n0 id:Nat)(k:List It):Nat->List Oper->List AV->Env->List Blk->Prop
 | _,[],_,e,s=>AWp c k e s
 | 0,_::_,_,_,_=>False
 | n+1,o::r,cs,e,s=>bif im.contains (rix all (o::r)) then
   (match gOnB all.toArray e o,xop false true c.P e s o.op with
    | true,.call f args=>ApE c n0 f args id s (fun v s'=>dxq c all im n0 id k n r cs (put e o.dst v) s')
    | _,_=>False)
  else dck (reader o.op&&!blind o.op) n0 id e o.op/\dxqc c all im n0 id k n (dgrd c all s o r cs e o.guard)
def dxqc(c:Cx)(all:List Oper)(im:List Nat)(n0 id:Nat)(k:List It):Nat->Dn->Prop
 | n,.go r cs e s=>dxq c all im n0 id k n r cs e s
 | n,.two b r cs e r' cs' e' s=>dbrq c all im n0 id k n b r cs e r' cs' e' s
 | n,.side p r cs e s=>p/\dxq c all im n0 id k n r cs e s
 | _,.fail=>False
def dbrq(c:Cx)(all:List Oper)(im:List Nat)(n0 id:Nat)(k:List It):Nat->Bool->List Oper->List AV->Env->List Oper->List AV->Env->List Blk->Prop
 | 0,_,_,_,_,_,_,_,_=>False
 | n+1,b,r,cs,e,r',cs',e',s=>(b=true->dxq c all im n0 id k n r cs e s)/\(b=false->dxq c all im n0 id k n r' cs' e' s)
end
theorem AnO{all:List Oper}{im:List Nat}{n0 id n:Nat} {r cs e r' cs' e' s}:dbrq c all im n0 id k (n+1) true r cs e r' cs' e' s=dxq c all im n0 id k n r cs e s:=by rw[dbrq]; simp
theorem AjG{all:List Oper}{im:List Nat}{n0 id n:Nat} {r cs e r' cs' e' s}:dbrq c all im n0 id k (n+1) false r cs e r' cs' e' s=dxq c all im n0 id k n r' cs' e' s:=by rw[dbrq]; simp
theorem BfR{all:List Oper}{im:List Nat}{n0 id n:Nat}{o:Oper}{r:List Oper}{cs:List AV}(hm:im.contains (rix all (o::r))=false)(hg:o.guard=none)(h:dxq c all im n0 id k n (o::r) cs e s) :
  dck (reader o.op&&!blind o.op) n0 id e o.op/\∃ cv v n' cs' s',DoesOp c s o cv e v s'/\dxq c all im n0 id k n' r cs' (put e o.dst v) s':=by
 cases n with
 | zero=>rw[dxq]at h; exact h.elim
 | succ n =>
  rw[dxq,hm]at h;simp only[cond_false]at h;refine⟨h.1,?_⟩
  replace h:=h.2
  rw[hg]at h;unfold dgrd at h;unfold DoesOp
  revert h
  cases xop false true c.P e s o.op with
  | ok u=>intro h; simp only[dres,dxqc]at h; exact⟨.any,u,n,cs,s,⟨rfl,rfl⟩,h⟩
  | side p u=>intro h; simp only[dres,dxqc]at h; exact⟨.any,u,n,cs,s,⟨h.1,rfl,rfl⟩,h.2⟩
  | sto p u s'=>intro h; simp only[dres,dxqc]at h; exact⟨.any,u,n,cs,s',⟨h.1.1,h.1.2,rfl,rfl⟩,h.2⟩
  | pick b x y =>
   intro h; simp only[dres,dxqc]at h
   cases n with
   | zero=>rw[dbrq]at h; exact h.elim
   | succ n =>
   rw[dbrq]at h;refine⟨.any,_,n,cs,s,⟨rfl,rfl⟩,?_⟩
   cases b with
   | true=>exact h.1 rfl
   | false=>exact h.2 rfl
  | call f args =>
   intro h; simp only[dres]at h
   cases cs with
   | nil=>simp only[dcall,dxqc]at h
   | cons cv cs=>simp only[dcall,dxqc]at h; exact⟨cv,cv,n,cs,s,⟨h.1.1,h.1.2,rfl,rfl⟩,h.2⟩
  | anyb p=>intro h; simp only[dres,dxqc]at h
  | stuck=>intro h; simp only[dres,dxqc]at h
theorem BeB{all:List Oper}{im:List Nat}{n0 id n:Nat}{o:Oper}{r:List Oper}{cs:List AV}(hm:im.contains (rix all (o::r))=false)(h:dxq c all im n0 id k n (o::r) cs e s) :
  dck (reader o.op&&!blind o.op) n0 id e o.op/\∃ cv v n' cs' s',Does c all.toArray s o cv e v s'/\dxq c all im n0 id k n' r cs' (put e o.dst v) s':=by
 cases hg:o.guard with
 | none =>
  obtain⟨h0,cv,v,n',cs',s',h1,h2⟩:=BfR hm hg h;exact⟨h0,cv,v,n',cs',s',by unfold Does; rw[hg]; exact h1,h2⟩
 | some jw =>
  obtain⟨j,want⟩:=jw
  cases n with
  | zero=>rw[dxq]at h; exact h.elim
  | succ n =>
   rw[dxq,hm]at h;simp only[cond_false]at h;refine⟨h.1,?_⟩
   replace h:=h.2
   rw[hg]at h;unfold dgrd dyld at h
   cases hy:yldD want e all[j]? with
   | none=>simp only[hy,dxqc]at h
   | some b =>
    simp only[hy]at h;have key:(b=want->∃ n',dxq c all im n0 id k n' ({ o with guard:=none }::r) cs e s)/\(b≠want->∃ n',dxq c all im n0 id k n' r cs (put e o.dst (.raw undef)) s):=by
     cases n with
     | zero=>cases want <;> simp only[cond_true,cond_false,dxqc,dbrq]at h
     | succ n =>
      cases want <;> simp only[cond_true,cond_false,dxqc,dbrq]at h <;> cases b <;>
       first
       | exact⟨fun _=>⟨n,h.1 rfl⟩,fun hh=>(hh rfl).elim⟩
       | exact⟨fun _=>⟨n,h.2 rfl⟩,fun hh=>(hh rfl).elim⟩
       | exact⟨fun hh=>(by cases hh),fun _=>⟨n,h.1 rfl⟩⟩
       | exact⟨fun hh=>(by cases hh),fun _=>⟨n,h.2 rfl⟩⟩
    have hy':yldD want e all.toArray[j]? = some b:=by simpa using hy
    by_cases hb:b=want
    .obtain ⟨n1,h1⟩:=key.1 hb
     obtain⟨_,cv,v,n',cs',s',h1,h2⟩:=BfR (o:={ o with guard:=none }) (by exact hm) rfl h1;refine⟨cv,v,n',cs',s',?_,h2⟩;unfold Does;rw[hg];simp only[hy'];exact .inl ⟨hb,h1⟩
    .obtain ⟨n1,h1⟩:=key.2 hb
     refine⟨.any,.raw undef,n1,cs,s,?_,h1⟩;unfold Does;rw[hg];simp only[hy'];exact .inr ⟨hb,trivial,trivial⟩
theorem AjH{all:List Oper}{im:List Nat}{n0 id:Nat}:∀ {r:List Oper}{m n:Nat}{cs:List AV}{e:Env}{s:List Blk},(∀ (j:Nat),r[j]? = all[m+j]?)->all.length=m+r.length->dxq c all im n0 id k n r cs e s->ChG c all.toArray im n0 id (fun e s=>AWp c k e s) (List.range' m r.length) e s
 | [],m,n,cs,e,s,_,_,h=>by
  rw[dxq]at h;exact h
 | o::r,m,n,cs,e,s,hr,hlen,h=>by
  have h0:all.toArray[m]? = some o:=by have:=hr 0; simpa using this.symm
  have hix:rix all (o::r)=m:=by unfold rix; omega
  have hr':∀ j,r[j]? = all[m+1+j]?:=fun j=>by have:=hr (j+1); simpa[Nat.add_assoc,Nat.add_comm 1 j]using this
  simp only[List.length_cons,List.range'_succ,ChG,h0]
  cases hm:im.contains m with
  | true =>
   simp only[cond_true]
   cases n with
   | zero=>rw[dxq]at h; exact h.elim
   | succ n =>
    rw[dxq,hix,hm]at h;simp only[cond_true]at h
    split at h
    .rename_i f args hg hx
     obtain⟨post,h4,h5,h6⟩:=h;exact⟨hg,f,args,hx,post,h4,h5,fun u b hp=>⟨(h6 u b hp).1,AjH hr' (by simp at hlen; omega) (h6 u b hp).2⟩⟩
    .exact h.elim
  | false =>
   simp only[cond_false];obtain⟨hd,cv,v,n',cs',s',h1,h2⟩:=BeB (by rw[hix]; exact hm) h;refine⟨fun hr hb=>?_,cv,v,s',h1,AjH hr' (by simp at hlen; omega) h2⟩;unfold dck at hd
   simpa[hr,hb]using hd
theorem BmD(im:List Nat)(bid:Nat)(cs:List AV){id:Nat}{ops:List Oper}(hm:c.P.follows .mixedOrders=true)(hok:AhE (okG ops im) ops=true){N:Nat}(hN:c.fn.ntmps=N)(hdst:ops.all (fun o=>dOk N o.dst)=true)(n:Nat)
  (h:dxq c ops im s.length bid k n ops cs e s):AWp c (.code (.region id ops.toArray true)::k) e s:=by
 intro a w hsim;obtain⟨n1,hn1⟩:∃ n1,n1=s.length:=⟨_,rfl⟩;rw[<- hn1]at h;have hch:=AjH (m:=0) (by intro j; simp) (by simp) h;rw[<- List.range_eq_range']at hch;refine wp_region_any hm ?_;have hsim':Sim c e s a { w with drawn:=w.drawn+1 }:=by
  obtain⟨hh,ρ,hmm,hl,he,hdf,hsz,hX⟩:=hsim;have sm:Same w { w with drawn:=w.drawn+1 }:=Same.drew w;exact⟨hh,ρ,hmm.same sm,hl.trans (Later.same sm),he,hdf,hsz,c.hx.later hmm (Later.same sm) hX⟩
 have hd:∀ o∈ops,dOk c.fn.ntmps o.dst=true:=fun o ho=>by rw[hN]; exact(List.all_eq_true.1 hdst) o ho
 refine AfY (okp:=okG ops im) (ChG c ops.toArray im n1 bid (fun e s=>AWp c k e s)) hok (fun e s x=>x) (fun l i r e s hj x=>ChG.front rfl AWp.K l i r e s hj x) (fun i o r e s a w Kc ho x hs hK=>BeA hd i o r e s a w Kc ho x hs hK)
  ops.length (Array.replicate ops.length false) (List.range ops.length) e s a _ (by simp) ?_ (by simp) ?_ hch hsim'
 .symm
  rw[List.filter_eq_self];intro i hi
  simp at hi
  simp[hi]
 .intro i hi j hj
  exfalso
  by_cases h1:i<ops.length
  .simp [h1]at hi
  .unfold AbT at hj
   have:ops[i]? = none:=by simp; omega
   simp[this]at hj
end
end Go.Av
namespace Go.Proofs.YtnfkjpihaficbaaGreatDoor
open Go Go.Av Go.RowKit _root_.Go.Proofs.Tryz
theorem A0U:∀ l:List (Int×Int×Int),(flat (l.map sdA)).all Av.frozen=true
 | []=>rfl
 | a::l=>by simp only[List.map_cons,flat,sdA,cellsOf,List.cons_append,List.nil_append,List.all_cons,Av.frozen,A0U l,Bool.and_self]
def ordT(ds:List (Int×Int×Int))(q:List Nat):List Blk:=[.arr 3 (ds.map sdA),.mp [],.arr 1 [.sl 0 0 ds.length ds.length],.arr 1 (q.map inA)]
theorem AxP(ds:List (Int×Int×Int))(ht:∀ d∈ds,1<=d.2.1/\d.2.1<=4)(q:List Nat)(i j:Nat)(hi:i<ds.length)(hj:j<ds.length) :
  Ct prog 137 [.int .i64 i,.int .i64 j,.ptr 2 1 0 0] (ordT ds q) (fun r s=>r=.int .i64 (cmpD ds i j)/\s=ordT ds q):=by
 refine Ct.borrowF (P:=prog) (f:=137) (args:=[.int .i64 i,.int .i64 j,.ptr 2 1 0 0]) 2 (ordT ds q) (post:=(· = .int .i64 (cmpD ds i j))) ?_ (by rintro r rfl; rfl);have h:=AjE ds ht i j hi hj;have hb:borF 2 (ordT ds q) (.ptr 2 1 0 0)=.pin 1 [.fz 3 (ds.map sdA)] 0 0:=by
  have hs:borC 2 (ordT ds q) (.sl 0 0 ds.length ds.length)=.fz 3 (ds.map sdA):=by
   show bor (1+1) (ordT ds q) (.sl 0 0 ds.length ds.length)=_
   rw[bor_sl,show(ordT ds q).getD 0 .dead=.arr 3 (ds.map sdA) from rfl];simp only[Nat.zero_add,List.length_map,decide_true,Nat.le_refl,Bool.and_self,cond_true,List.drop_zero,AV.fz.injEq,true_and];rw[List.take_of_length_le (by simp),List.map_map];exact List.map_congr_left fun x _=>rfl
  show AV.pin 1 [borC 2 (ordT ds q) (.sl 0 0 ds.length ds.length)] 0 0=_
  rw[hs]
 rw[List.map_cons,List.map_cons,List.map_cons,List.map_nil,hb];exact h
theorem A3F(ds:List (Int×Int×Int))(ht:∀ d∈ds,1<=d.2.1/\d.2.1<=4)(l:List Nat)(hn:∀ i∈l,i<ds.length)(b:Nat)(h3:b<=l.length)(hl:l.length<1000000) :
  Ct prog 243 [.sl 3 0 l.length l.length,.int .i64 0,.int .i64 b,.fn (.func 137) [.ptr 2 1 0 0]] (ordT ds l) (fun r s=>r=.tup []/\s=ordT ds (isN (cmpD ds) 0 b b 1 l)):=by
 have hof:=AxP ds ht;unfold ordT at hof |-;generalize hX:Blk.arr 3 (ds.map sdA)=X0' at *;generalize hY:Blk.arr 1 [AV.sl 0 0 ds.length ds.length]=Y0' at *;generalize hcc:cmpD ds=c at *;refine zcIB func243 rfl fun h ρ w=>?_
 simp only[go_sem]
 repeat refine ao ?_
 refine AaC (ι:=Nat×List Nat) (fun y=>b+1-y.1) (fun y=>[(8,.int .i64 y.1),(3,.fn (.func 137) [.ptr 2 1 0 0]),(2,.int .i64 b),(1,.int .i64 0),(0,.sl 3 0 l.length l.length)]) (fun y=>[X0',.mp [],Y0',.arr 1 (y.2.map inA)])
  (fun y=>1<=y.1/\y.2.Perm l/\isN c 0 b (b+1-y.1) y.1 y.2=isN c 0 b b 1 l) (1,l) ⟨by simp,.refl _,rfl⟩ ?_ ?_
 .refine Shift.weakS ?_ rfl
  simp only[go_sem]
 .rintro ⟨i,q⟩ ⟨g1,g2,g3⟩ J hJ
  simp only at g1 g2 g3 hJ |-
  by_cases gi:i<b
  .have di:decide ((i:Int)<(b:Int))=true:=by simp; omega
   refine zgB ?_;simp only[go_sem,di];refine AaC (ι:=Nat×List Nat) (fun y=>y.1) (fun y=>[(9,.int .i64 y.1),(8,.int .i64 i),(3,.fn (.func 137) [.ptr 2 1 0 0]),(2,.int .i64 b),(1,.int .i64 0),(0,.sl 3 0 l.length l.length)]) (fun y=>[X0',.mp [],Y0',.arr 1 (y.2.map inA)])
    (fun y=>0<=y.1/\y.1<=i/\y.2.Perm l/\∃ f,y.1<=f/\insN c 0 f y.1 y.2=insN c 0 i i q) (i,q) ⟨by simp only; omega,by simp,g2,i,Nat.le_refl _,rfl⟩ ?_ ?_
   .refine Shift.weakS ?_ rfl
    simp only[go_sem]
   .rintro ⟨j,p⟩ ⟨k1,k2,k3,f0,k4,k5⟩ K hK
    simp only at k1 k2 k3 k4 k5 hK |-;have hgo:insN c 0 i i q=p->isN c 0 b (b+1-(i+1)) (i+1) p=isN c 0 b b 1 l:=fun e=>by
     rw[show b+1-i=(b+1-(i+1))+1 by omega,isN,if_pos gi,e]at g3;exact g3
    have hq:=k3.length_eq;have hpn:∀ k,(hk:k<p.length)->p[k]<ds.length:=fun k hk=>hn _ (k3.mem_iff.1 (List.getElem_mem hk))
    by_cases hja:0<j
    .obtain ⟨f1,rfl⟩:∃ f1,f0=f1+1:=⟨f0-1,by omega⟩
     have dj:decide ((j:Int)>0)=true:=by simp; omega
     have e1:((j:Int)-1).toNat=j-1:=by omega
     have p1:=AdP p j (by omega);have p2:=AdP p (j-1) (by omega);have hc:=hof p (p[j]'(by omega)) (p[j-1]'(by omega)) (hpn _ _) (hpn _ _);refine zgB ?_;simp only[go_sem];refine BmD [14] 9 [] mixed (by decide) rfl rfl 100 ?_;simp only[go_sem,Go.Av.dxq,Go.Av.dxqc,Go.Av.gOnB,Go.Av.yldD,↓Go.Av.AnO,↓Go.Av.AjG,Go.Av.dbrq,dj,e1,p1,p2,List.length_map]
     repeat refine aj ?_
     refine icc hc ⟨_,_,rfl,rfl⟩ ?_;rintro _ _ ⟨rfl,rfl⟩;refine⟨.rfl',?_⟩
     cases dc:decide (c (p[j]'(by omega)) (p[j-1]'(by omega))<0)with
     | true =>
      have p3:=AdP (p.set j (p[j-1]'(by omega))) (j-1) (by simp; omega);have s1:=AhK p j (p[j-1]'(by omega));have s2:=AhK (p.set j (p[j-1]'(by omega))) (j-1) (p[j]'(by omega));have hfin:=hK (j-1,_) ⟨by simp only; omega,by simp only; omega,AjF k3 (i:=j) (j:=j-1) (by omega) (by omega),f1,by simp only; omega,by
       rw[insN,atN (by omega),atN (by omega),if_pos ⟨hja,of_decide_eq_true dc⟩]at k5;exact k5⟩ (by simp only; omega)
      simp only[go_sem,Go.Av.dxq,Go.Av.dxqc,Go.Av.gOnB,Go.Av.yldD,↓Go.Av.AnO,↓Go.Av.AjG,Go.Av.dbrq,dj,e1,p1,p2,dc,List.length_map]
      repeat refine aj ?_
      refine zgB ?_;simp only[go_sem];refine AzZ [] mixed (by decide) rfl rfl 100 ?_;simp only[go_sem,e1,p1,p2,p3,s1,s2,List.length_map,List.length_set]
      repeat refine aj ?_
      refine zgB ?_;simp only[go_sem]
      repeat refine aj ?_
      rw[show(j:Int)-1=((j-1:Nat):Int) by omega];refine ainv hfin (Shift.weakS ?_ rfl);simp only[go_sem]
     | false =>
      rw[insN,atN (by omega),atN (by omega),if_neg (fun h=>of_decide_eq_false dc h.2)]at k5;have hfin:=hJ (i+1,p) ⟨by simp only; omega,k3,hgo k5.symm⟩ (by simp only; omega);simp only[go_sem,Go.Av.dxq,Go.Av.dxqc,Go.Av.gOnB,Go.Av.yldD,↓Go.Av.AnO,↓Go.Av.AjG,Go.Av.dbrq,dj,e1,p1,p2,dc,List.length_map]
      repeat refine aj ?_
      refine zgB ?_;simp only[go_sem]
      repeat refine aj ?_
      rw[ic i];refine ainv hfin (Shift.weakS ?_ rfl);simp only[go_sem]
    .have dj:decide ((j:Int)>0)=false:=by simp; omega
     have k6:insN c 0 f0 j p=p:=by
      cases f0 with
      | zero=>rfl
      | succ f=>rw[insN,if_neg (fun h=>hja h.1)]
     have hfin:=hJ (i+1,p) ⟨by simp only; omega,k3,hgo (by rw[<- k5,k6])⟩ (by simp only; omega);refine zgB ?_;simp only[go_sem];refine zr [.any] mixed ?_;simp only[go_sem,dj]
     repeat refine aj ?_
     refine zgB ?_;simp only[go_sem]
     repeat refine aj ?_
     rw[ic i];refine ainv hfin (Shift.weakS ?_ rfl);simp only[go_sem]
  .have di:decide ((i:Int)<(b:Int))=false:=by simp; omega
   refine zgB ?_;simp only[go_sem,di];have g4:isN c 0 b (b+1-i) i q=q:=by
    cases b+1-i with
    | zero=>rfl
    | succ f=>rw[isN,if_neg gi]
   exact aret [] rfl ⟨rfl,by rw[<- g3,g4]⟩
theorem BjK(ds:List (Int×Int×Int))(ht:∀ d∈ds,1<=d.2.1/\d.2.1<=4)(l:List Nat)(hn:∀ i∈l,i<ds.length)(hl:l.length<20) :
  Ct prog 190 [.sl 3 0 l.length l.length,.int .i64 l.length,.fn (.func 137) [.ptr 2 1 0 0]] (ordT ds l) (fun r s=>r=.tup []/\s=ordT ds (A3D (cmpD ds) l)):=by
 have hr:=A3F ds ht l hn l.length (by omega) (by omega);have d1:decide ((20:Int)<=(l.length:Int))=false:=by simp; omega
 have d2:decide ((20:Int)<(l.length:Int))=false:=by simp; omega
 unfold ordT at hr |-;refine zcIB func190 rfl fun h ρ w=>?_
 simp only[go_sem];refine AcY (around ?_);refine zgB ?_;simp only[go_sem,d1];refine za (hr) ?_;rintro _ _ ⟨rfl,rfl⟩;refine zgB ?_;simp only[go_sem];refine AcY (around ?_);refine zgB ?_;simp only[go_sem,d2];exact zt []
theorem AxQ(ds:List (Int×Int×Int))(ht:∀ d∈ds,1<=d.2.1/\d.2.1<=4)(l:List Nat)(hn:∀ i∈l,i<ds.length)(hl:l.length<20) :
  Ct prog 136 [.sl 3 0 l.length l.length,.fn (.func 137) [.ptr 2 1 0 0]] (ordT ds l) (fun r s=>r=.tup []/\s=ordT ds (A3D (cmpD ds) l)):=by
 have hr:=BjK ds ht l hn hl;unfold ordT at hr |-;refine zcIB func136 rfl fun h ρ w=>?_
 simp only[go_sem,List.length_map]
 repeat refine aqa ?_
 refine za (hr) ?_;rintro _ _ ⟨rfl,rfl⟩;refine zgB ?_;simp only[go_sem];exact zt []
theorem A9D(ds:List (Int×Int×Int))(ht:∀ d∈ds,1<=d.2.1/\d.2.1<=4)(hl:ds.length<=5):Ct prog 84 [.sl 0 0 ds.length ds.length] [.arr 3 (ds.map sdA),.mp []] (fun r s=>r=.sl 3 0 ds.length ds.length/\s=ordT ds (orderD ds)):=by
 have hr:=AxQ ds ht (List.range ds.length) (by simp) (by simp; omega);rw[List.length_range]at hr;unfold ordT at hr |-;have hlow:∀ n,lowB n (.arr 3 (ds.map sdA))=true:=fun n=>AaD (A0U ds)
 have hDl:(ds.map sdA).length=ds.length:=by simp
 generalize ds.map sdA=D at *;refine zcIF func84 rfl fun h ρ w=>?_
 simp only[go_sem,List.length_map,hDl]
 repeat refine aj ?_
 refine AaC (ι:=Nat) (fun y=>ds.length-y) (fun y=>[(10,.int .i64 y),(9,.int .i64 ds.length),(3,.sl 3 0 ds.length ds.length),(1,.ptr 2 1 0 0)])
  (fun y=>[.arr 3 D,.mp [],.arr 1 [.sl 0 0 ds.length ds.length],.arr 1 (((List.range y)++List.replicate (ds.length-y) 0).map inA)]) (fun y=>y<=ds.length) 0 (by simp) ?_ ?_
 .refine Shift.weakS ?_ ?_
  .simp only [go_sem,List.length_map]
  .simp [inA]
 intro i g1 J hJ
 by_cases gi:i<ds.length
 .have di:decide ((i:Int)<(ds.length:Int))=true:=by simp; omega
  have hfin:=hJ (i+1) (by omega) (by omega);have hs:((List.range i++List.replicate (ds.length-i) 0).map inA).set i (.int .i64 (i:Int))=(List.range (i+1)++List.replicate (ds.length-(i+1)) 0).map inA:=by
   rw[AhK]
   congr 1
   obtain⟨m,hm⟩:∃ m,ds.length-i=m+1:=⟨ds.length-i-1,by omega⟩;rw[hm,show ds.length-(i+1)=m by omega,List.range_succ,List.set_append_right _ _ (by simp)]
   simp[List.replicate_succ]
  have hlen:((List.range i++List.replicate (ds.length-i) 0).map inA).length=ds.length:=by simp; omega
  obtain⟨v,hgt⟩:∃ v:Nat,((List.range i++List.replicate (ds.length-i) 0).map inA).getD i .any=.int .i64 v:=⟨_,AdP _ i (by simp; omega)⟩;generalize (List.range i++List.replicate (ds.length-i) 0).map inA=T at *;refine zgF ?_;simp only[go_sem,di,hs,hlen,hgt]
  repeat refine aj ?_
  rw[ic i];refine ainv hfin (Shift.weakS ?_ (by first|rfl|rw[List.range_succ]));simp only[go_sem]
 .have di:decide ((i:Int)<(ds.length:Int))=false:=by simp; omega
  have hi:i=ds.length:=by omega
  subst hi;rw[Nat.sub_self,List.replicate_zero,List.append_nil];refine zgF ?_;simp only[go_sem,di];refine za (hr) ?_;rintro _ _ ⟨rfl,rfl⟩;refine zgF ?_;simp only[go_sem];exact zt [2]
