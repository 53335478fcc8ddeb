/- Statements whose order is open, in which listed calls may change a block and make new ones. -/
import Derived.Test.YtccfklnmolggiaaGreatDoorZ30
import Derived.Shelf.SlGeneric
import Derived.Shelf.SlSortCmp.NoneTotal
set_option linter.all false
namespace Go.Av
open RowKit
variable [Tr]
def gOnB(ops:Array Oper)(e:Env)(o:Oper):Bool:=match o.guard with
 | none=>true
 | some (j,want)=>match yldD want e ops[j]? with
  | some b=>b==want
  | none=>false
theorem AmB{ops:Array Oper}{o:Oper}{e e':Env}(h:AkS ops o e e'):gOnB ops e o=gOnB ops e' o:=by
 grind[gOnB,ArW]
def ImpG(c:Cx)(ops:Array Oper)(n:Nat)(id:Nat)(o:Oper)(e:Env)(s:LB)(K:AV->LB->Prop):Prop :=
 gOnB ops e o=true/\∃ f args,xop false true c.P e s o.op=.call f args/\AzV c n f args id s K
def ChG(c:Cx)(ops:Array Oper)(im:List Nat)(n0 id:Nat)(K:Env->LB->Prop):List Nat->Env->LB->Prop
 | [],e,s=>K e s
 | i::r,e,s=>match ops[i]? with
  | none=>False
  | some o=>bif im.contains i then ImpG c ops n0 id o e s (fun v s'=>ChG c ops im n0 id K r (put e o.dst v) s')
   else(reader o.op=true->blind o.op=false->opOk n0 id e o.op=true)/\∃ cv v s',Does c ops s o cv e v s'/\ChG c ops im n0 id K r (put e o.dst v) s'
def okG(ops:List Oper)(im:List Nat)(j i:Nat):Bool:=match ops[j]?,ops[i]? with
 | some oj,some oi=>oj.apart ops.toArray oi&&(bif im.contains i then !im.contains j&&reader oj.op else bif im.contains j then reader oi.op else together oj oi)
 | _,_=>false
section
variable {cx:Cx}{ops:Array Oper}{s:LB}{K:Env->LB->Prop}{im:List Nat}{n0 id:Nat}
theorem ImpG.agree{o:Oper}{e e':Env}{s:LB}{K K':AV->LB->Prop}(h:AkS ops o e e')(hK:∀ r s,K r s->K' r s)(x:ImpG cx ops n0 id o e s K):ImpG cx ops n0 id o e' s K':=by
 obtain⟨h1,f,args,h2,post,h4,h5,h6⟩:=x;exact⟨by grind[AmB],f,args,by grind[xop_agree,AaN],post,h4,h5,fun r b hp=>⟨(h6 r b hp).1,hK _ _ (h6 r b hp).2⟩⟩
theorem ChG.congr(hK:∀ e e' s,Eqv e e'->K e s->K e' s):∀ {l:List Nat}{e e':Env}{s:LB},Eqv e e'->ChG cx ops im n0 id K l e s->ChG cx ops im n0 id K l e' s
 | [],e,e',s,h,x=>hK e e' s h x
 | i::r,e,e',s,h,x=>by
  unfold ChG at x |-
  split at x
  .exact x.elim
  .cases hi:im.contains i with
   | true =>
    rw[hi]at x;exact ImpG.agree (fun t _=>h t) (fun r' s' z=>ChG.congr hK (h.put _ _) z) x
   | false =>
    rw[hi]at x;obtain⟨h1,cv,v,s',h2,h3⟩:=x;exact⟨fun hr hb=>by rw[<- opOk_agree (fun y _=>AhA fun t _=>h t)]; exact h1 hr hb,cv,v,s',h2.agree fun t _=>h t,ChG.congr hK (h.put _ _) h3⟩
theorem ChG.swap{opl:List Oper}(hops:ops=opl.toArray)(hK:∀ e e' s,Eqv e e'->K e s->K e' s){i j:Nat}{r:List Nat}(hok:okG opl im j i=true){e:Env}{s:LB}(x:ChG cx ops im n0 id K (j::i::r) e s) :
  ChG cx ops im n0 id K (i::j::r) e s:=by
 unfold okG at hok
 split at hok
 rotate_left
 .grind
 rename_i oj oi hj' hi';have hj:ops[j]? = some oj:=by grind
 have hi:ops[i]? = some oi:=by grind
 simp only[lac]at hok;obtain⟨ha,hok⟩:=hok;obtain⟨a1,a2,a3⟩:=Oper.apart_spec ha;have gi:∀ (e:Env) (v:AV),AkS ops oi (put e oj.dst v) e:=fun e v t ht=>by
  grind[get_put]
 have gj:∀ (e:Env) (v:AV),AkS ops oj e (put e oi.dst v):=fun e v t ht=>by
  grind[get_put]
 have sw:∀ (e:Env) (v u:AV),Eqv (put (put e oj.dst v) oi.dst u) (put (put e oi.dst u) oj.dst v):=fun e v u=>ApP a2
 simp only[ChG,hi,hj]at x |-
 cases mi:im.contains i with
 | true =>
  rw[mi]at hok x;simp only[lav,lac,lbr]at hok;obtain⟨mj,rj⟩:=hok;rw[mj]at x |-
  simp at x |-
  obtain⟨o1,cv,v,s',d1,y⟩:=x;obtain⟨rfl,_⟩:=AaR rj (o1 rj) (Agr.rfl') d1;obtain⟨h1,f,args,h2,post,h4,h5,h6⟩:=y;refine⟨by grind[AmB],f,args,by grind[xop_agree,AaN],post,h4,h5,fun u b hp=>?_⟩;obtain⟨ag,hy⟩:=h6 u b hp;have hs:=(AaR rj (o1 rj) ag d1).2;refine⟨ag,fun _ hb=>?_,cv,v,_,hs.agree (gj e u),ChG.congr hK (sw e v u) hy⟩<;>grind[opOk_agree,AaN]
 | false =>
  rw[mi]at hok x;simp only[lba]at hok x |-
  cases mj:im.contains j with
  | true =>
   rw[mj]at hok x
   simp at hok x |-
   obtain⟨h1,f,args,h2,post,h4,⟨u0,b0,h5⟩,h6⟩:=x;obtain⟨ag0,o0,cv0,v0,s0,d0,z0⟩:=h6 u0 b0 h5;have ok0:blind oi.op=false->opOk n0 id e oi.op=true:=fun hb=>by
    grind[opOk_agree,AaN]
   have d0':Does cx ops b0 oi cv0 e v0 s0:=d0.agree (gi e u0);have d0s:=(AaR hok ok0 ag0.symm d0').2;refine⟨fun _=>ok0,cv0,v0,s,d0s,by grind[AmB],f,args,?_,post,h4,⟨u0,b0,h5⟩,fun u b hp=>?_⟩
   .grind[xop_agree,AaN]
   .obtain ⟨ag,_,cv,v,s',d,y⟩:=h6 u b hp
    have d':Does cx ops b oi cv e v s':=d.agree (gi e u);obtain⟨e1,ds⟩:=AaR hok ok0 ag.symm d'
    grind[does_det,ChG.congr]
  | false =>
   rw[mj]at hok x
   simp at hok x |-
   obtain⟨o1,cv,v,s1,h1,o2,cu,u,s2,h2,h3⟩:=x;have h2':Does cx ops s1 oi cu e u s2:=h2.agree (gi e v);have h1':∀ {z z'},Does cx ops z oj cv e v z'->Does cx ops z oj cv (put e oi.dst u) v z':=fun hd=>hd.agree (gj e u)
   have h3':=ChG.congr hK (sw e v u) h3;have oi':∀ {n},reader oi.op=true->opOk n id (put e oj.dst v) oi.op=opOk n id e oi.op:=fun _=>opOk_agree (AaN (gi e v))
   have oj':∀ {n},opOk n id e oj.op=opOk n id (put e oi.dst u) oj.op:=opOk_agree (AaN (gj e u));simp only[lbj,lac,together]at hok
   rcases hok with(⟨c1,c2⟩|c1)|c1
   .have e1:=h1.calm c1
    subst e1;have e2:=h2.calm c2
    grind
   .have e1:=h1.calm (blind_calm c1)
    subst e1;exact⟨fun hr hb=>by grind,cu,u,_,h2',fun hr hb=>(by grind),cv,v,_,h1' (h1.blind c1),h3'⟩
   .have e2:=h2.calm (blind_calm c1)
    subst e2;exact⟨fun hr hb=>(by grind),cu,u,_,h2'.blind c1,fun hr hb=>by grind,cv,v,_,h1' h1,h3'⟩
theorem ChG.front{opl:List Oper}(hops:ops=opl.toArray)(hK:∀ e e' s,Eqv e e'->K e s->K e' s):∀ (l:List Nat)(i:Nat)(r:List Nat)(e:Env)(s:LB),(∀ j∈l,okG opl im j i=true) ->
  ChG cx ops im n0 id K (l++i::r) e s->ChG cx ops im n0 id K (i::(l++r)) e s
 | [],_,_,_,_,_,x=>x
 | j::l,i,r,e,s,h,x=>by
  refine ChG.swap hops hK (h j (by simp)) ?_;have ih:=fun e s=>ChG.front hops hK l i r e s fun k hk=>h k (by simp[hk])
  simp only[las,ChG]at x |-
  split at x
  .exact x.elim
  .cases hm:im.contains j with
   | true =>
    rw[hm]at x;exact ImpG.agree (fun _ _=>rfl) (fun r' s' z=>ih _ _ z) x
   | false =>
    rw[hm]at x;obtain⟨h1,cv,v,s',h2,h3⟩:=x;exact⟨h1,cv,v,s',h2,ih _ _ h3⟩
end
section
variable {c:Cx}{k:List It}{e:Env}{s:LB}
theorem A2C{ops:Array Oper}{o:Oper}{a:Act}{w:World}(hs:Sim c e s a w)(hg:gOnB ops e o=true):Region.wanted o (yielded ops a.tmps):=by
 obtain⟨hh,ρ,hm,hl,he,hdf,hsz,hX⟩:=hs;unfold gOnB at hg
 cases hq:o.guard with
 | none=>grind[Region.wanted]
 | some p =>
  obtain⟨j,want⟩:=p;rw[hq]at hg;simp only at hg
  cases hb:yldD want e ops[j]? with
  | none=>grind
  | some b =>
   have hy:=AeE (all:=ops.toList) he (by simpa using hb)
   simp_all[Region.wanted]
theorem BcR{ops:List Oper}{im:List Nat}{n0 id:Nat}(hdst:∀ o∈ops,dOk c.fn.ntmps o.dst=true)(i:Nat)(o:Oper)(r:List Nat)(e:Env)(s:LB)(a:Act)(w:World)(Kc:Act->World->Prop)(ho:ops[i]? = some o)
  (x:ChG c ops.toArray im n0 id (fun e s=>AWp c k e s) (i::r) e s) (hs:Sim c e s a w) (hK:∀ e' s' a w,ChG c ops.toArray im n0 id (fun e s=>AWp c k e s) r e' s'->Sim c e' s' a w->Kc a w) :
  if Region.wanted o (yielded ops.toArray a.tmps) then o.wp c.P a w Kc (WQ c k) else Kc (a.put o.dst undef) w:=by
 have ho':ops.toArray[i]? = some o:=by grind
 have hd:=hdst o (laj ho);simp only[ChG,ho']at x
 cases hm:im.contains i with
 | false =>
  rw[hm]at x;obtain⟨_,cv,v,s',h2,h3⟩:=x;exact AkU hs hd h2 fun a w hs'=>hK _ _ a w h3 hs'
 | true =>
  rw[hm]at x;obtain⟨hg,f,args,hx,post,h4,_,h6⟩:=x;rw[if_pos (A2C hs hg)];obtain⟨hh,ρ,hmm,hl,he,hdf,hsz,hX⟩:=hs;have hsnd:=AeC (P:=c.P) (wr:=false) (frz:=true) (o:=o) hmm he;rw[hx]at hsnd;obtain⟨vs,hv,hr⟩:=hsnd;unfold Oper.wp;rw[hr h4.1];refine(h4.2 hh ρ w vs hmm hl hv).mono ?_;rintro en w' ⟨u,r',b,h',ρ',rfl,hp,hm',hlt,rv⟩;have he':EnvOk h' ρ' b e a:=fun t=>(he t).mono hlt.hle hlt.keep
  exact hK _ _ _ _ (h6 r' b hp).2 ⟨h',ρ',hm',hl.trans hlt,he'.put (by grind) rv,by grind[AaC],by grind[AaL],c.hx.later hmm hlt hX⟩
mutual
def dxq(c:Cx)(all:List Oper)(im:List Nat)(n0 id:Nat)(k:List It):Nat->List Oper->LY->Env->LB->Prop
 | _,[],_,e,s=>AWp c k e s
 | 0,_::_,_,_,_=>False
 | n+1,o::r,cs,e,s=>bif im.contains (rix all (o::r)) then
   (match gOnB all.toArray e o,xop false true c.P e s o.op with
    | true,.call f args=>AzV c n0 f args id s (fun v s'=>dxq c all im n0 id k n r cs (put e o.dst v) s')
    | _,_=>False)
  else dck (reader o.op&&!blind o.op) n0 id e o.op/\dxqc c all im n0 id k n (dgrd c all s o r cs e o.guard)
def dxqc(c:Cx)(all:List Oper)(im:List Nat)(n0 id:Nat)(k:List It):Nat->Dn->Prop
 | n,.go r cs e s=>dxq c all im n0 id k n r cs e s
 | n,.two b r cs e r' cs' e' s=>dbrq c all im n0 id k n b r cs e r' cs' e' s
 | n,.side p r cs e s=>p/\dxq c all im n0 id k n r cs e s
 | _,.fail=>False
def dbrq(c:Cx)(all:List Oper)(im:List Nat)(n0 id:Nat)(k:List It):Nat->Bool->List Oper->LY->Env->List Oper->LY->Env->LB->Prop
 | 0,_,_,_,_,_,_,_,_=>False
 | n+1,b,r,cs,e,r',cs',e',s=>(b=true->dxq c all im n0 id k n r cs e s)/\(b=false->dxq c all im n0 id k n r' cs' e' s)
end
theorem AcS{all:List Oper}{im:List Nat}{n0 id n:Nat} {r cs e r' cs' e' s}:dbrq c all im n0 id k (n+1) true r cs e r' cs' e' s=dxq c all im n0 id k n r cs e s:=by grind[dbrq]
theorem AcC{all:List Oper}{im:List Nat}{n0 id n:Nat} {r cs e r' cs' e' s}:dbrq c all im n0 id k (n+1) false r cs e r' cs' e' s=dxq c all im n0 id k n r' cs' e' s:=by grind[dbrq]
theorem BeT{all:List Oper}{im:List Nat}{n0 id n:Nat}{o:Oper}{r:List Oper}{cs:LY}(hm:im.contains (rix all (o::r))=false)(hg:o.guard=none)(h:dxq c all im n0 id k n (o::r) cs e s) :
  dck (reader o.op&&!blind o.op) n0 id e o.op/\∃ cv v n' cs' s',DoesOp c s o cv e v s'/\dxq c all im n0 id k n' r cs' (put e o.dst v) s':=by
 cases n with
 | zero=>grind[dxq]
 | succ n =>
  rw[dxq,hm]at h;refine⟨h.1,?_⟩
  replace h:=h.2
  rw[hg]at h;unfold dgrd at h;unfold DoesOp
  revert h
  cases xop false true c.P e s o.op with
  | ok u=>intro h; simp only[dres,dxqc]at h; exact⟨.any,u,n,cs,s,⟨rfl,rfl⟩,h⟩
  | side p u=>intro h; simp only[dres,dxqc]at h; exact⟨.any,u,n,cs,s,⟨h.1,rfl,rfl⟩,h.2⟩
  | sto p u s'=>intro h; simp only[dres,dxqc]at h; exact⟨.any,u,n,cs,s',⟨h.1.1,h.1.2,rfl,rfl⟩,h.2⟩
  | pick b x y =>
   intro h; simp only[dres,dxqc]at h
   cases n with
   | zero=>grind[dbrq]
   | succ n =>
   rw[dbrq]at h;refine⟨.any,_,n,cs,s,⟨rfl,rfl⟩,?_⟩<;>grind
  | call f args =>
   intro h; simp only[dres]at h
   cases cs<;>grind[dcall,dxqc]
  | anyb p=>grind[dres,dxqc]
  | stuck=>grind[dres,dxqc]
theorem BcS{all:List Oper}{im:List Nat}{n0 id n:Nat}{o:Oper}{r:List Oper}{cs:LY}(hm:im.contains (rix all (o::r))=false)(h:dxq c all im n0 id k n (o::r) cs e s) :
  dck (reader o.op&&!blind o.op) n0 id e o.op/\∃ cv v n' cs' s',Does c all.toArray s o cv e v s'/\dxq c all im n0 id k n' r cs' (put e o.dst v) s':=by
 cases hg:o.guard with
 | none =>
  obtain⟨h0,cv,v,n',cs',s',h1,h2⟩:=BeT hm hg h;exact⟨h0,cv,v,n',cs',s',by grind[Does],h2⟩
 | some jw =>
  obtain⟨j,want⟩:=jw
  cases n with
  | zero=>grind[dxq]
  | succ n =>
   rw[dxq,hm]at h;refine⟨h.1,?_⟩;rw[hg]at h;unfold dgrd dyld at h
   cases hy:yldD want e all[j]? with
   | none=>grind[dxqc]
   | some b =>
    have key:(b=want->∃ n',dxq c all im n0 id k n' ({ o with guard:=none }::r) cs e s)/\(b≠want->∃ n',dxq c all im n0 id k n' r cs (put e o.dst (.raw undef)) s):=by
     cases n<;>grind[dxqc,dbrq]
    have hy':yldD want e all.toArray[j]? = some b:=by grind
    by_cases hb:b=want
    .obtain ⟨n1,h1⟩:=key.1 hb
     obtain⟨_,cv,v,n',cs',s',h1,h2⟩:=BeT (by exact hm) rfl h1;refine⟨cv,v,n',cs',s',?_,h2⟩;unfold Does;rw[hg];simp only[hy'];exact .inl ⟨hb,h1⟩
    .obtain ⟨n1,h1⟩:=key.2 hb
     refine⟨.any,.raw undef,n1,cs,s,?_,h1⟩<;>grind[Does]
theorem AiP{all:List Oper}{im:List Nat}{n0 id:Nat}:∀ {r:List Oper}{m n:Nat}{cs:LY}{e:Env}{s:LB},(∀ (j:Nat),r[j]? = all[m+j]?)->all.length=m+r.length->dxq c all im n0 id k n r cs e s->ChG c all.toArray im n0 id (fun e s=>AWp c k e s) (List.range' m r.length) e s
 | [],m,n,cs,e,s,_,_,h=>by
  rw[dxq]at h;exact h
 | o::r,m,n,cs,e,s,hr,hlen,h=>by
  have h0:all.toArray[m]? = some o:=by have:=hr 0; simpa using this.symm
  have hix:rix all (o::r)=m:=by unfold rix; omega
  have hr':∀ j,r[j]? = all[m+1+j]?:=fun j=>by have:=hr (j+1); simpa[Nat.add_assoc,Nat.add_comm 1 j]using this
  simp only[laf,List.range'_succ,ChG,h0]
  cases hm:im.contains m with
  | true =>
   cases n with
   | zero=>rw[dxq]at h; exact h.elim
   | succ n =>
    rw[dxq,hix,hm]at h
    split at h
    .rename_i f args hg hx
     obtain⟨post,h4,h5,h6⟩:=h;exact⟨hg,f,args,hx,post,h4,h5,fun u b hp=>⟨(h6 u b hp).1,AiP hr' (by simp at hlen; omega) (h6 u b hp).2⟩⟩
    .exact h.elim
  | false =>
   obtain⟨hd,cv,v,n',cs',s',h1,h2⟩:=BcS (by rw[hix]; exact hm) h;refine⟨fun hr hb=>?_,cv,v,s',h1,AiP hr' (by simp at hlen; omega) h2⟩;unfold dck at hd
   simpa[hr,hb]using hd
theorem AzW(im:List Nat)(bid:Nat)(cs:LY){id:Nat}{ops:List Oper}(hm:c.P.follows .mixedOrders=true)(hok:AgQ (okG ops im) ops=true){N:Nat}(hN:c.fn.ntmps=N)(hdst:ops.all (fun o=>dOk N o.dst)=true)(n:Nat)
  (h:dxq c ops im s.length bid k n ops cs e s):AWp c (.code (.region id ops.toArray true)::k) e s:=by
 intro a w hsim;obtain⟨n1,hn1⟩:∃ n1,n1=s.length:=⟨_,rfl⟩;rw[<- hn1]at h;have hch:=AiP (m:=0) (by grind) (by simp) h;rw[<- List.range_eq_range']at hch;refine wp_region_any hm ?_;have hsim':Sim c e s a { w with drawn:=w.drawn+1 }:=by
  obtain⟨hh,ρ,hmm,hl,he,hdf,hsz,hX⟩:=hsim;have sm:Same w { w with drawn:=w.drawn+1 }:=Same.drew w;exact⟨hh,ρ,hmm.same sm,hl.trans (Later.same sm),he,hdf,hsz,c.hx.later hmm (Later.same sm) hX⟩
 have hd:∀ o∈ops,dOk c.fn.ntmps o.dst=true:=fun o ho=>by grind
 refine AiF (ChG c ops.toArray im n1 bid (fun e s=>AWp c k e s)) hok (fun e s x=>x) (fun l i r e s hj x=>ChG.front rfl AWp.K l i r e s hj x) (fun i o r e s a w Kc ho x hs hK=>BcR hd i o r e s a w Kc ho x hs hK)
  ops.length (Array.replicate ops.length false) (List.range ops.length) e s a _ (by simp) ?_ (by simp) ?_ hch hsim'
 .symm
  simp_all
 .intro i hi j hj
  by_cases h1:i<ops.length
  all_goals simp_all[waits]
end
end Go.Av
namespace Go.Proofs
open Shelf
end Go.Proofs
namespace Go.Av
open RowKit
variable [Tr]
section
variable {h:Mem}{ρ:Own}{sto:LB}{w:World}{P:Program}
end
end Go.Av
namespace Go.Av
open RowKit Shelf Go.Sort Go.Proofs
section
variable {h:Mem}{ρ:Own}{s:LB}{w:World}{β:Type}{L:Value->AV->Prop}
end
section
variable {P:Program}{ρr:Ren}{β:Type}
end
end Go.Av
namespace Go.Av
open RowKit Shelf Go.Sort Go.Proofs
section
variable {P:Program}{ρr:Ren}{β:Type}
end
end Go.Av
set_option maxRecDepth 100000
namespace Go.Proofs.YtccfklnmolggiaaGreatDoor
open Av RowKit
section strict
attribute [local instance] trUp
end strict
end Go.Proofs.YtccfklnmolggiaaGreatDoor
namespace Go.Av
open RowKit
variable [Tr]
section
variable {h:Mem}{L:Value->AV->Prop}{fl:Bool}
end
section
variable {P:Program}{g:Std}{f:FuncId}{args args':LY}{post:AV->Prop}
end
end Go.Av
namespace Go.Proofs.YtccfklnmolggiaaGreatDoor
open Av RowKit
structure Le' where
 name:LU
 Li:Int
 first:LU
 La:List LU
theorem bfold_count:∀ (ps:List Pa)(s:List Bl×Bl),(ps.foldl bstep s).1.length<=s.1.length+ps.length
 | [],s=>by simp
 | p::r,s=>by
  have ih:=bfold_count r (bstep s p);have:(bstep s p).1.length<=s.1.length+1:=by
   unfold bstep
   split
   .simp
   .simp
  simp
  omega
theorem A7W(x:Sc):(blocksL x).length<=x.Lc.length+1:=by
 grind[bfold_count,blocksL,AeU]
structure SceneD(x:Sc):Prop where
 no:x.no=[]\/numberL x.no=true
 place:1<=x.place/\x.place<=3
 set:x.set∈SetL
 time:1<=x.time/\x.time<=5
 run:∃ e,runL 0 x.Lc=some e/\e≠2/\e≠3
 len:x.Lc.length<=60
 all:∀ p∈x.Lc,DrawnP p
 wt:wtL x.Lc<=143
theorem AfK{a:LU}(h:a=[]\/numberL a=true):a.length<1000:=by
 rcases h with rfl|h
 all_goals simp_all[A1G]
theorem SceneD.sc{x:Sc}(h:SceneD x):SceneOk x:=by
 have:=List.all_eq_true.1 A6S x.set h.set
 simp at this
 exact⟨this.1,this.2,by have:=h.len; omega,h.run⟩
theorem SceneD.line{x:Sc}(h:SceneD x):LineOk x:=⟨h.sc,h.place,h.time,by have:=AfK h.no; omega,by have:=h.len; omega⟩
theorem SceneD.bl{x:Sc}(h:SceneD x):∀ b∈blocksL x,BlOk b:=AlU fun p hp=>by
 have:=h.all p hp;exact⟨this.name,this.turn,this.kind.1,this.kind.2⟩
def idxP{α:Type}(p:α->Bool)(l:List α):Int:=match l.findIdx? p with|some i=>(i:Int)|none=>-1
def endsL(s:LU):LU×LU:=((Lib.cut s [45]).1,if(Lib.cut s [45]).2.2 then(Lib.cut s [45]).2.1 else(Lib.cut s [45]).1)
def leafNameL(s:LU):Bool:=numberL (Lib.cut s [45]).1&&(!(Lib.cut s [45]).2.2||(numberL (Lib.cut s [45]).2.1&&decide (compareN (Lib.cut s [45]).1 (Lib.cut s [45]).2.1<0)))
theorem cut_len(s p:LU):(Lib.cut s p).1.length<=s.length/\(Lib.cut s p).2.1.length<=s.length:=by
 grind[Lib.cut]
theorem BcT{s:LU}(h:leafNameL s=true):numberL (endsL s).1=true/\numberL (endsL s).2=true/\((endsL s).1=(endsL s).2\/nLt (endsL s).1 (endsL s).2):=by
 grind[leafNameL,endsL,AwS]
def AbJ(c:UInt8):Bool:=!(decide ((c.toNat:Int)<32)||decide ((c.toNat:Int)>126))
structure LineFit(s:LU):Prop where
 len:s.length<=80
 suf:Lib.hasSuffix s [32]=false
 plain:s.all AbJ=true
def le0:Le':=⟨[],0,[],[]⟩
def fst(l:List Le')(j:Nat):LU:=(l.getD j le0).first
def lenS(l:List LU):Nat:=(l.map List.length).sum
theorem lenS_append(a b:List LU):lenS (a++b)=lenS a+lenS b:=by simp[lenS]
theorem lenS_one(a:LU):lenS [a]=a.length:=by simp[lenS]
theorem AqP{W:Nat}(hW:0<W):∀ (n:Nat)(w:LU),w.length<=n->lenS (chop W w).1+(chop W w).2.length=w.length/\lenS (chop W w).1=W*(chop W w).1.length/\(w≠[]->(chop W w).2≠[])/\(chop W w).2.length<=W
 | 0,w,h=>by grind[chop_end,lenS]
 | n+1,w,h=>by
  by_cases hc:W<w.length
  .obtain ⟨h1,h2,h3,h4⟩:=AqP hW n (w.drop W) (by simp; omega)
   rw[AcR hc hW];have ht:(w.take W).length=W:=by simp; omega
   have hd:(w.drop W).length=w.length-W:=by simp
   refine⟨?_,?_,fun _=>h3 fun e=>?_,h4⟩
   .simp only [lenS,lah,List.sum_cons,ht]at h1 |-; omega
   .simp only [lenS,lah,List.sum_cons,ht,laf]at h2 |-; rw[Nat.mul_add]; omega
   .have:=congrArg List.length e
    simp at this; omega
  .rw [chop_end hc]; simp[lenS]; omega
def WI(W:Nat)(st:List LU×LU):Prop:=W*st.1.length<=2*lenS st.1+st.2.length/\(st.2=[]->st.1=[])
def byS(st:List LU×LU):Nat:=lenS st.1+st.2.length
theorem A7X{W:Nat}(hW:0<W){st:List LU×LU}(h:WI W st)(w:LU):WI W (wrapS W st w)/\byS (wrapS W st w)<=byS st+w.length+1/\(w≠[]\/st.2≠[]->(wrapS W st w).2≠[]):=by
 obtain⟨dn,cur⟩:=st;obtain⟨h1,h2⟩:=h;simp only at h1 h2;unfold wrapS
 by_cases hw:w=[]
 .subst hw
  simp only[lbi,if_true];exact⟨⟨h1,h2⟩,by omega,by simp⟩
 .have hwb:(w==[])=false:=by grind
  simp only[hwb,lan,if_false]
  split
  .refine ⟨⟨?_,by simp⟩,?_,by simp⟩<;>grind[byS]
  .obtain ⟨c1,c2,c3,c4⟩:=AqP hW w.length w (lab _)
   generalize (chop W w).2=re at c1 c3 c4 |-
   by_cases hc:cur=[]
   .grind[byS,WI]
   .have hcb:(cur != [])=true:=by grind
    have hfit:¬ cur.length+1+w.length<=W:=by grind
    simp only[hcb,if_true];refine⟨⟨?_,fun e=>absurd e (c3 hw)⟩,?_,fun _=>c3 hw⟩
    .simp only [lak,laf,lar,lenS_append,lenS_one,Nat.mul_add,lau,Nat.mul_one]
     omega
    grind[byS,lenS_append,lenS_one]
theorem AhM{W:Nat}(hW:0<W):∀ (ws:List LU)(st:List LU×LU),WI W st->WI W (ws.foldl (wrapS W) st)/\byS (ws.foldl (wrapS W) st)<=byS st+((ws.map List.length).sum+ws.length)/\((∃ w∈ws,w≠[])\/st.2≠[]->(ws.foldl (wrapS W) st).2≠[])
 | [],st,h=>⟨h,by simp,by simp⟩
 | w::r,st,h=>by
  obtain⟨a1,a2,a3⟩:=A7X hW h w;obtain⟨b1,b2,b3⟩:=AhM hW r _ a1;refine⟨b1,?_,fun hx=>b3 ?_⟩
  .simp; omega
  .rcases hx with⟨x,hx,hne⟩|hx
   .rcases List.mem_cons.1 hx with rfl|hx
    .exact .inr (a3 (.inl hne))
    .exact .inl ⟨x,hx,hne⟩
   .exact .inr (a3 (.inr hx))
theorem AhN{W:Nat}(hW:0<W)(t:LU):W*(wrapL W t).length<=2*(t.length+1)+W:=by
 obtain⟨a1,a2,a3⟩:=AhM hW (splitW t) ([],[]) ⟨by simp,by simp⟩;have hs:=splitW_sum t;have e:byS (([],[]):List LU×LU)=0:=by grind[byS,lenS]
 unfold wrapL wrapF;generalize (splitW t).foldl (wrapS W) ([],[])=st at a1 a2 |-;have:=a1.1
 grind[byS,Nat.mul_add]
theorem AiQ{W:Nat}(hW:0<W){t:LU}(h0:t≠[])(h1:t.head?≠some 32):1<=(wrapL W t).length:=by
 have hex:∃ w∈splitW t,w≠[]:=by
  cases t with
  | nil=>grind
  | cons c r =>
   have hc:(c==32)=false:=by grind
   simp only[splitW,hc,lan,if_false]
   cases splitW r<;>simp_all[ApZ]
 have:=(AhM hW (splitW t) ([],[]) ⟨by simp,by simp⟩).2.2 (.inl hex)
 grind[wrapL,wrapF]
def scK:Option Nat->Int->Option Nat
 | none,_=>none
 | some n,k=>if k==2 then some 0 else if n<16 then some (n+1) else none
theorem AhO:∀ l:List Int,l.foldl scK none=none
 | []=>rfl
 | a::r=>by simp[scK,AhO r]
theorem AzX:∀ (l:List Int)(n:Nat),(∀ k∈l,(k==2)=false)->17<=n+l.length->n<=16->l.foldl scK (some n)=none
 | [],n,_,h,h'=>by grind
 | a::r,n,hl,h,h'=>by
  have ha:=hl a (by simp);simp only[List.foldl_cons,scK,ha,lan,if_false]
  by_cases hn:n<16
  .rw [if_pos hn]
   exact AzX r (n+1) (fun k hk=>hl k (by simp[hk])) (by simp at h; omega) (by omega)
  .rw [if_neg hn]; exact AhO r
theorem A7Y:∀ (l:List Int)(n m:Nat),l.foldl scK (some n)=some m->n<=16->m<=16
 | [],n,m,h,hn=>by grind
 | a::r,n,m,h,hn=>by
  simp only[List.foldl_cons,scK]at h
  split at h
  .exact A7Y r 0 m h (by omega)
  .split at h
   .exact A7Y r (n+1) m h (by omega)
   grind[AhO]
theorem BcU(n m:Nat)(hn:1<=n):(List.replicate n (2:Int)).foldl scK (some m)=some 0:=by
 obtain⟨n,rfl⟩:∃ k,n=k+1:=⟨n-1,by omega⟩;clear hn
 induction n generalizing m with
 | zero=>rfl
 | succ n ih=>exact ih 0
theorem AzY:∀ (n m:Nat),m+n<=16->(List.replicate n (1:Int)).foldl scK (some m)=some (m+n)
 | 0,m,_=>rfl
 | n+1,m,h=>by
  rw[List.replicate_succ,List.foldl_cons];simp only[scK,show((1:Int)==2)=false from rfl,lan,if_false,if_pos (show m<16 by omega)];rw[AzY n (m+1) (by omega)]
  congr 1; omega
theorem AwW{l:List Int}{m:Nat}(h:l.foldl scK (some 0)=some m){k:Nat}(hk:17<=k)(hl:k<=l.length):∃ j,k<=j+17/\j<k/\(l.getD j 0==2)=true:=by
 have e:l=l.take (k-17)++(((l.take k).drop (k-17))++l.drop k):=by
  grind[List.take_append_drop]
 by_cases hx:∃ x∈(l.take k).drop (k-17),(x==2)=true
 .obtain ⟨x,hx,h2⟩:=hx
  obtain⟨j,hj,rfl⟩:=List.mem_iff_getElem.1 hx
  simp at hj
  refine⟨k-17+j,by omega,by omega,?_⟩<;>grind
 .rw [e,List.foldl_append]at h
  cases hq:(l.take (k-17)).foldl scK (some 0)with
  | none=>grind[AhO]
  | some q =>
   have hq16:=A7Y _ _ _ hq (by omega);rw[hq,List.foldl_append,AzX _ q (fun x hxm=>by
    grind) (by grind) hq16,AhO]at h
   grind
def AiR(b:Bl):Prop:=b.kind=1\/(b.kind=3/\b.kinds.length=b.La.length/\∃ m,b.kinds.foldl scK (some 0)=some m)\/b.La.length<=40
theorem AgE{b:Bl}{fr j0:Nat}(h:breaksL b fr j0=true)(hf:fr<j0):∀ c,j0<=c->∃ j,AcD b fr c=some j/\j0<=j
 | 0,hc=>by omega
 | c+1,hc=>by
  simp only[AcD];rw[if_pos (show fr<c+1 by omega)]
  split
  .exact ⟨c+1,rfl,hc⟩
  .rename_i hn
   have:j0<=c:=by
    by_cases e:j0=c+1
    .subst e; exact absurd h hn
    .omega
   exact AgE h hf c this
theorem AzZ{b:Bl}{fr:Nat}:∀ c j,AcD b fr c=some j->fr<j
 | 0,j,h=>by grind[AcD]
 | c+1,j,h=>by
  simp only[AcD]at h
  split at h
  .split at h
   .grind
   .exact AzZ c j h
  grind
theorem AwX{b:Bl}{fr room:Nat}(hne:stopL b fr room≠b.La.length):fr<stopL b fr room/\room<b.La.length-fr:=by
 unfold stopL at hne |-
 split at hne
 .omega
 .rename_i h
  rw[if_neg h];refine⟨?_,by omega⟩
  split
  .rename_i j hj; exact AzZ _ _ hj
  omega
theorem BcV{b:Bl}(hb:AiR b){fr room:Nat}(hr:53<=room)(hne:stopL b fr room≠b.La.length):fr+36<=stopL b fr room:=by
 have h2:=(AwX hne).2;unfold stopL;have key:∃ j0,breaksL b fr j0=true/\fr+36<=j0/\j0<=min (fr+room-grp b) (b.La.length-1):=by
  rcases hb with hk|⟨hk,hl,m,hm⟩|hl
  .refine ⟨fr+room-1,?_,by omega,?_⟩
   .simp only [breaksL,hk,lbi,if_true,lac,lao]; omega
   grind[grp]
  .obtain ⟨j,h3,h4,h5⟩:=AwW hm (k:=fr+room-1) (by omega) (by omega)
   refine⟨j+1,?_,by omega,?_⟩
   .simp only [breaksL,hk,show((3:Int)==1)=false from rfl,lbi,lan,if_false,if_true,Nat.add_sub_cancel,h5,lbn,lac,lao]
    omega
   grind[grp]
  omega
 grind[AgE]
theorem AmC(b:Bl)(s:LS):(breakS b s).Lg.length=s.Lg.length+1/\(breakS b s).Lh.length<=1:=by
 grind[breakS,addS,flushS]
theorem AmD{b:Bl}(hb:AiR b):∀ (f fr:Nat)(s:LS),s.Lh.length<=1->36*(AbQ b f fr s).Lg.length<=36*s.Lg.length+(b.La.length-fr)
 | 0,fr,s,_=>by simp[AbQ]
 | f+1,fr,s,h=>by
  unfold AbQ
  split
  .grind[addS]
  .rename_i hne
   have h1:=BcV hb (by omega) hne;have h2:=AwX hne;generalize stopL b fr (54-s.Lh.length)=tz at h1 h2 |-;obtain⟨h3,h4⟩:=AmC b (addS s (partL' b fr tz));have:=AmD hb f tz _ h4
   grind[addS]
theorem A2D{b:Bl}(hb:AiR b)(f fr:Nat)(s:LS):36*(AbQ b f fr s).Lg.length<=36*s.Lg.length+36+(b.La.length-fr):=by
 cases f with
 | zero=>grind[AbQ]
 | succ f =>
  unfold AbQ
  split
  .grind[addS]
  .rename_i hne
   have h2:=AwX hne;generalize stopL b fr (54-s.Lh.length)=tz at h2 |-;obtain⟨h3,h4⟩:=AmC b (addS s (partL' b fr tz));have:=AmD hb f tz _ h4
   grind[addS]
def costP(bs:List Bl):Nat:=(bs.map fun b=>72+b.La.length).sum
theorem layTo_few{bs:List Bl}(hb:∀ b∈bs,AiR b):∀ i,i<=bs.length->36*(layTo bs i).Lg.length<=costP (bs.take i)
 | 0,_=>by grind[layTo]
 | i+1,hi=>by
  have ih:=layTo_few hb i (by omega);have hl:i<bs.length:=by omega
  have h1:=A2D (hb _ (lai hl)) (bs[i].La.length+1) 0 (openS bs i bs[i] (layTo bs i));have h2:(openS bs i bs[i] (layTo bs i)).Lg.length<=(layTo bs i).Lg.length+1:=by
   grind[openS,gapS,firstS,turnS,flushS]
  grind[costP,lal,layTo]
theorem BcW{bs:List Bl}(hb:∀ b∈bs,AiR b):36*(layL bs).Lg.length<=costP bs+36:=by
 grind[layTo_few,layL,flushS]
theorem A0A{p:Pa}(hp:DrawnP p)(hj:joins p=false):AiR (newB p)/\72+(newB p).La.length<=36*pwP p.kind:=by
 have hok:=hp.ok;simp only[paraOk,lac,lao]at hok;simp only[joins,Bool.or_eq_false_iff,lbd]at hj;unfold newB
 by_cases k1:p.kind=1
 .have hw:=AhN (W:=60) (by omega) p.text
  simp only[k1,lbi,if_true,pwP];exact⟨.inl rfl,by grind⟩
 .by_cases k5:p.kind=5
  .simp only [k5,show((5:Int)==1)=false from rfl,lbi,lan,if_false,if_true,pwP]
   exact⟨.inr (.inr (by simp)),by simp⟩
  .have k2:p.kind=2:=by omega
   simp only[k2,show((2:Int)==1)=false from rfl,show((2:Int)==5)=false from rfl,lan,if_false,pwP];exact⟨.inr (.inr (by simp)),by simp⟩
def CurB(e:Int)(b:Bl):Prop:=(e=2\/e=3\/e=4->b.kind=3/\b.kinds.length=b.La.length/\∃ m,b.kinds.foldl scK (some 0)=some m/\(e=2->m<=1)/\(e=4->m=0))/\AiR b
theorem BhS{p:Pa}(hp:DrawnP p)(hj:joins p=false):CurB p.kind (newB p):=by
 refine⟨fun h=>?_,(A0A hp hj).1⟩;simp only[joins,Bool.or_eq_false_iff,lbd]at hj;have k2:p.kind=2:=by omega
 simp only[newB,k2,show((2:Int)==1)=false from rfl,show((2:Int)==5)=false from rfl,lan,if_false];exact⟨trivial,rfl,1,rfl,fun _=>lab _,fun h=>absurd h (by omega)⟩
theorem BcX{p:Pa}(hp:DrawnP p)(hj:joins p=true){e:Int}{b:Bl}(h:CurB e b)(hf:followsL p.kind e=true):CurB p.kind (moreB b p)/\(moreB b p).La.length<=b.La.length+36*pwP p.kind:=by
 have hok:=hp.ok;simp only[paraOk,lac,lao]at hok;simp only[joins,lbj,lbx]at hj;unfold moreB addB
 rcases hj with k3|k4
 .simp only [k3,followsL,lbi,if_true,lbj,lbx]at hf
  obtain⟨b1,b2,m,b3,b4,b5⟩:=h.1 (by omega);have hw:=AhN (W:=30) (by omega) (asideT p.text);have ht:(asideT p.text).length=p.text.length+2:=by simp[asideT]
  have hl4:p.text.length<=200:=by
   grind
  have hm:m<=1:=by omega
  simp only[k3,lbi,if_true,pwP];have hfold:=AzY (wrapL 30 (asideT p.text)).length m (by omega);have hfull:(b.kinds++List.replicate (wrapL 30 (asideT p.text)).length (1:Int)).foldl scK (some 0)=some (m+(wrapL 30 (asideT p.text)).length):=by grind
  refine⟨⟨fun _=>⟨b1,by simp[b2],_,hfull,by omega,by omega⟩,.inr (.inl ⟨b1,by simp[b2],_,hfull⟩)⟩,?_⟩<;>grind
 .have hf':e=2\/e=3\/e=4:=by
   grind[followsL]
  obtain⟨b1,b2,m,b3,b4,b5⟩:=h.1 hf';have hw:=AhN (W:=35) (by omega) p.text;have hs:=AiQ (W:=35) (by omega) hp.text.ne hp.text.hd;simp only[k4,show((4:Int)==3)=false from rfl,lan,if_false,pwP];have hfull:(b.kinds++List.replicate (wrapL 35 p.text).length (2:Int)).foldl scK (some 0)=some 0:=by grind[BcU]
  refine⟨⟨fun _=>⟨b1,by simp[b2],_,hfull,by omega,fun _=>rfl⟩,.inr (.inl ⟨b1,by simp[b2],_,hfull⟩)⟩,?_⟩<;>grind
theorem AmE:∀ (ps:List Pa)(s:List Bl×Bl)(e e':Int),(∀ p∈ps,DrawnP p)->runL e ps=some e'->CurB e s.2->(∀ b∈s.1,AiR b) ->
  (∀ b∈(ps.foldl bstep s).1++[(ps.foldl bstep s).2],AiR b)/\costP ((ps.foldl bstep s).1++[(ps.foldl bstep s).2])<=costP (s.1++[s.2])+36*wtL ps
 | [],s,e,e',_,_,h,hs=>by
  refine⟨fun b hb=>?_,by grind⟩
  rcases List.mem_append.1 hb with hb|hb
  .grind
  .rw [List.mem_singleton.1 hb]; exact h.2
 | p::r,s,e,e',hd,hr,h,hs=>by
  have hp:=hd p (by simp);simp only[runL]at hr
  split at hr
  .rename_i hc
   simp at hc
   have hw:wtL (p::r)=pwP p.kind+wtL r:=by simp[wtL]
   cases hj:joins p with
   | true =>
    obtain⟨c1,c2⟩:=BcX hp hj h hc.2;have e1:bstep s p=(s.1,moreB s.2 p):=by grind[bstep]
    obtain⟨a1,a2⟩:=AmE r (bstep s p) p.kind e' (fun q hq=>hd q (by simp[hq])) hr (by rw[e1]; exact c1) (by rw[e1]; exact hs);refine⟨by exact a1,?_⟩;refine Nat.le_trans a2 ?_;rw[e1];simp only[costP,lap,lah,laq,List.sum_append,List.sum_cons,List.sum_nil,Nat.mul_add];omega
   | false =>
    have c1:=BhS hp hj;have c2:=(A0A hp hj).2;have e1:bstep s p=(s.1++[s.2],newB p):=by grind[bstep]
    obtain⟨a1,a2⟩:=AmE r (bstep s p) p.kind e' (fun q hq=>hd q (by grind)) hr (by grind) (by
     rw[e1]; intro b hb
     rcases List.mem_append.1 hb with hb|hb
     .grind
     .rw [List.mem_singleton.1 hb]; exact h.2)
    grind[costP]
  grind
theorem AwY:([0,1,2,3].all fun p=>decide ((AgK p).length<=9))=true:=by decide
theorem A2E:([0,1,2,3,4,5].all fun p=>decide ((AtF p).length<=5))=true:=by decide
theorem A7Z:(SetL.all fun t=>decide (t.length<=12))=true:=by decide +kernel
theorem BcY{x:Sc}(h:SceneD x):(wrapL 60 (headL x)).length<=36:=by
 have h1:=AfK h.no;have h2:=List.all_eq_true.1 A7Z x.set h.set;have h3:(AgK x.place).length<=9:=by
  have hp:=h.place
  grind[AwY]
 have h4:(AtF x.time).length<=5:=by
  have hp:=h.time
  grind[A2E]
 have h5:(headLine x).length<=40:=by grind[headLine]
 have h6:(headL x).length<=1041:=by
  grind[headL]
 have:=AhN (W:=60) (by omega) (headL x);omega
theorem AmF{x:Sc}(h:SceneD x):(∀ b∈blocksL x,AiR b)/\costP (blocksL x)<=108+36*wtL x.Lc:=by
 obtain⟨e,hr,_,_⟩:=h.run;have hh:=BcY h;have hg:AiR ⟨0,wrapL 60 (headL x),[],[]⟩:=.inr (.inr (by grind));obtain⟨a1,a2⟩:=AmE x.Lc ([],⟨0,wrapL 60 (headL x),[],[]⟩) 0 e h.all hr ⟨by omega,hg⟩ (by simp);refine⟨a1,Nat.le_trans a2 ?_⟩<;>grind[costP]
theorem costP_append(a b:List Bl):costP (a++b)=costP a+costP b:=by simp[costP]
theorem AtV(p:UInt8->Bool):∀ (l:LU)(x:UInt8),x∈l.takeWhile p->p x=true
 | [],x,h=>by simp_all
 | a::l,x,h=>by
  rw[List.takeWhile_cons]at h
  split at h
  .rcases List.mem_cons.1 h with rfl|h
   .assumption
   .exact AtV p l x h
  .simp at h
theorem BeU{a:LU}(h:numberL a=true):a≠[]:=fun e=>by subst e; exact absurd h (by decide)
theorem AtW{a:LU}(h:numberL a=true):a≠[]/\∀ r:LU,(a++r).head?≠some 32:=by
 have hne:=BeU h;refine⟨hne,fun r e=>?_⟩
 cases a with
 | nil=>grind
 | cons c t =>
  simp at e
  subst e;have hx:(32:UInt8)∈(32::t:LU):=by simp
  rw[AeF (32::t)]at hx
  .exact absurd (List.all_eq_true.1 (AfY h).2.2.2 32 hx) (by decide)
theorem DrawnS.d{x:Sc}(h:DrawnS x):SceneD x:=⟨.inl h.no,h.place,h.set,h.time,h.run,h.len,h.all,h.wt⟩
theorem SceneD.renum{x:Sc}(h:SceneD x){n:LU}(hn:n=[]\/numberL n=true):SceneD { x with no:=n }:=⟨hn,h.place,h.set,h.time,h.run,h.len,h.all,h.wt⟩
