/- Statements whose order is open, in which listed calls may change a block and make new ones. -/
import Derived.Test.YtooohdocabpblaaGreatDoorV15
set_option linter.all false
namespace Go.Av
open RowKit
variable [Tr]
theorem Agr.rfl'{n id:Nat}{s:LB}:Agr n id s s:=fun _ _ _=>rfl
def AfQ(c:Cx)(n:Nat)(f:FuncId)(args:LA)(id:Nat)(s:LB)(K:AV->LB->Prop):Prop :=
 ∃ post:AV->LB->Prop,(AaD c.P f=true/\∀ h ρ w vs,Mine h ρ s w->Later c.h c.ρ c.sto c.w h ρ s w->RL h (Lf ρ s) false vs args->Calls c.P f vs.toArray w fun en w' =>
  ∃ v r s' h' ρ',en=.returned v/\post r s'/\Mine h' ρ' s' w'/\Later h ρ s w h' ρ' s' w'/\RV h' (Lf ρ' s') false v r)/\(∃ r s',post r s')/\∀ r s',post r s'->Agr n id s s'/\K r s'
def ImpC(c:Cx)(n:Nat)(id:Nat)(o:Oper)(e:Env)(s:LB)(K:AV->LB->Prop):Prop :=
 o.guard=none/\∃ f args,xop false true c.P e s o.op=.call f args/\AfQ c n f args id s K
def ChC(c:Cx)(ops:Array Oper)(im:List Nat)(n0 id:Nat)(K:Env->LB->Prop):List Nat->Env->LB->Prop
 | [],e,s=>K e s
 | i::r,e,s=>match ops[i]? with
  | none=>False
  | some o=>bif im.contains i then ImpC c n0 id o e s (fun v s'=>ChC c ops im n0 id K r (put e o.dst v) s')
   else(reader o.op=true->blind o.op=false->opOk n0 id e o.op=true)/\∃ cv v s',Does c ops s o cv e v s'/\ChC c ops im n0 id K r (put e o.dst v) s'
def okC(ops:List Oper)(im:List Nat)(j i:Nat):Bool:=match ops[j]?,ops[i]? with
 | some oj,some oi=>oj.apart ops.toArray oi&&(bif im.contains i then !im.contains j&&reader oj.op else bif im.contains j then reader oi.op else together oj oi)
 | _,_=>false
section
variable {cx:Cx}{ops:Array Oper}{s:LB}{K:Env->LB->Prop}{im:List Nat}{n0 id:Nat}
theorem ImpC.agree{o:Oper}{e e':Env}{s:LB}{K K':AV->LB->Prop}(h:∀ x∈o.op.operands,ev e x=ev e' x)(hK:∀ r s,K r s->K' r s)(x:ImpC cx n0 id o e s K):ImpC cx n0 id o e' s K':=by
 obtain⟨h1,f,args,h2,post,h4,h5,h6⟩:=x;exact⟨h1,f,args,by rw[<- xop_agree h]; exact h2,post,h4,h5,fun r b hp=>⟨(h6 r b hp).1,hK _ _ (h6 r b hp).2⟩⟩
theorem ChC.congr(hK:∀ e e' s,Eqv e e'->K e s->K e' s):∀ {l:List Nat}{e e':Env}{s:LB},Eqv e e'->ChC cx ops im n0 id K l e s->ChC cx ops im n0 id K l e' s
 | [],e,e',s,h,x=>hK e e' s h x
 | i::r,e,e',s,h,x=>by
  unfold ChC at x |-
  split at x
  .exact x.elim
  .rename_i o ho
   cases hi:im.contains i with
   | true =>
    rw[hi]at x;exact ImpC.agree (fun y _=>AdG fun t _=>h t) (fun r' s' z=>ChC.congr hK (h.put _ _) z) x
   | false =>
    rw[hi]at x;obtain⟨h1,cv,v,s',h2,h3⟩:=x;exact⟨fun hr hb=>by rw[<- opOk_agree (e:=e) (fun y _=>AdG fun t _=>h t)]; exact h1 hr hb,cv,v,s',h2.agree fun t _=>h t,ChC.congr hK (h.put _ _) h3⟩
theorem ChC.swap{opl:List Oper}(hops:ops=opl.toArray)(hK:∀ e e' s,Eqv e e'->K e s->K e' s){i j:Nat}{r:List Nat}(hok:okC opl im j i=true){e:Env}{s:LB}(x:ChC cx ops im n0 id K (j::i::r) e s) :
  ChC cx ops im n0 id K (i::j::r) e s:=by
 unfold okC at hok
 split at hok
 rotate_left
 .cases hok
 rename_i oj oi hj' hi';have hj:ops[j]? = some oj:=by rw[hops]; simpa using hj'
 have hi:ops[i]? = some oi:=by rw[hops]; simpa using hi'
 simp only[lac]at hok;obtain⟨ha,hok⟩:=hok;rw[<- hops]at ha;obtain⟨a1,a2,a3⟩:=Oper.apart_spec ha;have gi:∀ (e:Env) (v:AV),AdM ops oi (put e oj.dst v) e:=fun e v t ht=>by
  rw[get_put,if_neg]; intro h; exact a1 t h ht
 have gj:∀ (e:Env) (v:AV),AdM ops oj e (put e oi.dst v):=fun e v t ht=>by
  rw[get_put,if_neg]; intro h; exact a3 t h ht
 have sw:∀ (e:Env) (v u:AV),Eqv (put (put e oj.dst v) oi.dst u) (put (put e oi.dst u) oj.dst v):=fun e v u=>AeC a2
 simp only[ChC,hi,hj]at x |-
 cases mi:im.contains i with
 | true =>
  rw[mi]at hok x;simp only[lai,lac,laz]at hok;obtain⟨mj,rj⟩:=hok;rw[mj]at x |-;simp only[lai,lap]at x |-;obtain⟨o1,cv,v,s',d1,y⟩:=x;obtain⟨rfl,_⟩:=AaH rj (o1 rj) (Agr.rfl' (n:=n0) (id:=id)) d1;obtain⟨h1,f,args,h2,post,h4,h5,h6⟩:=y;refine⟨h1,f,args,by rw[<- xop_agree (AaG (gi e v))]; exact h2,post,h4,h5,fun u b hp=>?_⟩;obtain⟨ag,hy⟩:=h6 u b hp;have hs:=(AaH rj (o1 rj) ag d1).2;refine⟨ag,fun _ hb=>?_,cv,v,_,hs.agree (gj e u),ChC.congr hK (sw e v u) hy⟩;rw[<- opOk_agree (e:=e) (AaG (gj e u))];exact o1 rj hb
 | false =>
  rw[mi]at hok x;simp only[lap]at hok x |-
  cases mj:im.contains j with
  | true =>
   rw[mj]at hok x;simp only[lai]at hok x |-;obtain⟨h1,f,args,h2,post,h4,⟨u0,b0,h5⟩,h6⟩:=x;obtain⟨ag0,o0,cv0,v0,s0,d0,z0⟩:=h6 u0 b0 h5;have ok0:blind oi.op=false->opOk n0 id e oi.op=true:=fun hb=>by
    have:=o0 hok hb;rw[opOk_agree (AaG (gi e u0))]at this;exact this
   have d0':Does cx ops b0 oi cv0 e v0 s0:=d0.agree (gi e u0);have d0s:=(AaH hok ok0 ag0.symm d0').2;refine⟨fun _=>ok0,cv0,v0,s,d0s,h1,f,args,?_,post,h4,⟨u0,b0,h5⟩,fun u b hp=>?_⟩
   .rw [<- xop_agree (AaG (gj e v0))]; exact h2
   .obtain ⟨ag,_,cv,v,s',d,y⟩:=h6 u b hp
    have d':Does cx ops b oi cv e v s':=d.agree (gi e u);obtain⟨e1,ds⟩:=AaH hok ok0 ag.symm d';subst e1;have:=does_det hok d0s ds;subst this;exact⟨ag,ChC.congr hK (sw e u v0) y⟩
  | false =>
   rw[mj]at hok x;simp only[lap]at hok x |-;obtain⟨o1,cv,v,s1,h1,o2,cu,u,s2,h2,h3⟩:=x;have h2':Does cx ops s1 oi cu e u s2:=h2.agree (gi e v);have h1':∀ {z z'},Does cx ops z oj cv e v z'->Does cx ops z oj cv (put e oi.dst u) v z':=fun hd=>hd.agree (gj e u)
   have h3':=ChC.congr hK (sw e v u) h3;have oi':∀ {n},reader oi.op=true->opOk n id (put e oj.dst v) oi.op=opOk n id e oi.op:=fun _=>opOk_agree (AaG (gi e v))
   have oj':∀ {n},opOk n id e oj.op=opOk n id (put e oi.dst u) oj.op:=opOk_agree (AaG (gj e u));simp only[Bool.or_eq_true,lac,together]at hok
   rcases hok with(⟨c1,c2⟩|c1)|c1
   .have e1:=h1.calm c1
    subst e1;have e2:=h2.calm c2;subst e2;exact⟨fun hr hb=>by rw[<- oi' hr]; exact o2 hr hb,cu,u,_,h2',fun hr hb=>by rw[<- oj']; exact o1 hr hb,cv,v,_,h1' h1,h3'⟩
   .have e1:=h1.calm (blind_calm c1)
    subst e1;exact⟨fun hr hb=>by rw[<- oi' hr]; exact o2 hr hb,cu,u,_,h2',fun hr hb=>(by rw[c1]at hb; cases hb),cv,v,_,h1' (h1.blind c1),h3'⟩
   .have e2:=h2.calm (blind_calm c1)
    subst e2;exact⟨fun hr hb=>(by rw[c1]at hb; cases hb),cu,u,_,h2'.blind c1,fun hr hb=>by rw[<- oj']; exact o1 hr hb,cv,v,_,h1' h1,h3'⟩
theorem ChC.front{opl:List Oper}(hops:ops=opl.toArray)(hK:∀ e e' s,Eqv e e'->K e s->K e' s):∀ (l:List Nat)(i:Nat)(r:List Nat)(e:Env)(s:LB),(∀ j∈l,okC opl im j i=true) ->
  ChC cx ops im n0 id K (l++i::r) e s->ChC cx ops im n0 id K (i::(l++r)) e s
 | [],_,_,_,_,_,x=>x
 | j::l,i,r,e,s,h,x=>by
  refine ChC.swap hops hK (h j (by simp)) ?_;have ih:=fun e s=>ChC.front hops hK l i r e s fun k hk=>h k (by simp[hk])
  simp only[lah,ChC]at x |-
  split at x
  .exact x.elim
  .rename_i o ho
   cases hm:im.contains j with
   | true =>
    rw[hm]at x;exact ImpC.agree (fun _ _=>rfl) (fun r' s' z=>ih _ _ z) x
   | false =>
    rw[hm]at x;obtain⟨h1,cv,v,s',h2,h3⟩:=x;exact⟨h1,cv,v,s',h2,ih _ _ h3⟩
end
section
variable {c:Cx}{k:List It}{e:Env}{s:LB}
theorem AzZ{ops:List Oper}{im:List Nat}{n0 id:Nat}(hdst:∀ o∈ops,dOk c.fn.ntmps o.dst=true)(i:Nat)(o:Oper)(r:List Nat)(e:Env)(s:LB)(a:Act)(w:World)(Kc:Act->World->Prop)(ho:ops[i]? = some o)
  (x:ChC c ops.toArray im n0 id (fun e s=>AWp c k e s) (i::r) e s) (hs:Sim c e s a w) (hK:∀ e' s' a w,ChC c ops.toArray im n0 id (fun e s=>AWp c k e s) r e' s'->Sim c e' s' a w->Kc a w) :
  if Region.wanted o (yielded ops.toArray a.tmps) then o.wp c.P a w Kc (WQ c k) else Kc (a.put o.dst undef) w:=by
 have ho':ops.toArray[i]? = some o:=by simpa using ho
 have hd:=hdst o (laj ho);simp only[ChC,ho']at x
 cases hm:im.contains i with
 | false =>
  rw[hm]at x;obtain⟨_,cv,v,s',h2,h3⟩:=x;exact AgH hs hd h2 fun a w hs'=>hK _ _ a w h3 hs'
 | true =>
  rw[hm]at x;obtain⟨hg,f,args,hx,post,h4,_,h6⟩:=x;rw[if_pos (by simp[Region.wanted,hg])];obtain⟨hh,ρ,hmm,hl,he,hdf,hsz,hX⟩:=hs;have hsnd:=AcM (P:=c.P) (wr:=false) (frz:=true) (o:=o) hmm he;rw[hx]at hsnd;obtain⟨vs,hv,hr⟩:=hsnd;unfold Oper.wp;rw[hr h4.1];refine(h4.2 hh ρ w vs hmm hl hv).mono ?_;rintro en w' ⟨u,r',b,h',ρ',rfl,hp,hm',hlt,rv⟩;have he':EnvOk h' ρ' b e a:=fun t=>(he t).mono hlt.hle hlt.keep
  exact hK _ _ _ _ (h6 r' b hp).2 ⟨h',ρ',hm',hl.trans hlt,he'.put (by rw[hsz]; exact hd) rv,by rw[AaJ]; exact hdf,by rw[AbJ]; exact hsz,c.hx.later hmm hlt hX⟩
mutual
def dxn(c:Cx)(all:List Oper)(im:List Nat)(n0 id:Nat)(k:List It):Nat->List Oper->LA->Env->LB->Prop
 | _,[],_,e,s=>AWp c k e s
 | 0,_::_,_,_,_=>False
 | n+1,o::r,cs,e,s=>bif im.contains (rix all (o::r)) then
   (match o.guard,xop false true c.P e s o.op with
    | none,.call f args=>AfQ c n0 f args id s (fun v s'=>dxn c all im n0 id k n r cs (put e o.dst v) s')
    | _,_=>False)
  else dck (reader o.op&&!blind o.op) n0 id e o.op/\dxnc c all im n0 id k n (dgrd c all s o r cs e o.guard)
def dxnc(c:Cx)(all:List Oper)(im:List Nat)(n0 id:Nat)(k:List It):Nat->Dn->Prop
 | n,.go r cs e s=>dxn c all im n0 id k n r cs e s
 | n,.two b r cs e r' cs' e' s=>dbrn c all im n0 id k n b r cs e r' cs' e' s
 | n,.side p r cs e s=>p/\dxn c all im n0 id k n r cs e s
 | _,.fail=>False
def dbrn(c:Cx)(all:List Oper)(im:List Nat)(n0 id:Nat)(k:List It):Nat->Bool->List Oper->LA->Env->List Oper->LA->Env->LB->Prop
 | 0,_,_,_,_,_,_,_,_=>False
 | n+1,b,r,cs,e,r',cs',e',s=>(b=true->dxn c all im n0 id k n r cs e s)/\(b=false->dxn c all im n0 id k n r' cs' e' s)
end
theorem AbF{all:List Oper}{im:List Nat}{n0 id n:Nat} {r cs e r' cs' e' s}:dbrn c all im n0 id k (n+1) true r cs e r' cs' e' s=dxn c all im n0 id k n r cs e s:=by rw[dbrn]; simp
theorem AaY{all:List Oper}{im:List Nat}{n0 id n:Nat} {r cs e r' cs' e' s}:dbrn c all im n0 id k (n+1) false r cs e r' cs' e' s=dxn c all im n0 id k n r' cs' e' s:=by rw[dbrn]; simp
theorem A2Q{all:List Oper}{im:List Nat}{n0 id n:Nat}{o:Oper}{r:List Oper}{cs:LA}(hm:im.contains (rix all (o::r))=false)(hg:o.guard=none)(h:dxn c all im n0 id k n (o::r) cs e s) :
  dck (reader o.op&&!blind o.op) n0 id e o.op/\∃ cv v n' cs' s',DoesOp c s o cv e v s'/\dxn c all im n0 id k n' r cs' (put e o.dst v) s':=by
 cases n with
 | zero=>rw[dxn]at h; exact h.elim
 | succ n =>
  rw[dxn,hm]at h;simp only[lap]at h;refine⟨h.1,?_⟩
  replace h:=h.2
  rw[hg]at h;unfold dgrd at h;unfold DoesOp
  revert h
  cases xop false true c.P e s o.op with
  | ok u=>intro h; simp only[dres,dxnc]at h; exact⟨.any,u,n,cs,s,⟨rfl,rfl⟩,h⟩
  | side p u=>intro h; simp only[dres,dxnc]at h; exact⟨.any,u,n,cs,s,⟨h.1,rfl,rfl⟩,h.2⟩
  | sto p u s'=>intro h; simp only[dres,dxnc]at h; exact⟨.any,u,n,cs,s',⟨h.1.1,h.1.2,rfl,rfl⟩,h.2⟩
  | pick b x y =>
   intro h; simp only[dres,dxnc]at h
   cases n with
   | zero=>rw[dbrn]at h; exact h.elim
   | succ n =>
   rw[dbrn]at h;refine⟨.any,_,n,cs,s,⟨rfl,rfl⟩,?_⟩
   cases b with
   | true=>exact h.1 rfl
   | false=>exact h.2 rfl
  | call f args =>
   intro h; simp only[dres]at h
   cases cs with
   | nil=>simp only[dcall,dxnc]at h
   | cons cv cs=>simp only[dcall,dxnc]at h; exact⟨cv,cv,n,cs,s,⟨h.1.1,h.1.2,rfl,rfl⟩,h.2⟩
  | anyb p=>intro h; simp only[dres,dxnc]at h
  | stuck=>intro h; simp only[dres,dxnc]at h
theorem A0A{all:List Oper}{im:List Nat}{n0 id n:Nat}{o:Oper}{r:List Oper}{cs:LA}(hm:im.contains (rix all (o::r))=false)(h:dxn c all im n0 id k n (o::r) cs e s) :
  dck (reader o.op&&!blind o.op) n0 id e o.op/\∃ cv v n' cs' s',Does c all.toArray s o cv e v s'/\dxn c all im n0 id k n' r cs' (put e o.dst v) s':=by
 cases hg:o.guard with
 | none =>
  obtain⟨h0,cv,v,n',cs',s',h1,h2⟩:=A2Q hm hg h;exact⟨h0,cv,v,n',cs',s',by unfold Does; rw[hg]; exact h1,h2⟩
 | some jw =>
  obtain⟨j,want⟩:=jw
  cases n with
  | zero=>rw[dxn]at h; exact h.elim
  | succ n =>
   rw[dxn,hm]at h;simp only[lap]at h;refine⟨h.1,?_⟩
   replace h:=h.2
   rw[hg]at h;unfold dgrd dyld at h
   cases hy:yldD want e all[j]? with
   | none=>simp only[hy,dxnc]at h
   | some b =>
    simp only[hy]at h;have key:(b=want->∃ n',dxn c all im n0 id k n' ({ o with guard:=none }::r) cs e s)/\(b≠want->∃ n',dxn c all im n0 id k n' r cs (put e o.dst (.raw undef)) s):=by
     cases n with
     | zero=>cases want <;> simp only[lai,lap,dxnc,dbrn]at h
     | succ n =>
      cases want <;> simp only[lai,lap,dxnc,dbrn]at h <;> cases b <;>
       first
       | exact⟨fun _=>⟨n,h.1 rfl⟩,fun hh=>(hh rfl).elim⟩
       | exact⟨fun _=>⟨n,h.2 rfl⟩,fun hh=>(hh rfl).elim⟩
       | exact⟨fun hh=>(by cases hh),fun _=>⟨n,h.1 rfl⟩⟩
       | exact⟨fun hh=>(by cases hh),fun _=>⟨n,h.2 rfl⟩⟩
    have hy':yldD want e all.toArray[j]? = some b:=by simpa using hy
    by_cases hb:b=want
    .obtain ⟨n1,h1⟩:=key.1 hb
     obtain⟨_,cv,v,n',cs',s',h1,h2⟩:=A2Q (o:={ o with guard:=none }) (by exact hm) rfl h1;refine⟨cv,v,n',cs',s',?_,h2⟩;unfold Does;rw[hg];simp only[hy'];exact .inl ⟨hb,h1⟩
    .obtain ⟨n1,h1⟩:=key.2 hb
     refine⟨.any,.raw undef,n1,cs,s,?_,h1⟩;unfold Does;rw[hg];simp only[hy'];exact .inr ⟨hb,trivial,trivial⟩
theorem AgM{all:List Oper}{im:List Nat}{n0 id:Nat}:∀ {r:List Oper}{m n:Nat}{cs:LA}{e:Env}{s:LB},(∀ (j:Nat),r[j]? = all[m+j]?)->all.length=m+r.length->dxn c all im n0 id k n r cs e s->ChC c all.toArray im n0 id (fun e s=>AWp c k e s) (List.range' m r.length) e s
 | [],m,n,cs,e,s,_,_,h=>by
  rw[dxn]at h;exact h
 | o::r,m,n,cs,e,s,hr,hlen,h=>by
  have h0:all.toArray[m]? = some o:=by have:=hr 0; simpa using this.symm
  have hix:rix all (o::r)=m:=by unfold rix; omega
  have hr':∀ j,r[j]? = all[m+1+j]?:=fun j=>by have:=hr (j+1); simpa[Nat.add_assoc,Nat.add_comm 1 j]using this
  simp only[lan,List.range'_succ,ChC,h0]
  cases hm:im.contains m with
  | true =>
   simp only[lai]
   cases n with
   | zero=>rw[dxn]at h; exact h.elim
   | succ n =>
    rw[dxn,hix,hm]at h;simp only[lai]at h
    split at h
    .rename_i f args hg hx
     obtain⟨post,h4,h5,h6⟩:=h;exact⟨hg,f,args,hx,post,h4,h5,fun u b hp=>⟨(h6 u b hp).1,AgM hr' (by simp at hlen; omega) (h6 u b hp).2⟩⟩
    .exact h.elim
  | false =>
   simp only[lap];obtain⟨hd,cv,v,n',cs',s',h1,h2⟩:=A0A (by rw[hix]; exact hm) h;refine⟨fun hr hb=>?_,cv,v,s',h1,AgM hr' (by simp at hlen; omega) h2⟩;unfold dck at hd
   simpa[hr,hb]using hd
theorem AoL(im:List Nat)(bid:Nat)(cs:LA){id:Nat}{ops:List Oper}(hm:c.P.follows .mixedOrders=true)(hok:AfA (okC ops im) ops=true){N:Nat}(hN:c.fn.ntmps=N)(hdst:ops.all (fun o=>dOk N o.dst)=true)(n:Nat)
  (h:dxn c ops im s.length bid k n ops cs e s):AWp c (.code (.region id ops.toArray true)::k) e s:=by
 intro a w hsim;obtain⟨n1,hn1⟩:∃ n1,n1=s.length:=⟨_,rfl⟩;rw[<- hn1]at h;have hch:=AgM (m:=0) (by intro j; simp) (by simp) h;rw[<- List.range_eq_range']at hch;refine wp_region_any hm ?_;have hsim':Sim c e s a { w with drawn:=w.drawn+1 }:=by
  obtain⟨hh,ρ,hmm,hl,he,hdf,hsz,hX⟩:=hsim;have sm:Same w { w with drawn:=w.drawn+1 }:=Same.drew w;exact⟨hh,ρ,hmm.same sm,hl.trans (Later.same sm),he,hdf,hsz,c.hx.later hmm (Later.same sm) hX⟩
 have hd:∀ o∈ops,dOk c.fn.ntmps o.dst=true:=fun o ho=>by rw[hN]; exact(List.all_eq_true.1 hdst) o ho
 refine AeD (okp:=okC ops im) (ChC c ops.toArray im n1 bid (fun e s=>AWp c k e s)) hok (fun e s x=>x) (fun l i r e s hj x=>ChC.front rfl AWp.K l i r e s hj x) (fun i o r e s a w Kc ho x hs hK=>AzZ hd i o r e s a w Kc ho x hs hK)
  ops.length (Array.replicate ops.length false) (List.range ops.length) e s a _ (by simp) ?_ (by simp) ?_ hch hsim'
 .symm
  rw[List.filter_eq_self];intro i hi
  simp at hi
  simp[hi]
 .intro i hi j hj
  exfalso
  by_cases h1:i<ops.length
  .simp [h1]at hi
  .unfold waits at hj
   have:ops[i]? = none:=by simp; omega
   simp[this]at hj
theorem icc{n:Nat}{f:FuncId}{args:LA}{post:AV->LB->Prop}{K:AV->LB->Prop}{id:Nat}(hc:Ct c.P f args s post)(hin:∃ r s',post r s')(hk:∀ r s',post r s'->Agr n id s s'/\K r s'):AfQ c n f args id s K :=
 ⟨post,⟨hc.1,fun h ρ w vs m l rr=>hc.2 h ρ w vs m rr⟩,hin,hk⟩
theorem iccH{n:Nat}{g:Std}(hle:Le g c.w c.ρ){f:FuncId}{args:LA}{post:AV->LB->Prop}{K:AV->LB->Prop}{id:Nat}(hc:CtH c.P g f args s post)(hin:∃ r s',post r s')(hk:∀ r s',post r s'->Agr n id s s'/\K r s'):AfQ c n f args id s K :=
 ⟨post,⟨hc.1,fun h ρ w vs m l rr=>hc.2 h ρ w vs (hle.later l) m rr⟩,hin,hk⟩
theorem Agr.push'{n id:Nat}{s:LB}(h:n<=s.length)(t:LB):Agr n id s (s++t):=fun i hi _=>by
 rw[lam,lam,lao (by omega)]
theorem AwS{n:Nat}{f:FuncId}{args:LA}{post:AV->Prop}{K:AV->LB->Prop}{id:Nat}(hc:Pc c.P f args post)(ha:args.all nr1=true)(hin:∃ r,post r)(hk:∀ r,post r->K r s):AfQ c n f args id s K :=
 icc (hc.ct ha s) (hin.elim fun r h=>⟨r,s,h,rfl⟩) fun r s' h=>by
  obtain⟨h1,rfl⟩:=h;exact⟨.rfl',hk r h1⟩
end
end Go.Av
namespace Go.Av
open RowKit
variable [Tr]
def gOnB(ops:Array Oper)(e:Env)(o:Oper):Bool:=match o.guard with
 | none=>true
 | some (j,want)=>match yldD want e ops[j]? with
  | some b=>b==want
  | none=>false
theorem AwT{ops:Array Oper}{o:Oper}{e e':Env}(h:AdM ops o e e'):gOnB ops e o=gOnB ops e' o:=by
 grind[gOnB,AiV]
section
variable {cx:Cx}{ops:Array Oper}{s:LB}{K:Env->LB->Prop}{im:List Nat}{n0 id:Nat}
end
section
variable {c:Cx}{k:List It}{e:Env}{s:LB}
theorem AkO{ops:Array Oper}{o:Oper}{a:Act}{w:World}(hs:Sim c e s a w)(hg:gOnB ops e o=true):Region.wanted o (yielded ops a.tmps):=by
 obtain⟨hh,ρ,hm,hl,he,hdf,hsz,hX⟩:=hs;unfold gOnB at hg
 cases hq:o.guard with
 | none=>grind[Region.wanted]
 | some p =>
  obtain⟨j,want⟩:=p;rw[hq]at hg;simp only at hg
  cases hb:yldD want e ops[j]? with
  | none=>grind
  | some b =>
   have hy:=AeB (all:=ops.toList) he (by simpa using hb)
   simp_all[Region.wanted]
mutual
def dxq(c:Cx)(all:List Oper)(im:List Nat)(n0 id:Nat)(k:List It):Nat->List Oper->LA->Env->LB->Prop
 | _,[],_,e,s=>AWp c k e s
 | 0,_::_,_,_,_=>False
 | n+1,o::r,cs,e,s=>bif im.contains (rix all (o::r)) then
   (match gOnB all.toArray e o,xop false true c.P e s o.op with
    | true,.call f args=>AfQ c n0 f args id s (fun v s'=>dxq c all im n0 id k n r cs (put e o.dst v) s')
    | _,_=>False)
  else dck (reader o.op&&!blind o.op) n0 id e o.op/\dxqc c all im n0 id k n (dgrd c all s o r cs e o.guard)
def dxqc(c:Cx)(all:List Oper)(im:List Nat)(n0 id:Nat)(k:List It):Nat->Dn->Prop
 | n,.go r cs e s=>dxq c all im n0 id k n r cs e s
 | n,.two b r cs e r' cs' e' s=>dbrq c all im n0 id k n b r cs e r' cs' e' s
 | n,.side p r cs e s=>p/\dxq c all im n0 id k n r cs e s
 | _,.fail=>False
def dbrq(c:Cx)(all:List Oper)(im:List Nat)(n0 id:Nat)(k:List It):Nat->Bool->List Oper->LA->Env->List Oper->LA->Env->LB->Prop
 | 0,_,_,_,_,_,_,_,_=>False
 | n+1,b,r,cs,e,r',cs',e',s=>(b=true->dxq c all im n0 id k n r cs e s)/\(b=false->dxq c all im n0 id k n r' cs' e' s)
end
end
end Go.Av
namespace Go.Av
open RowKit
variable [Tr]
def rdy(ops:List Oper)(done:List Nat):List Nat:=(List.range ops.length).filter fun i=>!done.contains i&&(waits ops i).all done.contains
section
variable {c:Cx}{ops:List Oper}{k:List It}
end
end Go.Av
namespace Go.Av
open RowKit
variable [Tr]
def frontOf(okp:Nat->Nat->Bool)(i:Nat):List Nat->Option (List Nat)
 | []=>none
 | j::r=>bif j==i then some r else bif okp j i then(frontOf okp i r).map (j::·) else none
theorem AdJ{okp:Nat->Nat->Bool}{i:Nat}:∀ {l r:List Nat},frontOf okp i l=some r->∃ l1 l2,l=l1++i::l2/\r=l1++l2/\∀ j∈l1,okp j i=true
 | [],_,h=>by cases h
 | j::l,r,h=>by
  rw[frontOf]at h
  cases hj:j==i with
  | true =>
   rw[hj]at h;simp only[lai,lad]at h;have:j=i:=by simpa using hj
   subst this;exact⟨[],l,rfl,h.symm,by simp⟩
  | false =>
   rw[hj]at h;simp only[lap]at h
   cases ho:okp j i with
   | false=>rw[ho]at h; cases h
   | true =>
    rw[ho]at h;simp only[lai,Option.map_eq_some_iff]at h;obtain⟨r',h1,rfl⟩:=h;obtain⟨l1,l2,rfl,rfl,h2⟩:=AdJ h1;exact⟨j::l1,l2,rfl,rfl,fun k hk=>by
     rcases List.mem_cons.1 hk with rfl|hk
     .exact ho
     .exact h2 k hk⟩
def AeP(ops:List Oper)(okp:Nat->Nat->Bool):Nat->List Nat->List (List Nat)->Bool
 | 0,_,LL=>LL.contains []
 | n+1,done,LL=>match rdy ops done with
  | []=>LL.contains []
  | is=>is.all fun i=>!(LL.filterMap (frontOf okp i)).isEmpty&&AeP ops okp n (i::done) (LL.filterMap (frontOf okp i))
theorem AkP{c:Cx}{s s1 s2:LB}{o:Oper}{cv v u:AV}{e:Env}(h:DoesOp c s o cv e v s1)(h':DoesOp c s o cv e u s2):u=v/\s2=s1:=by
 unfold DoesOp at h h'
 cases hx:xop false true c.P e s o.op <;> rw[hx]at h h' <;> simp only at h h'
 .exact ⟨h'.1.trans h.1.symm,h'.2.trans h.2.symm⟩
 .exact ⟨h'.2.1.trans h.2.1.symm,h'.2.2.trans h.2.2.symm⟩
 .exact ⟨h'.2.2.1.trans h.2.2.1.symm,h'.2.2.2.trans h.2.2.2.symm⟩
 .exact ⟨h'.1.trans h.1.symm,h'.2.trans h.2.symm⟩
 .exact ⟨h'.2.2.1.trans h.2.2.1.symm,h'.2.2.2.trans h.2.2.2.symm⟩
theorem A0B{c:Cx}{ops:Array Oper}{s s1 s2:LB}{o:Oper}{cv v u:AV}{e:Env}(h:Does c ops s o cv e v s1)(h':Does c ops s o cv e u s2):u=v/\s2=s1:=by
 unfold Does at h h'
 cases hg:o.guard with
 | none=>rw[hg]at h h'; exact AkP h h'
 | some p =>
  obtain⟨j,want⟩:=p;rw[hg]at h h';simp only at h h'
  cases hy:yldD want e ops[j]? with
  | none=>rw[hy]at h; exact h.elim
  | some b =>
   rw[hy]at h h';simp only at h h'
   rcases h with⟨h1,h2⟩|⟨h1,h2,h3⟩ <;> rcases h' with⟨k1,k2⟩|⟨k1,k2,k3⟩
   .exact AkP h2 k2
   .exact (k1 h1).elim
   .exact (h1 k1).elim
   .exact ⟨k2.trans h2.symm,k3.trans h3.symm⟩
section
variable {c:Cx}{ops:List Oper}{k:List It}
theorem AuB{okp:Nat->Nat->Bool}(Ch:List Nat->Env->LB->Prop)(hnil:∀ e s,Ch [] e s->AWp c k e s)(hfr:∀ l i r e s,(∀ j∈l,okp j i=true)->Ch (l++i::r) e s->Ch (i::(l++r)) e s)
  (hst:∀ i o (RR:List (List Nat)) e s a w (Kc:Act->World->Prop),ops[i]? = some o->RR≠[]->(∀ r∈RR,Ch (i::r) e s)->Sim c e s a w->(∀ e' s' a w,(∀ r∈RR,Ch r e' s')->Sim c e' s' a w->Kc a w) ->
   if Region.wanted o (yielded ops.toArray a.tmps) then o.wp c.P a w Kc (WQ c k) else Kc (a.put o.dst undef) w) (hwt:∀ i,i<ops.length->∀ j∈waits ops i,j<ops.length):∀ (fuel:Nat) (listed:Array Bool) (done:List Nat) (LL:List (List Nat)) (e:Env) (s:LB) (a:Act) (w:World),listed.size=ops.length ->
  (∀ i,i<ops.length->listed.getD i true=done.contains i)->((List.range ops.length).filter fun i=>!listed.getD i true).length=fuel ->
  AeP ops okp fuel done LL=true->(∀ l∈LL,Ch l e s)->Sim c e s a w->wpAny c.P .any ops.toArray (WQ c k) fuel listed a w:=by
 have hready:∀ (listed:Array Bool) (done:List Nat),listed.size=ops.length->(∀ i,i<ops.length->listed.getD i true=done.contains i)->(∀ i,i<ops.length->∀ j∈waits ops i,j<ops.length)->∀ (i:Nat),i∈Region.ready .any ops.toArray listed ↔ i∈rdy ops done:=by
  intro listed done hsz hd hw i;unfold Region.ready rdy;simp only[List.mem_filter,List.mem_range,List.size_toArray,lac,laz];refine and_congr_right fun hi=>?_
  rw[hd i hi];refine and_congr_right fun _=>?_
  have:ops[i]? = some ops[i]:=by simp[hi]
  have hw:=hw i hi;simp only[List.getElem?_toArray,this,lbr,Option.getD_some,waits]at hw |-;rw[Array.all_eq_true_iff_forall_mem,law]
  constructor
  .intro h j hj
   have hjl:=hw j hj;simp only[List.mem_map,List.mem_filter,Array.mem_toList_iff]at hj;obtain⟨ed,⟨h1,h2⟩,rfl⟩:=hj;have:=h ed h1;rw[<- hd _ hjl];have hjs:ed.on<listed.size:=by omega
   simpa[h2,Array.getD,hjs]using this
  .intro h ed hed
   by_cases hb:Region.binds .any ed=true
   .have hm:ed.on∈(ops[i].after.toList.filter (Region.binds .any)).map (·.on):=by simp only[List.mem_map,List.mem_filter,Array.mem_toList_iff]; exact⟨ed,⟨hed,hb⟩,rfl⟩
    have h1:=h _ hm;rw[<- hd _ (hw _ hm)]at h1;have hjs:ed.on<listed.size:=by have:=hw _ hm; omega
    have:listed.getD ed.on false=true:=by simpa[Array.getD,hjs]using h1
    simp[this]
   .simp [hb]
 intro fuel
 induction fuel with
 | zero =>
  intro listed done LL e s a w hsz hd hf hcv htp hsim;have hfn:((List.range ops.length).filter fun i=>!listed.getD i true)=[]:=lbe hf;have hempty:rdy ops done=[]:=by
   unfold rdy;rw[List.filter_eq_nil_iff]at hfn |-;intro i hi;have h1:=hfn i hi;rw[hd i (by simpa using hi)]at h1;simp only[lac,not_and];intro h2;exact absurd h2 h1
  refine⟨List.eq_nil_iff_forall_not_mem.2 fun i hi=>?_,?_⟩
  .rw [hready listed done hsz hd hwt i,hempty]at hi
   cases hi
  .rw [AeP]at hcv
   exact hnil _ _ (htp [] (by simpa using hcv)) a w hsim
 | succ fuel ih =>
  intro listed done LL e s a w hsz hd hf hcv htp hsim;rw[AeP]at hcv;refine⟨fun hr0=>?_,fun i hi=>?_⟩
  .have hk:rdy ops done=[]:=by
    refine List.eq_nil_iff_forall_not_mem.2 fun i hi=>?_
    have:=(hready listed done hsz hd hwt i).2 hi;rw[hr0]at this
    cases this
   rw[hk]at hcv;exact hnil _ _ (htp [] (by simpa using hcv)) a w hsim
  .have hir:=(hready listed done hsz hd hwt i).1 hi
   have hcv2:(LL.filterMap (frontOf okp i))≠[]/\AeP ops okp fuel (i::done) (LL.filterMap (frontOf okp i))=true:=by
    cases hq:rdy ops done with
    | nil=>rw[hq]at hir; cases hir
    | cons i0 is =>
     rw[hq]at hcv hir;have:=(List.all_eq_true.1 hcv) i hir;simp only[lac,laz]at this;exact⟨fun h=>by rw[h]at this; simp at this,this.2⟩
   obtain⟨h1,h2⟩:=hcv2;have h3:∀ r∈LL.filterMap (frontOf okp i),Ch (i::r) e s:=fun r hr=>by
    obtain⟨l,hl,hf⟩:=List.mem_filterMap.1 hr;obtain⟨l1,l2,rfl,rfl,h4⟩:=AdJ hf;exact hfr l1 i l2 e s h4 (htp _ hl)
   have hi2:i<ops.length:=by
    unfold rdy at hir
    simpa using(List.mem_filter.1 hir).1
   have hil:listed.getD i true=false:=by
    rw[hd i hi2];unfold rdy at hir;have:=(List.mem_filter.1 hir).2;simp only[lac,laz]at this;exact this.1
   have hlist:∀ j,(listed.setIfInBounds i true).getD j true=if j=i then true else listed.getD j true:=by
    intro j
    by_cases hj:j=i
    .subst hj
     have:j<listed.size:=by omega
     simp[this]
    .rw [if_neg hj]
     simp[Array.getElem?_setIfInBounds_ne (Ne.symm hj)]
   have ho:ops[i]? = some ops[i]:=by simp[hi2]
   have hJ:=hst i ops[i] _ e s a w (wpAny c.P .any ops.toArray (WQ c k) fuel (listed.setIfInBounds i true)) ho h1 h3 hsim (fun e' s' a w htp' hsim'=>by
    refine ih _ (i::done) _ e' s' a w (by simp[hsz]) (fun j hj=>?_) ?_ h2 htp' hsim'
    .rw [hlist,List.contains_cons]
     by_cases hji:j=i
     .simp [hji]
     .rw [if_neg hji,hd j hj]
      have:(j==i)=false:=by simpa using hji
      rw[this,Bool.false_or]
    .have e1:(fun j=>!(listed.setIfInBounds i true).getD j true)=fun j=>(!listed.getD j true)&&decide (j≠i):=by
      funext j
      rw[hlist]
      by_cases hj:j=i <;> simp[hj]
     have e2:((List.range ops.length).filter fun j=>(!listed.getD j true)&&decide (j≠i))=((List.range ops.length).filter fun j=>!listed.getD j true).filter fun j=>decide (j≠i):=by
      rw[List.filter_filter]
      congr 1
      funext j
      rw[Bool.and_comm]
     rw[e1,e2];have hm:i∈(List.range ops.length).filter fun j=>!listed.getD j true:=List.mem_filter.2 ⟨by simpa using hi2,by rw[hil]; rfl⟩
     have hn:((List.range ops.length).filter fun j=>!listed.getD j true).Nodup:=List.Pairwise.filter _ List.nodup_range;generalize ((List.range ops.length).filter fun j=>!listed.getD j true)=L at hm hn hf;have:=List.length_erase_of_mem hm;rw[List.Nodup.erase_eq_filter hn]at this;have e3:(L.filter fun j=>decide (j≠i)).length=(L.filter fun x=>x != i).length:=by
      congr 1
      apply List.filter_congr;intro x _
      by_cases hx:x=i <;> simp[hx]
     rw[e3,this,hf];rfl)
   show wpOp c.P ops.toArray (WQ c k) i _ a w
   unfold wpOp;have ho':ops.toArray[i]? = some ops[i]:=by simp[hi2]
   rw[ho'];simp only
   split
   .rename_i hwd
    rw[if_pos hwd]at hJ;exact .inl hJ
   .rename_i hwd
    rw[if_neg hwd]at hJ;exact hJ
end
end Go.Av
namespace Go.Av
open RowKit
variable [Tr]
def okV(ops:List Oper)(im lk:List Nat)(j i:Nat):Bool:=!(im.contains i&&lk.contains j)&&!(im.contains j&&lk.contains i)&&match ops[j]?,ops[i]? with
 | some oj,some oi=>oj.apart ops.toArray oi&&(bif im.contains i then !im.contains j&&(reader oj.op||blind oj.op) else bif im.contains j then(reader oi.op||blind oi.op) else together oj oi)
 | _,_=>false
theorem AqM{c:Cx}{ops:Array Oper}{n id:Nat}{s s' s1:LB}{o:Oper}{cv v:AV}{e:Env}(hr:(reader o.op||blind o.op)=true)(ho:reader o.op=true->blind o.op=false->opOk n id e o.op=true)(ha:Agr n id s s')(h:Does c ops s o cv e v s1):s1=s/\Does c ops s' o cv e v s':=by
 cases hb:blind o.op with
 | true=>exact⟨h.calm (blind_calm hb),h.blind hb⟩
 | false =>
  rw[hb,Bool.or_false]at hr;exact AaH hr (fun _=>ho hr hb) ha h
section
variable {cx:Cx}{ops:Array Oper}{s:LB}{K:Env->LB->Prop}{im lk:List Nat}{cv:Nat->AV}{cf:Nat->LB->AV×LB}{n0 id:Nat}
end
section
variable {c:Cx}{k:List It}{e:Env}{s:LB}
def pix(π:List Nat)(r:List Oper):Nat:=π.getD (π.length-r.length) 0
mutual
def dxv(c:Cx)(all:List Oper)(π im lk:List Nat)(cv:Nat->AV)(cf:Nat->LB->AV×LB)(n0 id:Nat)(k:List It):Nat->List Oper->Env->LB->Prop
 | _,[],e,s=>AWp c k e s
 | 0,_::_,_,_=>False
 | n+1,o::r,e,s=>bif im.contains (pix π (o::r)) then
   (match gOnB all.toArray e o,xop false true c.P e s o.op with
    | true,.call f args=>AfQ c n0 f args id s (fun v s'=>(v,s')=cf (pix π (o::r)) s/\dxv c all π im lk cv cf n0 id k n r (put e o.dst v) s')
    | true,.sto p v s'=>(calm o.op=false/\p)/\Agr n0 id s s'/\dxv c all π im lk cv cf n0 id k n r (put e o.dst v) s'
    | _,_=>False)
  else dck (reader o.op&&!blind o.op&&!lk.contains (pix π (o::r))) n0 id e o.op/\dxvc c all π im lk cv cf n0 id k n (dgrd c all s o r [cv (pix π (o::r))] e o.guard)
def dxvc(c:Cx)(all:List Oper)(π im lk:List Nat)(cv:Nat->AV)(cf:Nat->LB->AV×LB)(n0 id:Nat)(k:List It):Nat->Dn->Prop
 | n,.go r _ e s=>dxv c all π im lk cv cf n0 id k n r e s
 | n,.two b r _ e r' _ e' s=>dbrv c all π im lk cv cf n0 id k n b r e r' e' s
 | n,.side p r _ e s=>p/\dxv c all π im lk cv cf n0 id k n r e s
 | _,.fail=>False
def dbrv(c:Cx)(all:List Oper)(π im lk:List Nat)(cv:Nat->AV)(cf:Nat->LB->AV×LB)(n0 id:Nat)(k:List It):Nat->Bool->List Oper->Env->List Oper->Env->LB->Prop
 | 0,_,_,_,_,_,_=>False
 | n+1,b,r,e,r',e',s=>(b=true->dxv c all π im lk cv cf n0 id k n r e s)/\(b=false->dxv c all π im lk cv cf n0 id k n r' e' s)
end
section
variable {all:List Oper}{π im lk:List Nat}{cv:Nat->AV}{cf:Nat->LB->AV×LB}{n0 id n:Nat}
end
end
