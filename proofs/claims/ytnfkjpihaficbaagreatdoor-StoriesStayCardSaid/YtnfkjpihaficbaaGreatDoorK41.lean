/- Statements whose order is open, in which several listed operations make blocks and no. -/
import Derived.Test.YtnfkjpihaficbaaGreatDoorK40
import Derived.Test.YtnfkjpihaficbaaGreatDoorK35
set_option linter.unusedSimpArgs false
set_option linter.unusedVariables false
set_option linter.unusedSectionVars false
namespace Go.Av
open Go Go.RowKit
variable [Tr]
def ImpV(c:Cx)(ops:Array Oper)(n:Nat)(id:Nat)(cf:List Blk->AV×List Blk)(o:Oper)(e:Env)(s:List Blk)(K:AV->List Blk->Prop):Prop :=
 gOnB ops e o=true/\∃ v s',Agr n id s s'/\K v s' /\
  ((∃ f args,xop false true c.P e s o.op=.call f args/\ApE c n f args id s (fun r b=>r=v/\b=s')/\(v,s')=cf s)\/((∀ f args,xop false true c.P e s o.op≠.call f args)/\DoesOp c s o .any e v s'))
def ChV(c:Cx)(ops:Array Oper)(im lk:List Nat)(cv:Nat->AV)(cf:Nat->List Blk->AV×List Blk)(n0 id:Nat)(K:Env->List Blk->Prop):List Nat->Env->List Blk->Prop
 | [],e,s=>K e s
 | i::r,e,s=>match ops[i]? with
  | none=>False
  | some o=>bif im.contains i then ImpV c ops n0 id (cf i) o e s (fun v s'=>ChV c ops im lk cv cf n0 id K r (put e o.dst v) s')
   else(reader o.op=true->blind o.op=false->lk.contains i=false->opOk n0 id e o.op=true)/\∃ v s',Does c ops s o (cv i) e v s'/\ChV c ops im lk cv cf n0 id K r (put e o.dst v) s'
def okV(ops:List Oper)(im lk:List Nat)(j i:Nat):Bool:=!(im.contains i&&lk.contains j)&&!(im.contains j&&lk.contains i)&&match ops[j]?,ops[i]? with
 | some oj,some oi=>oj.apart ops.toArray oi&&(bif im.contains i then !im.contains j&&(reader oj.op||blind oj.op) else bif im.contains j then(reader oi.op||blind oi.op) else together oj oi)
 | _,_=>false
theorem AxS{c:Cx}{ops:Array Oper}{n id:Nat}{s s' s1:List Blk}{o:Oper}{cv v:AV}{e:Env}(hr:(reader o.op||blind o.op)=true)(ho:reader o.op=true->blind o.op=false->opOk n id e o.op=true)(ha:Agr n id s s')(h:Does c ops s o cv e v s1):s1=s/\Does c ops s' o cv e v s':=by
 cases hb:blind o.op with
 | true=>exact⟨h.calm (AaQ hb),h.blind hb⟩
 | false =>
  rw[hb,Bool.or_false]at hr;exact AaL hr (fun _=>ho hr hb) ha h
section
variable {cx:Cx}{ops:Array Oper}{s:List Blk}{K:Env->List Blk->Prop}{im lk:List Nat}{cv:Nat->AV}{cf:Nat->List Blk->AV×List Blk}{n0 id:Nat}
theorem ImpV.agree{o:Oper}{e e':Env}{s:List Blk}{g:List Blk->AV×List Blk}{K K':AV->List Blk->Prop}(h:AfE ops o e e')(hK:∀ r s,K r s->K' r s)(x:ImpV cx ops n0 id g o e s K):ImpV cx ops n0 id g o e' s K':=by
 obtain⟨h1,v,s',h2,h3,h4⟩:=x;refine⟨by rw[<- AiH h]; exact h1,v,s',h2,hK _ _ h3,?_⟩;have hx:=AcG (wr:=false) (frz:=true) (P:=cx.P) (s:=s) (AaG h)
 rcases h4 with⟨f,args,h4,h5,h6⟩|⟨h4,h5⟩
 .exact .inl ⟨f,args,by rw[<- hx]; exact h4,h5,h6⟩
 .refine .inr ⟨by rw[<- hx]; exact h4,?_⟩
  unfold DoesOp at h5 |-;rw[<- hx];exact h5
theorem ChV.congr(hK:∀ e e' s,Eqv e e'->K e s->K e' s):∀ {l:List Nat}{e e':Env}{s:List Blk},Eqv e e'->ChV cx ops im lk cv cf n0 id K l e s->ChV cx ops im lk cv cf n0 id K l e' s
 | [],e,e',s,h,x=>hK e e' s h x
 | i::r,e,e',s,h,x=>by
  unfold ChV at x |-
  split at x
  .exact x.elim
  .rename_i o ho
   cases hi:im.contains i with
   | true =>
    rw[hi]at x;exact ImpV.agree (fun t _=>h t) (fun r' s' z=>ChV.congr hK (h.put _ _) z) x
   | false =>
    rw[hi]at x;obtain⟨h1,v,s',h2,h3⟩:=x;exact⟨fun hr hb hk=>by rw[<- AaM (e:=e) (fun y _=>AeQ fun t _=>h t)]; exact h1 hr hb hk,v,s',h2.agree fun t _=>h t,ChV.congr hK (h.put _ _) h3⟩
theorem ChV.swap{opl:List Oper}(hops:ops=opl.toArray)(hK:∀ e e' s,Eqv e e'->K e s->K e' s){i j:Nat}{r:List Nat}(hok:okV opl im lk j i=true){e:Env}{s:List Blk}(x:ChV cx ops im lk cv cf n0 id K (j::i::r) e s) :
  ChV cx ops im lk cv cf n0 id K (i::j::r) e s:=by
 unfold okV at hok;rw[Bool.and_eq_true]at hok;obtain⟨hlk,hok⟩:=hok;simp only[Bool.and_eq_true,Bool.not_eq_true',Bool.and_eq_false_iff]at hlk;obtain⟨hl1,hl2⟩:=hlk
 split at hok
 rotate_left
 .cases hok
 rename_i oj oi hj' hi';have hj:ops[j]? = some oj:=by rw[hops]; simpa using hj'
 have hi:ops[i]? = some oi:=by rw[hops]; simpa using hi'
 rw[Bool.and_eq_true]at hok;obtain⟨ha,hok⟩:=hok;rw[<- hops]at ha;obtain⟨a1,a2,a3⟩:=Oper.apart_spec ha;have gi:∀ (e:Env) (v:AV),AfE ops oi (put e oj.dst v) e:=fun e v t ht=>by
  rw[get_put,if_neg]; intro h; exact a1 t h ht
 have gi':∀ (e:Env) (v:AV),AfE ops oi e (put e oj.dst v):=fun e v t ht=>(gi e v t ht).symm
 have gj:∀ (e:Env) (v:AV),AfE ops oj e (put e oi.dst v):=fun e v t ht=>by
  rw[get_put,if_neg]; intro h; exact a3 t h ht
 have sw:∀ (e:Env) (v u:AV),Eqv (put (put e oj.dst v) oi.dst u) (put (put e oi.dst u) oj.dst v):=fun e v u=>AfX a2
 simp only[ChV,hi,hj]at x |-
 cases mi:im.contains i with
 | true =>
  rw[mi]at hok x;simp only[cond_true]at hok;rw[Bool.and_eq_true,Bool.not_eq_true']at hok;obtain⟨mj,rj⟩:=hok;rw[mj]at x |-;simp only[cond_true,cond_false]at x |-;obtain⟨o1',v,s',d1,y⟩:=x;have ljf:lk.contains j=false:=hl1.resolve_left (by rw[mi]; simp);have o1:reader oj.op=true->blind oj.op=false->opOk n0 id e oj.op=true:=fun hr hb=>o1' hr hb ljf
  obtain⟨rfl,_⟩:=AxS rj o1 (Agr.rfl' (n:=n0) (id:=id)) d1;obtain⟨h1,u,b,ag,hy,h4⟩:=ImpV.agree (K':=fun u b=>ChV cx ops im lk cv cf n0 id K r (put (put e oj.dst v) oi.dst u) b) (gi e v) (fun _ _ z=>z) y;refine⟨h1,u,b,ag,?_,h4⟩;have hs:=(AxS rj o1 ag d1).2;refine⟨fun hr hb _=>?_,v,_,hs.agree (gj e u),ChV.congr hK (sw e v u) hy⟩;rw[<- AaM (e:=e) (AaG (gj e u))];exact o1 hr hb
 | false =>
  rw[mi]at hok x;simp only[cond_false]at hok x |-
  cases mj:im.contains j with
  | true =>
   rw[mj]at hok x;simp only[cond_true]at hok x |-;obtain⟨h1,u,b,ag,⟨o0,v,s0,d0,z0⟩,h4⟩:=x;have ok0:reader oi.op=true->blind oi.op=false->opOk n0 id e oi.op=true:=fun hr hb=>by
    have:=o0 hr hb (hl2.resolve_left (by rw[mj]; simp));rw[AaM (AaG (gi e u))]at this;exact this
   have d0':Does cx ops b oi (cv i) e v s0:=d0.agree (gi e u);obtain⟨rfl,d0s⟩:=AxS hok ok0 ag.symm d0';refine⟨fun hr hb _=>ok0 hr hb,v,s,d0s,ImpV.agree (gj e v) (fun _ _ z=>z) ⟨h1,u,_,ag,?_,h4⟩⟩;exact ChV.congr hK (sw e u v) z0
  | false =>
   rw[mj]at hok x;simp only[cond_false]at hok x |-;obtain⟨o1,v,s1,h1,o2,u,s2,h2,h3⟩:=x;have h2':Does cx ops s1 oi (cv i) e u s2:=h2.agree (gi e v);have h1':∀ {z z'},Does cx ops z oj (cv j) e v z'->Does cx ops z oj (cv j) (put e oi.dst u) v z':=fun hd=>hd.agree (gj e u)
   have h3':=ChV.congr hK (sw e v u) h3;have oi':∀ {n},reader oi.op=true->opOk n id (put e oj.dst v) oi.op=opOk n id e oi.op:=fun _=>AaM (AaG (gi e v))
   have oj':∀ {n},opOk n id e oj.op=opOk n id (put e oi.dst u) oj.op:=AaM (AaG (gj e u));simp only[Bool.or_eq_true,Bool.and_eq_true,together]at hok
   rcases hok with(⟨c1,c2⟩|c1)|c1
   .have e1:=h1.calm c1
    subst e1;have e2:=h2.calm c2;subst e2;exact⟨fun hr hb hk=>by rw[<- oi' hr]; exact o2 hr hb hk,u,_,h2',fun hr hb hk=>by rw[<- oj']; exact o1 hr hb hk,v,_,h1' h1,h3'⟩
   .have e1:=h1.calm (AaQ c1)
    subst e1;exact⟨fun hr hb hk=>by rw[<- oi' hr]; exact o2 hr hb hk,u,_,h2',fun hr hb _=>(by rw[c1]at hb; cases hb),v,_,h1' (h1.blind c1),h3'⟩
   .have e2:=h2.calm (AaQ c1)
    subst e2;exact⟨fun hr hb _=>(by rw[c1]at hb; cases hb),u,_,h2'.blind c1,fun hr hb hk=>by rw[<- oj']; exact o1 hr hb hk,v,_,h1' h1,h3'⟩
theorem ChV.front{opl:List Oper}(hops:ops=opl.toArray)(hK:∀ e e' s,Eqv e e'->K e s->K e' s):∀ (l:List Nat)(i:Nat)(r:List Nat)(e:Env)(s:List Blk),(∀ j∈l,okV opl im lk j i=true) ->
  ChV cx ops im lk cv cf n0 id K (l++i::r) e s->ChV cx ops im lk cv cf n0 id K (i::(l++r)) e s
 | [],_,_,_,_,_,x=>x
 | j::l,i,r,e,s,h,x=>by
  refine ChV.swap hops hK (h j (by simp)) ?_;have ih:=fun e s=>ChV.front hops hK l i r e s fun k hk=>h k (by simp[hk])
  simp only[List.cons_append,ChV]at x |-
  split at x
  .exact x.elim
  .rename_i o ho
   cases hm:im.contains j with
   | true =>
    rw[hm]at x;exact ImpV.agree (fun _ _=>rfl) (fun r' s' z=>ih _ _ z) x
   | false =>
    rw[hm]at x;obtain⟨h1,v,s',h2,h3⟩:=x;exact⟨h1,v,s',h2,ih _ _ h3⟩
end
section
variable {c:Cx}{k:List It}{e:Env}{s:List Blk}
theorem AxT{ops:Array Oper}{o:Oper}{v:AV}{s':List Blk}(hg:gOnB ops e o=true)(h:DoesOp c s o .any e v s'):Does c ops s o .any e v s':=by
 unfold gOnB at hg;unfold Does
 split
 .exact h
 .rename_i j want hq
  rw[hq]at hg;simp only at hg
  split
  .rename_i b hb
   rw[hb]at hg;exact .inl ⟨by simpa using hg,h⟩
  .rename_i hb
   rw[hb]at hg
   cases hg
theorem BeF{ops:List Oper}{im lk:List Nat}{cv:Nat->AV}{cf:Nat->List Blk->AV×List Blk}{n0 id:Nat}(hdst:∀ o∈ops,dOk c.fn.ntmps o.dst=true)(i:Nat)(o:Oper)(RR:List (List Nat))(e:Env)(s:List Blk)(a:Act)(w:World)(Kc:Act->World->Prop)(ho:ops[i]? = some o)(hne:RR≠[])
  (x:∀ r∈RR,ChV c ops.toArray im lk cv cf n0 id (fun e s=>AWp c k e s) (i::r) e s) (hs:Sim c e s a w) (hK:∀ e' s' a w,(∀ r∈RR,ChV c ops.toArray im lk cv cf n0 id (fun e s=>AWp c k e s) r e' s')->Sim c e' s' a w->Kc a w) :
  if Region.wanted o (yielded ops.toArray a.tmps) then o.wp c.P a w Kc (WQ c k) else Kc (a.put o.dst undef) w:=by
 have ho':ops.toArray[i]? = some o:=by simpa using ho
 have hd:=hdst o (List.mem_of_getElem? ho);obtain⟨r0,hr0⟩:=List.exists_mem_of_ne_nil _ hne;have x0:=x r0 hr0;simp only[ChV,ho']at x x0
 cases hm:im.contains i with
 | false =>
  rw[hm]at x x0;obtain⟨_,v,s',h2,h3⟩:=x0;refine AhC hs hd h2 fun a w hs'=>hK _ _ a w (fun r hr=>?_) hs'
  obtain⟨_,v2,s2,h4,h5⟩:=x r hr;obtain⟨rfl,rfl⟩:=BeE h2 h4;exact h5
 | true =>
  rw[hm]at x x0;simp only[cond_true]at x x0;obtain⟨hg,v,s',_,_,h4⟩:=x0;have hall:∀ r∈RR,ChV c ops.toArray im lk cv cf n0 id (fun e s=>AWp c k e s) r (put e o.dst v) s':=fun r hr=>by
   obtain⟨_,v2,s2,_,h5,h6⟩:=x r hr
   rcases h4 with⟨f,args,hx,_,he⟩|⟨hx,hd1⟩ <;> rcases h6 with⟨f',args',hx',_,he'⟩|⟨hx',hd2⟩
   .have:=he.trans he'.symm
    simp only[Prod.mk.injEq]at this;obtain⟨rfl,rfl⟩:=this;exact h5
   .exact (hx' _ _ hx).elim
   .exact (hx _ _ hx').elim
   .obtain ⟨rfl,rfl⟩:=AjI hd1 hd2
    exact h5
  rcases h4 with⟨f,args,hx,⟨post,h4,_,h6⟩,_⟩|⟨_,h5⟩
  .rw [if_pos (ApV hs hg)]
   obtain⟨hh,ρ,hmm,hl,he,hdf,hsz,hX⟩:=hs;have hsnd:=AdI (P:=c.P) (wr:=false) (frz:=true) (o:=o) hmm he;rw[hx]at hsnd;obtain⟨vs,hv,hr⟩:=hsnd;unfold Oper.wp;rw[hr h4.1];refine(h4.2 hh ρ w vs hmm hl hv).mono ?_;rintro en w' ⟨u,r',b,h',ρ',rfl,hp,hm',hlt,rv⟩;have he':EnvOk h' ρ' b e a:=fun t=>(he t).mono hlt.hle hlt.keep
   obtain⟨rfl,rfl⟩:=(h6 r' b hp).2;exact hK _ _ _ _ hall ⟨h',ρ',hm',hl.trans hlt,he'.put (by rw[hsz]; exact hd) rv,by rw[AaE]; exact hdf,by rw[AaW]; exact hsz,c.hx.later hmm hlt hX⟩
  .exact AhC hs hd (AxT hg h5) fun a w hs'=>hK _ _ a w hall hs'
def pix(π:List Nat)(r:List Oper):Nat:=π.getD (π.length-r.length) 0
mutual
def dxv(c:Cx)(all:List Oper)(π im lk:List Nat)(cv:Nat->AV)(cf:Nat->List Blk->AV×List Blk)(n0 id:Nat)(k:List It):Nat->List Oper->Env->List Blk->Prop
 | _,[],e,s=>AWp c k e s
 | 0,_::_,_,_=>False
 | n+1,o::r,e,s=>bif im.contains (pix π (o::r)) then
   (match gOnB all.toArray e o,xop false true c.P e s o.op with
    | true,.call f args=>ApE c n0 f args id s (fun v s'=>(v,s')=cf (pix π (o::r)) s/\dxv c all π im lk cv cf n0 id k n r (put e o.dst v) s')
    | true,.sto p v s'=>(calm o.op=false/\p)/\Agr n0 id s s'/\dxv c all π im lk cv cf n0 id k n r (put e o.dst v) s'
    | _,_=>False)
  else dck (reader o.op&&!blind o.op&&!lk.contains (pix π (o::r))) n0 id e o.op/\dxvc c all π im lk cv cf n0 id k n (dgrd c all s o r [cv (pix π (o::r))] e o.guard)
def dxvc(c:Cx)(all:List Oper)(π im lk:List Nat)(cv:Nat->AV)(cf:Nat->List Blk->AV×List Blk)(n0 id:Nat)(k:List It):Nat->Dn->Prop
 | n,.go r _ e s=>dxv c all π im lk cv cf n0 id k n r e s
 | n,.two b r _ e r' _ e' s=>dbrv c all π im lk cv cf n0 id k n b r e r' e' s
 | n,.side p r _ e s=>p/\dxv c all π im lk cv cf n0 id k n r e s
 | _,.fail=>False
def dbrv(c:Cx)(all:List Oper)(π im lk:List Nat)(cv:Nat->AV)(cf:Nat->List Blk->AV×List Blk)(n0 id:Nat)(k:List It):Nat->Bool->List Oper->Env->List Oper->Env->List Blk->Prop
 | 0,_,_,_,_,_,_=>False
 | n+1,b,r,e,r',e',s=>(b=true->dxv c all π im lk cv cf n0 id k n r e s)/\(b=false->dxv c all π im lk cv cf n0 id k n r' e' s)
end
section
variable {all:List Oper}{π im lk:List Nat}{cv:Nat->AV}{cf:Nat->List Blk->AV×List Blk}{n0 id n:Nat}
theorem AbN{r e r' e' s}:dbrv c all π im lk cv cf n0 id k (n+1) true r e r' e' s=dxv c all π im lk cv cf n0 id k n r e s:=by rw[dbrv]; simp
theorem AbA{r e r' e' s}:dbrv c all π im lk cv cf n0 id k (n+1) false r e r' e' s=dxv c all π im lk cv cf n0 id k n r' e' s:=by rw[dbrv]; simp
theorem BfV{o:Oper}{r:List Oper}(hm:im.contains (pix π (o::r))=false)(hg:o.guard=none)(h:dxv c all π im lk cv cf n0 id k n (o::r) e s) :
  dck (reader o.op&&!blind o.op&&!lk.contains (pix π (o::r))) n0 id e o.op/\∃ v n' s',DoesOp c s o (cv (pix π (o::r))) e v s'/\dxv c all π im lk cv cf n0 id k n' r (put e o.dst v) s':=by
 cases n with
 | zero=>rw[dxv]at h; exact h.elim
 | succ n =>
  rw[dxv,hm]at h;simp only[cond_false]at h;refine⟨h.1,?_⟩
  replace h:=h.2
  rw[hg]at h;unfold dgrd at h;unfold DoesOp
  revert h
  cases xop false true c.P e s o.op with
  | ok u=>intro h; simp only[dres,dxvc]at h; exact⟨u,n,s,⟨rfl,rfl⟩,h⟩
  | side p u=>intro h; simp only[dres,dxvc]at h; exact⟨u,n,s,⟨h.1,rfl,rfl⟩,h.2⟩
  | sto p u s'=>intro h; simp only[dres,dxvc]at h; exact⟨u,n,s',⟨h.1.1,h.1.2,rfl,rfl⟩,h.2⟩
  | pick b x y =>
   intro h; simp only[dres,dxvc]at h
   cases n with
   | zero=>rw[dbrv]at h; exact h.elim
   | succ n =>
   rw[dbrv]at h;refine⟨_,n,s,⟨rfl,rfl⟩,?_⟩
   cases b with
   | true=>exact h.1 rfl
   | false=>exact h.2 rfl
  | call f args =>
   intro h; simp only[dres,dcall,dxvc]at h;exact⟨_,n,s,⟨h.1.1,h.1.2,rfl,rfl⟩,h.2⟩
  | anyb p=>intro h; simp only[dres,dxvc]at h
  | stuck=>intro h; simp only[dres,dxvc]at h
theorem BeG{o:Oper}{r:List Oper}(hm:im.contains (pix π (o::r))=false)(h:dxv c all π im lk cv cf n0 id k n (o::r) e s) :
  dck (reader o.op&&!blind o.op&&!lk.contains (pix π (o::r))) n0 id e o.op/\∃ v n' s',Does c all.toArray s o (cv (pix π (o::r))) e v s'/\dxv c all π im lk cv cf n0 id k n' r (put e o.dst v) s':=by
 cases hg:o.guard with
 | none =>
  obtain⟨h0,v,n',s',h1,h2⟩:=BfV hm hg h;exact⟨h0,v,n',s',by unfold Does; rw[hg]; exact h1,h2⟩
 | some jw =>
  obtain⟨j,want⟩:=jw
  cases n with
  | zero=>rw[dxv]at h; exact h.elim
  | succ n =>
   rw[dxv,hm]at h;simp only[cond_false]at h;refine⟨h.1,?_⟩
   replace h:=h.2
   rw[hg]at h;unfold dgrd dyld at h
   cases hy:yldD want e all[j]? with
   | none=>simp only[hy,dxvc]at h
   | some b =>
    simp only[hy]at h;have key:(b=want->∃ n',dxv c all π im lk cv cf n0 id k n' ({ o with guard:=none }::r) e s)/\(b≠want->∃ n',dxv c all π im lk cv cf n0 id k n' r (put e o.dst (.raw undef)) s):=by
     cases n with
     | zero=>cases want <;> simp only[cond_true,cond_false,dxvc,dbrv]at h
     | succ n =>
      cases want <;> simp only[cond_true,cond_false,dxvc,dbrv]at h <;> cases b <;>
       first
       | exact⟨fun _=>⟨n,h.1 rfl⟩,fun hh=>(hh rfl).elim⟩
       | exact⟨fun _=>⟨n,h.2 rfl⟩,fun hh=>(hh rfl).elim⟩
       | exact⟨fun hh=>(by cases hh),fun _=>⟨n,h.1 rfl⟩⟩
       | exact⟨fun hh=>(by cases hh),fun _=>⟨n,h.2 rfl⟩⟩
    have hy':yldD want e all.toArray[j]? = some b:=by simpa using hy
    by_cases hb:b=want
    .obtain ⟨n1,h1⟩:=key.1 hb
     obtain⟨_,v,n',s',h1,h2⟩:=BfV (o:={ o with guard:=none }) (by exact hm) rfl h1;refine⟨v,n',s',?_,h2⟩;unfold Does;rw[hg];simp only[hy'];exact .inl ⟨hb,h1⟩
    .obtain ⟨n1,h1⟩:=key.2 hb
     refine⟨.raw undef,n1,s,?_,h1⟩;unfold Does;rw[hg];simp only[hy'];exact .inr ⟨hb,trivial,trivial⟩
theorem AgL:∀ {l:List Nat}{m n:Nat}{e:Env}{s:List Blk},(∀ (j:Nat),l[j]? = π[m+j]?)->π.length=m+l.length->(∀ i∈l,i<all.length)->dxv c all π im lk cv cf n0 id k n (l.filterMap (all[·]?)) e s->ChV c all.toArray im lk cv cf n0 id (fun e s=>AWp c k e s) l e s
 | [],m,n,e,s,_,_,_,h=>by
  rw[List.filterMap_nil,dxv]at h;exact h
 | i::l,m,n,e,s,hr,hlen,hlt,h=>by
  have hi:i<all.length:=hlt i (by simp);have h0:all[i]? = some all[i]:=by simp[hi]
  have h0':all.toArray[i]? = some all[i]:=by simp[hi]
  rw[List.filterMap_cons_some h0]at h;have hln:(l.filterMap (all[·]?)).length=l.length:=by
   have hh:∀ l:List Nat,(∀ i∈l,i<all.length)->(l.filterMap (all[·]?)).length=l.length:=by
    intro l
    induction l with
    | nil=>intro _; rfl
    | cons j l ih =>
     intro hl;have hjl:j<all.length:=hl j (by simp);have hj:all[j]? = some all[j]:=by simp[hjl]
     rw[List.filterMap_cons_some hj,List.length_cons,List.length_cons,ih fun k hk=>hl k (by simp[hk])]
   exact hh l fun k hk=>hlt k (by simp[hk])
  have hix:∀ o:Oper,pix π (o::l.filterMap (all[·]?))=i:=fun o=>by
   unfold pix;rw[List.length_cons,hln];have h2:=hr 0;have h3:π.length-(l.length+1)=m:=by simp at hlen; omega
   rw[h3,List.getD_eq_getElem?_getD];simp only[List.getElem?_cons_zero,Nat.add_zero]at h2;rw[<- h2];rfl
  have hr':∀ j,l[j]? = π[m+1+j]?:=fun j=>by have:=hr (j+1); simpa[Nat.add_assoc,Nat.add_comm 1 j]using this
  have hlen':π.length=m+1+l.length:=by simp at hlen; omega
  have hlt':∀ k∈l,k<all.length:=fun k hk=>hlt k (by simp[hk])
  simp only[ChV,h0']
  cases hm:im.contains i with
  | true =>
   simp only[cond_true]
   cases n with
   | zero=>rw[dxv]at h; exact h.elim
   | succ n =>
    rw[dxv,hix,hm]at h;simp only[cond_true]at h
    split at h
    .rename_i f args hg hx
     obtain⟨post,h4,⟨r0,b0,h5⟩,h6⟩:=h;obtain⟨ag,h7,h8⟩:=h6 r0 b0 h5;refine⟨hg,r0,b0,ag,AgL hr' hlen' hlt' h8,.inl ⟨f,args,hx,⟨post,h4,⟨r0,b0,h5⟩,fun u b hp=>⟨(h6 u b hp).1,?_⟩⟩,h7⟩⟩;have:=(h6 u b hp).2.1.trans h7.symm
     simpa using this
    .rename_i p v s' hg hx
     refine⟨hg,v,s',h.2.1,AgL hr' hlen' hlt' h.2.2,.inr ⟨(by rw[hx]; intro _ _ hh; cases hh),?_⟩⟩;unfold DoesOp;rw[hx];exact⟨h.1.1,h.1.2,rfl,rfl⟩
    .exact h.elim
  | false =>
   simp only[cond_false];obtain⟨hd,v,n',s',h1,h2⟩:=BeG (by rw[hix]; exact hm) h;rw[hix]at hd h1;refine⟨fun hr hb hk=>?_,v,s',h1,AgL hr' hlen' hlt' h2⟩;unfold dck at hd;rw[hr,hb,hk]at hd;exact hd
theorem BmH(im lk:List Nat)(bid:Nat)(LL:List (List Nat))(cv:Nat->AV)(cf:Nat->List Blk->AV×List Blk){id:Nat}{ops:List Oper}(hm:c.P.follows .mixedOrders=true)(hcv:ApW ops (okV ops im lk) ops.length [] LL=true)
  (hwt:((List.range ops.length).all fun i=>(AbT ops i).all fun j=>decide (j<ops.length))=true) (hin:(LL.all fun l=>l.all fun i=>decide (i<ops.length))=true) {N:Nat} (hN:c.fn.ntmps=N) (hdst:ops.all (fun o=>dOk N o.dst)=true) (n:Nat)
  (h:∀ π∈LL,dxv c ops π im lk cv cf s.length bid k n (π.filterMap (ops[·]?)) e s):AWp c (.code (.region id ops.toArray true)::k) e s:=by
 intro a w hsim;obtain⟨n1,hn1⟩:∃ n1,n1=s.length:=⟨_,rfl⟩;rw[<- hn1]at h;refine wp_region_any hm ?_;have hsim':Sim c e s a { w with drawn:=w.drawn+1 }:=by
  obtain⟨hh,ρ,hmm,hl,he,hdf,hsz,hX⟩:=hsim;have sm:Same w { w with drawn:=w.drawn+1 }:=Same.drew w;exact⟨hh,ρ,hmm.same sm,hl.trans (Later.same sm),he,hdf,hsz,c.hx.later hmm (Later.same sm) hX⟩
 have hd:∀ o∈ops,dOk c.fn.ntmps o.dst=true:=fun o ho=>by rw[hN]; exact(List.all_eq_true.1 hdst) o ho
 refine A3I (okp:=okV ops im lk) (ChV c ops.toArray im lk cv cf n1 bid (fun e s=>AWp c k e s)) (fun e s x=>x) (fun l i r e s hj x=>ChV.front rfl AWp.K l i r e s hj x)
  (fun i o RR e s a w Kc ho hne x hs hK=>BeF hd i o RR e s a w Kc ho hne x hs hK) (fun i hi j hj=>?_) ops.length (Array.replicate ops.length false) [] LL e s a _ (by simp) (fun i hi=>by simp[hi]) ?_ hcv (fun l hl=>?_) hsim'
 .have:=(List.all_eq_true.1 hwt) i (by simpa using hi)
  simpa using(List.all_eq_true.1 this) j hj
 .rw [List.filter_eq_self.2]
  .simp
  .intro i hi
   simp at hi
   simp[hi]
 .exact AgL (π:=l) (m:=0) (by intro j; simp) (by simp) (fun i hi=>by simpa using(List.all_eq_true.1 ((List.all_eq_true.1 hin) l hl)) i hi) (h l hl)
end
end
end Go.Av
namespace Go.Av
open Go Go.RowKit
variable [Tr]
theorem AfP{n:Nat}{v:AV}(h:lowC n v=true):lowC (n+1) v=true:=by
 cases v <;> simp only[lowC,decide_eq_true_eq]at h |- <;> first|omega|exact h
theorem A9G{n:Nat}{v:AV}(h:lowV n v=true):lowV (n+1) v=true:=by
 cases v with
 | agg r=>simp only[lowV,List.all_eq_true]at h |-; exact fun x hx=>AfP (h x hx)
 | fn f r=>simp only[lowV,List.all_eq_true]at h |-; exact fun x hx=>AfP (h x hx)
 | _=>simp only[lowV]at h |-; exact AfP h
theorem AuV{n:Nat}{b:Blk}(h:lowB n b=true):lowB (n+1) b=true:=by
 cases b with
 | arr e l=>simp only[lowB,List.all_eq_true]at h |-; exact fun x hx=>AfP (h x hx)
 | mp es=>simp only[lowB,List.all_eq_true]at h |-; exact fun x hx=>A9G (h x hx)
 | it m n' s=>simp only[lowB,decide_eq_true_eq]at h |-; omega
 | dead=>rfl
theorem A1D{T:List Blk}{y:Blk}(h:T.all (lowB T.length)=true)(hy:lowB (T.length+1) y=true):(T++[y]).all (lowB (T++[y]).length)=true:=by
 rw[List.length_append,List.length_singleton,List.all_append,List.all_cons,List.all_nil,hy,Bool.and_true,Bool.and_true];rw[List.all_eq_true]at h |-;exact fun b hb=>AuV (h b hb)
theorem A9H{T:List Blk}{i:Nat}{y:Blk}(h:T.all (lowB T.length)=true)(hy:lowB T.length y=true):(T.set i y).all (lowB (T.set i y).length)=true:=by
 rw[List.length_set];rw[List.all_eq_true]at h |-;intro b hb
 rcases List.mem_or_eq_of_mem_set hb with hb|rfl
 .exact h b hb
 .exact hy
theorem AeU{T:List Blk}{k:Nat}{b:Blk}(h:T[k]? = some b):T.getD k .dead=b:=by
 rw[List.getD_eq_getElem?_getD,h]; rfl
theorem gt_at{T U:List Blk}{c:Nat}{d:Blk}:(T++U).getD (T.length+c) d=U.getD c d:=by
 rw[List.getD_eq_getElem?_getD,List.getD_eq_getElem?_getD,List.getElem?_append_right (by omega),Nat.add_sub_cancel_left]
theorem gt_at0{T U:List Blk}{d:Blk}:(T++U).getD T.length d=U.getD 0 d:=gt_at (c:=0)
theorem st_at{T U:List Blk}{c:Nat}{b:Blk}:(T++U).set (T.length+c) b=T++U.set c b:=by
 rw[List.set_append,if_neg (by omega),Nat.add_sub_cancel_left]
theorem st_at0{T U:List Blk}{b:Blk}:(T++U).set T.length b=T++U.set 0 b:=st_at (c:=0)
theorem AdQ{T:List Blk}{k:Nat}{b:Blk}(h:T[k]? = some b)(U:List Blk):(T++U).getD k .dead=b:=by
 rw[List.getD_eq_getElem?_getD,List.getElem?_append_left (List.getElem?_eq_some_iff.1 h).1,h]; rfl
theorem A9I{n m:Nat}(h:n<=m){b:AV}(hb:lowC n b=true):lowC m b=true:=by
 induction h with
 | refl=>exact hb
 | step _ ih=>exact AfP ih
theorem AgM{n m:Nat}(h:n<=m){l:List AV}(hb:l.all (lowC n)=true):l.all (lowC m)=true:=List.all_eq_true.2 fun x hx=>A9I h (List.all_eq_true.1 hb x hx)
theorem AlD{n m:Nat}(h:n<=m){b:Blk}(hb:lowB n b=true):lowB m b=true:=by
 induction h with
 | refl=>exact hb
 | step _ ih=>exact AuV ih
theorem AxU{T U:List Blk}(h:T.all (lowB T.length)=true)(hU:U.all (lowB (T.length+U.length))=true):(T++U).all (lowB (T++U).length)=true:=by
 rw[List.length_append,List.all_append,hU,Bool.and_true,List.all_eq_true];rw[List.all_eq_true]at h;exact fun b hb=>AlD (by omega) (h b hb)
theorem AcP{c:Cx}{e e':Env}{s:List Blk}(T U V:List Blk)(hs:s=T++(U++V))(hc:c.sto.length<=T.length)(hT:T.all (lowB T.length)=true)(hU:U.all (lowB (T.length+U.length))=true)(hw:wkl (T.length+U.length) e e'):Shift c e s e' (T++U):=by
 subst hs;rw[<- List.append_assoc];have h:=Shift.low (c:=c) (e:=e) (e':=e') (s:=(T++U)++V) (T.length+U.length) (by omega) (by simp) (by rw[<- List.length_append,List.take_left]; exact AxU hT hU) hw;rw[<- List.length_append,List.take_left]at h;exact h
theorem A3J{c:Cx}{e e':Env}{s:List Blk}(T U V:List Blk)(hs:s=T++(U++V))(hc:c.sto.length<=T.length+U.length)(hT:T.all (lowB T.length)=true)(hU:U.all (lowB (T.length+U.length))=true)(hw:wkl (T.length+U.length) e e'):Shift c e s e' (T++U):=by
 subst hs;rw[<- List.append_assoc];have h:=Shift.low (c:=c) (e:=e) (e':=e') (s:=(T++U)++V) (T.length+U.length) hc (by simp) (by rw[<- List.length_append,List.take_left]; exact AxU hT hU) hw;rw[<- List.length_append,List.take_left]at h;exact h
end Go.Av
set_option maxRecDepth 100000
set_option maxHeartbeats 8000000
namespace Go.Proofs.YtnfkjpihaficbaaGreatDoor
open Go Go.Av Go.RowKit _root_.Go.Proofs.Tryz
theorem A1E(id:Nat)(L:List AV):∀ l:List Fa,(l.map faA).map (frzC id 5 L)=l.map faA
 | []=>rfl
 | a::l=>by
  rw[List.map_cons,List.map_cons,A1E id L l];rfl
theorem AnR{c:Cx}(hc:c.sto.length<=4)(E0:Env)(hE:∀ id l,frzE (id+4) 5 l E0=E0)(hw:wkl 4 E0 E0)(b0 b1 b3:Blk)(h0:∀ id l,frzB (id+4) 5 l b0=b0)(h1:∀ id l,frzB (id+4) 5 l b1=b1)(h3:∀ id l,frzB (id+4) 5 l b3=b3)
  (hl:lowB 4 b0=true/\lowB 4 b1=true/\lowB 4 b3=true):∀ (gs done:List Gf) (S:List Blk),(∀ g∈gs,S[g.at']? = some (.arr 5 (g.ds.map faA)))->gs.Pairwise (fun x y=>x.at'≠y.at') ->
  Shift c E0 (b0::b1::.mp (gfF done++gfM 4 gs)::b3::S) E0 [b0,b1,.mp (gfF (done++gs)),b3]
 | [],done,S,_,_=>by
  rw[show gfM 4 []=[] from rfl,List.append_nil,List.append_nil];refine Shift.low 4 hc (by simp) ?_ hw;simp only[List.take_succ_cons,List.take_zero,List.all_cons,List.all_nil,Bool.and_true,hl.1,hl.2.1,hl.2.2,low_gfF,Bool.and_self]
 | g::r,done,S,hb,hn=>by
  have hg:=hb g (by simp);rw[List.pairwise_cons]at hn;have hs:(b0::b1::Blk.mp (gfF done++gfM 4 (g::r))::b3::S).getD (g.at'+4) .dead=.arr 5 (g.ds.map faA):=by
   simp only[List.getD_cons_succ];rw[List.getD_eq_getElem?_getD,hg]; rfl
  have sh:=Shift.frz (c:=c) (en:=E0) (g.at'+4) hs (ApI _);rw[hE]at sh;have e1:((b0::b1::Blk.mp (gfF done++gfM 4 (g::r))::b3::S).set (g.at'+4) .dead).map (frzB (g.at'+4) 5 (g.ds.map faA))=b0::b1::.mp (gfF (done++[g])++gfM 4 r)::b3::(S.set g.at' .dead).map (frzB (g.at'+4) 5 (g.ds.map faA)):=by
   simp only[List.set_cons_succ,List.map_cons,h0,h1,h3]
   congr 3
   simp only[frzB,List.map_append,BjN]
   congr 1
   have e2:gfM 4 (g::r)=(.int .i64 (g.key:Int),.sl (g.at'+4) 0 g.ds.length g.ds.length)::gfM 4 r:=rfl;have e3:gfF (done++[g])=gfF done++[(.int .i64 (g.key:Int),.fz 5 (g.ds.map faA))]:=by simp[gfF]
   rw[e2,e3,List.map_cons,BjO _ _ _ _ (fun y hy=>Ne.symm (hn.1 y hy)),List.append_assoc]
   congr 1
   simp only[frz,frz1,beq_self_eq_true,List.length_map,Nat.zero_add,decide_true,Nat.le_refl,Bool.and_self,cond_true,List.drop_zero,List.cons_append,List.nil_append];rw[List.take_of_length_le (by simp)]
  rw[e1]at sh;have ih:=AnR hc E0 hE hw b0 b1 b3 h0 h1 h3 hl r (done++[g]) ((S.set g.at' .dead).map (frzB (g.at'+4) 5 (g.ds.map faA))) (fun y hy=>by
   rw[List.getElem?_map,List.getElem?_set_ne (hn.1 y hy),hb y (by simp[hy])];simp only[Option.map_some,frzB,A1E]) hn.2
  rw[List.append_assoc]at ih;exact Shift.trans sh ih
theorem A9J(n:Nat):∀ (xs:List Sc)(k:Nat),shB n (.mp (scMF k xs))=.mp (scMF k xs)
 | [],_=>rfl
 | y::r,k=>by
  have:=A9J n r (k+1);simp only[shB,Blk.mp.injEq]at this |-;rw[scMF,List.map_cons,this];rfl
theorem AgN(σ:List Nat):∀ (xs:List Sc)(k:Nat),(scMF k xs).map (fun x=>(x.1,renV σ x.2))=scMF k xs
 | [],_=>rfl
 | y::r,k=>by
  rw[scMF,List.map_cons,AgN σ r (k+1)];rfl
theorem Ct.imp{P:Program}{f:FuncId}{args:List AV}{s:List Blk}{p q:AV->List Blk->Prop}(h:Ct P f args s p)(hpq:∀ r s',p r s'->q r s'):Ct P f args s q :=
 ⟨h.1,fun hh ρ w vs m r=>(h.2 hh ρ w vs m r).mono fun en w' ⟨v,r,s1,h',ρ',e,hp,rest⟩=>⟨v,r,s1,h',ρ',e,hpq _ _ hp,rest⟩⟩
theorem CtH.imp{P:Program}{g:Std}{f:FuncId}{args:List AV}{s:List Blk}{p q:AV->List Blk->Prop}(h:CtH P g f args s p)(hpq:∀ r s',p r s'->q r s'):CtH P g f args s q :=
 ⟨h.1,fun hh ρ w vs hg m r=>(h.2 hh ρ w vs hg m r).mono fun en w' ⟨v,r,s1,h',ρ',e,hp,rest⟩=>⟨v,r,s1,h',ρ',e,hpq _ _ hp,rest⟩⟩
theorem AnS(x:Sr)(hx:StoryOk x)(s:List Blk):Ct prog 51 [srA x] s (fun r s'=>r=.mp s.length/\s'=s++[.mp (scMF 0 x.scenes)]) :=
 Ct.imp ((AgI x hx).liftN rfl (by rintro _ _ ⟨_,rfl⟩; rfl) s) (by
  rintro _ _ ⟨_,_,⟨rfl,rfl⟩,rfl,rfl⟩;refine⟨?_,by rw[List.map_cons,A9J]; rfl⟩
  show AV.mp (0+s.length)=_
  rw[Nat.zero_add])
theorem BjQ{x:Sr}(hx:StoryOk x){fs:List Fa}(hf:FactsOk x fs){f:Fa}(hm:f∈fs):∃ j,j<x.scenes.length/\kfN x f=j/\mfind .string (.str f.scene) (scMF 0 x.scenes) 0=some (some (j,.int .i64 (j:Int))):=by
 obtain⟨j,hj,he⟩:=hf.at' f hm;refine⟨j,hj,?_,AnL hx hj he⟩;have h:=BmG hx hf hm hj;rw[A9F hj,he,beq_self_eq_true]at h;exact beq_iff_eq.1 h
def A9K(x:Sr)(js:List Jm):AV:=.agg [.fz 1 ((ordL x js).map inA),.mp 1,.mp 2]
theorem A3K{S:Std}(hS:LibOk S)(x:Sr)(hx:StoryOk x)(js:List Jm)(hj:JumpsOk x js)(fs:List Fa)(hf:FactsOk x fs) :
  CtH prog S 64 [srA x,.fz 4 (js.map jmA),.fz 5 (fs.map faA)] [] (fun r s=>∃ (gs:List Gf) (T:List Blk),r=.tup [A9K x js,.int .i64 0]/\s=[.arr 3 [A9K x js],.mp (scMF 0 x.scenes),.mp (gfF gs)]/\GfOk (kfN x) fs gs T):=by
 have hlen:=hx.len;have h1:=AgW hS x hx js hj;have h2:=AoG hS x hx fs hf;have h3:=A0Y hS x hx js hj;have h5:=BjP hx hj;have h4:=AnS x hx;simp only[srA]at h1 h2 h3 h4 |-;refine zdIB func64 rfl fun h ρ w hg=>?_
 simp only[go_sem]
 repeat refine ak ?_
 refine zqB hg (h1) ?_;simp only[go_sem];refine zqB hg (h2) ?_;simp only[go_sem];refine acut (ι:=Unit) (fun _=>[(10,.ptr 3 1 0 0),(6,.ptr 0 1 0 0),(2,.fz 5 (fs.map faA))]) (fun _=>[.arr 3 [.agg [.raw (.slice none 0 0),.raw (.map none),.raw (.map none)]],.mp (scMF 0 x.scenes),.mp [],.arr 3 [A9K x js]]) (fun _=>True) ?_ ?_
 .intro J hJ
  refine BmH [5,6,8] [] 100 [[0,1,2,3,4,5,6,7,8,9],[0,1,2,3,4,5,8,6,7,9],[0,1,2,3,4,6,5,7,8,9],[0,1,2,3,4,6,8,5,7,9],[0,1,2,3,4,8,5,6,7,9],[0,1,2,3,4,8,6,5,7,9]]
   (fun i=>bif i==2 then .fz 3 ((AkK x js).map sdA) else .fz 1 ((ordL x js).map inA)) (fun _ s=>(.mp s.length,s++[.mp (scMF 0 x.scenes)])) mixed (by decide) (by decide) (by decide) rfl rfl 100 ?_
  simp only[List.mem_cons,List.not_mem_nil,or_false,forall_eq_or_imp,forall_eq];refine⟨?_,?_,?_,?_,?_,?_⟩
  .simp only [go_sem,Go.Av.dxv,Go.Av.dxvc,Go.Av.pix,Go.Av.gOnB,Go.Av.yldD,↓Go.Av.AbN,↓Go.Av.AbA,Go.Av.dbrv,List.filterMap_cons,List.getElem?_cons_zero,List.getElem?_cons_succ,List.filterMap_nil]
   repeat refine And.intro (by first|exact PcH.at hg h3|exact h5.at|exact Agr.push' (by simp) _|rfl|(simp; done)) ?_
   refine icc (h4 _) ⟨_,_,rfl,rfl⟩ ?_;rintro _ _ ⟨rfl,rfl⟩;refine⟨Agr.push' (by simp) _,rfl,?_⟩;simp only[go_sem,Go.Av.dxv,Go.Av.dxvc,Go.Av.pix,Go.Av.gOnB,Go.Av.yldD,↓Go.Av.AbN,↓Go.Av.AbA,Go.Av.dbrv]
   repeat refine And.intro (by first|exact PcH.at hg h3|exact h5.at|exact Agr.push' (by simp) _|rfl|(simp; done)) ?_
   refine ainv (hJ () trivial) (Shift.weakS ?_ rfl);exact⟨rfl,rfl,rfl,trivial⟩
  .simp only [go_sem,Go.Av.dxv,Go.Av.dxvc,Go.Av.pix,Go.Av.gOnB,Go.Av.yldD,↓Go.Av.AbN,↓Go.Av.AbA,Go.Av.dbrv,List.filterMap_cons,List.getElem?_cons_zero,List.getElem?_cons_succ,List.filterMap_nil]
   repeat refine And.intro (by first|exact PcH.at hg h3|exact h5.at|exact Agr.push' (by simp) _|rfl|(simp; done)) ?_
   refine icc (h4 _) ⟨_,_,rfl,rfl⟩ ?_;rintro _ _ ⟨rfl,rfl⟩;refine⟨Agr.push' (by simp) _,rfl,?_⟩;simp only[go_sem,Go.Av.dxv,Go.Av.dxvc,Go.Av.pix,Go.Av.gOnB,Go.Av.yldD,↓Go.Av.AbN,↓Go.Av.AbA,Go.Av.dbrv]
   repeat refine And.intro (by first|exact PcH.at hg h3|exact h5.at|exact Agr.push' (by simp) _|rfl|(simp; done)) ?_
   refine ainv (hJ () trivial) (Shift.trans (Shift.ren [0,1,3,2] rfl) (Shift.weakS ?_ (by simp only[renS,List.map_cons,List.map_nil,List.getD_cons_zero,List.getD_cons_succ,renB,AgN]; rfl)));exact⟨rfl,rfl,rfl,trivial⟩
  .simp only [go_sem,Go.Av.dxv,Go.Av.dxvc,Go.Av.pix,Go.Av.gOnB,Go.Av.yldD,↓Go.Av.AbN,↓Go.Av.AbA,Go.Av.dbrv,List.filterMap_cons,List.getElem?_cons_zero,List.getElem?_cons_succ,List.filterMap_nil]
   repeat refine And.intro (by first|exact PcH.at hg h3|exact h5.at|exact Agr.push' (by simp) _|rfl|(simp; done)) ?_
   refine icc (h4 _) ⟨_,_,rfl,rfl⟩ ?_;rintro _ _ ⟨rfl,rfl⟩;refine⟨Agr.push' (by simp) _,rfl,?_⟩;simp only[go_sem,Go.Av.dxv,Go.Av.dxvc,Go.Av.pix,Go.Av.gOnB,Go.Av.yldD,↓Go.Av.AbN,↓Go.Av.AbA,Go.Av.dbrv]
   repeat refine And.intro (by first|exact PcH.at hg h3|exact h5.at|exact Agr.push' (by simp) _|rfl|(simp; done)) ?_
   refine ainv (hJ () trivial) (Shift.trans (Shift.ren [0,2,1,3] rfl) (Shift.weakS ?_ (by simp only[renS,List.map_cons,List.map_nil,List.getD_cons_zero,List.getD_cons_succ,renB,AgN]; rfl)));exact⟨rfl,rfl,rfl,trivial⟩
  .simp only [go_sem,Go.Av.dxv,Go.Av.dxvc,Go.Av.pix,Go.Av.gOnB,Go.Av.yldD,↓Go.Av.AbN,↓Go.Av.AbA,Go.Av.dbrv,List.filterMap_cons,List.getElem?_cons_zero,List.getElem?_cons_succ,List.filterMap_nil]
   repeat refine And.intro (by first|exact PcH.at hg h3|exact h5.at|exact Agr.push' (by simp) _|rfl|(simp; done)) ?_
   refine icc (h4 _) ⟨_,_,rfl,rfl⟩ ?_;rintro _ _ ⟨rfl,rfl⟩;refine⟨Agr.push' (by simp) _,rfl,?_⟩;simp only[go_sem,Go.Av.dxv,Go.Av.dxvc,Go.Av.pix,Go.Av.gOnB,Go.Av.yldD,↓Go.Av.AbN,↓Go.Av.AbA,Go.Av.dbrv]
   repeat refine And.intro (by first|exact PcH.at hg h3|exact h5.at|exact Agr.push' (by simp) _|rfl|(simp; done)) ?_
   refine ainv (hJ () trivial) (Shift.trans (Shift.ren [0,3,1,2] rfl) (Shift.weakS ?_ (by simp only[renS,List.map_cons,List.map_nil,List.getD_cons_zero,List.getD_cons_succ,renB,AgN]; rfl)));exact⟨rfl,rfl,rfl,trivial⟩
  .simp only [go_sem,Go.Av.dxv,Go.Av.dxvc,Go.Av.pix,Go.Av.gOnB,Go.Av.yldD,↓Go.Av.AbN,↓Go.Av.AbA,Go.Av.dbrv,List.filterMap_cons,List.getElem?_cons_zero,List.getElem?_cons_succ,List.filterMap_nil]
   repeat refine And.intro (by first|exact PcH.at hg h3|exact h5.at|exact Agr.push' (by simp) _|rfl|(simp; done)) ?_
   refine icc (h4 _) ⟨_,_,rfl,rfl⟩ ?_;rintro _ _ ⟨rfl,rfl⟩;refine⟨Agr.push' (by simp) _,rfl,?_⟩;simp only[go_sem,Go.Av.dxv,Go.Av.dxvc,Go.Av.pix,Go.Av.gOnB,Go.Av.yldD,↓Go.Av.AbN,↓Go.Av.AbA,Go.Av.dbrv]
   repeat refine And.intro (by first|exact PcH.at hg h3|exact h5.at|exact Agr.push' (by simp) _|rfl|(simp; done)) ?_
   refine ainv (hJ () trivial) (Shift.trans (Shift.ren [0,2,3,1] rfl) (Shift.weakS ?_ (by simp only[renS,List.map_cons,List.map_nil,List.getD_cons_zero,List.getD_cons_succ,renB,AgN]; rfl)));exact⟨rfl,rfl,rfl,trivial⟩
  .simp only [go_sem,Go.Av.dxv,Go.Av.dxvc,Go.Av.pix,Go.Av.gOnB,Go.Av.yldD,↓Go.Av.AbN,↓Go.Av.AbA,Go.Av.dbrv,List.filterMap_cons,List.getElem?_cons_zero,List.getElem?_cons_succ,List.filterMap_nil]
   repeat refine And.intro (by first|exact PcH.at hg h3|exact h5.at|exact Agr.push' (by simp) _|rfl|(simp; done)) ?_
   refine icc (h4 _) ⟨_,_,rfl,rfl⟩ ?_;rintro _ _ ⟨rfl,rfl⟩;refine⟨Agr.push' (by simp) _,rfl,?_⟩;simp only[go_sem,Go.Av.dxv,Go.Av.dxvc,Go.Av.pix,Go.Av.gOnB,Go.Av.yldD,↓Go.Av.AbN,↓Go.Av.AbA,Go.Av.dbrv]
   repeat refine And.intro (by first|exact PcH.at hg h3|exact h5.at|exact Agr.push' (by simp) _|rfl|(simp; done)) ?_
   refine ainv (hJ () trivial) (Shift.trans (Shift.ren [0,3,2,1] rfl) (Shift.weakS ?_ (by simp only[renS,List.map_cons,List.map_nil,List.getD_cons_zero,List.getD_cons_succ,renB,AgN]; rfl)));exact⟨rfl,rfl,rfl,trivial⟩
 rintro _ _;have hfl:=hf.len;simp only[A9K];generalize hord:(ordL x js).map inA=O;refine zgB ?_;simp only[go_sem,List.length_map];refine AaC (ι:=Nat×List Gf×List Blk) (fun y=>fs.length-y.1) (fun y=>[(37,.int .i64 y.1),(36,.int .i64 fs.length),(35,.fz 5 (fs.map faA)),(10,.ptr 3 1 0 0),(6,.ptr 0 1 0 0)])
  (fun y=>.arr 3 [.agg [.raw (.slice none 0 0),.raw (.map none),.raw (.map none)]]::.mp (scMF 0 x.scenes)::.mp (gfM 4 y.2.1)::.arr 3 [.agg [.fz 1 O,.mp 1,.mp 2]]::y.2.2)
  (fun y=>y.1<=fs.length/\GfOk (kfN x) (fs.take y.1) y.2.1 y.2.2/\∀ g∈y.2.1,g.ds.length<=y.1) (0,[],[]) ⟨by simp,⟨by simp,by simp,by simp,.nil,.nil⟩,by simp⟩ ?_ ?_
 .refine Shift.weakS ?_ rfl
  simp only[go_sem]
 rintro⟨i,gs,T⟩ ⟨g1,g2,g3⟩ J hJ;simp only at g1 g2 g3 hJ |-
 by_cases gi:i<fs.length
 .have di:decide ((i:Int)<(fs.length:Int))=true:=by simp; omega
  have p1:=AiZ fs i gi;have hmem:=List.getElem_mem gi;have htk:fs.take (i+1)=fs.take i++[fs[i]]:=List.take_succ_eq_append_getElem gi;obtain⟨j,hj,hk,hm⟩:=BjQ hx hf hmem;have hfa:faA fs[i]=.agg [.str fs[i].scene,.int .i64 fs[i].el.kind,.str fs[i].el.name,.str fs[i].facet,.str fs[i].value]:=rfl
  rcases A0Z 4 j gs 0 with⟨m1,mne⟩|⟨q,g,m1,m2,m3⟩
  .have hfin:=hJ (i+1,gs++[⟨kfN x fs[i],T.length+1,[fs[i]]⟩],T++[.arr 5 [faA fs[i]]]++[.arr 5 [faA fs[i]]]) ⟨by simp only; omega,by simp only; rw[htk]; exact g2.push _ _ (by rw[hk]; exact mne),by
    simp only;intro g hg
    rcases List.mem_append.1 hg with hg|hg
    .have:=g3 g hg; omega
    .rw [List.mem_singleton.1 hg]; simp⟩ (by simp only; omega)
   rw[<- BeD,hfa,hk]at hfin;simp only[List.length_cons,List.length_nil,Nat.zero_add]at hfin;refine zgB ?_;simp only[go_sem,di,p1,List.length_map,gt_at0,st_at0]
   repeat refine ai ?_
   refine BfF ((T.length+5)) [] mixed (by decide) rfl rfl 100 ?_;simp only[go_sem,hm,m1,List.length_map,gt_at0,st_at0,List.length_append,cka,isApp,appOk]
   repeat refine ai ?_
   refine zgB ?_;simp only[go_sem]
   repeat refine ai ?_
   rw[ic i];refine ainv hfin (Shift.weakS ?_ rfl);simp only[go_sem]
  .have hgm:=List.mem_of_getElem? m2
   have hlt:=g2.lt hgm;have hgl:=g3 g hgm;have b0:=g2.blk g hgm;have hfin:=hJ (i+1,gs.set q ⟨g.key,g.at',g.ds++[fs[i]]⟩,(T++[Blk.arr 5 [faA fs[i]]]).set g.at' (Blk.arr 5 ((g.ds++[fs[i]]).map faA))) ⟨by simp only; omega,by simp only; rw[htk]; exact g2.put _ m2 _ (by rw[hk,m3]),by
    simp only;intro y hy
    rcases List.mem_or_eq_of_mem_set hy with hy|rfl
    .have:=g3 y hy; omega
    .simp; omega⟩ (by simp only; omega)
   rw[<- BjM,m3]at hfin;simp only[List.length_append,List.length_cons,List.length_nil,List.map_append,List.map_cons,List.map_nil,Nat.zero_add,hfa]at hfin;have b1:∀ x:Blk,(T++[x]).getD g.at' .dead=.arr 5 (g.ds.map faA):=fun x=>by
    rw[List.getD_eq_getElem?_getD,List.getElem?_append_left hlt,b0]; rfl
   rw[Nat.zero_add]at m1;refine zgB ?_;simp only[go_sem,di,p1,List.length_map,gt_at0,st_at0]
   repeat refine ai ?_
   refine BfF ((g.at'+4)) [] mixed (by decide) rfl rfl 100 ?_;simp only[go_sem,hm,m1,b1,List.length_map,gt_at0,st_at0,List.length_append,cka,isApp,appOk]
   repeat refine ai ?_
   refine zgB ?_;simp only[go_sem]
   repeat refine ai ?_
   rw[ic i];refine ainv hfin (Shift.weakS ?_ rfl);simp only[go_sem]
 .have di:decide ((i:Int)<(fs.length:Int))=false:=by simp; omega
  clear hJ;rw[List.take_of_length_le (by omega)]at g2;refine AWp.shift (Shift.trans (Shift.weakS (e':=[(37,.int .i64 i),(36,.int .i64 fs.length),(35,.fz 5 (fs.map faA)),(10,.ptr 3 1 0 0),(6,.ptr 0 1 0 0)]) ?_ rfl) (AnR (by simp) _ (fun _ _=>rfl) (by simp only[go_sem]) _ _ _ (fun _ _=>rfl) (fun id l=>by simp only[frzB,A1A]) (fun _ _=>rfl) ⟨rfl,low_scM _ _ _,rfl⟩ gs [] T g2.blk g2.ne)) ?_
  .simp only [go_sem]
  rw[List.nil_append];refine zgB ?_;simp only[go_sem,di];refine ARet.shift (Shift.trans (Shift.low 3 (by simp) (by simp) (e':=[(7,.int .i64 0),(6,.ptr 0 1 0 0)]) ?_ ?_) (Shift.weakS (e':=[(7,.int .i64 0),(6,.ptr 0 1 0 0)]) (s':=[.arr 3 [.agg [.fz 1 O,.mp 1,.mp 2]],.mp (scMF 0 x.scenes),.mp (gfF gs)]) ?_ rfl)) (AcH [.cell 6 141,.tmp 7] rfl [.agg [.fz 1 O,.mp 1,.mp 2],.int .i64 0] ⟨by simp only[go_sem,sideIs],rfl,trivial⟩ ⟨gs,T,rfl,rfl,g2⟩)
  .simp only [List.take_succ_cons,List.take_zero,List.all_cons,List.all_nil,Bool.and_true,low_scM,low_gfF,Bool.true_and]
   rfl
  .simp only [go_sem]
  .simp only [go_sem]
