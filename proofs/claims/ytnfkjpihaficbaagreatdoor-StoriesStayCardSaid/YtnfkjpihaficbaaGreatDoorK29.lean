/- Statements whose order is open and which store into several blocks of one's own. -/
import Derived.Test.YtnfkjpihaficbaaGreatDoorK28
set_option linter.unusedSimpArgs false
set_option linter.unusedVariables false
set_option linter.unusedSectionVars false
namespace Go.Av
open Go Go.RowKit
variable [Tr]
def stoD(d:Nat)(e:Env)(o:Oper):Prop:=match o.guard,o.op with
 | none,.store _ x _=>match ev e x with
  | .ptr i _ _ _=>i=d
  | _=>False
 | _,_=>False
def sck(ids lk:List (Nat×Nat))(i:Nat)(e:Env)(s:List Blk)(o:Oper):Prop :=
 (match ids.lookup i with
  | some d=>stoD d e o
  | none=>True)/\(bif reader o.op&&!blind o.op then ids.all (fun p=>lk.contains (i,p.1)||opOk s.length p.2 e o.op)=true else True)
theorem AlC{c:Cx}{ops:Array Oper}{s s1:List Blk}{o:Oper}{cv v:AV}{e:Env}{d:Nat}(ho:stoD d e o)(h:Does c ops s o cv e v s1) :
  v=.raw undef/\∃ b,s1=s.set d b/\∀ s2 cv2,s2.getD d .dead=s.getD d .dead->Does c ops s2 o cv2 e v (s2.set d b):=by
 unfold stoD at ho
 split at ho
 .rename_i t x u hg hop
  split at ho
  .rename_i i n j off hx
   subst ho;unfold Does at h |-;rw[hg]at h |-;simp only at h |-;unfold DoesOp at h |-;rw[hop]at h |-;simp only[xop,hx,AlQ]at h |-
   cases hb:s.getD i .dead with
   | arr es l =>
    rw[hb]at h;simp only[AlP]at h;obtain⟨h1,h2,h3,h4⟩:=h;refine⟨h3,_,h4,fun s2 cv2 hs=>?_⟩;rw[hs];simp only[AlP];exact⟨h1,h2,h3,trivial⟩
   | mp es=>rw[hb]at h; exact h.elim
   | it a b c=>rw[hb]at h; exact h.elim
   | dead=>rw[hb]at h; exact h.elim
  .exact ho.elim
 .exact ho.elim
theorem A2W{d:Nat}{e e':Env}{o:Oper}(h:∀ x∈o.op.operands,ev e x=ev e' x)(hs:stoD d e o):stoD d e' o:=by
 unfold stoD at hs |-
 cases hg:o.guard with
 | some x=>rw[hg]at hs; exact hs.elim
 | none =>
  rw[hg]at hs
  cases ho:o.op <;> rw[ho]at hs <;> simp only at hs |-
  rw[<- h _ (by rw[ho]; simp[Op.operands])];exact hs
theorem AnI{ids lk:List (Nat×Nat)}{i:Nat}{e e':Env}{s s':List Blk}{o:Oper}(h:∀ x∈o.op.operands,ev e x=ev e' x)(hs:s.length=s'.length)(hp:sck ids lk i e s o):sck ids lk i e' s' o:=by
 obtain⟨h1,h2⟩:=hp;refine⟨?_,?_⟩
 .cases hl:ids.lookup i with
  | none=>trivial
  | some d =>
   rw[hl]at h1;simp only at h1 |-;exact A2W h h1
 .cases hb:(reader o.op&&!blind o.op)with
  | false=>trivial
  | true =>
   rw[hb]at h2;simp only[cond_true]at h2 |-;rw[List.all_eq_true]at h2 |-;intro p hp;rw[<- AaM h,<- hs];exact h2 p hp
theorem BfN{ids lk:List (Nat×Nat)}{i:Nat}{e:Env}{s:List Blk}{o:Oper}(hp:sck ids lk i e s o)(hr:reader o.op=true)(hb:blind o.op=false){j d:Nat}(hj:ids.lookup j=some d)(hlk:lk.contains (i,j)=false):opOk s.length d e o.op=true:=by
 have h2:=hp.2;rw[hr,hb]at h2;simp only[Bool.not_false,Bool.and_self,cond_true,List.all_eq_true]at h2;have:∀ {l:List (Nat×Nat)},l.lookup j=some d->(j,d)∈l:=by
  intro l
  induction l with
  | nil=>intro h; simp at h
  | cons p r ih =>
   intro h;rw[List.lookup_cons]at h
   split at h
   .rename_i hq
    have hq:j=p.1:=by simpa using hq
    simp only[Option.some.injEq]at h;subst hq; subst h;exact List.mem_cons_self
   .exact List.mem_cons_of_mem _ (ih h)
 have h3:=h2 _ (this hj);rw[hlk,Bool.false_or]at h3;exact h3
theorem ArK{ids lk:List (Nat×Nat)}{i d:Nat}{e:Env}{s:List Blk}{o:Oper}(hp:sck ids lk i e s o)(hl:ids.lookup i=some d):stoD d e o:=by
 have:=hp.1;rw[hl]at this;exact this
def ChO(c:Cx)(ops:Array Oper)(ids lk:List (Nat×Nat))(K:Env->List Blk->Prop):List Nat->Env->List Blk->Prop
 | [],e,s=>K e s
 | i::r,e,s=>match ops[i]? with
  | some o=>sck ids lk i e s o/\∃ cv v s',Does c ops s o cv e v s'/\ChO c ops ids lk K r (put e o.dst v) s'
  | none=>False
def okSo(ops:List Oper)(ids lk:List (Nat×Nat))(j i:Nat):Bool:=match ops[j]?,ops[i]? with
 | some oj,some oi=>oj.apart ops.toArray oi&&(together oj oi||(match ids.lookup j,ids.lookup i with
  | some a,some b=>a != b
  | some _,none=>reader oi.op&&!lk.contains (i,j)
  | none,some _=>reader oj.op&&!lk.contains (j,i)
  | none,none=>false))
 | _,_=>false
section
variable {cx:Cx}{ops:Array Oper}{K:Env->List Blk->Prop}{ids lk:List (Nat×Nat)}
theorem ChO.congr(hK:∀ e e' s,Eqv e e'->K e s->K e' s):∀ {l:List Nat}{e e':Env}{s:List Blk},Eqv e e'->ChO cx ops ids lk K l e s->ChO cx ops ids lk K l e' s
 | [],e,e',s,h,c=>hK e e' s h c
 | i::r,e,e',s,h,c=>by
  unfold ChO at c |-
  split at c
  .rename_i o ho
   obtain⟨h0,cv,v,s',h1,h2⟩:=c;exact⟨AnI (fun x _=>AeQ fun t _=>h t) rfl h0,cv,v,s',h1.agree fun t _=>h t,ChO.congr hK (h.put _ _) h2⟩
  .exact c.elim
theorem ChO.swap{opl:List Oper}(hops:ops=opl.toArray)(hK:∀ e e' s,Eqv e e'->K e s->K e' s){i j:Nat}{r:List Nat}(hok:okSo opl ids lk j i=true){e:Env}{s:List Blk}(c:ChO cx ops ids lk K (j::i::r) e s) :
  ChO cx ops ids lk K (i::j::r) e s:=by
 unfold okSo at hok
 split at hok
 rotate_left
 .cases hok
 rename_i oj oi hj' hi';have hj:ops[j]? = some oj:=by rw[hops]; simpa using hj'
 have hi:ops[i]? = some oi:=by rw[hops]; simpa using hi'
 simp only[Bool.and_eq_true,Bool.or_eq_true]at hok;obtain⟨ha,hok⟩:=hok;rw[<- hops]at ha;obtain⟨a1,a2,a3⟩:=Oper.apart_spec ha;simp only[ChO,hj,hi]at c |-;obtain⟨pj,cv,v,s1,h1,pi,cu,u,s2,h2,h3⟩:=c;have gi:∀ (e:Env) (v:AV),AfE ops oi (put e oj.dst v) e:=fun e v t ht=>by
  rw[get_put,if_neg]; intro h; exact a1 t h ht
 have gj:∀ (e:Env) (v:AV),AfE ops oj e (put e oi.dst v):=fun e v t ht=>by
  rw[get_put,if_neg]; intro h; exact a3 t h ht
 have h2':Does cx ops s1 oi cu e u s2:=h2.agree (gi e v);have h1':∀ {z z'},Does cx ops z oj cv e v z'->Does cx ops z oj cv (put e oi.dst u) v z':=fun hd=>hd.agree (gj e u)
 have h3':=ChO.congr hK (AfX a2) h3;have pi':∀ s',s1.length=s'.length->sck ids lk i e s' oi:=fun s' hs=>AnI (AaG (gi e v)) hs pi
 have pj':∀ s',s.length=s'.length->sck ids lk j (put e oi.dst u) s' oj:=fun s' hs=>AnI (AaG (gj e u)) hs pj
 rcases hok with hok|hok
 .simp only [together,Bool.or_eq_true,Bool.and_eq_true]at hok
  have blind_free:∀ {o:Oper} {k:Nat} {e:Env} {s s':List Blk},blind o.op=true->sck ids lk k e s o->sck ids lk k e s' o:=fun hb hp=>⟨hp.1,by simp[hb]⟩
  rcases hok with(⟨c1,c2⟩|c1)|c1
  .have e1:=h1.calm c1
   subst e1;have e2:=h2.calm c2;subst e2;exact⟨pi' _ rfl,cu,u,_,h2',pj' _ rfl,cv,v,_,h1' h1,h3'⟩
  .have e1:=h1.calm (AaQ c1)
   subst e1;exact⟨pi' _ rfl,cu,u,_,h2',blind_free c1 (pj' _ rfl),cv,v,_,h1' (h1.blind c1),h3'⟩
  .have e2:=h2.calm (AaQ c1)
   subst e2;exact⟨blind_free c1 (pi' _ rfl),cu,u,_,h2'.blind c1,pj' _ rfl,cv,v,_,h1' h1,h3'⟩
 split at hok
 .rename_i a b hla hlb
  have hab:a≠b:=by simpa using hok
  obtain⟨hv,bj,rfl,hdj⟩:=AlC (ArK pj hla) h1;obtain⟨hu,bi,rfl,hdi⟩:=AlC (ArK (pi' _ rfl) hlb) h2';have n1:(s.set b bi).getD a .dead=s.getD a .dead:=by simp only[List.getD,List.getElem?_set_ne (Ne.symm hab)]
  have n2:s.getD b .dead=(s.set a bj).getD b .dead:=by simp only[List.getD,List.getElem?_set_ne hab]
  refine⟨pi' _ (by simp),cu,u,_,hdi s cu n2,pj' _ (by simp),cv,v,_,h1' (hdj _ cv n1),?_⟩;rw[List.set_comm _ _ (Ne.symm hab)];exact h3'
 .rename_i a hla hlb
  simp only[Bool.and_eq_true,Bool.not_eq_true']at hok;obtain⟨hok,hlk⟩:=hok;obtain⟨hv,bj,rfl,hdj⟩:=AlC (ArK pj hla) h1;have ok0:blind oi.op=false->opOk s.length a e oi.op=true:=fun hb=>BfN (pi' s (by simp)) hok hb hla hlk
  obtain⟨e1,ds⟩:=AaL hok ok0 ((Agr.set (s:=s) (id:=a) bj).symm) h2';subst e1;exact⟨pi' _ (by simp),cu,u,_,ds,pj' _ rfl,cv,v,_,h1' h1,h3'⟩
 .rename_i b hla hlb
  simp only[Bool.and_eq_true,Bool.not_eq_true']at hok;obtain⟨hok,hlk⟩:=hok;have ok0:blind oj.op=false->opOk s.length b e oj.op=true:=fun hb=>BfN pj hok hb hlb hlk
  obtain⟨rfl,_⟩:=AaL hok ok0 (Agr.set (id:=b) .dead) h1;obtain⟨hu,bi,rfl,hdi⟩:=AlC (ArK (pi' _ rfl) hlb) h2';have hs:=(AaL hok ok0 (Agr.set (id:=b) bi) h1).2;exact⟨pi' _ rfl,cu,u,_,h2',pj' _ (by simp),cv,v,_,h1' hs,h3'⟩
 .cases hok
theorem ChO.front{opl:List Oper}(hops:ops=opl.toArray)(hK:∀ e e' s,Eqv e e'->K e s->K e' s){i:Nat}{r:List Nat}:∀ {l:List Nat}{e:Env}{s:List Blk},(∀ j∈l,okSo opl ids lk j i=true) ->
  ChO cx ops ids lk K (l++i::r) e s->ChO cx ops ids lk K (i::(l++r)) e s
 | [],_,_,_,c=>c
 | j::l,e,s,h,c=>by
  refine ChO.swap hops hK (h j (by simp)) ?_;simp only[List.cons_append,ChO]at c |-
  split at c
  .rename_i o ho
   obtain⟨h0,cv,v,s',h1,h2⟩:=c;exact⟨h0,cv,v,s',h1,ChO.front hops hK (fun k hk=>h k (by simp[hk])) h2⟩
  .exact c.elim
end
section
variable {c:Cx}{k:List It}{e:Env}{s:List Blk}
end
end Go.Av
namespace Go.Av
open Go Go.RowKit
variable [Tr]
section
variable {c:Cx}{K:Env->List Blk->Prop}{e:Env}{s:List Blk}
mutual
def dxh(c:Cx)(all:List Oper)(ck:Nat->Env->List Blk->Oper->Prop)(K:Env->List Blk->Prop):Nat->List Oper->List AV->Env->List Blk->Prop
 | _,[],_,e,s=>K e s
 | 0,_::_,_,_,_=>False
 | n+1,o::r,cs,e,s=>ck (rix all (o::r)) e s o/\dxhc c all ck K n (dgrd c all s o r cs e o.guard)
def dxhc(c:Cx)(all:List Oper)(ck:Nat->Env->List Blk->Oper->Prop)(K:Env->List Blk->Prop):Nat->Dn->Prop
 | n,.go r cs e s=>dxh c all ck K n r cs e s
 | n,.two b r cs e r' cs' e' s=>dbrh c all ck K n b r cs e r' cs' e' s
 | n,.side p r cs e s=>p/\dxh c all ck K n r cs e s
 | _,.fail=>False
def dbrh(c:Cx)(all:List Oper)(ck:Nat->Env->List Blk->Oper->Prop)(K:Env->List Blk->Prop):Nat->Bool->List Oper->List AV->Env->List Oper->List AV->Env->List Blk->Prop
 | 0,_,_,_,_,_,_,_,_=>False
 | n+1,b,r,cs,e,r',cs',e',s=>(b=true->dxh c all ck K n r cs e s)/\(b=false->dxh c all ck K n r' cs' e' s)
end
theorem AuK{all:List Oper}{ck:Nat->Env->List Blk->Oper->Prop}{n:Nat} {r cs e r' cs' e' s}:dbrh c all ck K (n+1) true r cs e r' cs' e' s=dxh c all ck K n r cs e s:=by rw[dbrh]; simp
theorem ApO{all:List Oper}{ck:Nat->Env->List Blk->Oper->Prop}{n:Nat} {r cs e r' cs' e' s}:dbrh c all ck K (n+1) false r cs e r' cs' e' s=dxh c all ck K n r' cs' e' s:=by rw[dbrh]; simp
theorem BfO{all:List Oper}{ck:Nat->Env->List Blk->Oper->Prop}{n:Nat}{o:Oper}{r:List Oper}{cs:List AV}(hg:o.guard=none)(h:dxh c all ck K n (o::r) cs e s) :
  ck (rix all (o::r)) e s o/\∃ cv v n' cs' s',DoesOp c s o cv e v s'/\dxh c all ck K n' r cs' (put e o.dst v) s':=by
 cases n with
 | zero=>rw[dxh]at h; exact h.elim
 | succ n =>
  rw[dxh]at h;refine⟨h.1,?_⟩
  replace h:=h.2
  rw[hg]at h;unfold dgrd at h;unfold DoesOp
  revert h
  cases xop false true c.P e s o.op with
  | ok u=>intro h; simp only[dres,dxhc]at h; exact⟨.any,u,n,cs,s,⟨rfl,rfl⟩,h⟩
  | side p u=>intro h; simp only[dres,dxhc]at h; exact⟨.any,u,n,cs,s,⟨h.1,rfl,rfl⟩,h.2⟩
  | sto p u s'=>intro h; simp only[dres,dxhc]at h; exact⟨.any,u,n,cs,s',⟨h.1.1,h.1.2,rfl,rfl⟩,h.2⟩
  | pick b x y =>
   intro h; simp only[dres,dxhc]at h
   cases n with
   | zero=>rw[dbrh]at h; exact h.elim
   | succ n =>
   rw[dbrh]at h;refine⟨.any,_,n,cs,s,⟨rfl,rfl⟩,?_⟩
   cases b with
   | true=>exact h.1 rfl
   | false=>exact h.2 rfl
  | call f args =>
   intro h; simp only[dres]at h
   cases cs with
   | nil=>simp only[dcall,dxhc]at h
   | cons cv cs=>simp only[dcall,dxhc]at h; exact⟨cv,cv,n,cs,s,⟨h.1.1,h.1.2,rfl,rfl⟩,h.2⟩
  | anyb p=>intro h; simp only[dres,dxhc]at h
  | stuck=>intro h; simp only[dres,dxhc]at h
theorem BdL{all:List Oper}{ck:Nat->Env->List Blk->Oper->Prop}{n:Nat}{o:Oper}{r:List Oper}{cs:List AV}(h:dxh c all ck K n (o::r) cs e s) :
  ck (rix all (o::r)) e s o/\∃ cv v n' cs' s',Does c all.toArray s o cv e v s'/\dxh c all ck K n' r cs' (put e o.dst v) s':=by
 cases hg:o.guard with
 | none =>
  obtain⟨h0,cv,v,n',cs',s',h1,h2⟩:=BfO hg h;exact⟨h0,cv,v,n',cs',s',by unfold Does; rw[hg]; exact h1,h2⟩
 | some jw =>
  obtain⟨j,want⟩:=jw
  cases n with
  | zero=>rw[dxh]at h; exact h.elim
  | succ n =>
   rw[dxh]at h;refine⟨h.1,?_⟩
   replace h:=h.2
   rw[hg]at h;unfold dgrd dyld at h
   cases hy:yldD want e all[j]? with
   | none=>simp only[hy,dxhc]at h
   | some b =>
    simp only[hy]at h;have key:(b=want->∃ n',dxh c all ck K n' ({ o with guard:=none }::r) cs e s)/\(b≠want->∃ n',dxh c all ck K n' r cs (put e o.dst (.raw undef)) s):=by
     cases n with
     | zero=>cases want <;> simp only[cond_true,cond_false,dxhc,dbrh]at h
     | succ n =>
      cases want <;> simp only[cond_true,cond_false,dxhc,dbrh]at h <;> cases b <;>
       first
       | exact⟨fun _=>⟨n,h.1 rfl⟩,fun hh=>(hh rfl).elim⟩
       | exact⟨fun _=>⟨n,h.2 rfl⟩,fun hh=>(hh rfl).elim⟩
       | exact⟨fun hh=>(by cases hh),fun _=>⟨n,h.1 rfl⟩⟩
       | exact⟨fun hh=>(by cases hh),fun _=>⟨n,h.2 rfl⟩⟩
    have hy':yldD want e all.toArray[j]? = some b:=by simpa using hy
    by_cases hb:b=want
    .obtain ⟨n1,h1⟩:=key.1 hb
     obtain⟨_,cv,v,n',cs',s',h1,h2⟩:=BfO (o:={ o with guard:=none }) rfl h1;refine⟨cv,v,n',cs',s',?_,h2⟩;unfold Does;rw[hg];simp only[hy'];exact .inl ⟨hb,h1⟩
    .obtain ⟨n1,h1⟩:=key.2 hb
     refine⟨.any,.raw undef,n1,cs,s,?_,h1⟩;unfold Does;rw[hg];simp only[hy'];exact .inr ⟨hb,trivial,trivial⟩
theorem ApP{all:List Oper}{ids lk:List (Nat×Nat)}:∀ {r:List Oper}{m n:Nat}{cs:List AV}{e:Env}{s:List Blk},(∀ (j:Nat),r[j]? = all[m+j]?)->all.length=m+r.length->dxh c all (sck ids lk) K n r cs e s->ChO c all.toArray ids lk K (List.range' m r.length) e s
 | [],m,n,cs,e,s,_,_,h=>by
  rw[dxh]at h;exact h
 | o::r,m,n,cs,e,s,hr,hlen,h=>by
  obtain⟨h0,cv,v,n',cs',s',h1,h2⟩:=BdL h;have hat:all.toArray[m]? = some o:=by have:=hr 0; simpa using this.symm
  have hix:rix all (o::r)=m:=by unfold rix; omega
  rw[hix]at h0;simp only[List.length_cons,List.range'_succ,ChO,hat];exact⟨h0,cv,v,s',h1,ApP (fun j=>by have:=hr (j+1); simpa[Nat.add_assoc,Nat.add_comm 1 j]using this) (by simp at hlen; omega) h2⟩
end
section
variable {r:Cr}{k:List It}{e:Env}{s:List Blk}
theorem A7Z(ids lk:List (Nat×Nat))(cs:List AV){id:Nat}{ops:List Oper}(hm:r.c.P.follows .mixedOrders=true)(hok:AhE (okSo ops ids lk) ops=true){N:Nat}(hN:r.c.fn.ntmps=N)(hdst:ops.all (fun o=>dOk N o.dst)=true)(n:Nat)
  (h:dxh r.c ops (sck ids lk) (fun e s=>AWpR r k e s) n ops cs e s):AWpR r (.code (.region id ops.toArray true)::k) e s:=by
 intro a w hsim;have hch:=ApP (m:=0) (by intro j; simp) (by simp) h;rw[<- List.range_eq_range']at hch;refine wpIn_region_any hm ?_;have hsim':SimR r e s a { w with drawn:=w.drawn+1 }:=by
  obtain⟨hh,ρ,hmm,hl,he,hdf,hsz,hX⟩:=hsim;have sm:Same w { w with drawn:=w.drawn+1 }:=Same.drew w;exact⟨hh,ρ,hmm.same sm,hl.trans (Later.same sm),he,hdf,hsz,r.c.hx.later hmm (Later.same sm) hX⟩
 have hd:∀ o∈ops,dOk r.c.fn.ntmps o.dst=true:=fun o ho=>by rw[hN]; exact(List.all_eq_true.1 hdst) o ho
 refine AwY (okp:=okSo ops ids lk) (ChO r.c ops.toArray ids lk (fun e s=>AWpR r k e s)) hok (fun e s x=>x) (fun l i r' e s hj x=>ChO.front rfl AWpR.K hj x)
  (fun i o r' e s a w Kc ho x hs hK=>?_)
  ops.length (Array.replicate ops.length false) (List.range ops.length) e s a _ (by simp) ?_ (by simp) ?_ hch hsim'
 .have ho':ops.toArray[i]? = some o:=by simpa using ho
  simp only[ChO,ho']at x;obtain⟨_,cv,v,s',h1,h2⟩:=x;exact BdC hs (hd o (List.mem_of_getElem? ho)) h1 fun a w hs'=>hK _ _ a w h2 hs'
 .symm
  rw[List.filter_eq_self];intro i hi
  simp at hi
  simp[hi]
 .intro i hi j hj
  exfalso
  by_cases h1:i<ops.length
  .simp [h1]at hi
  .unfold AbT at hj
   have:ops[i]? = none:=by simp; omega
   simp[this]at hj
end
theorem A8A{P:Program}{fn:Func}{h0:Mem}{ρ0:Own}{sto0:List Blk}{w0:World}{post:AV->List Blk->Prop}{e:Env}{s:List Blk}{D:Nat}{x:Exit}(hx:x=.normal\/x=.ret)(hD:w0.heap.size<=D)(rs:List ResultVar)(hr:fn.results=rs.toArray)(vals:List AV)(hv:A5P P e s rs vals)
  (hp:post (resT vals) s):AOut (mkM P fn h0 ρ0 sto0 w0 post [D]) x e s:=by
 intro a w hsim;obtain⟨h,ρ,hm,hl,he,hdf,hsz,hX⟩:=hsim;have hK:=(hX (D,.deferred (some [])) (by simp[DfO])).1;have hun:=(hX (D,.deferred (some [])) (by simp[DfO])).2;have hdf:a.defers=[{ target:=.collected D,args:=#[] }]:=hdf;have hm':=hm.putObj (x:=.deferred none) hK rfl hun;have hl':=hl.putNew (l:=D) (x:=.deferred none) hD;obtain⟨vs,h1,h2⟩:=AdA (c:=⟨P,fn,h0,ρ0,sto0,w0,post,X0,stb0⟩) hm' he hv;have hrv:RV h (Lf ρ s) false (tupV vs) (resT vals):=by
  cases h2 with
  | nil=>exact .tup _ _ .nil
  | cons r1 r2 =>
   cases r2 with
   | nil=>exact r1
   | cons r2 r3=>exact .tup _ _ (.cons r1 (.cons r2 r3))
 have:LeavesInM Fence.wide 0 P fn a.tmps (fun en w'=>∃ v r s h' ρ',en=.returned v/\post r s/\Mine h' ρ' s w'/\Later h0 ρ0 sto0 w0 h' ρ' s w'/\RV h' (Lf ρ' s) false v r) a.defers .returning w:=by
  rw[hdf];exact⟨by simp,.inl ⟨D,_,rfl,run_takeDeferred hK,_,AoT rs hr _ h1,_,_,s,h,ρ,rfl,hp,hm',hl',hrv⟩⟩
 rcases hx with rfl|rfl <;> exact this
end Go.Av
set_option maxRecDepth 100000
set_option maxHeartbeats 1000000
namespace Go.Proofs.YtnfkjpihaficbaaGreatDoor
open Go Go.Av Go.RowKit _root_.Go.Proofs.Tryz
theorem AjC(s:List UInt8)(c:UInt8):(splitL s [c]).length<=s.length+2:=by
 rw[AgJ];have:=Lib.count_le s [c];have:=AhH [c] (Lib.count s [c]) s;omega
theorem A0J(l:List (List UInt8))(i:Nat)(h:i<l.length):(l.map AV.str).getD i .any=.str l[i]:=by simp[List.getD,h]
def patR(p:List UInt8):Int :=
 if(splitL p [32]).all (fun s=>(AeW s).1) then(if(splitL p [32]).length>8\/¬ (splitL p [32]).any (fun s=>(AeW s).2)=true then 9 else 0) else 9
theorem BdM{S:Std}(hS:LibOk S)(p:List UInt8)(hl:p.length<900):PcH prog S 46 [.str p] (· = .int .i64 (patR p)):=by
 have hsp:=AmM hS p [32] (by omega) (by decide);have hle:=AnF p 32;have hlen:=AjC p 32;unfold patR;generalize splitL p [32]=l at *;refine zqIB func46 rfl fun h ρ w hg=>?_
 simp only[go_sem];refine zqB hg (hsp) ?_;simp only[go_sem];refine AaC (ι:=Nat) (fun i=>l.length-i) (fun i=>[(13,.int .i64 i),(12,.int .i64 l.length),(11,.fz 1 (l.map .str)),(4,.bool ((l.take i).any fun s=>(AeW s).2)),(3,.fz 1 (l.map .str))]) (fun _=>[]) (fun i=>i<=l.length/\(l.take i).all (fun s=>(AeW s).1)=true) 0 (by simp) ?_ ?_
 .refine Shift.weak ?_
  simp only[go_sem,List.length_map]
  try rfl
 rintro i ⟨g1,g2⟩ J hJ
 by_cases hi:i<l.length
 .have di:decide ((i:Int)<(l.length:Int))=true:=by simp; omega
  have hfin:=fun(h:(AeW l[i]).1=true)=>hJ (i+1) ⟨by omega,by rw[List.take_succ_eq_append_getElem hi,List.all_append,g2]; simp[h]⟩ (by omega)
  have p1:=A0J l i hi;have hw:=A7W hS l[i] (by have:=hle _ (List.getElem_mem hi); omega);have hbad:(AeW l[i]).1=false->l.all (fun s=>(AeW s).1)=false:=fun h=>by
   rw[List.all_eq_false];exact⟨_,List.getElem_mem hi,by simp[h]⟩
  have hany:((l.take (i+1)).any fun s=>(AeW s).2)=(((l.take i).any fun s=>(AeW s).2)||(AeW l[i]).2):=by
   rw[List.take_succ_eq_append_getElem hi,List.any_append]
   simp
  rw[hany]at hfin;generalize l[i]=y at *
  cases hy:(AeW y).1 with
  | true =>
   have hfin:=hfin hy;rw[hy]at hw;clear hbad hany hJ;generalize (AeW y).2=b2 at *
   cases hb:((l.take i).any fun s=>(AeW s).2)with
   | true =>
    rw[hb]at hfin;refine zgB ?_;simp only[go_sem,di,p1,List.length_map]
    repeat refine aj ?_
    refine zqB hg (hw) ?_;simp only[go_sem]
    repeat refine aj ?_
    rw[ic i];refine ainv hfin (Shift.weak ?_);simp only[go_sem,Bool.true_or]
   | false =>
    rw[hb]at hfin;refine zgB ?_;simp only[go_sem,di,p1,List.length_map]
    repeat refine aj ?_
    refine zqB hg (hw) ?_;simp only[go_sem]
    repeat refine aj ?_
    rw[ic i];refine ainv hfin (Shift.weak ?_);simp only[go_sem,Bool.false_or]
  | false =>
   rw[hbad hy];rw[hy]at hw;generalize ((l.take i).any fun s=>(AeW s).2)=b1 at *;refine zgB ?_;simp only[go_sem,di,p1,List.length_map]
   repeat refine aj ?_
   refine zqB hg (hw) ?_;simp only[go_sem];exact zt [2]
 .have di:decide ((i:Int)<(l.length:Int))=false:=by simp; omega
  rw[List.take_of_length_le (by omega)]at g2 |-;rw[g2,if_pos rfl];generalize (l.any fun s=>(AeW s).2)=b1 at *
  by_cases h8:l.length>8
  .have d8:decide ((l.length:Int)>8)=true:=by simp; omega
   rw[if_pos (.inl h8)];refine zgB ?_;simp only[go_sem,di,d8,List.length_map];exact zt [2]
  .have d8:decide ((l.length:Int)>8)=false:=by simp; omega
   cases b1 with
   | true =>
    rw[if_neg (by simp; omega)];refine zgB ?_;simp only[go_sem,di,d8,List.length_map];exact zt [2]
   | false =>
    rw[if_pos (.inr (by simp))];refine zgB ?_;simp only[go_sem,di,d8,List.length_map];exact zt [2]
theorem AxE(s:List UInt8):Lib.hasSuffix s [42]=(s.drop (s.length-1)==[42]):=by
 unfold Lib.hasSuffix;rw[Bool.eq_iff_iff,List.isSuffixOf_iff_suffix,List.suffix_iff_eq_drop,beq_iff_eq];exact⟨fun h=>h.symm,fun h=>h.symm⟩
theorem AoE(s:List UInt8)(hl:s.length<1000000):Pc prog 199 [.str s,.str [42]] (· = .bool (Lib.hasSuffix s [42])):=by
 by_cases h:1<=s.length
 .have d:decide ((s.length:Int)>=1)=true:=by simp; omega
  rw[AxE];refine zpIB func199 rfl fun h ρ w=>?_
  simp only[go_sem,d]
  repeat refine ao ?_
  rw[show((s.length:Int)-1).toNat=s.length-1 by omega];exact zt [4]
 .have hs:s=[]:=List.eq_nil_of_length_eq_zero (by omega)
  subst hs;have d:decide (((([]:List UInt8).length:Nat):Int)>=1)=false:=rfl;refine zpIB func199 rfl fun h ρ w=>?_
  simp only[go_sem];exact zt [4]
def cutR(s:List UInt8):List UInt8:=if Lib.hasSuffix s [42] then s.take (s.length-1) else s
theorem AoF(s:List UInt8)(hl:s.length<1000000):Pc prog 260 [.str s,.str [42]] (· = .tup [.str (cutR s),.bool (Lib.hasSuffix s [42])]):=by
 have h1:=AoE s hl;unfold cutR
 cases h:Lib.hasSuffix s [42]with
 | false =>
  rw[h]at h1;rw[if_neg (by simp)];refine zpIB func260 rfl fun h ρ w=>?_
  simp only[go_sem];refine zpB (h1) ?_;simp only[go_sem];exact zt [4,5]
 | true =>
  rw[h]at h1;have hs1:1<=s.length:=by
   cases s with
   | nil=>exact absurd h (by decide)
   | cons a b=>simp
  rw[if_pos rfl];refine zpIB func260 rfl fun h ρ w=>?_
  simp only[go_sem];refine zpB (h1) ?_;simp only[go_sem]
  repeat refine ao ?_
  rw[show((s.length:Int)-1).toNat=s.length-1 by omega];exact zt [4,5]
theorem ArL(s:List UInt8)(hl:s.length<1000000):Pc prog 208 [.str s,.str [42]] (· = .tup [.str (cutR s),.bool (Lib.hasSuffix s [42])]):=by
 have h1:=AoF s hl;refine zpIB func208 rfl fun h ρ w=>?_
 simp only[go_sem];refine zpB (h1) ?_;simp only[go_sem];exact zt [4,5]
structure It2 where
 any':Bool
 count:Bool
 begins:Bool
 words:Option (List (List UInt8))
deriving DecidableEq
def wdsA:Option (List (List UInt8))->AV
 | none=>.raw (.slice none 0 0)
 | some l=>.fz 1 (l.map .str)
def itB(x:It2):AV:=.agg [.bool x.any',.bool x.count,.bool x.begins,wdsA x.words]
def AeX(s:List UInt8):It2×Bool :=
 if s=[63] then(⟨true,false,false,none⟩,true) else if s=[35] then(⟨false,true,false,none⟩,true)
 else if Lib.hasSuffix s [42] then(⟨false,false,true,some [s.take (s.length-1)]⟩,isWordL (s.take (s.length-1)))
 else if(splitL s [124]).all isWordL then(⟨false,false,false,some (splitL s [124])⟩,true) else(⟨false,false,false,none⟩,false)
theorem A8B{S:Std}(hS:LibOk S)(s:List UInt8)(hl:s.length<1000):PcH prog S 152 [.str s] (· = .tup [itB (AeX s).1,.bool (AeX s).2]):=by
 have hcu:=ArL s (by omega);have hsp:=AmM hS s [124] (by omega) (by decide);have hle:=AnF s 124;have hlen:=AjC s 124;unfold AeX;unfold cutR at hcu
 by_cases h1:s=[63]
 .subst h1
  rw[if_pos rfl];simp only[itB,wdsA];refine zqIB func152 rfl fun h ρ w hg=>?_
  simp only[go_sem];exact AcH [.cell 2 233,.tmp 3] rfl [_,_] ⟨by simp only[go_sem,sideIs],rfl,trivial⟩ ⟨rfl,rfl⟩
 rw[if_neg h1];have d1:(s==[63])=false:=by simpa using h1
 by_cases h2:s=[35]
 .subst h2
  have d3:(([35]:List UInt8)==[63])=false:=by decide
  rw[if_pos rfl];simp only[itB,wdsA];refine zqIB func152 rfl fun h ρ w hg=>?_
  simp only[go_sem,d3];exact AcH [.cell 2 233,.tmp 3] rfl [_,_] ⟨by simp only[go_sem,sideIs],rfl,trivial⟩ ⟨rfl,rfl⟩
 rw[if_neg h2];have d2:(s==[35])=false:=by simpa using h2
 cases h3:Lib.hasSuffix s [42]with
 | true =>
  rw[h3,if_pos rfl]at hcu;rw[if_pos rfl];have hw:=ApN (s.take (s.length-1)) (by rw[List.length_take]; omega);generalize s.take (s.length-1)=q at *;simp only[itB,wdsA,List.map_cons,List.map_nil];refine zqIB func152 rfl fun h ρ w hg=>?_
  simp only[go_sem,d1,d2];refine zpB (hcu) ?_;simp only[go_sem]
  repeat refine ah ?_
  refine zpB (hw) ?_;simp only[go_sem]
  repeat refine ah ?_
  exact AcH [.cell 2 233,.tmp 3] rfl [_,_] ⟨by simp only[go_sem,sideIs],rfl,trivial⟩ ⟨rfl,rfl⟩
 | false =>
  rw[h3,if_neg (by simp)]at hcu;rw[if_neg (by simp)];generalize splitL s [124]=l at *;simp only[itB,wdsA];refine zqIB func152 rfl fun h ρ w hg=>?_
  simp only[go_sem,d1,d2];refine zpB (hcu) ?_;simp only[go_sem];refine zqB hg (hsp) ?_;simp only[go_sem];refine AaC (ι:=Nat) (fun i=>l.length-i) (fun i=>[(31,.int .i64 i),(30,.int .i64 l.length),(29,.fz 1 (l.map .str)),(6,.fz 1 (l.map .str)),(2,.ptr 0 1 0 0)]) (fun _=>[.arr 4 [.agg [.bool false,.bool false,.bool false,.raw (.slice none 0 0)]]]) (fun i=>i<=l.length/\(l.take i).all isWordL=true) 0 (by simp) ?_ ?_
  .refine Shift.weak ?_
   simp only[go_sem,List.length_map]
   try rfl
  rintro i ⟨g1,g2⟩ J hJ
  by_cases hi:i<l.length
  .have di:decide ((i:Int)<(l.length:Int))=true:=by simp; omega
   have hfin:=fun(h:isWordL l[i]=true)=>hJ (i+1) ⟨by omega,by rw[List.take_succ_eq_append_getElem hi,List.all_append,g2]; simp[h]⟩ (by omega)
   have p1:=A0J l i hi;have hw:=ApN l[i] (by have:=hle _ (List.getElem_mem hi); omega);have hbad:isWordL l[i]=false->l.all isWordL=false:=fun h=>by
    rw[List.all_eq_false];exact⟨_,List.getElem_mem hi,by simp[h]⟩
   generalize l[i]=y at *;clear hJ
   cases hy:isWordL y with
   | true =>
    have hfin:=hfin hy;rw[hy]at hw;refine zgB ?_;simp only[go_sem,di,p1,List.length_map]
    repeat refine aj ?_
    refine zpB (hw) ?_;simp only[go_sem]
    repeat refine aj ?_
    rw[ic i];refine ainv hfin (Shift.weakS ?_ rfl);simp only[go_sem]
   | false =>
    rw[hbad hy,if_neg (by simp)];rw[hy]at hw;refine zgB ?_;simp only[go_sem,di,p1,List.length_map]
    repeat refine aj ?_
    refine zpB (hw) ?_;simp only[go_sem]
    repeat refine ah ?_
    exact AcH [.cell 2 233,.tmp 3] rfl [_,_] ⟨by simp only[go_sem,sideIs],rfl,trivial⟩ ⟨rfl,rfl⟩
  .have di:decide ((i:Int)<(l.length:Int))=false:=by simp; omega
   rw[List.take_of_length_le (by omega)]at g2;rw[g2,if_pos rfl];clear hJ;refine zgB ?_;simp only[go_sem,di]
   repeat refine ah ?_
   exact AcH [.cell 2 233,.tmp 3] rfl [_,_] ⟨by simp only[go_sem,sideIs],rfl,trivial⟩ ⟨rfl,rfl⟩
