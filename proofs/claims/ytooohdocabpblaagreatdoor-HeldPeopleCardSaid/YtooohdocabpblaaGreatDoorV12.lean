/- Statements whose order is open and which put into several maps of one's own. -/
import Derived.Test.YtooohdocabpblaaGreatDoorV11
set_option linter.all false
namespace Go.Av
open RowKit
variable [Tr]
def putD(d:Nat)(e:Env)(o:Oper):Prop:=match o.guard,o.op with
 | none,.mapUpdate _ m _ _=>ev e m=.mp d
 | _,_=>False
def pck(ids:List (Nat×Nat))(i:Nat)(e:Env)(s:LB)(o:Oper):Prop :=
 (match ids.lookup i with
  | some d=>putD d e o
  | none=>True)/\(bif reader o.op&&!blind o.op then ids.all (fun p=>opOk s.length p.2 e o.op)=true else True)
theorem AhK{c:Cx}{ops:Array Oper}{s s1:LB}{o:Oper}{cv v:AV}{e:Env}{t:TypeId}{m k u:Operand}{d:Nat}(hg:o.guard=none)(ho:o.op=.mapUpdate t m k u)(hm:ev e m=.mp d)(h:Does c ops s o cv e v s1) :
  v=.raw undef/\∃ b,s1=s.set d b/\∀ s2 cv2,s2.getD d .dead=s.getD d .dead->Does c ops s2 o cv2 e v (s2.set d b):=by
 unfold Does at h;rw[hg]at h;simp only at h;unfold DoesOp at h;rw[ho]at h;simp only[xop,hm]at h;have hB:∀ (dk:TypeDesc) (s2:LB),s2.getD d .dead=s.getD d .dead->∀ p w s3,AeK dk s d (ev e k) (ev e u) (s.getD d .dead)=.sto p w s3->w=.raw undef/\∃ b,s3=s.set d b/\(s.getD d .dead=.dead->False)/\AeK dk s2 d (ev e k) (ev e u) (s2.getD d .dead)=.sto p w (s2.set d b):=by
  intro dk s2 hs p w s3;rw[hs]
  cases hb:s.getD d .dead with
  | arr e l=>intro hq; cases hq
  | dead=>intro hq; cases hq
  | it m n l=>intro hq; cases hq
  | mp es =>
   simp only[AeK]
   cases AdA dk (ev e k)with
   | false=>intro hq; cases hq
   | true =>
    simp only[lai]
    cases mfind dk (ev e k) es 0 with
    | none=>intro hq; cases hq
    | some o =>
     cases o with
     | none =>
      simp only[xmputF,Res.sto.injEq];rintro⟨rfl,rfl,rfl⟩;exact⟨rfl,_,rfl,by simp,rfl,rfl,rfl⟩
     | some y =>
      obtain⟨i,z⟩:=y;simp only[xmputF,Res.sto.injEq];rintro⟨rfl,rfl,rfl⟩;exact⟨rfl,_,rfl,by simp,rfl,rfl,rfl⟩
 have hS:∀ (kt:TypeId) (fs:List Field) (s2:LB),s2.getD d .dead=s.getD d .dead->∀ p w s3,AeL c.P kt fs s d (ev e k) (ev e u) (s.getD d .dead)=.sto p w s3->w=.raw undef/\∃ b,s3=s.set d b/\(s.getD d .dead=.dead->False)/\AeL c.P kt fs s2 d (ev e k) (ev e u) (s2.getD d .dead)=.sto p w (s2.set d b):=by
  intro kt fs s2 hs p w s3;rw[hs]
  cases hb:s.getD d .dead with
  | arr e l=>intro hq; cases hq
  | dead=>intro hq; cases hq
  | it m n l=>intro hq; cases hq
  | mp es =>
   simp only[AeL]
   cases isKeyS c.P fs (ev e k)with
   | false=>intro hq; cases hq
   | true =>
    simp only[lai]
    cases mfindS c.P fs (ev e k) es 0 with
    | none=>intro hq; cases hq
    | some o =>
     cases o with
     | none =>
      simp only[xmputF,xputS,Res.sto.injEq];rintro⟨rfl,rfl,rfl⟩;exact⟨rfl,_,rfl,by simp,rfl,rfl,rfl⟩
     | some y =>
      obtain⟨i,z⟩:=y;simp only[xmputF,xputS,Res.sto.injEq];rintro⟨rfl,rfl,rfl⟩;exact⟨rfl,_,rfl,by simp,rfl,rfl,rfl⟩
 have hT:∀ (kt:TypeId) (s2:LB),s2.getD d .dead=s.getD d .dead->∀ p w s3,AeM c.P kt s d (ev e k) (ev e u) (s.getD d .dead)=.sto p w s3->w=.raw undef/\∃ b,s3=s.set d b/\(s.getD d .dead=.dead->False)/\AeM c.P kt s2 d (ev e k) (ev e u) (s2.getD d .dead)=.sto p w (s2.set d b):=by
  intro kt s2 hs p w s3;rw[hs]
  cases hb:s.getD d .dead with
  | arr e l=>intro hq; cases hq
  | dead=>intro hq; cases hq
  | it m n l=>intro hq; cases hq
  | mp es =>
   simp only[AeM]
   cases isKeyT c.P kt (ev e k)with
   | false=>intro hq; cases hq
   | true =>
    simp only[lai]
    cases mfindT c.P kt (ev e k) es 0 with
    | none=>intro hq; cases hq
    | some o =>
     cases o with
     | none =>
      simp only[xmputF,xputS,Res.sto.injEq];rintro⟨rfl,rfl,rfl⟩;exact⟨rfl,_,rfl,by simp,rfl,rfl,rfl⟩
     | some y =>
      obtain⟨i,z⟩:=y;simp only[xmputF,xputS,Res.sto.injEq];rintro⟨rfl,rfl,rfl⟩;exact⟨rfl,_,rfl,by simp,rfl,rfl,rfl⟩
 have hx:∀ s2:LB,s2.getD d .dead=s.getD d .dead->∀ p w s3,AhA c.P s (.mp d) (ev e k) (ev e u) (c.P.underlying t)=.sto p w s3->w=.raw undef/\∃ b,s3=s.set d b/\(s.getD d .dead=.dead->False)/\AhA c.P s2 (.mp d) (ev e k) (ev e u) (c.P.underlying t)=.sto p w (s2.set d b):=by
  intro s2 hs p w s3
  cases ht:c.P.underlying t with
  | none=>intro hq; cases hq
  | some td =>
   cases td <;> try(intro hq; cases hq; done)
   rename_i kt vt;simp only[AhA]
   cases hk:c.P.underlying kt with
   | none=>intro hq; cases hq
   | some dk =>
    cases dk <;> first|exact hB _ s2 hs p w s3|(simp only; cases AaB c.P kt <;> simp only[lai,lap] <;> first|exact hS _ _ s2 hs p w s3|exact hT _ s2 hs p w s3)
 have hns:∀ q,AhA c.P s (.mp d) (ev e k) (ev e u) (c.P.underlying t)=q->(match q with|.sto _ _ _=>True|.stuck=>True|_=>False):=by
  intro q hq;subst hq;have kB:∀ dk,(match AeK dk s d (ev e k) (ev e u) (s.getD d .dead)with|.sto _ _ _=>True|.stuck=>True|_=>False):=by
   intro dk
   cases hb:s.getD d .dead with
   | arr e l=>trivial
   | dead=>trivial
   | it m n l=>trivial
   | mp es =>
    simp only[AeK]
    cases AdA dk (ev e k)with
    | false=>trivial
    | true =>
     simp only[lai]
     cases mfind dk (ev e k) es 0 with
     | none=>trivial
     | some o=>cases o <;> trivial
  have kS:∀ kt fs,(match AeL c.P kt fs s d (ev e k) (ev e u) (s.getD d .dead)with|.sto _ _ _=>True|.stuck=>True|_=>False):=by
   intro kt fs
   cases hb:s.getD d .dead with
   | arr e l=>trivial
   | dead=>trivial
   | it m n l=>trivial
   | mp es =>
    simp only[AeL]
    cases isKeyS c.P fs (ev e k)with
    | false=>trivial
    | true =>
     simp only[lai]
     cases mfindS c.P fs (ev e k) es 0 with
     | none=>trivial
     | some o=>cases o <;> trivial
  have kT:∀ kt,(match AeM c.P kt s d (ev e k) (ev e u) (s.getD d .dead)with|.sto _ _ _=>True|.stuck=>True|_=>False):=by
   intro kt
   cases hb:s.getD d .dead with
   | arr e l=>trivial
   | dead=>trivial
   | it m n l=>trivial
   | mp es =>
    simp only[AeM]
    cases isKeyT c.P kt (ev e k)with
    | false=>trivial
    | true =>
     simp only[lai]
     cases mfindT c.P kt (ev e k) es 0 with
     | none=>trivial
     | some o=>cases o <;> trivial
  cases ht:c.P.underlying t with
  | none=>trivial
  | some td =>
   cases td <;> try trivial
   rename_i kt vt;simp only[AhA]
   cases hk:c.P.underlying kt with
   | none=>trivial
   | some dk =>
    cases dk <;> first|exact kB _|(simp only; cases AaB c.P kt <;> simp only[lai,lap] <;> first|exact kS _ _|exact kT _)
 revert h
 cases hq:AhA c.P s (.mp d) (ev e k) (ev e u) (c.P.underlying t)with
 | sto p w s3 =>
  intro h;obtain⟨hc,hp,rfl,rfl⟩:=h;obtain⟨hw,b,hb,hnd,_⟩:=hx s rfl _ _ _ hq;refine⟨hw,b,hb,fun s2 cv2 hs=>?_⟩;obtain⟨_,b2,hb2,_,h2⟩:=hx s2 hs _ _ _ hq;have this:s2.set d b2=s2.set d b:=by
   have hd:d<s.length:=by
    rcases lau d s.length with h3|h3
    .exact h3
    .exact (hnd (by simp[List.getD,List.getElem?_eq_none h3])).elim
   have e1:(s.set d b)[d]? = (s.set d b2)[d]?:=by rw[<- hb,<- hb2]
   simp[hd]at e1
   rw[e1]
  unfold Does;rw[hg];simp only;unfold DoesOp;rw[ho];simp only[xop,hm,h2,this];exact⟨rfl,hp,trivial,trivial⟩
 | ok w=>exact(hns _ hq).elim
 | side p w=>exact(hns _ hq).elim
 | pick b x y=>exact(hns _ hq).elim
 | call f args=>exact(hns _ hq).elim
 | anyb p=>exact(hns _ hq).elim
 | stuck=>intro h; exact h.elim
theorem AlU{d:Nat}{e:Env}{o:Oper}(h:putD d e o):o.guard=none/\∃ t m k v,o.op=.mapUpdate t m k v/\ev e m=.mp d:=by
 unfold putD at h
 split at h
 .rename_i t m k v hg ho
  exact⟨hg,t,m,k,v,ho,h⟩
 .exact h.elim
theorem AiY{ids:List (Nat×Nat)}{i:Nat}{e e':Env}{s s':LB}{o:Oper}(h:∀ x∈o.op.operands,ev e x=ev e' x)(hs:s.length=s'.length)(hp:pck ids i e s o):pck ids i e' s' o:=by
 obtain⟨h1,h2⟩:=hp;refine⟨?_,?_⟩
 .cases hl:ids.lookup i with
  | none=>trivial
  | some d =>
   rw[hl]at h1;simp only at h1 |-;unfold putD at h1 |-
   cases hg:o.guard with
   | some x=>rw[hg]at h1; exact h1.elim
   | none =>
    rw[hg]at h1
    cases ho:o.op <;> rw[ho]at h1 <;> simp only at h1 |-
    rw[<- h _ (by rw[ho]; simp[Op.operands])];exact h1
 .cases hb:(reader o.op&&!blind o.op)with
  | false=>trivial
  | true =>
   rw[hb]at h2;simp only[lai]at h2 |-;rw[law]at h2 |-;intro p hp;rw[<- opOk_agree h,<- hs];exact h2 p hp
theorem A2J{ids:List (Nat×Nat)}{i:Nat}{e:Env}{s:LB}{o:Oper}(hp:pck ids i e s o)(hr:reader o.op=true)(hb:blind o.op=false){j d:Nat}(hj:ids.lookup j=some d):opOk s.length d e o.op=true:=by
 have h2:=hp.2;rw[hr,hb]at h2;simp only[Bool.not_false,Bool.and_self,lai,law]at h2;have:∀ {l:List (Nat×Nat)},l.lookup j=some d->(j,d)∈l:=by
  intro l
  induction l with
  | nil=>intro h; simp at h
  | cons p r ih =>
   intro h;rw[List.lookup_cons]at h
   split at h
   .rename_i hq
    have hq:j=p.1:=by simpa using hq
    simp only[lad]at h;subst hq; subst h;exact List.mem_cons_self
   .exact List.mem_cons_of_mem _ (ih h)
 exact h2 _ (this hj)
theorem AlV{ids:List (Nat×Nat)}{i d:Nat}{e:Env}{s:LB}{o:Oper}(hp:pck ids i e s o)(hl:ids.lookup i=some d):putD d e o:=by
 have:=hp.1;rw[hl]at this;exact this
def ChP(c:Cx)(ops:Array Oper)(ids:List (Nat×Nat))(K:Env->LB->Prop):List Nat->Env->LB->Prop
 | [],e,s=>K e s
 | i::r,e,s=>match ops[i]? with
  | some o=>pck ids i e s o/\∃ cv v s',Does c ops s o cv e v s'/\ChP c ops ids K r (put e o.dst v) s'
  | none=>False
def okPu(ops:List Oper)(ids:List (Nat×Nat))(j i:Nat):Bool:=match ops[j]?,ops[i]? with
 | some oj,some oi=>oj.apart ops.toArray oi&&(together oj oi||(match ids.lookup j,ids.lookup i with
  | some a,some b=>a != b
  | some _,none=>reader oi.op
  | none,some _=>reader oj.op
  | none,none=>false))
 | _,_=>false
section
variable {cx:Cx}{ops:Array Oper}{K:Env->LB->Prop}{ids:List (Nat×Nat)}
theorem ChP.congr(hK:∀ e e' s,Eqv e e'->K e s->K e' s):∀ {l:List Nat}{e e':Env}{s:LB},Eqv e e'->ChP cx ops ids K l e s->ChP cx ops ids K l e' s
 | [],e,e',s,h,c=>hK e e' s h c
 | i::r,e,e',s,h,c=>by
  unfold ChP at c |-
  split at c
  .rename_i o ho
   obtain⟨h0,cv,v,s',h1,h2⟩:=c;exact⟨AiY (fun x _=>AdG fun t _=>h t) rfl h0,cv,v,s',h1.agree fun t _=>h t,ChP.congr hK (h.put _ _) h2⟩
  .exact c.elim
theorem ChP.swap{opl:List Oper}(hops:ops=opl.toArray)(hK:∀ e e' s,Eqv e e'->K e s->K e' s){i j:Nat}{r:List Nat}(hok:okPu opl ids j i=true){e:Env}{s:LB}(c:ChP cx ops ids K (j::i::r) e s) :
  ChP cx ops ids K (i::j::r) e s:=by
 unfold okPu at hok
 split at hok
 rotate_left
 .cases hok
 rename_i oj oi hj' hi';have hj:ops[j]? = some oj:=by rw[hops]; simpa using hj'
 have hi:ops[i]? = some oi:=by rw[hops]; simpa using hi'
 simp only[lac,Bool.or_eq_true]at hok;obtain⟨ha,hok⟩:=hok;rw[<- hops]at ha;obtain⟨a1,a2,a3⟩:=Oper.apart_spec ha;simp only[ChP,hj,hi]at c |-;obtain⟨pj,cv,v,s1,h1,pi,cu,u,s2,h2,h3⟩:=c;have gi:∀ (e:Env) (v:AV),AdM ops oi (put e oj.dst v) e:=fun e v t ht=>by
  rw[get_put,if_neg]; intro h; exact a1 t h ht
 have gj:∀ (e:Env) (v:AV),AdM ops oj e (put e oi.dst v):=fun e v t ht=>by
  rw[get_put,if_neg]; intro h; exact a3 t h ht
 have h2':Does cx ops s1 oi cu e u s2:=h2.agree (gi e v);have h1':∀ {z z'},Does cx ops z oj cv e v z'->Does cx ops z oj cv (put e oi.dst u) v z':=fun hd=>hd.agree (gj e u)
 have h3':=ChP.congr hK (AeC a2) h3;have pi':∀ s',s1.length=s'.length->pck ids i e s' oi:=fun s' hs=>AiY (AaG (gi e v)) hs pi
 have pj':∀ s',s.length=s'.length->pck ids j (put e oi.dst u) s' oj:=fun s' hs=>AiY (AaG (gj e u)) hs pj
 rcases hok with hok|hok
 .simp only [together,Bool.or_eq_true,lac]at hok
  have blind_free:∀ {o:Oper} {k:Nat} {e:Env} {s s':LB},blind o.op=true->pck ids k e s o->pck ids k e s' o:=fun hb hp=>⟨hp.1,by simp[hb]⟩
  rcases hok with(⟨c1,c2⟩|c1)|c1
  .have e1:=h1.calm c1
   subst e1;have e2:=h2.calm c2;subst e2;exact⟨pi' _ rfl,cu,u,_,h2',pj' _ rfl,cv,v,_,h1' h1,h3'⟩
  .have e1:=h1.calm (blind_calm c1)
   subst e1;exact⟨pi' _ rfl,cu,u,_,h2',blind_free c1 (pj' _ rfl),cv,v,_,h1' (h1.blind c1),h3'⟩
  .have e2:=h2.calm (blind_calm c1)
   subst e2;exact⟨blind_free c1 (pi' _ rfl),cu,u,_,h2'.blind c1,pj' _ rfl,cv,v,_,h1' h1,h3'⟩
 split at hok
 .rename_i a b hla hlb
  have hab:a≠b:=by simpa using hok
  obtain⟨gj0,tj,mj,kj,vj,oj1,ej⟩:=AlU (AlV pj hla);obtain⟨gi0,ti,mi,ki,vi,oi1,ei⟩:=AlU (AlV (pi' _ rfl) hlb);obtain⟨hv,bj,rfl,hdj⟩:=AhK gj0 oj1 ej h1;obtain⟨hu,bi,rfl,hdi⟩:=AhK gi0 oi1 ei h2';have n1:(s.set b bi).getD a .dead=s.getD a .dead:=by simp only[List.getD,lba (Ne.symm hab)]
  have n2:s.getD b .dead=(s.set a bj).getD b .dead:=by simp only[List.getD,lba hab]
  refine⟨pi' _ (by simp),cu,u,_,hdi s cu n2,pj' _ (by simp),cv,v,_,h1' (hdj _ cv n1),?_⟩;rw[List.set_comm _ _ (Ne.symm hab)];exact h3'
 .rename_i a hla hlb
  obtain⟨gj0,tj,mj,kj,vj,oj1,ej⟩:=AlU (AlV pj hla);obtain⟨hv,bj,rfl,hdj⟩:=AhK gj0 oj1 ej h1;have ok0:blind oi.op=false->opOk s.length a e oi.op=true:=fun hb=>A2J (pi' s (by simp)) hok hb hla
  obtain⟨e1,ds⟩:=AaH hok ok0 ((Agr.set (s:=s) (id:=a) bj).symm) h2';subst e1;exact⟨pi' _ (by simp),cu,u,_,ds,pj' _ rfl,cv,v,_,h1' h1,h3'⟩
 .rename_i b hla hlb
  obtain⟨gi0,ti,mi,ki,vi,oi1,ei⟩:=AlU (AlV (pi' _ rfl) hlb);have ok0:blind oj.op=false->opOk s.length b e oj.op=true:=fun hb=>A2J pj hok hb hlb
  obtain⟨rfl,_⟩:=AaH hok ok0 (Agr.set (id:=b) .dead) h1;obtain⟨hu,bi,rfl,hdi⟩:=AhK gi0 oi1 ei h2';have hs:=(AaH hok ok0 (Agr.set (id:=b) bi) h1).2;exact⟨pi' _ rfl,cu,u,_,h2',pj' _ (by simp),cv,v,_,h1' hs,h3'⟩
 .cases hok
theorem ChP.front{opl:List Oper}(hops:ops=opl.toArray)(hK:∀ e e' s,Eqv e e'->K e s->K e' s){i:Nat}{r:List Nat}:∀ {l:List Nat}{e:Env}{s:LB},(∀ j∈l,okPu opl ids j i=true) ->
  ChP cx ops ids K (l++i::r) e s->ChP cx ops ids K (i::(l++r)) e s
 | [],_,_,_,c=>c
 | j::l,e,s,h,c=>by
  refine ChP.swap hops hK (h j (by simp)) ?_;simp only[lah,ChP]at c |-
  split at c
  .rename_i o ho
   obtain⟨h0,cv,v,s',h1,h2⟩:=c;exact⟨h0,cv,v,s',h1,ChP.front hops hK (fun k hk=>h k (by simp[hk])) h2⟩
  .exact c.elim
end
section
variable {c:Cx}{k:List It}{e:Env}{s:LB}
mutual
def dxg(c:Cx)(all:List Oper)(ck:Nat->Env->LB->Oper->Prop)(k:List It):Nat->List Oper->LA->Env->LB->Prop
 | _,[],_,e,s=>AWp c k e s
 | 0,_::_,_,_,_=>False
 | n+1,o::r,cs,e,s=>ck (rix all (o::r)) e s o/\dxgc c all ck k n (dgrd c all s o r cs e o.guard)
def dxgc(c:Cx)(all:List Oper)(ck:Nat->Env->LB->Oper->Prop)(k:List It):Nat->Dn->Prop
 | n,.go r cs e s=>dxg c all ck k n r cs e s
 | n,.two b r cs e r' cs' e' s=>dbrg c all ck k n b r cs e r' cs' e' s
 | n,.side p r cs e s=>p/\dxg c all ck k n r cs e s
 | _,.fail=>False
def dbrg(c:Cx)(all:List Oper)(ck:Nat->Env->LB->Oper->Prop)(k:List It):Nat->Bool->List Oper->LA->Env->List Oper->LA->Env->LB->Prop
 | 0,_,_,_,_,_,_,_,_=>False
 | n+1,b,r,cs,e,r',cs',e',s=>(b=true->dxg c all ck k n r cs e s)/\(b=false->dxg c all ck k n r' cs' e' s)
end
theorem AwO{all:List Oper}{ck:Nat->Env->LB->Oper->Prop}{n:Nat} {r cs e r' cs' e' s}:dbrg c all ck k (n+1) true r cs e r' cs' e' s=dxg c all ck k n r cs e s:=by grind[dbrg]
theorem AtY{all:List Oper}{ck:Nat->Env->LB->Oper->Prop}{n:Nat} {r cs e r' cs' e' s}:dbrg c all ck k (n+1) false r cs e r' cs' e' s=dxg c all ck k n r' cs' e' s:=by grind[dbrg]
theorem A2K{all:List Oper}{ck:Nat->Env->LB->Oper->Prop}{n:Nat}{o:Oper}{r:List Oper}{cs:LA}(hg:o.guard=none)(h:dxg c all ck k n (o::r) cs e s) :
  ck (rix all (o::r)) e s o/\∃ cv v n' cs' s',DoesOp c s o cv e v s'/\dxg c all ck k n' r cs' (put e o.dst v) s':=by
 cases n with
 | zero=>grind[dxg]
 | succ n =>
  rw[dxg]at h;refine⟨h.1,?_⟩
  replace h:=h.2
  rw[hg]at h;unfold dgrd at h;unfold DoesOp
  revert h
  cases xop false true c.P e s o.op with
  | ok u=>intro h; simp only[dres,dxgc]at h; exact⟨.any,u,n,cs,s,⟨rfl,rfl⟩,h⟩
  | side p u=>intro h; simp only[dres,dxgc]at h; exact⟨.any,u,n,cs,s,⟨h.1,rfl,rfl⟩,h.2⟩
  | sto p u s'=>intro h; simp only[dres,dxgc]at h; exact⟨.any,u,n,cs,s',⟨h.1.1,h.1.2,rfl,rfl⟩,h.2⟩
  | pick b x y =>
   intro h; simp only[dres,dxgc]at h
   cases n with
   | zero=>grind[dbrg]
   | succ n =>
   rw[dbrg]at h;refine⟨.any,_,n,cs,s,⟨rfl,rfl⟩,?_⟩<;>grind
  | call f args =>
   intro h; simp only[dres]at h
   cases cs<;>grind[dcall,dxgc]
  | anyb p=>grind[dres,dxgc]
  | stuck=>grind[dres,dxgc]
theorem AzW{all:List Oper}{ck:Nat->Env->LB->Oper->Prop}{n:Nat}{o:Oper}{r:List Oper}{cs:LA}(h:dxg c all ck k n (o::r) cs e s) :
  ck (rix all (o::r)) e s o/\∃ cv v n' cs' s',Does c all.toArray s o cv e v s'/\dxg c all ck k n' r cs' (put e o.dst v) s':=by
 cases hg:o.guard with
 | none =>
  obtain⟨h0,cv,v,n',cs',s',h1,h2⟩:=A2K hg h;exact⟨h0,cv,v,n',cs',s',by grind[Does],h2⟩
 | some jw =>
  obtain⟨j,want⟩:=jw
  cases n with
  | zero=>grind[dxg]
  | succ n =>
   rw[dxg]at h;refine⟨h.1,?_⟩;rw[hg]at h;unfold dgrd dyld at h
   cases hy:yldD want e all[j]? with
   | none=>grind[dxgc]
   | some b =>
    have key:(b=want->∃ n',dxg c all ck k n' ({ o with guard:=none }::r) cs e s)/\(b≠want->∃ n',dxg c all ck k n' r cs (put e o.dst (.raw undef)) s):=by
     cases n<;>grind[dxgc,dbrg]
    have hy':yldD want e all.toArray[j]? = some b:=by grind
    by_cases hb:b=want
    .obtain ⟨n1,h1⟩:=key.1 hb
     obtain⟨_,cv,v,n',cs',s',h1,h2⟩:=A2K rfl h1;refine⟨cv,v,n',cs',s',?_,h2⟩;unfold Does;rw[hg];simp only[hy'];exact .inl ⟨hb,h1⟩
    .obtain ⟨n1,h1⟩:=key.2 hb
     refine⟨.any,.raw undef,n1,cs,s,?_,h1⟩<;>grind[Does]
theorem AkN{all:List Oper}{ids:List (Nat×Nat)}:∀ {r:List Oper}{m n:Nat}{cs:LA}{e:Env}{s:LB},(∀ (j:Nat),r[j]? = all[m+j]?)->all.length=m+r.length->dxg c all (pck ids) k n r cs e s->ChP c all.toArray ids (fun e s=>AWp c k e s) (List.range' m r.length) e s
 | [],m,n,cs,e,s,_,_,h=>by
  rw[dxg]at h;exact h
 | o::r,m,n,cs,e,s,hr,hlen,h=>by
  obtain⟨h0,cv,v,n',cs',s',h1,h2⟩:=AzW h;have hat:all.toArray[m]? = some o:=by have:=hr 0; simpa using this.symm
  have hix:rix all (o::r)=m:=by unfold rix; omega
  rw[hix]at h0;simp only[lan,List.range'_succ,ChP,hat];exact⟨h0,cv,v,s',h1,AkN (fun j=>by have:=hr (j+1); simpa[Nat.add_assoc,Nat.add_comm 1 j]using this) (by simp at hlen; omega) h2⟩
theorem A7E(ids:List (Nat×Nat))(cs:LA){id:Nat}{ops:List Oper}(hm:c.P.follows .mixedOrders=true)(hok:AfA (okPu ops ids) ops=true){N:Nat}(hN:c.fn.ntmps=N)(hdst:ops.all (fun o=>dOk N o.dst)=true)(n:Nat)
  (h:dxg c ops (pck ids) k n ops cs e s):AWp c (.code (.region id ops.toArray true)::k) e s:=by
 intro a w hsim;have hch:=AkN (m:=0) (by intro j; simp) (by simp) h;rw[<- List.range_eq_range']at hch;refine wp_region_any hm ?_;have hsim':Sim c e s a { w with drawn:=w.drawn+1 }:=by
  obtain⟨hh,ρ,hmm,hl,he,hdf,hsz,hX⟩:=hsim;have sm:Same w { w with drawn:=w.drawn+1 }:=Same.drew w;exact⟨hh,ρ,hmm.same sm,hl.trans (Later.same sm),he,hdf,hsz,c.hx.later hmm (Later.same sm) hX⟩
 have hd:∀ o∈ops,dOk c.fn.ntmps o.dst=true:=fun o ho=>by rw[hN]; exact(List.all_eq_true.1 hdst) o ho
 refine AeD (okp:=okPu ops ids) (ChP c ops.toArray ids (fun e s=>AWp c k e s)) hok (fun e s x=>x) (fun l i r e s hj x=>ChP.front rfl AWp.K hj x)
  (fun i o r e s a w Kc ho x hs hK=>?_)
  ops.length (Array.replicate ops.length false) (List.range ops.length) e s a _ (by simp) ?_ (by simp) ?_ hch hsim'
 .have ho':ops.toArray[i]? = some o:=by simpa using ho
  simp only[ChP,ho']at x;obtain⟨_,cv,v,s',h1,h2⟩:=x;exact AgH hs (hd o (laj ho)) h1 fun a w hs'=>hK _ _ a w h2 hs'
 .symm
  rw[List.filter_eq_self];intro i hi
  simp at hi
  simp[hi]
 .intro i hi j hj
  exfalso
  by_cases h1:i<ops.length
  .simp [h1]at hi
  .unfold waits at hj
   have:ops[i]? = none:=by simp; omega
   simp[this]at hj
end
