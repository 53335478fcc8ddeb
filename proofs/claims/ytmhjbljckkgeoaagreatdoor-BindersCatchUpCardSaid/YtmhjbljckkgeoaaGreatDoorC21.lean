/- Statements whose order is open, in which listed calls may change a block and make new ones. -/
import Derived.Test.YtmhjbljckkgeoaaGreatDoorC20
import Derived.Shelf.SlGeneric
import Derived.Shelf.SlSortCmp.NoneTotal
set_option linter.all false
namespace Go.Av
open RowKit
variable [Tr]
def gOnB(ops:Array Oper)(e:Env)(o:Oper):Bool:=match o.guard with
 | none=>true
 | some (j,want)=>match yldD want e ops[j]? with
  | some b=>b==want
  | none=>false
theorem AnM{ops:Array Oper}{o:Oper}{e e':Env}(h:AmW ops o e e'):gOnB ops e o=gOnB ops e' o:=by
 grind[gOnB,AvT]
def ImpG(c:Cx)(ops:Array Oper)(n:Nat)(id:Nat)(o:Oper)(e:Env)(s:LB)(K:AV->LB->Prop):Prop :=
 gOnB ops e o=true/\∃ f args,xop false true c.P e s o.op=.call f args/\A4R c n f args id s K
def ChG(c:Cx)(ops:Array Oper)(im:List Nat)(n0 id:Nat)(K:Env->LB->Prop):List Nat->Env->LB->Prop
 | [],e,s=>K e s
 | i::r,e,s=>match ops[i]? with
  | none=>False
  | some o=>bif im.contains i then ImpG c ops n0 id o e s (fun v s'=>ChG c ops im n0 id K r (put e o.dst v) s')
   else(reader o.op=true->blind o.op=false->opOk n0 id e o.op=true)/\∃ cv v s',Does c ops s o cv e v s'/\ChG c ops im n0 id K r (put e o.dst v) s'
def okG(ops:List Oper)(im:List Nat)(j i:Nat):Bool:=match ops[j]?,ops[i]? with
 | some oj,some oi=>oj.apart ops.toArray oi&&(bif im.contains i then !im.contains j&&reader oj.op else bif im.contains j then reader oi.op else together oj oi)
 | _,_=>false
section
variable {cx:Cx}{ops:Array Oper}{s:LB}{K:Env->LB->Prop}{im:List Nat}{n0 id:Nat}
theorem ImpG.agree{o:Oper}{e e':Env}{s:LB}{K K':AV->LB->Prop}(h:AmW ops o e e')(hK:∀ r s,K r s->K' r s)(x:ImpG cx ops n0 id o e s K):ImpG cx ops n0 id o e' s K':=by
 obtain⟨h1,f,args,h2,post,h4,h5,h6⟩:=x;exact⟨by grind[AnM],f,args,by grind[xop_agree,AaR],post,h4,h5,fun r b hp=>⟨(h6 r b hp).1,hK _ _ (h6 r b hp).2⟩⟩
theorem ChG.congr(hK:∀ e e' s,Eqv e e'->K e s->K e' s):∀ {l:List Nat}{e e':Env}{s:LB},Eqv e e'->ChG cx ops im n0 id K l e s->ChG cx ops im n0 id K l e' s
 | [],e,e',s,h,x=>hK e e' s h x
 | i::r,e,e',s,h,x=>by
  unfold ChG at x |-
  split at x
  .exact x.elim
  .cases hi:im.contains i with
   | true =>
    rw[hi]at x;exact ImpG.agree (fun t _=>h t) (fun r' s' z=>ChG.congr hK (h.put _ _) z) x
   | false =>
    rw[hi]at x;obtain⟨h1,cv,v,s',h2,h3⟩:=x;exact⟨fun hr hb=>by rw[<- opOk_agree (fun y _=>AiR fun t _=>h t)]; exact h1 hr hb,cv,v,s',h2.agree fun t _=>h t,ChG.congr hK (h.put _ _) h3⟩
theorem ChG.swap{opl:List Oper}(hops:ops=opl.toArray)(hK:∀ e e' s,Eqv e e'->K e s->K e' s){i j:Nat}{r:List Nat}(hok:okG opl im j i=true){e:Env}{s:LB}(x:ChG cx ops im n0 id K (j::i::r) e s) :
  ChG cx ops im n0 id K (i::j::r) e s:=by
 unfold okG at hok
 split at hok
 rotate_left
 .grind
 rename_i oj oi hj' hi';have hj:ops[j]? = some oj:=by grind
 have hi:ops[i]? = some oi:=by grind
 simp only[lag]at hok;obtain⟨ha,hok⟩:=hok;obtain⟨a1,a2,a3⟩:=Oper.apart_spec ha;have gi:∀ (e:Env) (v:AV),AmW ops oi (put e oj.dst v) e:=fun e v t ht=>by
  grind[get_put]
 have gj:∀ (e:Env) (v:AV),AmW ops oj e (put e oi.dst v):=fun e v t ht=>by
  grind[get_put]
 have sw:∀ (e:Env) (v u:AV),Eqv (put (put e oj.dst v) oi.dst u) (put (put e oi.dst u) oj.dst v):=fun e v u=>AmA a2
 simp only[ChG,hi,hj]at x |-
 cases mi:im.contains i with
 | true =>
  rw[mi]at hok x;simp only[cond_true,lag,lcb]at hok;obtain⟨mj,rj⟩:=hok;rw[mj]at x |-
  simp at x |-
  obtain⟨o1,cv,v,s',d1,y⟩:=x;obtain⟨rfl,_⟩:=AaT rj (o1 rj) (Agr.rfl') d1;obtain⟨h1,f,args,h2,post,h4,h5,h6⟩:=y;refine⟨by grind[AnM],f,args,by grind[xop_agree,AaR],post,h4,h5,fun u b hp=>?_⟩;obtain⟨ag,hy⟩:=h6 u b hp;have hs:=(AaT rj (o1 rj) ag d1).2;refine⟨ag,fun _ hb=>?_,cv,v,_,hs.agree (gj e u),ChG.congr hK (sw e v u) hy⟩<;>grind[opOk_agree,AaR]
 | false =>
  rw[mi]at hok x;simp only[cond_false]at hok x |-
  cases mj:im.contains j with
  | true =>
   rw[mj]at hok x
   simp at hok x |-
   obtain⟨h1,f,args,h2,post,h4,⟨u0,b0,h5⟩,h6⟩:=x;obtain⟨ag0,o0,cv0,v0,s0,d0,z0⟩:=h6 u0 b0 h5;have ok0:blind oi.op=false->opOk n0 id e oi.op=true:=fun hb=>by
    grind[opOk_agree,AaR]
   have d0':Does cx ops b0 oi cv0 e v0 s0:=d0.agree (gi e u0);have d0s:=(AaT hok ok0 ag0.symm d0').2;refine⟨fun _=>ok0,cv0,v0,s,d0s,by grind[AnM],f,args,?_,post,h4,⟨u0,b0,h5⟩,fun u b hp=>?_⟩
   .grind[xop_agree,AaR]
   .obtain ⟨ag,_,cv,v,s',d,y⟩:=h6 u b hp
    have d':Does cx ops b oi cv e v s':=d.agree (gi e u);obtain⟨e1,ds⟩:=AaT hok ok0 ag.symm d'
    grind[does_det,ChG.congr]
  | false =>
   rw[mj]at hok x
   simp at hok x |-
   obtain⟨o1,cv,v,s1,h1,o2,cu,u,s2,h2,h3⟩:=x;have h2':Does cx ops s1 oi cu e u s2:=h2.agree (gi e v);have h1':∀ {z z'},Does cx ops z oj cv e v z'->Does cx ops z oj cv (put e oi.dst u) v z':=fun hd=>hd.agree (gj e u)
   have h3':=ChG.congr hK (sw e v u) h3;have oi':∀ {n},reader oi.op=true->opOk n id (put e oj.dst v) oi.op=opOk n id e oi.op:=fun _=>opOk_agree (AaR (gi e v))
   have oj':∀ {n},opOk n id e oj.op=opOk n id (put e oi.dst u) oj.op:=opOk_agree (AaR (gj e u));simp only[lbi,lag,together]at hok
   rcases hok with(⟨c1,c2⟩|c1)|c1
   .have e1:=h1.calm c1
    subst e1;have e2:=h2.calm c2
    grind
   .have e1:=h1.calm (blind_calm c1)
    subst e1;exact⟨fun hr hb=>by grind,cu,u,_,h2',fun hr hb=>(by grind),cv,v,_,h1' (h1.blind c1),h3'⟩
   .have e2:=h2.calm (blind_calm c1)
    subst e2;exact⟨fun hr hb=>(by grind),cu,u,_,h2'.blind c1,fun hr hb=>by grind,cv,v,_,h1' h1,h3'⟩
theorem ChG.front{opl:List Oper}(hops:ops=opl.toArray)(hK:∀ e e' s,Eqv e e'->K e s->K e' s):∀ (l:List Nat)(i:Nat)(r:List Nat)(e:Env)(s:LB),(∀ j∈l,okG opl im j i=true) ->
  ChG cx ops im n0 id K (l++i::r) e s->ChG cx ops im n0 id K (i::(l++r)) e s
 | [],_,_,_,_,_,x=>x
 | j::l,i,r,e,s,h,x=>by
  refine ChG.swap hops hK (h j (by simp)) ?_;have ih:=fun e s=>ChG.front hops hK l i r e s fun k hk=>h k (by simp[hk])
  simp only[lbc,ChG]at x |-
  split at x
  .exact x.elim
  .cases hm:im.contains j with
   | true =>
    rw[hm]at x;exact ImpG.agree (fun _ _=>rfl) (fun r' s' z=>ih _ _ z) x
   | false =>
    rw[hm]at x;obtain⟨h1,cv,v,s',h2,h3⟩:=x;exact⟨h1,cv,v,s',h2,ih _ _ h3⟩
end
section
variable {c:Cx}{k:List It}{e:Env}{s:LB}
theorem A7R{ops:Array Oper}{o:Oper}{a:Act}{w:World}(hs:Sim c e s a w)(hg:gOnB ops e o=true):Region.wanted o (yielded ops a.tmps):=by
 obtain⟨hh,ρ,hm,hl,he,hdf,hsz,hX⟩:=hs;unfold gOnB at hg
 cases hq:o.guard with
 | none=>grind[Region.wanted]
 | some p =>
  obtain⟨j,want⟩:=p;rw[hq]at hg;simp only at hg
  cases hb:yldD want e ops[j]? with
  | none=>grind
  | some b =>
   have hy:=AeY (all:=ops.toList) he (by simpa using hb)
   simp_all[Region.wanted]
theorem BkV{ops:List Oper}{im:List Nat}{n0 id:Nat}(hdst:∀ o∈ops,dOk c.fn.ntmps o.dst=true)(i:Nat)(o:Oper)(r:List Nat)(e:Env)(s:LB)(a:Act)(w:World)(Kc:Act->World->Prop)(ho:ops[i]? = some o)
  (x:ChG c ops.toArray im n0 id (fun e s=>AWp c k e s) (i::r) e s) (hs:Sim c e s a w) (hK:∀ e' s' a w,ChG c ops.toArray im n0 id (fun e s=>AWp c k e s) r e' s'->Sim c e' s' a w->Kc a w) :
  if Region.wanted o (yielded ops.toArray a.tmps) then o.wp c.P a w Kc (WQ c k) else Kc (a.put o.dst undef) w:=by
 have ho':ops.toArray[i]? = some o:=by grind
 have hd:=hdst o (lar ho);simp only[ChG,ho']at x
 cases hm:im.contains i with
 | false =>
  rw[hm]at x;obtain⟨_,cv,v,s',h2,h3⟩:=x;exact AjZ hs hd h2 fun a w hs'=>hK _ _ a w h3 hs'
 | true =>
  rw[hm]at x;obtain⟨hg,f,args,hx,post,h4,_,h6⟩:=x;rw[if_pos (A7R hs hg)];obtain⟨hh,ρ,hmm,hl,he,hdf,hsz,hX⟩:=hs;have hsnd:=AeW (P:=c.P) (wr:=false) (frz:=true) (o:=o) hmm he;rw[hx]at hsnd;obtain⟨vs,hv,hr⟩:=hsnd;unfold Oper.wp;rw[hr h4.1];refine(h4.2 hh ρ w vs hmm hl hv).mono ?_;rintro en w' ⟨u,r',b,h',ρ',rfl,hp,hm',hlt,rv⟩;have he':EnvOk h' ρ' b e a:=fun t=>(he t).mono hlt.hle hlt.keep
  exact hK _ _ _ _ (h6 r' b hp).2 ⟨h',ρ',hm',hl.trans hlt,he'.put (by grind) rv,by grind[AaE],by grind[AaO],c.hx.later hmm hlt hX⟩
mutual
def dxq(c:Cx)(all:List Oper)(im:List Nat)(n0 id:Nat)(k:List It):Nat->List Oper->LY->Env->LB->Prop
 | _,[],_,e,s=>AWp c k e s
 | 0,_::_,_,_,_=>False
 | n+1,o::r,cs,e,s=>bif im.contains (rix all (o::r)) then
   (match gOnB all.toArray e o,xop false true c.P e s o.op with
    | true,.call f args=>A4R c n0 f args id s (fun v s'=>dxq c all im n0 id k n r cs (put e o.dst v) s')
    | _,_=>False)
  else dck (reader o.op&&!blind o.op) n0 id e o.op/\dxqc c all im n0 id k n (dgrd c all s o r cs e o.guard)
def dxqc(c:Cx)(all:List Oper)(im:List Nat)(n0 id:Nat)(k:List It):Nat->Dn->Prop
 | n,.go r cs e s=>dxq c all im n0 id k n r cs e s
 | n,.two b r cs e r' cs' e' s=>dbrq c all im n0 id k n b r cs e r' cs' e' s
 | n,.side p r cs e s=>p/\dxq c all im n0 id k n r cs e s
 | _,.fail=>False
def dbrq(c:Cx)(all:List Oper)(im:List Nat)(n0 id:Nat)(k:List It):Nat->Bool->List Oper->LY->Env->List Oper->LY->Env->LB->Prop
 | 0,_,_,_,_,_,_,_,_=>False
 | n+1,b,r,cs,e,r',cs',e',s=>(b=true->dxq c all im n0 id k n r cs e s)/\(b=false->dxq c all im n0 id k n r' cs' e' s)
end
theorem AbM{all:List Oper}{im:List Nat}{n0 id n:Nat} {r cs e r' cs' e' s}:dbrq c all im n0 id k (n+1) true r cs e r' cs' e' s=dxq c all im n0 id k n r cs e s:=by grind[dbrq]
theorem AaZ{all:List Oper}{im:List Nat}{n0 id n:Nat} {r cs e r' cs' e' s}:dbrq c all im n0 id k (n+1) false r cs e r' cs' e' s=dxq c all im n0 id k n r' cs' e' s:=by grind[dbrq]
theorem BoZ{all:List Oper}{im:List Nat}{n0 id n:Nat}{o:Oper}{r:List Oper}{cs:LY}(hm:im.contains (rix all (o::r))=false)(hg:o.guard=none)(h:dxq c all im n0 id k n (o::r) cs e s) :
  dck (reader o.op&&!blind o.op) n0 id e o.op/\∃ cv v n' cs' s',DoesOp c s o cv e v s'/\dxq c all im n0 id k n' r cs' (put e o.dst v) s':=by
 cases n with
 | zero=>grind[dxq]
 | succ n =>
  rw[dxq,hm]at h;refine⟨h.1,?_⟩
  replace h:=h.2
  rw[hg]at h;unfold dgrd at h;unfold DoesOp
  revert h
  cases xop false true c.P e s o.op with
  | ok u=>intro h; simp only[dres,dxqc]at h; exact⟨.any,u,n,cs,s,⟨rfl,rfl⟩,h⟩
  | side p u=>intro h; simp only[dres,dxqc]at h; exact⟨.any,u,n,cs,s,⟨h.1,rfl,rfl⟩,h.2⟩
  | sto p u s'=>intro h; simp only[dres,dxqc]at h; exact⟨.any,u,n,cs,s',⟨h.1.1,h.1.2,rfl,rfl⟩,h.2⟩
  | pick b x y =>
   intro h; simp only[dres,dxqc]at h
   cases n with
   | zero=>grind[dbrq]
   | succ n =>
   rw[dbrq]at h;refine⟨.any,_,n,cs,s,⟨rfl,rfl⟩,?_⟩<;>grind
  | call f args =>
   intro h; simp only[dres]at h
   cases cs<;>grind[dcall,dxqc]
  | anyb p=>grind[dres,dxqc]
  | stuck=>grind[dres,dxqc]
theorem BkW{all:List Oper}{im:List Nat}{n0 id n:Nat}{o:Oper}{r:List Oper}{cs:LY}(hm:im.contains (rix all (o::r))=false)(h:dxq c all im n0 id k n (o::r) cs e s) :
  dck (reader o.op&&!blind o.op) n0 id e o.op/\∃ cv v n' cs' s',Does c all.toArray s o cv e v s'/\dxq c all im n0 id k n' r cs' (put e o.dst v) s':=by
 cases hg:o.guard with
 | none =>
  obtain⟨h0,cv,v,n',cs',s',h1,h2⟩:=BoZ hm hg h;exact⟨h0,cv,v,n',cs',s',by grind[Does],h2⟩
 | some jw =>
  obtain⟨j,want⟩:=jw
  cases n with
  | zero=>grind[dxq]
  | succ n =>
   rw[dxq,hm]at h;refine⟨h.1,?_⟩;rw[hg]at h;unfold dgrd dyld at h
   cases hy:yldD want e all[j]? with
   | none=>grind[dxqc]
   | some b =>
    have key:(b=want->∃ n',dxq c all im n0 id k n' ({ o with guard:=none }::r) cs e s)/\(b≠want->∃ n',dxq c all im n0 id k n' r cs (put e o.dst (.raw undef)) s):=by
     cases n<;>grind[dxqc,dbrq]
    have hy':yldD want e all.toArray[j]? = some b:=by grind
    by_cases hb:b=want
    .obtain ⟨n1,h1⟩:=key.1 hb
     obtain⟨_,cv,v,n',cs',s',h1,h2⟩:=BoZ (by exact hm) rfl h1;refine⟨cv,v,n',cs',s',?_,h2⟩;unfold Does;rw[hg];simp only[hy'];exact .inl ⟨hb,h1⟩
    .obtain ⟨n1,h1⟩:=key.2 hb
     refine⟨.any,.raw undef,n1,cs,s,?_,h1⟩<;>grind[Does]
theorem AkJ{all:List Oper}{im:List Nat}{n0 id:Nat}:∀ {r:List Oper}{m n:Nat}{cs:LY}{e:Env}{s:LB},(∀ (j:Nat),r[j]? = all[m+j]?)->all.length=m+r.length->dxq c all im n0 id k n r cs e s->ChG c all.toArray im n0 id (fun e s=>AWp c k e s) (List.range' m r.length) e s
 | [],m,n,cs,e,s,_,_,h=>by
  rw[dxq]at h;exact h
 | o::r,m,n,cs,e,s,hr,hlen,h=>by
  have h0:all.toArray[m]? = some o:=by have:=hr 0; simpa using this.symm
  have hix:rix all (o::r)=m:=by unfold rix; omega
  have hr':∀ j,r[j]? = all[m+1+j]?:=fun j=>by have:=hr (j+1); simpa[Nat.add_assoc,Nat.add_comm 1 j]using this
  simp only[lal,List.range'_succ,ChG,h0]
  cases hm:im.contains m with
  | true =>
   cases n with
   | zero=>rw[dxq]at h; exact h.elim
   | succ n =>
    rw[dxq,hix,hm]at h
    split at h
    .rename_i f args hg hx
     obtain⟨post,h4,h5,h6⟩:=h;exact⟨hg,f,args,hx,post,h4,h5,fun u b hp=>⟨(h6 u b hp).1,AkJ hr' (by simp at hlen; omega) (h6 u b hp).2⟩⟩
    .exact h.elim
  | false =>
   obtain⟨hd,cv,v,n',cs',s',h1,h2⟩:=BkW (by rw[hix]; exact hm) h;refine⟨fun hr hb=>?_,cv,v,s',h1,AkJ hr' (by simp at hlen; omega) h2⟩;unfold dck at hd
   simpa[hr,hb]using hd
theorem AqU(im:List Nat)(bid:Nat)(cs:LY){id:Nat}{ops:List Oper}(hm:c.P.follows .mixedOrders=true)(hok:AfV (okG ops im) ops=true){N:Nat}(hN:c.fn.ntmps=N)(hdst:ops.all (fun o=>dOk N o.dst)=true)(n:Nat)
  (h:dxq c ops im s.length bid k n ops cs e s):AWp c (.code (.region id ops.toArray true)::k) e s:=by
 intro a w hsim;obtain⟨n1,hn1⟩:∃ n1,n1=s.length:=⟨_,rfl⟩;rw[<- hn1]at h;have hch:=AkJ (m:=0) (by grind) (by simp) h;rw[<- List.range_eq_range']at hch;refine wp_region_any hm ?_;have hsim':Sim c e s a { w with drawn:=w.drawn+1 }:=by
  obtain⟨hh,ρ,hmm,hl,he,hdf,hsz,hX⟩:=hsim;have sm:Same w { w with drawn:=w.drawn+1 }:=Same.drew w;exact⟨hh,ρ,hmm.same sm,hl.trans (Later.same sm),he,hdf,hsz,c.hx.later hmm (Later.same sm) hX⟩
 have hd:∀ o∈ops,dOk c.fn.ntmps o.dst=true:=fun o ho=>by grind
 refine AgS (ChG c ops.toArray im n1 bid (fun e s=>AWp c k e s)) hok (fun e s x=>x) (fun l i r e s hj x=>ChG.front rfl AWp.K l i r e s hj x) (fun i o r e s a w Kc ho x hs hK=>BkV hd i o r e s a w Kc ho x hs hK)
  ops.length (Array.replicate ops.length false) (List.range ops.length) e s a _ (by simp) ?_ (by simp) ?_ hch hsim'
 .symm
  simp_all
 .intro i hi j hj
  by_cases h1:i<ops.length
  all_goals simp_all[waits]
end
end Go.Av
namespace Go.Proofs
open Shelf Proofs.Tryz
def nmOf (P:Program) (f:FuncId):String:=match P.funcs[f]? with | some F=>F.name | none=> ""
theorem BcM {P:Program} {f:FuncId} {B:Func} (h1:(nmOf P f == "runtime.NumGoroutine")=false) (h2:P.funcs[f]? = some { B with name:=nmOf P f }):Bears P f B:=⟨_,h1,h2⟩
def Tryz.sortStr_ren:Go.Shelf.Ren:=⟨fun|6=>122|15=>169|14=>168|28=>239|29=>240|20=>231|21=>232|22=>233|23=>234|24=>235|25=>236|26=>237|27=>238|46=>288|47=>289|48=>290|49=>291|50=>292|57=>314|n=>n,fun|22=>31|24=>9|25=>67|3=>3|39=>207|0=>0|53=>257|55=>259|4=>4|46=>250|45=>249|50=>254|5=>5|9=>9|66=>296|70=>300|76=>322|77=>323|n=>n,fun|n=>n⟩
theorem Tryz.sortStr:Go.Proofs.SlLaysF.n6 prog Tryz.sortStr_ren:=by constructor <;> intros <;> first|kernel_rfl|exact BcM (by kernel_rfl) (by kernel_rfl)
def Tryz.sortEn_ren:Go.Shelf.Ren:=⟨fun|6=>155|15=>169|14=>220|28=>239|29=>240|20=>272|21=>273|22=>274|23=>275|24=>276|25=>277|26=>278|27=>279|46=>304|47=>289|48=>290|49=>305|50=>306|57=>320|n=>n,fun|22=>148|24=>190|25=>197|3=>3|39=>207|0=>0|53=>257|55=>259|4=>4|46=>250|45=>249|50=>254|5=>5|9=>9|66=>296|70=>300|76=>322|77=>323|n=>n,fun|n=>n⟩
theorem Tryz.sortEn:Go.Proofs.SlLaysF0.n6 prog Tryz.sortEn_ren:=by constructor <;> intros <;> first|kernel_rfl|exact BcM (by kernel_rfl) (by kernel_rfl)
