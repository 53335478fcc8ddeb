/- The step of a range over a map of one's own: whichever entry comes. -/
import Derived.Test.YtlldmgboedknfaaGreatDoorC20
import Derived.RangeFuncRecord
import Derived.RangeFuncIn
import Derived.Sort.LoopGhostIn
import Derived.OrdersIn
import Derived.TacticsIn
set_option linter.unusedSimpArgs false
set_option linter.unusedVariables false
set_option linter.unusedSectionVars false
namespace Go.Av
open Go Go.RowKit
variable [Tr]
section
variable {h:Mem}{ρ:Own}{sto:List Blk}{w:World}{P:Program}
theorem A7N{en:Array MapEntry}{clock:Nat}{es:List (AV×AV)}{seen:List Nat}(ho:EnOk en clock es){e:MapEntry}(he:e∈(leftOf en seen.toArray).toList):∃ p:Nat,en.toList[p]? = some e/\(ixs 0 es)[p]? = some e.born/\e.born ∉ seen:=by
 simp only[leftOf,Array.toList_filter,List.mem_filter]at he;obtain⟨h1,h2⟩:=he;obtain⟨j,hj,e1⟩:=List.getElem_of_mem h1;have hg:en.toList[j]? = some e:=by rw[List.getElem?_eq_getElem hj,e1]
 exact⟨j,hg,ho.2.1 j e hg,by simpa using h2⟩
theorem A1G{en:Array MapEntry}{clock:Nat}{es:List (AV×AV)}{seen:List Nat}(ho:EnOk en clock es)(hl:en.toList.length=(lvs es).length)(he:(leftOf en seen.toArray).size=0):∀ (j:Nat)(z:AV×AV),es[j]? = some z->AaW z.1=true->j∈seen:=by
 intro j z hj hz;obtain⟨p,h1,h2⟩:=A3G (i:=0) hj hz;rw[Nat.zero_add]at h1;have hpl:p<en.toList.length:=by
  have:=(List.getElem?_eq_some_iff.1 h2).1;omega
 have hb:=ho.2.1 p _ (List.getElem?_eq_getElem hpl);rw[h1]at hb;have hb:=Option.some.inj hb;have:(leftOf en seen.toArray).toList=[]:=List.eq_nil_of_length_eq_zero (by simpa using he);simp only[leftOf,Array.toList_filter,List.filter_eq_nil_iff]at this;have:=this _ (List.getElem_mem hpl);rw[<- hb]at this
 simpa using this
theorem next_ok{x:Operand}{o:Oper}{e:Env}{a:Act}(ho:o.op=.next x false)(m:Mine h ρ sto w)(he:EnvOk h ρ sto e a){id mid n:Nat}{seen:List Nat}{es:List (AV×AV)}(hx:ev e x=.mp id)
  (hb:sto[id]? = some (.it mid n seen)) (hb2:sto[mid]? = some (.mp es)) (hn:es.length=n) :
  ((∀ (j:Nat) (z:AV×AV),es[j]? = some z->AaW z.1=true->j∈seen)/\Okv h ρ sto w ((execOp a.eval o).run P w) (.tup [.bool false]) sto) \/
  ∃ j z,j ∉ seen/\es[j]? = some z/\AaW z.1=true/\Okv h ρ sto w ((execOp a.eval o).run P w) (.tup [.bool true,z.1,z.2]) (sto.set id (.it mid n (seen++[j]))):=by
 have hv:=AaM he x;rw[hx]at hv;obtain⟨r',g,en,clock,hu,hr,i2,i4,i5,hg,o2,o3,o4,o5⟩:=BlZ m hb hb2 hv;have hcl:clock=n:=by rw[o5.1,hn]
 obtain⟨ty,hrun⟩:∃ ty,(execOp a.eval o).run P w=((Instr.next (a.eval x) false ty).run P w).andThen fun v w'=>.ok (.value v) w':=⟨o.type,by simp[execOp,ho]⟩
 rw[hrun,hu]
 rcases run_next_at (P:=P) w ty r' g n n seen.toArray en clock i2 o2 (fun y hy=>by
   obtain⟨j,hj,e1⟩:=List.getElem_of_mem hy;have hg:=List.getElem?_eq_getElem hj;have:=ix_lt (o5.2.1 j _ hg);rw[e1]at this;omega) (Nat.le_refl _)with⟨h1,h2⟩|⟨y,hy,w1,hw1,h2⟩
 .refine .inl ⟨A1G o5 o3 h1,AaA m (u:=.tuple #[.bool false]) (by rw[h2]; rfl) (.tup [_] [_] (.cons (.bool _) .nil))⟩
 .obtain ⟨p,hj,hborn,hns⟩:=A7N o5 hy
  obtain⟨_,z,q1,q2,q3⟩:=ArB hborn;rw[Nat.sub_zero]at q1;obtain⟨z1,z2⟩:=o4 p z y q2 hj;have hjs:y.born<es.length:=(List.getElem?_eq_some_iff.1 q1).1;refine .inr ⟨y.born,z,hns,q1,q3,?_⟩;have sm:Same w w1:=by
   rcases hw1 with rfl|rfl
   .exact Same.refl _
   .exact Same.drew _
  have m1:=m.same sm;have L1:Later h ρ sto w h ρ sto w1:=Later.same sm;have hr1:w1.heap[r']? = some (.mapIter (some g) n seen.toArray n):=by
   rcases hw1 with rfl|rfl <;> exact i2
  have hlt:r'<w1.heap.size:=(Array.getElem?_eq_some_iff.1 hr1).1;obtain⟨m2,L2⟩:=m1.write (w':=ChangeMaps.setBlock w1 r' (.mapIter (some g) n (seen.toArray.push y.born) clock)) hb (b':=.it mid n (seen++[y.born])) hr trivial rfl rfl ⟨rfl,Tr.same rfl⟩ (by simp[ChangeMaps.setBlock]) (fun k hk=>by
    simp[ChangeMaps.setBlock,Array.getElem?_setIfInBounds_ne (Ne.symm hk)]) (by
    refine⟨r',g,hr,by simp[ChangeMaps.setBlock,hlt,hcl],?_,?_,?_⟩
    .have hne:mid≠id:=fun e=>by rw[e,hb]at hb2; cases hb2
     refine⟨rfl,?_⟩;simp only[LfC,List.getElem?_set_ne (Ne.symm hne),hb2];exact⟨g,hg,rfl⟩
    .rw [List.nodup_append]
     exact⟨i4,by simp,fun a ha b hb=>by simp at hb; subst hb; exact fun e=>hns (e▸ha)⟩
    .intro i hi
     rcases List.mem_append.1 hi with hi|hi
     .exact i5 i hi
     .simp at hi; omega)
  have L:=L1.trans L2;exact⟨_,_,_,_,.inl (by rw[h2]; rfl),m2,L,.tup [_,_,_] [_,_,_] (.cons (.bool _) (.cons ((z1.thaw (fun _ _ _ x=>x)).mono L.hle L.keep) (.cons (z2.mono L.hle L.keep) .nil)))⟩
end
end Go.Av
namespace Go.Av
open Go Go.RowKit
variable [Tr]
variable {c:Cx}{e:Env}{s:List Blk}
theorem Shift.reserve(es:Nat):Shift c e s e (s++[.arr es []]):=by
 rintro a w ⟨hh,ρ,hm,hlt,he,hdf,hsz,hX⟩;obtain⟨m',l'⟩:=hm.pushNil es;exact⟨hh,ρ,m',hlt.trans l',fun t=>(he t).mono l'.hle l'.keep,hdf,hsz,c.hx.later hm l' hX⟩
theorem AwW{h:Mem}{ρ ρ':Own}{s s':List Blk}{vs:List Value}{l:List AV}(hf:l.all frozen=true)(r:RL h (Lf ρ s) false vs l):RL h (Lf ρ' s') false vs l :=
 (AcW r hf).thaw (fun _ _ _ x=>x)
theorem AwX{f:FuncId}{args:List AV}{n es:Nat}{l:List AV}{K:AV->List Blk->Prop}(hc:Ct c.P f args [] (fun r s=>r=.sl 0 0 n n/\s=[.arr es l]))(hn:0<n)(hlen:l.length=n)(ha:args.all frozen=true)(hf:(flat l).all frozen=true)
  {id:Nat} (hid:s[id]? = some (.arr es [])) (hk:K (.sl id 0 n n) (s.set id (.arr es l))):BbK c f args id s K:=by
 refine⟨_,fun r b=>r=.sl id 0 n n/\b=.arr es l,hid,⟨hc.1,fun h ρ s w vs hs m lt0 r=>?_⟩,⟨_,_,rfl,rfl⟩,fun r b ⟨h1,h2⟩=>by rw[h1,h2]; exact hk⟩;have hidl:=(List.getElem?_eq_some_iff.1 hs).1;have hm0:Mine h (fun _=>none) [] w:=⟨m.mem,fun id blk e=>by simp at e,fun _ _=>rfl,fun i j g t t' e=>by simp at e,fun i g t e=>by simp at e⟩;refine(hc.2 h (fun _=>none) w vs hm0 (AwW ha r)).mono ?_;rintro en w' ⟨v,r,s1,h',ρ1,rfl,⟨rfl,rfl⟩,m',lt,rv⟩;have hne:l≠[]:=by intro h; rw[h]at hlen; simp at hlen; omega
 have hgood:∀ i g t,ρ1 i=some (g,t)->w.heap.size<=g:=fun i g t e=>by
  rcases lt.newown i g t e with⟨j,t',hj⟩|h
  .cases hj
  .exact h
 have hblk:∀ k,k<w.heap.size->w'.heap[k]? = w.heap[k]?:=fun k hk=>lt.block k hk (fun i t e=>by cases e)
 have hnew:∀ b o,h b o=none->h' b o≠none->w.heap.size<=b:=fun b o e n=>by
  rcases lt.hnew b o e n with⟨j,t',hj⟩|h
  .cases hj
  .exact h
 have hρ:∀ i,i≠id->upd ρ id (ρ1 0) i=ρ i:=fun i hi=>by simp[upd,hi]
 have hρi:upd ρ id (ρ1 0) id=ρ1 0:=by simp[upd]
 have hkeep:∀ v a,Lf ρ s v a->Lf (upd ρ id (ρ1 0)) (s.set id (.arr es l)) v a:=fun v a x=>⟨x.1,AbT (b':=.arr es l) hs hρ (Or.inr (by
  rw[hlen]; exact hn)) x.2⟩
 have hown:∀ i g t,upd ρ id (ρ1 0) i=some (g,t)->(i≠id/\ρ i=some (g,t)/\g<w.heap.size)\/(i=id/\ρ1 0=some (g,t)/\w.heap.size<=g):=fun i g t e=>by
  by_cases hi:i=id
  .rw [hi,hρi]at e
   exact .inr ⟨hi,e,hgood 0 g t e⟩
  .rw [hρ i hi]at e
   exact .inl ⟨hi,e,m.lt e⟩
 refine⟨v,_,_,h',upd ρ id (ρ1 0),rfl,⟨rfl,rfl⟩,⟨m'.mem,?_,?_,?_,?_⟩,⟨lt.hle,fun b o e n=>.inr (hnew b o e n),hkeep,lt.os,lt.tape,lt.output,lt.size,fun k hk _=>hblk k hk,?_⟩,?_⟩
 .intro i blk e
  by_cases hi:i=id
  .subst hi
   simp[hidl]at e
   subst e
   rcases m'.own 0 (.arr es l) rfl with⟨h1,h2⟩|⟨g,tot,cur,t,h1,h2,h3,h4,h5,h6,h7,h8,h9⟩
   .exact (hne h1).elim
   .exact .inr ⟨g,tot,cur,t,hρi.trans h1,h2,h3,h4,h5,h6,h7,h8,AwW hf h9⟩
  .rw [List.getElem?_set_ne (Ne.symm hi)]at e
   exact(m.own i blk e).mono lt.hle hkeep (hρ i hi) (fun g t hg=>hblk g (m.lt hg))
 .intro i hi
  simp at hi
  rw[hρ i (by omega)];exact m.out i hi
 .intro i j g t t' hi hj
  rcases hown i g t hi with⟨a1,a2,a3⟩|⟨a1,a2,a3⟩ <;> rcases hown j g t' hj with⟨b1,b2,b3⟩|⟨b1,b2,b3⟩
  .exact m.inj i j g t t' a2 b2
  .omega
  .omega
  .omega
 .intro i g t e o
  rcases hown i g t e with⟨a1,a2,a3⟩|⟨a1,a2,a3⟩
  .cases hq:h' g o with
   | none=>rfl
   | some z =>
    have:=hnew g o (m.disj i g t a2 o) (by rw[hq]; simp);omega
  .exact m'.disj 0 g t a2 o
 .intro i g t e
  rcases hown i g t e with⟨a1,a2,a3⟩|⟨a1,a2,a3⟩
  .exact .inl ⟨i,t,a2⟩
  .exact .inr a3
 .have q:=AbO rv
  exact .leaf ⟨q.1,BsH (blk:=.arr es l) rfl (by simp[hidl]) hρi q.2⟩
end Go.Av
namespace Go.Av
open Go Go.RowKit
variable [Tr]
structure Cr where
 c:Cx
 rd:Option Nat
 df:List Deferred
 out:Exit->Act->World->Prop
def Cr.F(r:Cr):Fence:={ fn:=fun _=>True,depth:=none,alive:=false,round:=r.rd }
theorem BcF{rd:Option Nat}{n:Nat}{P:Program}{f:FuncId}{args:Array Value}{w:World}{R:Ending->World->Prop}(h:Calls P f args w R):CallsIn { fn:=fun _=>True,depth:=none,alive:=false,round:=rd } n P f args w R:=(callsIn_wide (n:=n)).2 h
def WQg(F:Fence)(P:Program)(N:Nat)(out:Exit->Act->World->Prop):List It->Exit->Act->World->Prop
 | [],e,a,w=>out e a w
 | x::k,e,a,w=>match e with
  | .normal=>match x with
   | .ops all rest=>wpListIn F 0 P all.toArray (WQg F P N out k) rest a w
   | .op all o rest=>dOk N o.dst=true->o.wpIn F 0 P a w (wpListIn F 0 P all.toArray (WQg F P N out k) rest) (WQg F P N out k)
   | .code y=>y.wpIn F 0 P (WQg F P N out k) a w
   | .blk _=>WQg F P N out k .normal a w
   | .inv J=>J a w
  | .exit id=>match x with
   | .blk i=>if id=i then WQg F P N out k .normal a w else WQg F P N out k (.exit id) a w
   | _=>WQg F P N out k (.exit id) a w
  | e=>WQg F P N out k e a w
@[reducible] def WQr (r:Cr):List It->Exit->Act->World->Prop:=WQg r.F r.c.P r.c.fn.ntmps r.out
def SimR(r:Cr)(e:Env)(s:List Blk)(a:Act)(w:World):Prop :=
 ∃ h ρ,Mine h ρ s w/\Later r.c.h r.c.ρ r.c.sto r.c.w h ρ s w/\EnvOk h ρ s e a/\a.defers=r.df/\a.tmps.size=r.c.fn.ntmps/\r.c.x h ρ w
theorem SimR.sim{r:Cr}{e:Env}{s:List Blk}{a:Act}{w:World}(h:SimR r e s a w):Sim r.c e s { a with defers:=[] } w:=by
 obtain⟨h,ρ,a1,a2,a3,a4,a5,a6⟩:=h;exact⟨h,ρ,a1,a2,a3,rfl,a5,a6⟩
theorem Sim.simR{r:Cr}{e:Env}{s:List Blk}{a:Act}{w:World}(hd:a.defers=r.df)(h:Sim r.c e s { a with defers:=[] } w):SimR r e s a w:=by
 obtain⟨h,ρ,a1,a2,a3,a4,a5,a6⟩:=h;exact⟨h,ρ,a1,a2,a3,hd,a5,a6⟩
theorem Shift.r{r:Cr}{e e':Env}{s s':List Blk}(x:Shift r.c e s e' s'){a:Act}{w:World}(h:SimR r e s a w):SimR r e' s' a w:=by
 have hd:a.defers=r.df:=by obtain⟨_,_,_,_,_,hd,_⟩:=h; exact hd
 exact Sim.simR hd (x _ _ h.sim)
def AWpR(r:Cr)(k:List It)(e:Env)(s:List Blk):Prop:=∀ a w,SimR r e s a w->WQr r k .normal a w
def AOut(r:Cr)(x:Exit)(e:Env)(s:List Blk):Prop:=∀ a w,SimR r e s a w->r.out x a w
def AwY(r:Cr)(f:FuncId)(args:List AV)(d:Option Tmp)(all os:List Oper)(k:List It)(e:Env)(s:List Blk):Prop :=
 ∀ a w h ρ vs,Mine h ρ s w->Later r.c.h r.c.ρ r.c.sto r.c.w h ρ s w->EnvOk h ρ s e a->a.defers=r.df->a.tmps.size=r.c.fn.ntmps->r.c.x h ρ w->RL h (Lf ρ s) false vs args ->
  AaB r.c.P f=true/\Calls r.c.P f vs.toArray w fun en w'=>match en with
   | .returned v=>WQr r (.ops all os::k) .normal (a.put d v) w'
   | _=>False
def BsN(r:Cr)(o:Oper)(all os:List Oper)(k:List It)(e:Env)(s:List Blk):Res->Nx
 | .ok v=>.go (.ops all os::k) (put e o.dst v) s
 | .side p v=>.side p (.ops all os::k) (put e o.dst v) s
 | .sto p v s'=>.side p (.ops all os::k) (put e o.dst v) s'
 | .pick b x y=>.two b (.ops all os::k) (put e o.dst x) s (.ops all os::k) (put e o.dst y) s
 | .call f args=>.leaf (AwY r f args o.dst all os k e s)
 | .anyb p=>.leaf (p/\∀ b,AWpR r (.ops all os::k) (put e o.dst (.bool b)) s)
 | .stuck=>.leaf (AWpR r (.op all o os::k) e s)
def A4J(r:Cr)(k:List It)(e:Env)(s:List Blk):Nx:=.leaf (AWpR r k e s)
def BcG(r:Cr)(id:Nat)(e:Env)(s:List Blk):Option (List It)->Nx
 | some k=>.go k e s
 | none=>.leaf (AOut r (.exit id) e s)
def A4K(wr frz:Bool)(N:Nat)(r:Cr)(k:List It)(e:Env)(s:List Blk):Nx :=
 match k with
 | .ops _ []::k=>.go k e s
 | .ops all (o::os)::k=>bif dOk N o.dst then opN o all os k e s o.guard else .leaf False
 | .op all o os::k=>BsN r o all os k e s (xop wr frz r.c.P e s o.op)
 | .code .skip::k=>.go k e s
 | .code (.region id ops draw)::k=>bif draw then A4J r (.code (.region id ops true)::k) e s else .go (.ops ops.toList ops.toList::k) e s
 | .code (.seq a b)::k=>.go (.code a::.code b::k) e s
 | .code (.cond x a b)::k=>BaY a b k e s (ev e x)
 | .code (.block id x)::k=>.go (.code x::.blk id::k) e s
 | .code (.exit id)::k=>BcG r id e s (AeZ id k)
 | .code .ret::_=>.leaf (AOut r .ret e s)
 | .code x::k=>A4J r (.code x::k) e s
 | .blk _::k=>.go k e s
 | .inv J::k=>A4J r (.inv J::k) e s
 | []=>.leaf (AOut r .normal e s)
mutual
def runR(wr frz:Bool)(N:Nat)(c:Cr):Nat->List It->Env->List Blk->Prop
 | 0,k,e,s=>AWpR c k e s
 | n+1,k,e,s=>A1H wr frz N c n (A4K wr frz N c k e s)
def A1H(wr frz:Bool)(N:Nat)(c:Cr):Nat->Nx->Prop
 | n,.go k e s=>runR wr frz N c n k e s
 | n,.two b k e s k' e' s'=>brR wr frz N c n b k e s k' e' s'
 | n,.side p k e s=>p/\runR wr frz N c n k e s
 | _,.leaf p=>p
def brR(wr frz:Bool)(N:Nat)(c:Cr):Nat->Bool->List It->Env->List Blk->List It->Env->List Blk->Prop
 | 0,b,k,e,s,k',e',s'=>(b=true->AWpR c k e s)/\(b=false->AWpR c k' e' s')
 | n+1,b,k,e,s,k',e',s'=>(b=true->runR wr frz N c n k e s)/\(b=false->runR wr frz N c n k' e' s')
end
theorem BiR{wr frz:Bool}{N:Nat}{c:Cr}{n:Nat} {k e s k' e' s'}:brR wr frz N c (n+1) true k e s k' e' s'=runR wr frz N c n k e s:=by rw[brR]; simp
theorem BcH{wr frz:Bool}{N:Nat}{c:Cr}{n:Nat} {k e s k' e' s'}:brR wr frz N c (n+1) false k e s k' e' s'=runR wr frz N c n k' e' s':=by rw[brR]; simp
def Nx.semR(c:Cr):Nx->Prop
 | .go k e s=>AWpR c k e s
 | .two b k e s k' e' s'=>(b=true->AWpR c k e s)/\(b=false->AWpR c k' e' s')
 | .side p k e s=>p/\AWpR c k e s
 | .leaf p=>p
section
variable {r:Cr}{k:List It}{e:Env}{s:List Blk}
theorem AhE{id:Nat}:∀ {k k':List It},AeZ id k=some k'->∀ a w,WQr r k' .normal a w->WQr r k (.exit id) a w
 | [],_,h,_,_,_=>by simp[AeZ]at h
 | x::k,k',h,a,w,hw=>by
  cases x with
  | blk i =>
   simp only[AeZ]at h;simp only[WQr,WQg]
   by_cases hi:id=i
   .subst hi
    simp at h; subst h
    simp only[if_true]; exact hw
   .have:(id==i)=false:=by simpa using hi
    simp only[this,cond_false]at h;rw[if_neg hi];exact AhE h a w hw
  | ops _ _=>exact AhE (k:=k) h a w hw
  | op _ _ _=>exact AhE (k:=k) h a w hw
  | code _=>exact AhE (k:=k) h a w hw
  | inv _=>exact AhE (k:=k) h a w hw
theorem AfC{id:Nat}:∀ {k:List It},AeZ id k=none->∀ a w,r.out (.exit id) a w->WQr r k (.exit id) a w
 | [],_,_,_,hw=>hw
 | x::k,h,a,w,hw=>by
  cases x with
  | blk i =>
   simp only[AeZ]at h;simp only[WQr,WQg]
   by_cases hi:id=i
   .subst hi
    simp at h
   .have:(id==i)=false:=by simpa using hi
    simp only[this,cond_false]at h;rw[if_neg hi];exact AfC h a w hw
  | ops _ _=>exact AfC (k:=k) h a w hw
  | op _ _ _=>exact AfC (k:=k) h a w hw
  | code _=>exact AfC (k:=k) h a w hw
  | inv _=>exact AfC (k:=k) h a w hw
theorem BcI:∀ {k:List It} {a w},r.out .ret a w->WQr r k .ret a w
 | [],_,_,h=>h
 | _::k,_,_,h=>BcI (k:=k) h
theorem AwZ{wr frz:Bool}{P:Program}{e:Env}{s:List Blk}{o:Op}(h:xop wr frz P e s o≠.stuck):∀ c,o≠.defer c:=fun c hc=>h (by rw[hc]; rfl)
theorem AkT{h:Mem}{ρ:Own}{w:World}{a:Act}{o:Oper}{v:AV}{s':List Blk}{all os:List Oper}(hl:Later r.c.h r.c.ρ r.c.sto r.c.w h ρ s w)(he:EnvOk h ρ s e a)(hdf:a.defers=r.df)(hsz:a.tmps.size=r.c.fn.ntmps)(hm0:Mine h ρ s w)(hX:r.c.x h ρ w)
  (hnd:∀ c,o.op≠.defer c) (hd:dOk r.c.fn.ntmps o.dst=true) (ok:Okv h ρ s w ((execOp a.eval o).run r.c.P w) v s') (hk:AWpR r (.ops all os::k) (put e o.dst v) s'):WQr r (.op all o os::k) .normal a w:=by
 obtain⟨u,w',h',ρ',hr,hm,hlt,rv⟩:=ok;have he':EnvOk h' ρ' s' e a:=fun t=>(he t).mono hlt.hle hlt.keep
 have hsim:SimR r (put e o.dst v) s' (a.put o.dst u) w':=⟨h',ρ',hm,hl.trans hlt,he'.put (by rw[hsz]; exact hd) rv,by rw[AaE]; exact hdf,by rw[AaP]; exact hsz,r.c.hx.later hm0 hlt hX⟩;have:=hk _ _ hsim
 show _->o.wpIn r.F 0 r.c.P a w (wpListIn r.F 0 r.c.P all.toArray (WQr r k) os) (WQr r k)
 intro _;unfold Oper.wpIn;refine⟨fun _ _=>trivial,?_⟩;rw[Oper.semAt_eq _ _ _ hnd]
 rcases hr with hr|⟨hr,hu⟩
 .rw [hr]; exact this
 .rw [hr]; subst hu; exact this
theorem AxA{wr frz:Bool}(h:(A4K wr frz r.c.fn.ntmps r k e s).semR r):AWpR r k e s:=by
 intro a w hsim;have hsim':=hsim;obtain⟨hh,ρ,hm,hl,he,hdf,hsz,hX⟩:=hsim';unfold A4K at h
 split at h
 .exact (h a w hsim:WQr r _ .normal a w)
 .rename_i all o os k
  cases hd:dOk r.c.fn.ntmps o.dst with
  | false=>simp[hd,Nx.semR]at h
  | true =>
  simp only[hd,cond_true]at h;unfold opN at h
  split at h
  .rename_i hg
   have:=h a w hsim
   show wpListIn r.F 0 r.c.P all.toArray (WQr r k) (o::os) a w
   unfold wpListIn;rw[if_pos (by simp[Region.wanted,hg])];exact this hd
  .rename_i j want hg
   unfold grdN at h
   split at h
   .rename_i b hb
    have hy:=AhA he hb
    show wpListIn r.F 0 r.c.P all.toArray (WQr r k) (o::os) a w
    unfold wpListIn;have h1:b=want->AWpR r (.op all o os::k) e s:=fun hh=>by
     subst hh
     cases b with
     | true=>exact h.1 rfl
     | false=>exact h.2 rfl
    have h2:b≠want->AWpR r (.ops all os::k) (put e o.dst (.raw undef)) s:=fun hh=>by
     cases b <;> cases want <;> first|exact(hh rfl).elim|exact h.1 rfl|exact h.2 rfl
    by_cases hbw:b=want
    .rw [if_pos (by simp[Region.wanted,hg,hy.1 hbw])]
     exact h1 hbw a w hsim hd
    .rw [if_neg (by simpa[Region.wanted,hg]using hy.2 hbw)]
     exact⟨fun _ _=>trivial,h2 hbw _ w ⟨hh,ρ,hm,hl,he.put (by rw[hsz]; exact hd) (.raw _),by rw[AaE]; exact hdf,by rw[AaP]; exact hsz,hX⟩⟩
   .exact h.elim
 .rename_i all o os k
  show _->_
  intro hd;have hs:=AeY (P:=r.c.P) (wr:=wr) (frz:=frz) (o:=o) hm he;have hnd:=AwZ (wr:=wr) (frz:=frz) (P:=r.c.P) (e:=e) (s:=s) (o:=o.op)
  revert h hs hnd
  cases hx:xop wr frz r.c.P e s o.op with
  | ok v=>intro h hs hnd; exact AkT hl he hdf hsz hm hX (hnd (by simp)) hd hs h hd
  | side p v=>intro h hs hnd; exact AkT hl he hdf hsz hm hX (hnd (by simp)) hd (hs h.1) h.2 hd
  | sto p v s'=>intro h hs hnd; exact AkT hl he hdf hsz hm hX (hnd (by simp)) hd (hs h.1) h.2 hd
  | pick b x y =>
    intro h hs hnd
    cases b with
    | true=>exact AkT hl he hdf hsz hm hX (hnd (by simp)) hd hs (h.1 rfl) hd
    | false=>exact AkT hl he hdf hsz hm hX (hnd (by simp)) hd hs (h.2 rfl) hd
  | call f args =>
    intro h hs hnd;obtain⟨vs,hv,hr⟩:=hs;have hb:=(h a w hh ρ vs hm hl he hdf hsz hX hv).1
    replace hr:=hr hb
    have hc:=(h a w hh ρ vs hm hl he hdf hsz hX hv).2
    show o.wpIn r.F 0 r.c.P a w (wpListIn r.F 0 r.c.P all.toArray (WQr r k) os) (WQr r k)
    unfold Oper.wpIn;refine⟨fun _ _=>trivial,?_⟩;rw[Oper.semAt_eq _ _ _ (hnd (by simp)),hr];refine⟨fun hq=>(by cases hq),BcF (hc.mono fun en w' hw=>?_)⟩
    cases en with
    | returned v=>exact hw
    | panicked ch=>exact hw.elim
    | outgrown=>exact hw.elim
  | anyb p=>intro h hs hnd; obtain⟨b,hb⟩:=hs h.1; exact AkT hl he hdf hsz hm hX (hnd (by simp)) hd hb (h.2 b) hd
  | stuck=>intro h hs hnd; exact h a w hsim hd
 .exact (h a w hsim:WQr r _ .normal a w) |> fun x=>wpIn_skip x
 .rename_i id ops draw k
  cases draw with
  | true=>exact h a w hsim
  | false =>
   have:=h a w hsim;exact wpIn_region_list (by simpa[WQr,WQg]using this)
 .rename_i x y k
  refine wpIn_seq (Code.wpIn_mono ?_ (h a w hsim));intro en a' w' hq
  cases en <;> exact hq
 .rename_i x y z k
  unfold BaY at h
  split at h
  .rename_i t ht
   have hx:=AaM he x;rw[ht]at hx;have hb:=AaU hx;refine wpIn_cond hb ?_
   cases t with
   | true=>exact h.1 rfl a w hsim
   | false=>exact h.2 rfl a w hsim
  .exact h.elim
 .rename_i id x k
  refine wpIn_block (Code.wpIn_mono ?_ (h a w hsim));intro en a' w' hq
  cases en <;> exact hq
 .rename_i id k
  unfold BcG at h
  split at h
  .rename_i k' hk
   exact wpIn_exit (AhE hk a w (h a w hsim))
  .rename_i hk
   exact wpIn_exit (AfC hk a w (h a w hsim))
 .exact wpIn_ret (BcI (h a w hsim))
 .exact h a w hsim
 .exact h a w hsim
 .exact h a w hsim
 .exact h a w hsim
theorem BcJ{wr frz:Bool}{n:Nat}(ih:∀ m,m<=n->∀ k e s,runR wr frz r.c.fn.ntmps r m k e s->AWpR r k e s):∀ {x:Nx},A1H wr frz r.c.fn.ntmps r n x->x.semR r
 | .go k e s,h=>ih n (Nat.le_refl _) k e s (by rw[A1H]at h; exact h)
 | .two b k e s k' e' s',h=>by
  rw[A1H]at h
  cases n with
  | zero=>rw[brR]at h; exact h
  | succ n =>
   rw[brR]at h;exact⟨fun hb=>ih n (by omega) _ _ _ (h.1 hb),fun hb=>ih n (by omega) _ _ _ (h.2 hb)⟩
 | .side p k e s,h=>by
  rw[A1H]at h;exact⟨h.1,ih n (Nat.le_refl _) _ _ _ h.2⟩
 | .leaf p,h=>by rw[A1H]at h; exact h
theorem ArO{wr frz:Bool}(n:Nat):∀ (k:List It)(e:Env)(s:List Blk),runR wr frz r.c.fn.ntmps r n k e s->AWpR r k e s:=by
 induction n using Nat.strongRecOn with
 | _ n ih =>
  intro k e s h
  cases n with
  | zero=>rw[runR]at h; exact h
  | succ n =>
   rw[runR]at h;exact AxA (BcJ (fun m hm=>ih m (by omega)) h)
theorem goR{N:Nat}(hN:r.c.fn.ntmps=N)(n:Nat)(h:runR false false N r n k e s):AWpR r k e s:=ArO n k e s (hN▸h)
theorem goFR{N:Nat}(hN:r.c.fn.ntmps=N)(n:Nat)(h:runR false true N r n k e s):AWpR r k e s:=ArO n k e s (hN▸h)
theorem AWpR.shift{e':Env}{s':List Blk}(x:Shift r.c e s e' s')(h:AWpR r k e' s'):AWpR r k e s:=fun a w hs=>h a w (x.r hs)
theorem AOut.shift{y:Exit}{e':Env}{s':List Blk}(x:Shift r.c e s e' s')(h:AOut r y e' s'):AOut r y e s:=fun a w hs=>h a w (x.r hs)
theorem BcK{ι:Type}{B:Code}(μ:ι->Nat)(E:ι->Env)(S:ι->List Blk)(H:ι->Prop)(x0:ι)(hH:H x0)(hs:Shift r.c e s (E x0) (S x0))
  (step:∀ x,H x->∀ J:Act->World->Prop,(∀ y,H y->μ y<μ x->∀ a w,SimR r (E y) (S y) a w->J a w)->AWpR r (.code B::.inv J::k) (E x) (S x)) :
  AWpR r (.code (.loop B)::k) e s:=by
 intro a w hsim;refine wpIn_loop_ghost (fun n a w=>∃ x,H x/\μ x=n/\SimR r (E x) (S x) a w) (μ x0) ⟨x0,hH,rfl,hs.r hsim⟩ ?_;rintro n a w ⟨x,hx,rfl,hsx⟩;have:=step x hx (fun a w=>∃ n',n'<μ x/\∃ y,H y/\μ y=n'/\SimR r (E y) (S y) a w) (fun y hy hlt a w hs=>⟨_,hlt,y,hy,rfl,hs⟩) a w hsx;refine Code.wpIn_mono ?_ this;intro en a' w' hq
 cases en <;> exact hq
theorem AxB{J:Act->World->Prop}{e':Env}{s':List Blk}(hJ:∀ a w,SimR r e' s' a w->J a w)(x:Shift r.c e s e' s'):AWpR r (.inv J::k) e s:=fun a w h=>hJ a w (x.r h)
theorem BsO{f:FuncId}{args:List AV}{d:Option Tmp}{all os:List Oper}{post:AV->List Blk->Prop}(hc:Ct r.c.P f args s post){N:Nat}(hN:r.c.fn.ntmps=N)(hd:dOk N d=true)
  (hk:∀ v s',post v s'->AWpR r (.ops all os::k) (put e d v) s'):AwY r f args d all os k e s:=by
 intro a w h ρ vs hm hl he hdf hsz hX hv;refine⟨hc.1,(hc.2 h ρ w vs hm hv).mono ?_⟩;rintro en w' ⟨v,r',s',h',ρ',rfl,hp,hm',hlt,rv⟩;have he':EnvOk h' ρ' s' e a:=fun t=>(he t).mono hlt.hle hlt.keep
 exact hk r' s' hp _ _ ⟨h',ρ',hm',hl.trans hlt,he'.put (by rw[hsz,hN]; exact hd) rv,by rw[AaE]; exact hdf,by rw[AaP]; exact hsz,r.c.hx.later hm hlt hX⟩
theorem BpF{g:Std}(hg:Le g r.c.w r.c.ρ){f:FuncId}{args:List AV}{d:Option Tmp}{all os:List Oper}{post:AV->List Blk->Prop}(hc:CtH r.c.P g f args s post){N:Nat}(hN:r.c.fn.ntmps=N)(hd:dOk N d=true)
  (hk:∀ v s',post v s'->AWpR r (.ops all os::k) (put e d v) s'):AwY r f args d all os k e s:=by
 intro a w h ρ vs hm hl he hdf hsz hX hv;refine⟨hc.1,(hc.2 h ρ w vs (hg.later hl) hm hv).mono ?_⟩;rintro en w' ⟨v,r',s',h',ρ',rfl,hp,hm',hlt,rv⟩;have he':EnvOk h' ρ' s' e a:=fun t=>(he t).mono hlt.hle hlt.keep
 exact hk r' s' hp _ _ ⟨h',ρ',hm',hl.trans hlt,he'.put (by rw[hsz,hN]; exact hd) rv,by rw[AaE]; exact hdf,by rw[AaP]; exact hsz,r.c.hx.later hm hlt hX⟩
theorem BpG{g:Std}(hg:Le g r.c.w r.c.ρ){f:FuncId}{args:List AV}{d:Option Tmp}{all os:List Oper}{post:AV->Prop}(hc:PcH r.c.P g f args post)(ha:args.all nr1=true){N:Nat}(hN:r.c.fn.ntmps=N)(hd:dOk N d=true)
  (hk:∀ v,post v->AWpR r (.ops all os::k) (put e d v) s):AwY r f args d all os k e s :=
 BpF hg (hc.cth ha s) hN hd fun v s' ⟨hp,hs⟩=>by subst hs; exact hk v hp
theorem A4L{g:Std}(hg:Le g r.c.w r.c.ρ){f:FuncId}{args:List AV}{d:Option Tmp}{all os:List Oper}{v:AV}(hc:PcH r.c.P g f args (· = v))(ha:args.all nr1=true){N:Nat}(hN:r.c.fn.ntmps=N)(hd:dOk N d=true)
  (hk:AWpR r (.ops all os::k) (put e d v) s):AwY r f args d all os k e s :=
 BpG hg hc ha hN hd fun v' hr=>by subst hr; exact hk
end
section
variable {c:Cx}{e:Env}{s:List Blk}
mutual
def dxk(c:Cx)(all:List Oper)(K:Env->List Blk->Prop):Nat->List Oper->List AV->Env->List Blk->Prop
 | _,[],_,e,s=>K e s
 | 0,_::_,_,_,_=>False
 | n+1,o::r,cs,e,s=>dxkc c all K n (dgrd c all s o r cs e o.guard)
def dxkc(c:Cx)(all:List Oper)(K:Env->List Blk->Prop):Nat->Dn->Prop
 | n,.go r cs e s=>dxk c all K n r cs e s
 | n,.two b r cs e r' cs' e' s=>dbrk c all K n b r cs e r' cs' e' s
 | n,.side p r cs e s=>p/\dxk c all K n r cs e s
 | _,.fail=>False
def dbrk(c:Cx)(all:List Oper)(K:Env->List Blk->Prop):Nat->Bool->List Oper->List AV->Env->List Oper->List AV->Env->List Blk->Prop
 | 0,_,_,_,_,_,_,_,_=>False
 | n+1,b,r,cs,e,r',cs',e',s=>(b=true->dxk c all K n r cs e s)/\(b=false->dxk c all K n r' cs' e' s)
end
theorem BcL{K:Env->List Blk->Prop}{all:List Oper}{n:Nat} {r cs e r' cs' e' s}:dbrk c all K (n+1) true r cs e r' cs' e' s=dxk c all K n r cs e s:=by rw[dbrk]; simp
theorem A7O{K:Env->List Blk->Prop}{all:List Oper}{n:Nat} {r cs e r' cs' e' s}:dbrk c all K (n+1) false r cs e r' cs' e' s=dxk c all K n r' cs' e' s:=by rw[dbrk]; simp
theorem BmI{K:Env->List Blk->Prop}{all:List Oper}{n:Nat}{o:Oper}{r:List Oper}{cs:List AV}(hg:o.guard=none)(h:dxk c all K n (o::r) cs e s) :
  ∃ cv v n' cs' s',DoesOp c s o cv e v s'/\dxk c all K n' r cs' (put e o.dst v) s':=by
 cases n with
 | zero=>rw[dxk]at h; exact h.elim
 | succ n =>
  rw[dxk,hg]at h;unfold dgrd at h;unfold DoesOp
  revert h
  cases xop false true c.P e s o.op with
  | ok u=>intro h; simp only[dres,dxkc]at h; exact⟨.any,u,n,cs,s,⟨rfl,rfl⟩,h⟩
  | side p u=>intro h; simp only[dres,dxkc]at h; exact⟨.any,u,n,cs,s,⟨h.1,rfl,rfl⟩,h.2⟩
  | sto p u s'=>intro h; simp only[dres,dxkc]at h; exact⟨.any,u,n,cs,s',⟨h.1.1,h.1.2,rfl,rfl⟩,h.2⟩
  | pick b x y =>
   intro h; simp only[dres,dxkc]at h
   cases n with
   | zero=>rw[dbrk]at h; exact h.elim
   | succ n =>
   rw[dbrk]at h;refine⟨.any,_,n,cs,s,⟨rfl,rfl⟩,?_⟩
   cases b with
   | true=>exact h.1 rfl
   | false=>exact h.2 rfl
  | call f args =>
   intro h; simp only[dres]at h
   cases cs with
   | nil=>simp only[dcall,dxkc]at h
   | cons cv cs=>simp only[dcall,dxkc]at h; exact⟨cv,cv,n,cs,s,⟨h.1.1,h.1.2,rfl,rfl⟩,h.2⟩
  | anyb p=>intro h; simp only[dres,dxkc]at h
  | stuck=>intro h; simp only[dres,dxkc]at h
theorem A4M{K:Env->List Blk->Prop}{all:List Oper}{n:Nat}{o:Oper}{r:List Oper}{cs:List AV}(h:dxk c all K n (o::r) cs e s) :
  ∃ cv v n' cs' s',Does c all.toArray s o cv e v s'/\dxk c all K n' r cs' (put e o.dst v) s':=by
 cases hg:o.guard with
 | none =>
  obtain⟨cv,v,n',cs',s',h1,h2⟩:=BmI hg h;exact⟨cv,v,n',cs',s',by unfold Does; rw[hg]; exact h1,h2⟩
 | some jw =>
  obtain⟨j,want⟩:=jw
  cases n with
  | zero=>rw[dxk]at h; exact h.elim
  | succ n =>
   rw[dxk,hg]at h;unfold dgrd dyld at h
   cases hy:yldD want e all[j]? with
   | none=>simp only[hy,dxkc]at h
   | some b =>
    simp only[hy]at h;have key:(b=want->∃ n',dxk c all K n' ({ o with guard:=none }::r) cs e s)/\(b≠want->∃ n',dxk c all K n' r cs (put e o.dst (.raw undef)) s):=by
     cases n with
     | zero=>cases want <;> simp only[cond_true,cond_false,dxkc,dbrk]at h
     | succ n =>
      cases want <;> simp only[cond_true,cond_false,dxkc,dbrk]at h <;> cases b <;>
       first
       | exact⟨fun _=>⟨n,h.1 rfl⟩,fun hh=>(hh rfl).elim⟩
       | exact⟨fun _=>⟨n,h.2 rfl⟩,fun hh=>(hh rfl).elim⟩
       | exact⟨fun hh=>(by cases hh),fun _=>⟨n,h.1 rfl⟩⟩
       | exact⟨fun hh=>(by cases hh),fun _=>⟨n,h.2 rfl⟩⟩
    have hy':yldD want e all.toArray[j]? = some b:=by simpa using hy
    by_cases hb:b=want
    .obtain ⟨n1,h1⟩:=key.1 hb
     obtain⟨cv,v,n',cs',s',h1,h2⟩:=BmI rfl h1;refine⟨cv,v,n',cs',s',?_,h2⟩;unfold Does;rw[hg];simp only[hy'];exact .inl ⟨hb,h1⟩
    .obtain ⟨n1,h1⟩:=key.2 hb
     refine⟨.any,.raw undef,n1,cs,s,?_,h1⟩;unfold Does;rw[hg];simp only[hy'];exact .inr ⟨hb,trivial,trivial⟩
theorem AlQ{K:Env->List Blk->Prop}{all:List Oper}:∀ {r:List Oper}{m n:Nat}{cs:List AV}{e:Env}{s:List Blk},(∀ (j:Nat),r[j]? = all[m+j]?)->dxk c all K n r cs e s->Chain c all.toArray K (List.range' m r.length) e s
 | [],m,n,cs,e,s,_,h=>by
  rw[dxk]at h;exact h
 | o::r,m,n,cs,e,s,hr,h=>by
  obtain⟨cv,v,n',cs',s',h1,h2⟩:=A4M h;have h0:all.toArray[m]? = some o:=by have:=hr 0; simpa using this.symm
  simp only[List.length_cons,List.range'_succ,Chain,h0];exact⟨cv,v,s',h1,AlQ (fun j=>by have:=hr (j+1); simpa[Nat.add_assoc,Nat.add_comm 1 j]using this) h2⟩
end
section
variable {r:Cr}{k:List It}{e:Env}{s:List Blk}
theorem SimR.eqv{e':Env}{a:Act}{w:World}(h:Eqv e e')(hs:SimR r e s a w):SimR r e' s a w:=by
 obtain⟨hh,ρ,hm,hl,he,hdf,hsz,hX⟩:=hs;exact⟨hh,ρ,hm,hl,fun t=>by rw[<- h t]; exact he t,hdf,hsz,hX⟩
theorem AWpR.eqv{e':Env}(h:Eqv e e')(x:AWpR r k e s):AWpR r k e' s:=fun a w hs=>x a w (hs.eqv fun t=>(h t).symm)
theorem AWpR.K:∀ e e' s,Eqv e e'->AWpR r k e s->AWpR r k e' s:=fun _ _ _ h x=>x.eqv h
theorem BiS{o:Oper}{ops:Array Oper}{cv v:AV}{s1:List Blk}{a:Act}{w:World}{K:Act->World->Prop}{Q:Exit->Act->World->Prop}(hs:SimR r e s a w)(hd:dOk r.c.fn.ntmps o.dst=true)(h:Does r.c ops s o cv e v s1)
  (hK:∀ a w,SimR r (put e o.dst v) s1 a w->K a w):if Region.wanted o (yielded ops a.tmps) then o.wpIn r.F 0 r.c.P a w K Q else(∀ f,o.about r.c.P w a.eval=some f->r.F.fn f)/\K (a.put o.dst undef) w:=by
 obtain⟨hh,ρ,hm,hl,he,hdf,hsz,hX⟩:=hs;have hop:DoesOp r.c s o cv e v s1->o.wpIn r.F 0 r.c.P a w K Q:=by
  intro hd1;have hsnd:=AeY (P:=r.c.P) (wr:=false) (frz:=true) (o:=o) hm he;have fin:(∀ c,o.op≠.defer c)->Okv hh ρ s w ((execOp a.eval o).run r.c.P w) v s1->o.wpIn r.F 0 r.c.P a w K Q:=by
   rintro hnd ⟨u,w',h',ρ',hr,hm',hlt,rv⟩;have he':EnvOk h' ρ' s1 e a:=fun t=>(he t).mono hlt.hle hlt.keep
   have:=hK (a.put o.dst u) w' ⟨h',ρ',hm',hl.trans hlt,he'.put (by rw[hsz]; exact hd) rv,by rw[AaE]; exact hdf,by rw[AaP]; exact hsz,r.c.hx.later hm hlt hX⟩;unfold Oper.wpIn;refine⟨fun _ _=>trivial,?_⟩;rw[Oper.semAt_eq _ _ _ hnd]
   rcases hr with hr|⟨hr,hu⟩
   .rw [hr]; exact this
   .rw [hr]; subst hu; exact this
  unfold DoesOp at hd1;have hnd:=AwZ (wr:=false) (frz:=true) (P:=r.c.P) (e:=e) (s:=s) (o:=o.op)
  revert hd1 hsnd hnd
  cases xop false true r.c.P e s o.op with
  | ok u=>intro h2 h1 hnd; obtain⟨h2,h3⟩:=h2; subst h2; subst h3; exact fin (hnd (by simp)) h1
  | side p u=>intro h2 h1 hnd; obtain⟨hp,h2,h3⟩:=h2; subst h2; subst h3; exact fin (hnd (by simp)) (h1 hp)
  | sto p u s'=>intro h2 h1 hnd; obtain⟨_,hp,h2,h3⟩:=h2; subst h2; subst h3; exact fin (hnd (by simp)) (h1 hp)
  | pick b x y=>intro h2 h1 hnd; obtain⟨h2,h3⟩:=h2; subst h2; subst h3; exact fin (hnd (by simp)) h1
  | call f args =>
   intro h2 h1 hnd;obtain⟨hp,hn,h2,h3⟩:=h2;subst h2; subst h3;obtain⟨vs,hv,hr⟩:=h1;unfold Oper.wpIn;refine⟨fun _ _=>trivial,?_⟩;rw[Oper.semAt_eq _ _ _ (hnd (by simp)),hr hp.1];refine⟨fun hq=>(by cases hq),BcF ((hp.calls hn hm hl hv).mono ?_)⟩;rintro en w' ⟨u,rr,s',h',ρ',rfl,⟨hrv,hss⟩,hm',hlt,rv⟩;subst hss; subst hrv;have he':EnvOk h' ρ' s' e a:=fun t=>(he t).mono hlt.hle hlt.keep
   exact hK _ _ ⟨h',ρ',hm',hl.trans hlt,he'.put (by rw[hsz]; exact hd) rv,by rw[AaE]; exact hdf,by rw[AaP]; exact hsz,r.c.hx.later hm hlt hX⟩
  | anyb p=>intro h2 _ _; exact h2.elim
  | stuck=>intro h2 _ _; exact h2.elim
 unfold Does at h
 split at h
 .rename_i hg
  rw[if_pos (by simp[Region.wanted,hg])];exact hop h
 .rename_i j want hg
  split at h
  .rename_i b hb
   have hy:=AhA (all:=ops.toList) he (by simpa using hb);simp only[Array.toArray_toList]at hy
   rcases h with⟨h1,h2⟩|⟨h1,h2,h3⟩
   .rw [if_pos (by simp[Region.wanted,hg,hy.1 h1])]
    exact hop h2
   .rw [if_neg (by simpa[Region.wanted,hg]using hy.2 h1)]
    subst h2; subst h3;refine⟨fun _ _=>trivial,?_⟩;exact hK _ _ ⟨hh,ρ,hm,hl,he.put (by rw[hsz]; exact hd) (.raw _),by rw[AaE]; exact hdf,by rw[AaP]; exact hsz,hX⟩
  .exact h.elim
theorem A1I{ops:List Oper}{okp:Nat->Nat->Bool}(Ch:List Nat->Env->List Blk->Prop)(hok:AiH okp ops=true)(hnil:∀ e s,Ch [] e s->AWpR r k e s)
  (hfr:∀ l i r' e s,(∀ j∈l,okp j i=true)->Ch (l++i::r') e s->Ch (i::(l++r')) e s)
  (hst:∀ i o r' e s a w (Kc:Act->World->Prop),ops[i]? = some o->Ch (i::r') e s->SimR r e s a w->(∀ e' s' a w,Ch r' e' s'->SimR r e' s' a w->Kc a w) ->
   if Region.wanted o (yielded ops.toArray a.tmps) then o.wpIn r.F 0 r.c.P a w Kc (WQr r k) else(∀ f,o.about r.c.P w a.eval=some f->r.F.fn f)/\Kc (a.put o.dst undef) w):∀ (fuel:Nat) (listed:Array Bool) (l:List Nat) (e:Env) (s:List Blk) (a:Act) (w:World),listed.size=ops.length ->
  l=(List.range ops.length).filter (fun i=>!listed.getD i true)->l.length=fuel->(∀ i,listed.getD i true=true->∀ j∈AdN ops i,listed.getD j true=true) ->
  Ch l e s->SimR r e s a w->wpAnyIn r.F 0 r.c.P .any ops.toArray (WQr r k) fuel listed a w:=by
 have hready:∀ (listed:Array Bool) (i:Nat),i∈Region.ready .any ops.toArray listed ↔ i<ops.length/\listed.getD i true=false/\∀ j∈AdN ops i,listed.getD j false=true:=by
  intro listed i;unfold Region.ready;simp only[List.mem_filter,List.mem_range,List.size_toArray,Bool.and_eq_true,Bool.not_eq_true'];refine and_congr_right fun hi=>and_congr_right fun _=>?_
  have:ops[i]? = some ops[i]:=by simp[hi]
  simp only[List.getElem?_toArray,this,Option.map_some,Option.getD_some,AdN];rw[Array.all_eq_true_iff_forall_mem]
  constructor
  .intro h j hj
   simp only[List.mem_map,List.mem_filter,Array.mem_toList_iff]at hj;obtain⟨ed,⟨h1,h2⟩,rfl⟩:=hj;have:=h ed h1
   simpa[h2]using this
  .intro h ed hed
   by_cases hb:Region.binds .any ed=true
   .have:=h ed.on (by simp only[List.mem_map,List.mem_filter,Array.mem_toList_iff]; exact⟨ed,⟨hed,hb⟩,rfl⟩)
    simp[this]
   .simp [hb]
 have hback:∀ i,i<ops.length->∀ j∈AdN ops i,j<i:=by
  intro i hi j hj;have:=(List.all_eq_true.1 hok) i (by simpa using hi);simp only[Bool.and_eq_true]at this
  simpa using(List.all_eq_true.1 this.1) j hj
 intro fuel
 induction fuel with
 | zero =>
  intro listed l e s a w hsz hl hlen hcl hch hsim;have hnil:l=[]:=List.eq_nil_of_length_eq_zero hlen;subst hnil;refine⟨?_,hnil _ _ hch a w hsim⟩;apply List.eq_nil_iff_forall_not_mem.2;intro i hi;obtain⟨h1,h2,_⟩:=(hready listed i).1 hi;have:i∈(List.range ops.length).filter (fun i=>!listed.getD i true):=List.mem_filter.2 ⟨by simpa using h1,by simp[h2]⟩;rw[<- hl]at this
  cases this
 | succ fuel ih =>
  intro listed l e s a w hsz hl hlen hcl hch hsim;have hmem:∀ i,i∈l ↔ i<ops.length/\listed.getD i true=false:=by
   intro i; rw[hl]; simp[List.mem_filter]
  refine⟨fun hr=>?_,fun i hi=>?_⟩
  .exfalso
   cases hq:l with
   | nil=>rw[hq]at hlen; simp at hlen
   | cons i r' =>
    have hil:i∈l:=by rw[hq]; simp
    obtain⟨h1,h2⟩:=(hmem i).1 hil;have:i∈Region.ready .any ops.toArray listed:=by
     refine(hready listed i).2 ⟨h1,h2,fun j hj=>?_⟩;have hlt:=hback i h1 j hj;have hjn:j ∉ l:=by
      intro hjl;have hs:l.Pairwise (·<·):=by rw[hl]; exact List.Pairwise.filter _ List.pairwise_lt_range
      rw[hq]at hs hjl
      rcases List.mem_cons.1 hjl with rfl|hjr
      .omega
      .have:=(List.pairwise_cons.1 hs).1 j hjr; omega
     have hjlt:j<listed.size:=by omega
     have:=fun hf=>hjn ((hmem j).2 ⟨by omega,hf⟩)
     cases hv:listed.getD j true with
     | true=>simpa[Array.getD,hjlt]using hv
     | false=>exact(this hv).elim
    rw[hr]at this
    cases this
  .obtain ⟨h1,h2,h3⟩:=(hready listed i).1 hi
   have hil:i∈l:=(hmem i).2 ⟨h1,h2⟩;obtain⟨l1,l2,hsplit⟩:=List.append_of_mem hil;have ho:ops.toArray[i]? = some ops[i]:=by simp[h1]
   have hs:l.Pairwise (·<·):=by rw[hl]; exact List.Pairwise.filter _ List.pairwise_lt_range
   have hapart:∀ j∈l1,okp j i=true:=by
    intro j hj;have hjl:j∈l:=by rw[hsplit]; simp[hj]
    obtain⟨hj1,hj2⟩:=(hmem j).1 hjl;have hji:j<i:=by
     rw[hsplit]at hs;exact(List.pairwise_append.1 hs).2.2 j hj i (by simp)
    have:=(List.all_eq_true.1 hok) i (by simpa using h1);simp only[Bool.and_eq_true]at this;have:=(List.all_eq_true.1 this.2) j (by simpa using hji);simp only[Bool.or_eq_true]at this
    rcases this with h4|h4
    .exact h4
    .exfalso
     have hm:j∈anc ops ops.length i:=by simpa using h4
     have hw3:∀ j∈AdN ops i,listed.getD j true=true:=by
      intro j hj;have h5:=h3 j hj;have hjlt:j<listed.size:=by have:=hback i h1 j hj; omega
      simpa[Array.getD,hjlt]using h5
     have:=AkK (L:=fun j=>listed.getD j true=true) hcl ops.length i hw3 j hm;rw[this]at hj2
     cases hj2
   rw[hsplit]at hch;have hfront:=hfr l1 i l2 e s hapart hch;have hlist:∀ j,(listed.setIfInBounds i true).getD j true=if j=i then true else listed.getD j true:=by
    intro j
    by_cases hj:j=i
    .subst hj
     have:j<listed.size:=by omega
     simp[this]
    .rw [if_neg hj]
     simp[Array.getElem?_setIfInBounds_ne (Ne.symm hj)]
   have hnext:l1++l2=(List.range ops.length).filter (fun j=>!(listed.setIfInBounds i true).getD j true):=by
    have e1:(fun j=>!(listed.setIfInBounds i true).getD j true)=fun j=>(!listed.getD j true)&&decide (j≠i):=by
     funext j
     rw[hlist]
     by_cases hj:j=i <;> simp[hj]
    have e2:(List.range ops.length).filter (fun j=>(!listed.getD j true)&&decide (j≠i))=l.filter (fun j=>decide (j≠i)):=by
     rw[hl,List.filter_filter]
     congr 1
     funext j
     rw[Bool.and_comm]
    rw[e1,e2,hsplit];have hn:l.Nodup:=hs.imp (fun h=>Nat.ne_of_lt h);rw[hsplit]at hn;have hn1:i ∉ l1:=fun hh=>(List.nodup_append.1 hn).2.2 i hh i (by simp) rfl
    have hn2:i ∉ l2:=(List.nodup_cons.1 (List.nodup_append.1 hn).2.1).1;simp only[List.filter_append,List.filter_cons];have f1:∀ x:List Nat,i ∉ x->x.filter (fun j=>decide (j≠i))=x:=by
     intro x hx;rw[List.filter_eq_self];intro y hy
     simp
     intro h; subst h; exact hx hy
    rw[f1 l1 hn1,f1 l2 hn2]
    simp
   have hgo:∀ e' s' a w,Ch (l1++l2) e' s'->SimR r e' s' a w->wpAnyIn r.F 0 r.c.P .any ops.toArray (WQr r k) fuel (listed.setIfInBounds i true) a w:=fun e' s' a' w' hrest hs' =>
    ih (listed.setIfInBounds i true) (l1++l2) _ _ a' w' (by simpa using hsz) hnext (by rw[hsplit]at hlen; simp at hlen |-; omega) (fun j hj m hm=>by
     rw[hlist]at hj |-
     by_cases hmi:m=i
     .simp [hmi]
     .rw [if_neg hmi]
      by_cases hji:j=i
      .subst hji
       have h5:=h3 m hm;have hmlt:m<listed.size:=by have:=hback j h1 m hm; omega
       simpa[Array.getD,hmlt]using h5
      .rw [if_neg hji]at hj
       exact hcl j hj m hm) hrest hs'
   have hw:=hst i ops[i] (l1++l2) e s a w _ (by simp[h1]) hfront hsim hgo;unfold wpOpIn;rw[ho];simp only
   by_cases hwant:Region.wanted ops[i] (yielded ops.toArray a.tmps)=true
   .rw [if_pos hwant]at hw |-
    exact hw
   .rw [if_neg hwant]at hw |-
    exact hw
theorem BmJ(cs:List AV){id:Nat}{ops:List Oper}(hm:r.c.P.follows .mixedOrders=true)(hok:A3V ops=true){N:Nat}(hN:r.c.fn.ntmps=N)(hdst:ops.all (fun o=>dOk N o.dst)=true)(n:Nat)
  (h:dxk r.c ops (fun e s=>AWpR r k e s) n ops cs e s):AWpR r (.code (.region id ops.toArray true)::k) e s:=by
 intro a w hsim;have hch:=AlQ (m:=0) (by intro j; simp) h;rw[<- List.range_eq_range']at hch;refine wpIn_region_any hm ?_;have hsim':SimR r e s a { w with drawn:=w.drawn+1 }:=by
  obtain⟨hh,ρ,hmm,hl,he,hdf,hsz,hX⟩:=hsim;have sm:Same w { w with drawn:=w.drawn+1 }:=Same.drew w;exact⟨hh,ρ,hmm.same sm,hl.trans (Later.same sm),he,hdf,hsz,r.c.hx.later hmm (Later.same sm) hX⟩
 have hd:∀ o∈ops,dOk r.c.fn.ntmps o.dst=true:=fun o ho=>by rw[hN]; exact(List.all_eq_true.1 hdst) o ho
 refine A1I (okp:=fun j i=>match ops[i]?,ops[j]? with|some oi,some oj=>oj.apart ops.toArray oi&&together oj oi|_,_=>false) (fun l e s=>Chain r.c ops.toArray (fun e s=>AWpR r k e s) l e s) hok (fun e s x=>x) (fun l i r' e s hj x=>?_)
  (fun i o r' e s a w Kc ho x hs hK=>?_)
  ops.length (Array.replicate ops.length false) (List.range ops.length) e s a _ (by simp) ?_ (by simp) ?_ hch hsim'
 .cases hi:ops[i]? with
  | none =>
   cases l with
   | nil=>exact x
   | cons j l=>have:=hj j (by simp); simp[hi]at this
  | some oi =>
   refine Chain.front AWpR.K (oi:=oi) (by simpa using hi) (fun j hjl=>?_) x;have:=hj j hjl;rw[hi]at this
   cases hq:ops[j]? with
   | none=>simp[hq]at this
   | some oj =>
    rw[hq]at this;simp only[Bool.and_eq_true]at this;exact⟨oj,by simpa using hq,this.1,this.2⟩
 .have ho':ops.toArray[i]? = some o:=by simpa using ho
  simp only[Chain,ho']at x;obtain⟨cv,v,s',h1,h2⟩:=x;exact BiS hs (hd o (List.mem_of_getElem? ho)) h1 fun a w hs'=>hK _ _ a w h2 hs'
 .symm
  rw[List.filter_eq_self];intro i hi
  simp at hi
  simp[hi]
 .intro i hi j hj
  exfalso
  by_cases h1:i<ops.length
  .simp [h1]at hi
  .unfold AdN at hj
   have:ops[i]? = none:=by simp; omega
   simp[this]at hj
end
attribute [go_sem] runR A1H brR A4K BsN A4J BcG dxk dxkc dbrk
attribute [go_sem ↓] BiR BcH BcL A7O
