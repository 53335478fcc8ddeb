/- slices.Insert: what depends on how much room a row has. -/
import Derived.Lib.AppendZerosOnto
import Derived.Lib.Overlaps
import Derived.Test.YtgenkcmfeeakoaaGreatDoorX36
set_option linter.all false
namespace Go.Av
open RowKit
variable [Tr]
def junk(sz:Nat):AV:=.agg (List.replicate sz .any)
theorem AqK(sz:Nat):∀ k,flat (List.replicate k (junk sz))=List.replicate (k*sz) .any
 | 0=>by simp[flat]
 | k+1=>by
  show List.replicate sz .any++flat (List.replicate k (junk sz))=_
  rw[AqK sz k,List.replicate_append_replicate,show(k+1)*sz=sz+k*sz by rw[Nat.succ_mul,Nat.add_comm]]
theorem BjK{h:Mem}{Lf:Value->AV->Prop}{fl:Bool}:∀ vs:List Value,RL h Lf fl vs (List.replicate vs.length .any)
 | []=>.nil
 | v::vs=>.cons (.any v) (BjK vs)
def Fz0(h:Mem)(g sz:Nat)(l:LA):Prop:=∃ vs,RL h (fun _ _=>False) true vs (flat l)/\(∀ x∈l,(cellsOf x).length=sz)/\∀ (k:Nat) v,vs[k]? = some v->h g k=some v
theorem Fz0.rv{h:Mem}{g sz:Nat}{l:LA}(f:Fz0 h g sz l){c:Nat}(hc:l.length<=c){Lf:Value->AV->Prop}{fl:Bool}:RV h Lf fl (.slice (some ⟨g,0,none⟩) l.length c) (.fz sz l):=by
 obtain⟨vs,h1,h2,h3⟩:=f;exact .fz g 0 c sz l vs (h1.thaw (fun _ _ _ x=>x)) h2 (fun k v hk=>by grind) hc
theorem AwD{x:Mem->Own->World->Prop}(hx:Stb x)(g sz:Nat)(l:LA):Stb fun h ρ w=>x h ρ w/\Fz0 h g sz l :=
 ⟨fun m lt ⟨h1,vs,h2,h3,h4⟩=>⟨hx.later m lt h1,vs,h2.thaw lt.hle,h3,fun k v hk=>lt.hle _ _ _ (h4 k v hk)⟩,fun hq ⟨h1,h2⟩=>⟨hx.fewer hq h1,h2⟩⟩
theorem WQ_y(c:Cx)(x:Mem->Own->World->Prop)(hx:Stb x):∀ k,WQ { c with x:=x,hx:=hx } k=WQ c k
 | []=>by funext ex a w; cases ex <;> rfl
 | y::k=>by
  have ih:=WQ_y c x hx k
  funext ex a w
  cases ex <;> cases y <;> simp only[WQ,ih]
variable {c:Cx}{k:List It}{e:Env}{s:LB}
theorem AWp.room{t:Tmp}{id n es:Nat}{l:LA}(hv:get e t=.sl id 0 n n)(hb:s.getD id .dead=.arr es l)(hn:l.length=n)(h0:0<n)(hf:(flat l).all frozen=true)
  (hA:AWp c k (put e (some t) (.sl id 0 n (n+1))) (s.set id (.arr es (l++[junk es]))))
  (hB:∀ g (x:Mem->Own->World->Prop) (hx:Stb x),(∀ h ρ w,x h ρ w->c.x h ρ w/\Fz0 h g es l)->AWp { c with x:=x,hx:=hx } k (put e (some t) (.raw (.slice (some ⟨g,0,none⟩) n n))) (s.set id .dead)):AWp c k e s:=by
 intro a w hsim;obtain⟨hh,ρ,hm,hlt,he,hdf,hsz,hX⟩:=hsim;have hso:=AbO hb;have hlf:=AbE (by have:=he t; rw[hv]at this; omega);have hl:=hlf.2;simp only[LfC,hso]at hl
 rcases hl.2 (by omega)with⟨h6,_⟩|⟨g,tot,h5,hval,h7⟩
 .omega
 rcases hm.own id _ hso with⟨_,hno⟩|⟨g',tot',cur,ty,h3,h4,h5',h6,h7',h8,h9,h10,h11⟩
 .grind
 rw[h3]at h5
 simp at h5
 obtain⟨rfl,rfl⟩:=h5;simp only[Nat.zero_mul,Nat.sub_zero]at hval
 by_cases hroom:n+1<=tot'
 .have hmul:n*es+es<=tot'*es:=by
   have:=lbq es hroom
   grind
  have hk:∀ v a,Lf ρ s v a->Lf ρ (s.set id (.arr es (l++[junk es]))) v a:=fun v a q=>⟨q.1,AbN hso (fun _ _=>rfl) (show(es=es/\_/\_)\/l.length<(l++[junk es]).length from .inr (by simp)) q.2⟩
  have hn':OwnB hh ρ (s.set id (.arr es (l++[junk es]))) w id (.arr es (l++[junk es])):=by
   refine .inr ⟨g',tot',cur,ty,h3,h4,h5',by grind,h7',h8,?_,h10,?_⟩
   .grind[junk,cellsOf]
   .have e1:(l++[junk es]).length*es=l.length*es+es:=by grind
    have e2:cur.toList.take (l.length*es+es)=cur.toList.take (l.length*es)++(cur.toList.drop (l.length*es)).take es:=by rw[List.take_add]
    have e3:((cur.toList.drop (l.length*es)).take es).length=es:=by grind
    have e4:=AqK es 1
    simp at e4
    rw[e1,e2,flat_append,e4];have e5:=BjK (h:=hh) (Lf:=Lf ρ (s.set id (.arr es (l++[junk es])))) (fl:=false) ((cur.toList.drop (l.length*es)).take es);rw[e3]at e5;exact RL.append (h11.mono (fun _ _ _ x=>x) hk) e5
  obtain⟨m',l'⟩:=hm.write hso h3 (show(es=es/\_)\/l.length<(l++[junk es]).length from .inr (by simp)) rfl rfl ⟨rfl,Tr.same rfl⟩ rfl (fun _ _=>rfl) hn';refine hA a w ⟨hh,ρ,m',hlt.trans l',fun t'=>?_,hdf,hsz,c.hx.later hm l' hX⟩;rw[get_put]
  split
  .rename_i ht
   simp at ht
   subst ht;refine .leaf ⟨hlf.1,?_⟩<;>grind[LfC]
  .exact (he t').mono l'.hle l'.keep
 .have htot:tot'=n:=by omega
  subst htot;obtain⟨h',ρ',m',l',key⟩:=hm.freeze hso hf;have hq:=key _ _ _ _ hlf.2 (by omega) (lad _);rw[lcj,laj (by omega),hval]at hq;have hfz:Fz0 h' g' es l:=by
   rcases AgQ hq with⟨hnil,_⟩|⟨b,o,cc,vs,hvv,k1,k2,k3,k4⟩
   .grind
   .simp at hvv
    obtain⟨⟨rfl,rfl,_⟩,_,_⟩:=hvv;exact⟨vs,k1.thaw (fun _ _ _ x=>x),k2,fun k v hk=>by grind⟩
  rw[<- WQ_y c _ (AwD c.hx g' es l) k];refine hB g' _ (AwD c.hx g' es l) (fun _ _ _ x=>x) a w ⟨h',ρ',m',hlt.trans l',fun t'=>?_,hdf,hsz,c.hx.later hm l' hX,hfz⟩;rw[get_put]
  split
  .rename_i ht
   simp at ht
   subst ht;rw[hval];exact .raw _
  .exact (he t').mono l'.hle l'.keep
theorem A0D{o:Oper}{all os:List Oper}{Q:AV->LB->Prop}{N:Nat}(hN:c.fn.ntmps=N)(hd:dOk N o.dst=true)(hg:o.guard=none)
  (hok:∀ h ρ a w,Mine h ρ s w->EnvOk h ρ s e a->c.x h ρ w->∃ v s',Q v s'/\Okv h ρ s w ((execOp a.eval o).run c.P w) v s')
  (hk:∀ v s',Q v s'->AWp c (.ops all os::k) (put e o.dst v) s'):AWp c (.ops all (o::os)::k) e s:=by
 subst hN;intro a w hsim;obtain⟨hh,ρ,hm,hl,he,hdf,hsz,hX⟩:=hsim;obtain⟨v,s',hq,ok⟩:=hok hh ρ a w hm he hX;have:=AnX hl he hdf hsz hm hX hd ok (hk v s' hq) hd
 grind[wpList,WQ,Region.wanted]
theorem Shift.tell(t:Tmp){v:Value}{x:AV}(hv:get e t=.raw v)(h:∀ h ρ w,c.x h ρ w->RV h (Lf ρ s) false v x):Shift c e s (put e (some t) x) s:=by
 rintro a w ⟨hh,ρ,hm,hlt,he,hdf,hsz,hX⟩;refine⟨hh,ρ,hm,hlt,fun t'=>?_,hdf,hsz,hX⟩;rw[get_put]
 split
 .rename_i ht
  simp at ht
  have:=he t
  grind[AaT]
 .exact he t'
section
variable {h:Mem}{ρ:Own}{w:World}{P:Program}{a:Act}
theorem BjL{o:Oper}{ty el:TypeId}{x:Operand}(ho:o.op=.call { callee:=.builtin .cap,args:=#[x],argTypes:=#[ty] })(hu:P.underlying ty=some (.slice el)){ad:Option Addr}{n cp:Nat}(hx:a.eval x=.slice ad n cp) :
  (execOp a.eval o).run P w=.ok (.value (.int .i64 cp)) w:=by
 simp[execOp,ho,resolve,invoke,builtin,Builtin.cap_,run_underlying hu,hx,goInt]
end
theorem ByC{o:Oper}{all os:List Oper}{ty el:TypeId}{t:Tmp}{id n cp es:Nat}{l:LA}{N:Nat}(hN:c.fn.ntmps=N)(hd:dOk N o.dst=true)(hg:o.guard=none)
  (ho:o.op=.call { callee:=.builtin .cap,args:=#[.tmp t],argTypes:=#[ty] }) (hu:c.P.underlying ty=some (.slice el)) (hv:get e t=.sl id 0 n cp) (hb:s.getD id .dead=.arr es l) (hn:l.length=cp) (h0:0<n)
  (hk:∀ m:Nat,cp<=m->AWp c (.ops all os::k) (put e o.dst (.int .i64 m)) s):AWp c (.ops all (o::os)::k) e s:=by
 refine A0D (Q:=fun v s'=>s'=s/\∃ m:Nat,cp<=m/\v=.int .i64 m) hN hd hg (fun h ρ a w hm he _=>?_) ?_
 .have hso:=AbO hb
  have hlf:=AbE (by have:=he t; rw[hv]at this; omega);have hl:=hlf.2;simp only[LfC,hso]at hl
  rcases hl.2 (by omega)with⟨h6,_⟩|⟨g,tot,h5,hval,h7⟩
  .omega
  rcases hm.own id _ hso with⟨_,hno⟩|⟨g',tot',cur,ty',h3,h4,h5',h6,_⟩
  .grind
  rw[h3]at h5
  simp at h5
  obtain⟨rfl,rfl⟩:=h5;refine⟨.int .i64 tot',s,⟨rfl,tot',by omega,rfl⟩,AaA hm (BjL ho hu (n:=n) (ad:=some ⟨g',0*es,none⟩) ?_) (.int _ _)⟩
  show a.tmps.getD t undef=_
  omega
 .rintro _ _ ⟨rfl,m,hm,rfl⟩
  exact hk m hm
theorem ByD{o:Oper}{all os:List Oper}{ty el:TypeId}{t:Tmp}{ad:Option Addr}{n cp:Nat}{N:Nat}(hN:c.fn.ntmps=N)(hd:dOk N o.dst=true)(hg:o.guard=none)
  (ho:o.op=.call { callee:=.builtin .cap,args:=#[.tmp t],argTypes:=#[ty] }) (hu:c.P.underlying ty=some (.slice el)) (hv:get e t=.raw (.slice ad n cp))
  (hk:AWp c (.ops all os::k) (put e o.dst (.int .i64 cp)) s):AWp c (.ops all (o::os)::k) e s:=by
 refine A0D (Q:=fun v s'=>s'=s/\v=.int .i64 cp) hN hd hg (fun h ρ a w hm he _=>?_) ?_
 .refine ⟨_,s,⟨rfl,rfl⟩,AaA hm (BjL ho hu (n:=n) (ad:=ad) ?_) (.int _ _)⟩
  have:=he t;rw[hv]at this;exact AaT this
 .rintro _ _ ⟨rfl,rfl⟩
  exact hk
theorem ByE{o:Oper}{all os:List Oper}{ty el:TypeId}{t u:Tmp}{g n cp i:Nat}{N:Nat}(hN:c.fn.ntmps=N)(hd:dOk N o.dst=true)(hg:o.guard=none)
  (ho:o.op=.slice ty (.tmp t) none (some (.tmp u)) none) (hu:c.P.underlying ty=some (.slice el)) (hp:0<tsize c.P el) (hv:get e t=.raw (.slice (some ⟨g,0,none⟩) n cp)) (hi:get e u=.int .i64 i) (h1:i<=cp) (h0:0<cp)
  (hk:AWp c (.ops all os::k) (put e o.dst (.raw (.slice (some ⟨g,0,none⟩) i cp))) s):AWp c (.ops all (o::os)::k) e s:=by
 refine A0D (Q:=fun v s'=>s'=s/\v=.raw (.slice (some ⟨g,0,none⟩) i cp)) hN hd hg (fun h ρ a w hm he _=>?_) ?_
 .refine ⟨_,s,⟨rfl,rfl⟩,AaA hm ?_ (.raw _)⟩
  have e1:a.eval (.tmp t)=.slice (some ⟨g,0,none⟩) n cp:=by
   have:=he t;rw[hv]at this;exact AaT this
  have hb:=AdY (P:=c.P) (w:=w) (n:=n) (c:=cp) (lo:=none) (hi:=some (.tmp u)) he true rfl (by simp only[evo,ev,hi]; rfl) (by omega) (by omega) (by omega);have hr:=AaQ hu hp (ad:=some ⟨g,0,none⟩) hb
  simp_all[execOp,Addr.add_mid]
 .rintro _ _ ⟨rfl,rfl⟩
  exact hk
end Go.Av
namespace Go.Av
open RowKit
variable [Tr]
def BrA(g:Nat)(h:Mem)(ρ:Own)(w:World):Prop:=∃ cur t,w.heap[g]? = some (.cells cur t (0,0))/\0<cur.size/\∀ i t',ρ i≠some (g,t')
theorem AqL(g:Nat):Stb (BrA g):=by
 refine⟨fun{h ρ sto w h' ρ' sto' w'} m lt ⟨cur,t,h1,h2,h3⟩=>⟨cur,t,?_,h2,fun i t' e=>?_⟩,fun{h ρ ρ' w} hq ⟨cur,t,h1,h2,h3⟩=>⟨cur,t,h1,h2,fun i t' e=>?_⟩⟩
 .rw [lt.block g (Array.getElem?_eq_some_iff.1 h1).1 h3]; omega
 .rcases lt.newown i g t' e with⟨j,t2,hj⟩|hs<;>grind
 grind
theorem BrB{x y:Mem->Own->World->Prop}(hx:Stb x)(hy:Stb y):Stb fun h ρ w=>x h ρ w/\y h ρ w :=
 ⟨fun m lt ⟨h1,h2⟩=>⟨hx.later m lt h1,hy.later m lt h2⟩,fun hq ⟨h1,h2⟩=>⟨hx.fewer hq h1,hy.fewer hq h2⟩⟩
def CtX(P:Program)(x:Mem->Own->World->Prop)(f:FuncId)(args:LA)(sto:LB)(post:AV->LB->Prop):Prop :=
 AaB P f=true/\∀ h ρ w vs,x h ρ w->Mine h ρ sto w->RL h (Lf ρ sto) false vs args->Calls P f vs.toArray w fun en w' =>
  ∃ v r s h' ρ',en=.returned v/\post r s/\Mine h' ρ' s w'/\Later h ρ sto w h' ρ' s w'/\RV h' (Lf ρ' s) false v r
theorem A0E{P:Program}{x:Mem->Own->World->Prop}(hX:Stb x){f:FuncId}{fn:Func}{body:Code}{N:Nat}{args:LA}{sto:LB}{post:AV->LB->Prop}(hf:P.funcs[f]? = some fn)(hb:fn.body=some body)(hn:fn.ntmps=N)(hx:AaB P f=true)
  (ha:args.length<=N) (h:∀ h ρ w,AWp ⟨P,fn,h,ρ,sto,w,post,x,hX⟩ [.code body] (args0 0 args) sto):CtX P x f args sto post:=by
 refine⟨hx,fun hh ρ w vs hxx hm hv=>?_⟩;refine calls_of_wp hf hb ?_;have hlen:=hv.length;have hsim:Sim ⟨P,fn,hh,ρ,sto,w,post,x,hX⟩ (args0 0 args) sto { tmps:=vs.toArray++Array.replicate (fn.ntmps-vs.toArray.size) undef,defers:=[] } w:=by
  refine⟨hh,ρ,hm,.refl ..,fun t=>?_,rfl,by grind,hxx⟩;rw[AjM];simp only[Nat.zero_le,if_true,Nat.sub_zero];have h1:=hv.getD t undef
  by_cases ht:t<vs.length
  .have:(vs.toArray++Array.replicate (fn.ntmps-vs.toArray.size) undef).getD t undef=vs.getD t undef:=by
    simp_all[Array.getElem?_append]
   grind
  .have:args.getD t .any=.any:=by grind
   rw[this]; exact .any _
 have:=h hh ρ w _ w hsim;refine Code.wp_mono ?_ (show body.wp P (WQ ⟨P,fn,hh,ρ,sto,w,post,x,hX⟩ []) _ w from this);intro en a' w' hq
 cases en with
 | normal=>obtain⟨hd,v,r,s,h',ρ',h1,h2⟩:=hq; exact⟨hd,v,h1,v,r,s,h',ρ',rfl,h2⟩
 | ret=>obtain⟨hd,v,r,s,h',ρ',h1,h2⟩:=hq; exact⟨hd,v,h1,v,r,s,h',ρ',rfl,h2⟩
 | _=>exact hq.elim
variable {c:Cx}{k:List It}{e:Env}{s:LB}
theorem B1I{x:Mem->Own->World->Prop}(hxx:∀ h ρ w,c.x h ρ w->x h ρ w){f:FuncId}{args:LA}{d:Option Tmp}{all os:List Oper}{post:AV->LB->Prop}(hc:CtX c.P x f args s post){N:Nat}(hN:c.fn.ntmps=N)(hd:dOk N d=true)
  (hk:∀ r s',post r s'->AWp c (.ops all os::k) (put e d r) s'):AeM c f args d all os k e s:=by
 intro a w h ρ vs hm hl he hdf hsz hX hv;refine⟨hc.1,(hc.2 h ρ w vs (hxx h ρ w hX) hm hv).mono ?_⟩;rintro en w' ⟨v,r,s',h',ρ',rfl,hp,hm',hlt,rv⟩;have he':EnvOk h' ρ' s' e a:=fun t=>(he t).mono hlt.hle hlt.keep
 exact hk r s' hp _ _ ⟨h',ρ',hm',hl.trans hlt,he'.put (by grind) rv,by grind[AaU],by grind[AcD],c.hx.later hm hlt hX⟩
theorem AWp.back{x:Mem->Own->World->Prop}{hx:Stb x}(hxx:∀ h ρ w,x h ρ w->c.x h ρ w)(h:AWp c k e s):AWp { c with x:=x,hx:=hx } k e s:=by
 rintro a w ⟨hh,ρ,hm,hlt,he,hdf,hsz,hX⟩;rw[WQ_y c x hx k];exact h a w ⟨hh,ρ,hm,hlt,he,hdf,hsz,hxx _ _ _ hX⟩
section
variable {h:Mem}{ρ:Own}{sto:LB}{w:World}{P:Program}
theorem ByF{t:TypeId}{len:Nat}{parts:Array (Nat×Operand)}{o:Oper}{e:Env}{a:Act}{el:TypeId}{cs:LA}(ho:o.op=.buildSlice t len parts)(hel:P.underlying t=some (.slice el))(m:Mine h ρ sto w)(he:EnvOk h ρ sto e a)
  (hf:AnI (fun i=>some (i*tsize P el,tsize P el)) (rep (zav P el) len) (evp e parts.toList)=some cs)
  (hc:0<tsize P el/\0<len/\(zav P el).length=tsize P el/\len*tsize P el<=16777216/\(rep (zav P el) len).all one=true/\(isRow (P.underlying el)=false->tsize P el=1)) :
  ∃ cells,(execOp a.eval o).run P w=.ok (.value (.slice (some ⟨w.heap.size,0,none⟩) len len)) (w.alloc (.cells cells el))/\RL h (Lf ρ sto) false cells.toList cs /\
   cs.length=len*tsize P el/\cs.all one=true:=by
 obtain⟨hp1,hp2⟩:=AmN he parts.toList;have hrun:(execOp a.eval o).run P w=((Instr.buildSlice t len (parts.map fun(i,x)=>(i,a.eval x))).run P w).andThen fun v w'=>.ok (.value v) w':=by simp_all[execOp]
 obtain⟨h1,h0,h2,h3,h4,h5⟩:=hc
 cases hi:P.info? el with
 | none=>grind[tsize]
 | some ie =>
  have htz:tsize P el=ie.size:=by grind[tsize]
  cases hz:ie.zero with
  | none=>grind[zav,AcS]
  | some z =>
   have hzl:AcS P el=z.cells.toList:=by grind[AcS]
   have hzs:z.cells.toList.length=ie.size:=by
    grind[zav]
   have hzp:0<z.cells.toList.length:=by omega
   have hzz:=zeros_ok (h:=h) (ρ:=ρ) (sto:=sto) (fl:=false) len hzp;rw[show z.cells.toList.map AdW=zav P el by grind[zav]]at hzz;obtain⟨cells,g1,g2,g3,g4⟩:=AuE hp1 hp2 hzz hf;refine⟨cells,?_,g2,?_,g4 h4⟩
   .rw [hrun,run_buildSlice w t el len _ cells ie z hel hi hz (by grind) (by rw[<- htz]; have:=Nat.mul_pos h0 h1; omega) ?_]
    all_goals simp_all
   grind[rep_len]
end
theorem BjM{o:Oper}{all os:List Oper}{ty el:TypeId}{len:Nat}{parts:Array (Nat×Operand)}{cs:LA}{N:Nat}(hN:c.fn.ntmps=N)(hd:dOk N o.dst=true)(hg:o.guard=none)(ho:o.op=.buildSlice ty len parts)(hel:c.P.underlying ty=some (.slice el))
  (hf:AnI (fun i=>some (i*tsize c.P el,tsize c.P el)) (rep (zav c.P el) len) (evp e parts.toList)=some cs)
  (hc:0<tsize c.P el/\0<len/\(zav c.P el).length=tsize c.P el/\len*tsize c.P el<=16777216/\(rep (zav c.P el) len).all one=true/\(isRow (c.P.underlying el)=false->tsize c.P el=1)) (hfz:cs.all frozen=true)
  (hk:∀ g (x:Mem->Own->World->Prop) (hx:Stb x),(∀ h ρ w,x h ρ w->(c.x h ρ w/\Fz0 h g (tsize c.P el) (cut (isRow (c.P.underlying el)) (tsize c.P el) len cs))/\BrA g h ρ w) ->
   AWp { c with x:=x,hx:=hx } (.ops all os::k) (put e o.dst (.raw (.slice (some ⟨g,0,none⟩) len len))) s):AWp c (.ops all (o::os)::k) e s:=by
 rintro a w ⟨hh,ρ,hm,hl,he,hdf,hsz,hX⟩;obtain⟨cells,g1,g2,g3,g4⟩:=ByF ho hel hm he hf hc;have hm':=hm.freezeNew cells.toList el (AfB g2 g4);have hr:isRow (c.P.underlying el)=false->tsize c.P el=1:=hc.2.2.2.2.2;have hfl:flat (cut (isRow (c.P.underlying el)) (tsize c.P el) len cs)=cs:=AmO g3 hr g4;have hst:=BrB (AwD c.hx w.heap.size (tsize c.P el) (cut (isRow (c.P.underlying el)) (tsize c.P el) len cs)) (AqL w.heap.size)
 show wpList c.P all.toArray (WQ c k) (o::os) a w
 unfold wpList;rw[if_pos (by grind[Region.wanted])];refine .inl ?_;unfold Oper.wp;rw[g1]
 show WQ c (.ops all os::k) .normal (a.put o.dst (.slice (some ⟨w.heap.size,0,none⟩) len len)) (w.alloc (.cells cells el))
 rw[<- WQ_y c _ hst (.ops all os::k)];have he':EnvOk (Mem.add hh w.heap.size cells.toList) ρ s e a:=fun t=>(he t).mono hm'.2.hle hm'.2.keep
 refine hk w.heap.size _ hst (fun _ _ _ x=>x) _ _ ⟨_,_,hm'.1,hl.trans hm'.2,he'.put (by grind) (.raw _),by grind[AaU],by grind[AcD],⟨c.hx.later hm hm'.2 hX,cells.toList,?_,AjJ g3 hr g4,fun k v hk=>?_⟩,cells,el,heap_alloc_new w _,?_,fun i t' e=>?_⟩
 .rw [hfl]; exact(AcL g2 hfz).thaw hm'.2.hle
 .grind[Mem.add]
 .have:=g2.length
  simp_all
 .have:=hm.lt e
  omega
theorem ByG{o:Oper}{all os:List Oper}{ty tn el:TypeId}{kn:IntKind}{t u:Tmp}{g cp i kk:Nat}{l:LA}{N:Nat}(hN:c.fn.ntmps=N)(hd:dOk N o.dst=true)(hg:o.guard=none)
  (ho:o.op=.call { callee:=.builtin .append,args:=#[.tmp t,.tmp u],argTypes:=#[ty,tn] }) (hu:c.P.underlying ty=some (.slice el)) (htn:c.P.underlying tn=some (.int kn))
  (hp:0<tsize c.P el) (hz:(zav c.P el).length=tsize c.P el) (hone:(zav c.P el).all one=true)
  (hv:get e t=.raw (.slice (some ⟨g,0,none⟩) i cp)) (hi:get e u=.int .i64 kk) (hk0:0<kk) (hfz:∀ h ρ w,c.x h ρ w->Fz0 h g (tsize c.P el) l) (hil:i<=l.length) (hgrow:cp<i+kk)
  (hb:(i+kk)*AaW c.P el<=140737488355328) (hm63:i+kk<=9223372036854775807)
  (hk:AWp c (.ops all os::k) (put e o.dst (.sl s.length 0 (i+kk) (i+kk))) (s++[.arr (tsize c.P el) (l.take i++List.replicate kk (junk (tsize c.P el)))])):AWp c (.ops all (o::os)::k) e s:=by
 refine A0D (Q:=fun v s'=>v=.sl s.length 0 (i+kk) (i+kk)/\s'=s++[.arr (tsize c.P el) (l.take i++List.replicate kk (junk (tsize c.P el)))]) hN hd hg (fun h ρ a w hm he hx=>?_) ?_
 .obtain ⟨vs,h1,h2,h3⟩:=hfz h ρ w hx
  obtain⟨i0,z,hi0,his,hib,hiz,hzc,hzs⟩:=AfF hp hz;have hvl:vs.length=l.length*tsize c.P el:=by rw[h1.length,AaO h2]
  have hil':i*tsize c.P el<=l.length*tsize c.P el:=lbq _ hil;have hold:(Builtin.firstCells i0.size i (.slice (some ⟨g,0,none⟩) i cp)).run c.P w.drew=.ok (vs.take (i*tsize c.P el)).toArray w.drew:=by
   rw[his];refine firstCells_at (by omega) fun j v hj=>?_
   rw[laq];exact(Same.drew w).cell (hm.mem g j v (h3 j v hj)).1
  have hr:=Lib.run_append_grow_zeros w ty tn o.type el i0 z .i64 kn hu htn hi0 hiz (some ⟨g,0,none⟩) i cp _ hold kk hk0 (by omega) hgrow (by omega) (by
   grind) (by simp_all[growslice_fits])
  have hge:=grownCap_ge w (i+kk) cp el;have hcm:grownCap w (i+kk) cp el<=maxLen:=grownCap_le_maxLen w (i+kk) cp el (by grind[maxLen]);generalize grownCap w (i+kk) cp el=tot at *;have hone0:∀ k,∀ v∈(Builtin.zeroCells z.cells k).toList,v.oneCell'=true:=by
   intro k;refine AuH ?_ (by omega) k;intro u hu;rw[<- hzc]at hu;have hr:RL (fun _ _=>none) (Lf (fun _=>none) []) false (AcS c.P el) (zav c.P el):=consts_ok _
   grind[AfB]
  have hlen:∀ k,(Builtin.zeroCells z.cells k).toList.length=k*tsize c.P el:=by grind[Builtin.zeroCells]
  have hol:(vs.take (i*tsize c.P el)).length=i*tsize c.P el:=by grind
  have e1:a.eval (.tmp t)=.slice (some ⟨g,0,none⟩) i cp:=by
   have:=he t;rw[hv]at this;exact AaT this
  have e2:a.eval (.tmp u)=.int .i64 kk:=by
   have:=he u;rw[hi]at this;exact AaK this
  have hrun:(execOp a.eval o).run c.P w=((Builtin.append_ #[ty,tn] o.type #[a.eval (.tmp t),a.eval (.tmp u)]).run c.P w).andThen fun v w'=>.ok (.value v) w':=by
   simp_all[execOp,resolve,invoke,builtin]
  rw[e1,e2,hr]at hrun;have m0:=hm.same (Same.drew w);have hm':=m0.push (.cells ((vs.take (i*tsize c.P el)).toArray++Builtin.zeroCells z.cells kk++Builtin.zeroCells z.cells (tot-(i+kk))) el) (.arr (tsize c.P el) (l.take i++List.replicate kk (junk (tsize c.P el)))) (some tot) (by
   have hL:(l.take i++List.replicate kk (junk (tsize c.P el))).length=i+kk:=by grind
   refine .inr ⟨w.heap.size,tot,_,el,by simp[upd],.of (heap_alloc_new w.drew _),?_,by omega,hcm,hp,?_,?_,?_⟩
   .have g1:=hlen kk
    have g2:=hlen (tot-(i+kk))
    simp at g1 g2
    rw[Array.size_append,Array.size_append,List.size_toArray,g1,g2,hol,<- Nat.add_mul,<- Nat.add_mul]
    grind
   .grind[junk,cellsOf]
   .intro v hv
    simp only[Array.toList_append,lcb]at hv
    rcases hv with(hv|hv)|hv
    .obtain ⟨j,hj,rfl⟩:=List.mem_iff_getElem.1 (lau hv)
     exact(hm.mem g j _ (h3 j _ (by grind))).2
    all_goals grind
   .rw [hL,flat_append,AqK]
    simp
    have e3:(i+kk)*tsize c.P el=(vs.take (i*tsize c.P el)).length+(Builtin.zeroCells z.cells kk).toList.length:=by grind
    rw[e3,List.take_length_add_append,List.take_left,<- hlen kk];have e4:=AbL h2 i;refine RL.append ?_ (BjK _);rw[<- e4];exact(h1.thaw (fun _ _ _ x=>x)).take _)
  refine⟨_,_,⟨rfl,rfl⟩,_,_,_,_,.inl hrun,hm'.1,(Later.same (Same.drew w)).trans hm'.2,.leaf ⟨rfl,?_⟩⟩
  simp_all[LfC,upd]
 .rintro _ _ ⟨rfl,rfl⟩
  exact hk
theorem ByH{o:Oper}{all os:List Oper}{f:FuncId}{fn:Func}{ats:Array TypeId}{tS tR el:TypeId}{t u:Tmp}{g n cp id off n' cp' es:Nat}{l:LA}{N:Nat}(hN:c.fn.ntmps=N)(hd:dOk N o.dst=true)(hg:o.guard=none)
  (ho:o.op=.call { callee:=.value (.func f),args:=#[.tmp t,.tmp u],argTypes:=ats })
  (hf:c.P.funcs[f]? = some fn) (hname:(fn.name == "runtime.NumGoroutine")=false) (hbn:fn.body.isNone=true) (hnx:Extern.findNext fn=none) (hex:Extern.find fn=some (Extern.SlicesOverlaps.overlaps #[tS,tS] #[tR]))
  (htS:c.P.underlying tS=some (.slice el)) (hp:0<tsize c.P el)
  (hv:get e t=.raw (.slice (some ⟨g,0,none⟩) n cp)) (hu:get e u=.sl id off n' cp') (hb:s.getD id .dead=.arr es l) (hl:off+cp'=l.length) (h0:0<cp') (hlone:∀ h ρ w,c.x h ρ w->BrA g h ρ w)
  (hk:AWp c (.ops all os::k) (put e o.dst (.bool false)) s):AWp c (.ops all (o::os)::k) e s:=by
 refine A0D (Q:=fun v s'=>v=.bool false/\s'=s) hN hd hg (fun h ρ a w hm he hx=>?_) ?_
 .refine ⟨_,_,⟨rfl,rfl⟩,AaA hm ?_ (.bool _)⟩
  obtain⟨cur,tt,k1,k2,k3⟩:=hlone h ρ w hx;have e1:a.eval (.tmp t)=.slice (some ⟨g,0,none⟩) n cp:=by
   have:=he t;rw[hv]at this;exact AaT this
  have hso:=AbO hb;have hlf:Lf ρ s (a.tmps.getD u undef) (.sl id off n' cp'):=AbE (by have:=he u; rw[hu]at this; omega);have hlc:=hlf.2;simp only[LfC,hso]at hlc
  rcases hlc.2 hl with⟨_,h6,_⟩|⟨g',tot,h5,hval,h7⟩
  .omega
  rcases hm.own id _ hso with⟨_,hno⟩|⟨g'',tot',cur',ty',h3,h4,h5',h6,h7',h8,_⟩
  .grind
  rw[h3]at h5
  simp at h5
  obtain⟨rfl,rfl⟩:=h5;have hne:g≠g'':=fun hq=>k3 id tot' (by grind)
  have hsz:∀ w,(Go.sizeOf el).run c.P w=.ok (tsize c.P el) w:=fun w=>AbH hp w
  have hcs:cur'.size≠0:=by
   rw[h5'];have:=Nat.mul_pos (show 0<tot' by omega) h8;omega
  have hr:=Lib.run_overlaps_apart w tS tR el htS (tsize c.P el) hsz ⟨g,0,none⟩ ⟨g'',off*es,none⟩ n cp n' (tot'-off) hne tt ty' cur.size cur'.size (by grind[World.shape?]) h4.shape hcs (by grind[World.frozen?]) (by grind[World.frozen?]);have hc:=run_callFunc_extern hf hname hbn hnx hex #[.slice (some ⟨g,0,none⟩) n cp,.slice (some ⟨g'',off*es,none⟩) n' (tot'-off)] w;have e2:a.eval (.tmp u)=.slice (some ⟨g'',off*es,none⟩) n' (tot'-off):=hval;have e3:a.eval (.func f)=.func (.func f) #[] #[]:=rfl
  simp_all[execOp,resolve,Deferred.ofValue,invoke]
 .rintro _ _ ⟨rfl,rfl⟩
  exact hk
end Go.Av
set_option maxRecDepth 100000
set_option maxHeartbeats 4000000
namespace Go.Proofs.YtgenkcmfeeakoaaGreatDoor
open Av RowKit Proofs.Tryz
def insSc(l:List Sc)(k:Nat)(x:Sc):List Sc:=l.take k++x::l.drop k
def XI(g:Nat)(x:Sc)(h:Mem)(ρ:Go.Av.Own)(w:World):Prop:=Fz0 h g 5 [scA x]/\BrA g h ρ w
theorem BtT(g:Nat)(x:Sc):Stb (XI g x):=⟨fun m lt ⟨h1,h2⟩=>⟨((AwD stb0 g 5 [scA x]).later m lt ⟨trivial,h1⟩).2,(AqL g).later m lt h2⟩,fun hq ⟨h1,h2⟩=>⟨h1,(AqL g).fewer hq h2⟩⟩
def InsE(l:List Sc)(k:Nat)(x:Sc)(b0 b1 b2 b3 b5:Blk)(r:AV)(s:LB):Prop :=
 (r=.sl 4 0 (l.length+1) (l.length+1)/\s=[b0,b1,b2,b3,.arr 5 ((insSc l k x).map scA),b5])\/(r=.sl 6 0 (l.length+1) (l.length+1)/\s=[b0,b1,b2,b3,.dead,b5,.arr 5 ((insSc l k x).map scA)])
theorem keyI{g:Nat}{x:Sc}{h:Mem}{ρ:Go.Av.Own}{w:World}{s:LB}(hx:XI g x h ρ w):RV h (Lf ρ s) false (.slice (some ⟨g,0,none⟩) 1 1) (.fz 5 [scA x]):=hx.1.rv (l:=[scA x]) (c:=1) (lad _)
theorem ins_q{A:LA}{j:AV}{k m:Nat}(hk:k<A.length)(hm:m=A.length+1-k):List.take (k+1) (A++[j])++List.take (A.length-k) (List.take m (List.drop k (A++[j])))++List.drop (k+1+(List.take (A.length-k) (List.take m (List.drop k (A++[j])))).length) (A++[j])=A.take (k+1)++A.drop k:=by
 have h4:List.drop (k+1+(A.drop k).length) (A++[j])=[]:=List.drop_of_length_le (by grind)
 grind
theorem B1J{A:LA}{x:AV}{k:Nat}(hk:k<A.length):List.take k (A.take (k+1)++A.drop k)++[x]++List.drop (k+1) (A.take (k+1)++A.drop k)=A.take k++x::A.drop k:=by
 grind
theorem ins_g{A:LA}{x j:AV}{k m:Nat}(hk:k<=A.length)(hm:0<m):List.take k (A.take k++List.replicate m j)++[x]++List.drop (k+1) (A.take k++List.replicate m j)=A.take k++x::List.replicate (m-1) j:=by
 simp_all[List.drop_append]
theorem B1K{A Q:LA}{x j:AV}{k:Nat}(hk:k<=A.length)(hQ:Q=A.take k++x::List.replicate (A.length-k) j):List.take (k+1) Q++List.take (A.length-k) (List.drop k A)++List.drop (k+1+(List.take (A.length-k) (List.drop k A)).length) Q=A.take k++x::A.drop k:=by
 have h4:List.drop (k+1+(A.drop k).length) ((A.take k++[x])++List.replicate (A.length-k) j)=[]:=List.drop_of_length_le (by grind)
 grind
theorem BbL(b0 b1 b2 b3 b5:Blk)(l:List Sc)(x:Sc)(g:Nat)(hl:l.length<=1000) :
  CtX prog (XI g x) 39 [.sl 4 0 l.length l.length,.int .i64 l.length,.raw (.slice (some ⟨g,0,none⟩) 1 1)] [b0,b1,b2,b3,.arr 5 (l.map scA),b5] (InsE l l.length x b0 b1 b2 b3 b5):=by
 have d1:((1:Int)==0)=false:=by decide
 have d2:((l.length:Int)==(l.length:Int))=true:=by simp
 refine A0E (BtT g x) func39 rfl ntmps39 hB39 (by simp) fun h ρ w=>AWp.shift (Shift.tell 2 rfl fun h ρ w hx=>keyI hx) (zgB ?_)
 simp only[go_sem,d1,d2,laa]
 repeat refine aqg ?_
 refine aret [6] rfl (.inl ⟨rfl,?_⟩)
 simp[insSc]
theorem BbM(b0 b1 b2 b3 b5:Blk)(l:List Sc)(x:Sc)(g k:Nat)(hl:l.length<=1000)(hk:k<l.length) :
  CtX prog (XI g x) 39 [.sl 4 0 l.length l.length,.int .i64 k,.raw (.slice (some ⟨g,0,none⟩) 1 1)] [b0,b1,b2,b3,.arr 5 (l.map scA),b5] (InsE l k x b0 b1 b2 b3 b5):=by
 have d1:((1:Int)==0)=false:=by decide
 have d2:((k:Int)==(l.length:Int))=false:=by simp; omega
 have e1:((l.length:Int)+1-0).toNat=l.length+1:=by omega
 have e2:((k:Int)+1).toNat=k+1:=by omega
 have e3:(((l.length+1:Nat):Int)-((k:Int)+1)).toNat=l.length-k:=by omega
 refine A0E (BtT g x) func39 rfl ntmps39 hB39 (by simp) fun h ρ w=>AWp.room (t:=0) rfl rfl (by simp) (by omega) (AaF l) ?_ ?_
 .refine goB rfl 18 ?_
  simp only[go_sem,laa]
  repeat refine aqg ?_
  refine AWp.shift (Shift.tell 13 rfl fun h ρ w hx=>keyI hx) ?_;refine goB rfl 40 ?_;simp only[go_sem,d1,d2,laa]
  repeat refine aqg ?_
  refine goB rfl 9 ?_;simp only[go_sem]
  repeat refine aqg ?_
  refine ByC rfl rfl rfl rfl underlying26 rfl rfl (by simp) (by omega) fun m hm=>?_
  have d3:decide ((l.length:Int)+1>(m:Int))=false:=by rw[lai]; omega
  refine goB rfl 36 ?_;simp only[go_sem,d3,e1,e2,e3,Nat.sub_zero,Nat.add_sub_add_right]
  repeat refine aqg ?_
  refine ByH rfl rfl rfl rfl func85 (by kernel_rfl) (by kernel_rfl) (by kernel_rfl) (tS:=26) (tR:=4) (by kernel_rfl) underlying26 (by rw[ts68]; omega) rfl rfl rfl (by simp; omega) (by omega) (fun h ρ w hx=>hx.2) ?_;refine AWp.shift (Shift.tell 2 rfl fun h ρ w hx=>keyI hx) ?_;apply zgB;simp only[go_sem];refine zr [] AaI ?_;simp only[go_sem,e1,e2,e3,Nat.sub_zero,Nat.add_sub_add_right]
  repeat refine aqg ?_
  have hA:(List.map scA l).length=l.length:=by simp
  have hq:=ins_q (A:=List.map scA l) (j:=junk 5) (k:=k) (m:=(((l.length+1:Nat):Int)-(k:Int)).toNat) (by omega) (by omega);rw[hA]at hq;rw[hq];have hql:((List.map scA l).take (k+1)++(List.map scA l).drop k).length=l.length+1:=by simp; omega
  have hq2:=B1J (A:=List.map scA l) (x:=scA x) (k:=k) (by omega);generalize (List.map scA l).take (k+1)++(List.map scA l).drop k=Q at *;apply zgB;have hx1:List.take (((l.length+1:Nat):Int)-(k:Int)).toNat [scA x]=[scA x]:=laj (by simp; omega);have hx2:([scA x]:LA).length=1:=rfl;simp only[go_sem,e1,e2,e3,Nat.sub_zero,Nat.add_sub_add_right,hql];rw[hx1,hx2,hq2]
  repeat refine aqg ?_
  refine aret [6] rfl (.inl ⟨rfl,?_⟩)
  simp[insSc]
 .intro g' X hX hxx
  have k0:∀ (h:Mem) (ρ:Go.Av.Own) (w:World) (s:LB),X h ρ w->RV h (Lf ρ s) false (.slice (some ⟨g',0,none⟩) l.length l.length) (.fz 5 (l.map scA)):=fun h ρ w s hx=>by
   have:=(hxx h ρ w hx).2.rv (c:=l.length) (Lf:=Lf ρ s) (fl:=false) (by simp)
   simpa using this
  refine AWp.shift (Shift.tell 2 (x:=.fz 5 [scA x]) rfl fun h ρ w hx=>keyI (hxx h ρ w hx).1) ?_;refine goB rfl 11 ?_;simp only[go_sem];refine AWp.shift (Shift.tell 10 (x:=.fz 5 (l.map scA)) rfl fun h ρ w hx=>k0 h ρ w _ hx) ?_;refine goB rfl 28 ?_;simp only[go_sem,d1,d2,laa]
  repeat refine aqg ?_
  refine AWp.shift (Shift.tell 18 (x:=.fz 5 (l.map scA)) rfl fun h ρ w hx=>k0 h ρ w _ hx) ?_;refine goB rfl 28 ?_;simp only[go_sem,d1,d2,laa]
  repeat refine aqg ?_
  refine ByD rfl rfl rfl rfl underlying26 rfl ?_;have d3:decide ((l.length:Int)+1>(l.length:Int))=true:=by rw[lag]; omega
  refine goB rfl 11 ?_;simp only[go_sem,d3];refine ByE rfl rfl rfl rfl underlying26 (by rw[ts68]; omega) rfl rfl (by omega) (by omega) ?_;have e5:(l.length:Int)+1-(k:Int)=((l.length+1-k:Nat):Int):=by omega
  refine goB rfl 10 ?_;simp only[go_sem,e5]
  repeat refine aqg ?_
  refine ByG (l:=l.map scA) rfl rfl rfl rfl underlying26 underlying3 (by rw[ts68]; omega) (by rw[za68,ts68]; rfl) (by rw[za68]; rfl) rfl rfl (by omega) (fun h ρ w hx=>by rw[ts68]; exact(hxx h ρ w hx).2) (by simp; omega) (by omega) (by rw[tb68]; omega) (by omega) ?_;rw[ts68];have e6:k+(l.length+1-k)=l.length+1:=by omega
  refine AWp.shift (Shift.tell 0 (x:=.fz 5 (l.map scA)) rfl fun h ρ w hx=>k0 h ρ w _ hx) ?_;apply zgB;simp only[go_sem,e1,e2,e3,e6,laa];have hA:(List.map scA l).length=l.length:=by simp
  have hx1:List.take (((l.length+1:Nat):Int)-(k:Int)).toNat [scA x]=[scA x]:=laj (by simp; omega);have hx2:([scA x]:LA).length=1:=rfl;have hq:=ins_g (A:=List.map scA l) (x:=scA x) (j:=junk 5) (k:=k) (m:=l.length+1-k) (by omega) (by omega);rw[hx1,hx2,hq,show l.length+1-k-1=l.length-k by omega];have hql:((List.map scA l).take k++scA x::List.replicate (l.length-k) (junk 5)).length=l.length+1:=by simp; omega
  have hq2:=B1K (A:=List.map scA l) (x:=scA x) (j:=junk 5) (k:=k) (by omega) rfl;rw[hA]at hq2
  repeat refine aqg ?_
  generalize (List.map scA l).take k++scA x::List.replicate (l.length-k) (junk 5)=Q at *;refine zr [] AaI ?_;simp only[go_sem,e1,e2,e3,e6,laa,hql,Nat.add_sub_add_right];rw[hq2]
  repeat refine aqg ?_
  apply zgB;simp only[go_sem];refine aret [6] rfl (.inr ⟨rfl,?_⟩)
  simp[insSc]
theorem BbN(b0 b1 b2 b3 b5:Blk)(l:List Sc)(x:Sc)(g k:Nat)(hl:l.length<=1000)(hk:k<=l.length) :
  CtX prog (XI g x) 39 [.sl 4 0 l.length l.length,.int .i64 k,.raw (.slice (some ⟨g,0,none⟩) 1 1)] [b0,b1,b2,b3,.arr 5 (l.map scA),b5] (InsE l k x b0 b1 b2 b3 b5):=by
 by_cases h:k<l.length
 .exact BbM b0 b1 b2 b3 b5 l x g k hl h
 .obtain rfl:k=l.length:=by omega
  exact BbL b0 b1 b2 b3 b5 l x g hl
end Go.Proofs.YtgenkcmfeeakoaaGreatDoor
namespace Go.Av
open RowKit
variable [Tr]
variable {c:Cx}{k:List It}{e:Env}{s:LB}
theorem B1L{κ:Type}{y z:Code}(E:κ->Env)(S:κ->LB)(H:κ->Prop)(rest:∀ x,H x->AWp c k (E x) (S x))
  (step:∀ Q:Act->World->Prop,(∀ x,H x->∀ a w,Sim c (E x) (S x) a w->Q a w)->AWp c (.code y::.code z::.inv Q::k) e s):AWp c (.code y::.code z::k) e s:=by
 intro a w hs;have h1:=step (WQ c k .normal) (fun x hx a w hs=>rest x hx a w hs) a w hs;refine Code.wp_mono (fun en a' w' hq=>?_) (show y.wp c.P (WQ c (.code z::.inv (WQ c k .normal)::k)) a w from h1)
 cases en with
 | normal=>exact Code.wp_mono (fun en a' w' hq=>WQ_mid hq) (show z.wp c.P (WQ c (.inv (WQ c k .normal)::k)) a' w' from hq)
 | _=>exact WQ_mid hq
