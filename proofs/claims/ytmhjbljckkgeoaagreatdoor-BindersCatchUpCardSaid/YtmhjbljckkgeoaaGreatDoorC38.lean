/- Contracts that lean on more than blocks; a slice literal whose row is known; append of. -/
import Derived.Test.YtmhjbljckkgeoaaGreatDoorC37
set_option linter.all false
namespace Go.Av
open RowKit
variable [Tr]
def BmY(g:Nat)(h:Mem)(ρ:Own)(w:World):Prop:=∃ cur t,w.heap[g]? = some (.cells cur t (0,0))/\0<cur.size/\∀ i t',ρ i≠some (g,t')
theorem ApK(g:Nat):Stb (BmY g):=by
 refine⟨fun{h ρ sto w h' ρ' sto' w'} m lt ⟨cur,t,h1,h2,h3⟩=>⟨cur,t,?_,h2,fun i t' e=>?_⟩,fun{h ρ ρ' w} hq ⟨cur,t,h1,h2,h3⟩=>⟨cur,t,h1,h2,fun i t' e=>?_⟩⟩
 .rw [lt.block g (Array.getElem?_eq_some_iff.1 h1).1 h3]; omega
 .rcases lt.newown i g t' e with⟨j,t2,hj⟩|hs<;>grind
 grind
theorem BmZ{x y:Mem->Own->World->Prop}(hx:Stb x)(hy:Stb y):Stb fun h ρ w=>x h ρ w/\y h ρ w :=
 ⟨fun m lt ⟨h1,h2⟩=>⟨hx.later m lt h1,hy.later m lt h2⟩,fun hq ⟨h1,h2⟩=>⟨hx.fewer hq h1,hy.fewer hq h2⟩⟩
def CtX(P:Program)(x:Mem->Own->World->Prop)(f:FuncId)(args:LY)(sto:LB)(post:AV->LB->Prop):Prop :=
 AaA P f=true/\∀ h ρ w vs,x h ρ w->Mine h ρ sto w->RL h (Lf ρ sto) false vs args->Calls P f vs.toArray w fun en w' =>
  ∃ v r s h' ρ',en=.returned v/\post r s/\Mine h' ρ' s w'/\Later h ρ sto w h' ρ' s w'/\RV h' (Lf ρ' s) false v r
theorem AyS{P:Program}{x:Mem->Own->World->Prop}(hX:Stb x){f:FuncId}{fn:Func}{body:Code}{N:Nat}{args:LY}{sto:LB}{post:AV->LB->Prop}(hf:P.funcs[f]? = some fn)(hb:fn.body=some body)(hn:fn.ntmps=N)(hx:AaA P f=true)
  (ha:args.length<=N) (h:∀ h ρ w,AWp ⟨P,fn,h,ρ,sto,w,post,x,hX⟩ [.code body] (args0 0 args) sto):CtX P x f args sto post:=by
 refine⟨hx,fun hh ρ w vs hxx hm hv=>?_⟩;refine calls_of_wp hf hb ?_;have hlen:=hv.length;have hsim:Sim ⟨P,fn,hh,ρ,sto,w,post,x,hX⟩ (args0 0 args) sto { tmps:=vs.toArray++Array.replicate (fn.ntmps-vs.toArray.size) undef,defers:=[] } w:=by
  refine⟨hh,ρ,hm,.refl ..,fun t=>?_,rfl,by grind,hxx⟩;rw[AeZ];simp only[Nat.zero_le,if_true,Nat.sub_zero];have h1:=hv.getD t undef
  by_cases ht:t<vs.length
  .have:(vs.toArray++Array.replicate (fn.ntmps-vs.toArray.size) undef).getD t undef=vs.getD t undef:=by
    simp_all[Array.getElem?_append]
   grind
  .have:args.getD t .any=.any:=by grind
   rw[this]; exact .any _
 have:=h hh ρ w _ w hsim;refine Code.wp_mono ?_ (show body.wp P (WQ ⟨P,fn,hh,ρ,sto,w,post,x,hX⟩ []) _ w from this);intro en a' w' hq
 cases en with
 | normal=>obtain⟨hd,v,r,s,h',ρ',h1,h2⟩:=hq; exact⟨hd,v,h1,v,r,s,h',ρ',rfl,h2⟩
 | ret=>obtain⟨hd,v,r,s,h',ρ',h1,h2⟩:=hq; exact⟨hd,v,h1,v,r,s,h',ρ',rfl,h2⟩
 | _=>exact hq.elim
variable {c:Cx}{k:List It}{e:Env}{s:LB}
theorem BxC{x:Mem->Own->World->Prop}(hxx:∀ h ρ w,c.x h ρ w->x h ρ w){f:FuncId}{args:LY}{d:Option Tmp}{all os:List Oper}{post:AV->LB->Prop}(hc:CtX c.P x f args s post){N:Nat}(hN:c.fn.ntmps=N)(hd:dOk N d=true)
  (hk:∀ r s',post r s'->AWp c (.ops all os::k) (put e d r) s'):AdX c f args d all os k e s:=by
 intro a w h ρ vs hm hl he hdf hsz hX hv;refine⟨hc.1,(hc.2 h ρ w vs (hxx h ρ w hX) hm hv).mono ?_⟩;rintro en w' ⟨v,r,s',h',ρ',rfl,hp,hm',hlt,rv⟩;have he':EnvOk h' ρ' s' e a:=fun t=>(he t).mono hlt.hle hlt.keep
 exact hk r s' hp _ _ ⟨h',ρ',hm',hl.trans hlt,he'.put (by grind) rv,by grind[AaE],by grind[AaO],c.hx.later hm hlt hX⟩
theorem AWp.back{x:Mem->Own->World->Prop}{hx:Stb x}(hxx:∀ h ρ w,x h ρ w->c.x h ρ w)(h:AWp c k e s):AWp { c with x:=x,hx:=hx } k e s:=by
 rintro a w ⟨hh,ρ,hm,hlt,he,hdf,hsz,hX⟩;rw[WQ_y c x hx k];exact h a w ⟨hh,ρ,hm,hlt,he,hdf,hsz,hxx _ _ _ hX⟩
section
variable {h:Mem}{ρ:Own}{sto:LB}{w:World}{P:Program}
theorem BtY{t:TypeId}{len:Nat}{parts:Array (Nat×Operand)}{o:Oper}{e:Env}{a:Act}{el:TypeId}{cs:LY}(ho:o.op=.buildSlice t len parts)(hel:P.underlying t=some (.slice el))(m:Mine h ρ sto w)(he:EnvOk h ρ sto e a)
  (hf:AmN (fun i=>some (i*tsize P el,tsize P el)) (rep (zav P el) len) (evp e parts.toList)=some cs)
  (hc:0<tsize P el/\0<len/\(zav P el).length=tsize P el/\len*tsize P el<=16777216/\(rep (zav P el) len).all one=true/\(isRow (P.underlying el)=false->tsize P el=1)) :
  ∃ cells,(execOp a.eval o).run P w=.ok (.value (.slice (some ⟨w.heap.size,0,none⟩) len len)) (w.alloc (.cells cells el))/\RL h (Lf ρ sto) false cells.toList cs /\
   cs.length=len*tsize P el/\cs.all one=true:=by
 obtain⟨hp1,hp2⟩:=AlX he parts.toList;have hrun:(execOp a.eval o).run P w=((Instr.buildSlice t len (parts.map fun(i,x)=>(i,a.eval x))).run P w).andThen fun v w'=>.ok (.value v) w':=by simp_all[execOp]
 obtain⟨h1,h0,h2,h3,h4,h5⟩:=hc
 cases hi:P.info? el with
 | none=>grind[tsize]
 | some ie =>
  have htz:tsize P el=ie.size:=by grind[tsize]
  cases hz:ie.zero with
  | none=>grind[zav,AdB]
  | some z =>
   have hzl:AdB P el=z.cells.toList:=by grind[AdB]
   have hzs:z.cells.toList.length=ie.size:=by
    grind[zav]
   have hzp:0<z.cells.toList.length:=by omega
   have hzz:=zeros_ok (h:=h) (ρ:=ρ) (sto:=sto) (fl:=false) len hzp;rw[show z.cells.toList.map AdT=zav P el by grind[zav]]at hzz;obtain⟨cells,g1,g2,g3,g4⟩:=AsD hp1 hp2 hzz hf;refine⟨cells,?_,g2,?_,g4 h4⟩
   .rw [hrun,run_buildSlice w t el len _ cells ie z hel hi hz (by grind) (by rw[<- htz]; have:=Nat.mul_pos h0 h1; omega) ?_]
    all_goals simp_all
   grind[rep_len]
end
theorem BfZ{o:Oper}{all os:List Oper}{ty el:TypeId}{len:Nat}{parts:Array (Nat×Operand)}{cs:LY}{N:Nat}(hN:c.fn.ntmps=N)(hd:dOk N o.dst=true)(hg:o.guard=none)(ho:o.op=.buildSlice ty len parts)(hel:c.P.underlying ty=some (.slice el))
  (hf:AmN (fun i=>some (i*tsize c.P el,tsize c.P el)) (rep (zav c.P el) len) (evp e parts.toList)=some cs)
  (hc:0<tsize c.P el/\0<len/\(zav c.P el).length=tsize c.P el/\len*tsize c.P el<=16777216/\(rep (zav c.P el) len).all one=true/\(isRow (c.P.underlying el)=false->tsize c.P el=1)) (hfz:cs.all frozen=true)
  (hk:∀ g (x:Mem->Own->World->Prop) (hx:Stb x),(∀ h ρ w,x h ρ w->(c.x h ρ w/\Fz0 h g (tsize c.P el) (cut (isRow (c.P.underlying el)) (tsize c.P el) len cs))/\BmY g h ρ w) ->
   AWp { c with x:=x,hx:=hx } (.ops all os::k) (put e o.dst (.raw (.slice (some ⟨g,0,none⟩) len len))) s):AWp c (.ops all (o::os)::k) e s:=by
 rintro a w ⟨hh,ρ,hm,hl,he,hdf,hsz,hX⟩;obtain⟨cells,g1,g2,g3,g4⟩:=BtY ho hel hm he hf hc;have hm':=hm.freezeNew cells.toList el (AfK g2 g4);have hr:isRow (c.P.underlying el)=false->tsize c.P el=1:=hc.2.2.2.2.2;have hfl:flat (cut (isRow (c.P.underlying el)) (tsize c.P el) len cs)=cs:=AlY g3 hr g4;have hst:=BmZ (AuQ c.hx w.heap.size (tsize c.P el) (cut (isRow (c.P.underlying el)) (tsize c.P el) len cs)) (ApK w.heap.size)
 show wpList c.P all.toArray (WQ c k) (o::os) a w
 unfold wpList;rw[if_pos (by grind[Region.wanted])];refine .inl ?_;unfold Oper.wp;rw[g1]
 show WQ c (.ops all os::k) .normal (a.put o.dst (.slice (some ⟨w.heap.size,0,none⟩) len len)) (w.alloc (.cells cells el))
 rw[<- WQ_y c _ hst (.ops all os::k)];have he':EnvOk (Mem.add hh w.heap.size cells.toList) ρ s e a:=fun t=>(he t).mono hm'.2.hle hm'.2.keep
 refine hk w.heap.size _ hst (fun _ _ _ x=>x) _ _ ⟨_,_,hm'.1,hl.trans hm'.2,he'.put (by grind) (.raw _),by grind[AaE],by grind[AaO],⟨c.hx.later hm hm'.2 hX,cells.toList,?_,AiO g3 hr g4,fun k v hk=>?_⟩,cells,el,heap_alloc_new w _,?_,fun i t' e=>?_⟩
 .rw [hfl]; exact(AdV g2 hfz).thaw hm'.2.hle
 .grind[Mem.add]
 .have:=g2.length
  simp_all
 .have:=hm.lt e
  omega
theorem BtZ{o:Oper}{all os:List Oper}{ty tn el:TypeId}{kn:IntKind}{t u:Tmp}{g cp i kk:Nat}{l:LY}{N:Nat}(hN:c.fn.ntmps=N)(hd:dOk N o.dst=true)(hg:o.guard=none)
  (ho:o.op=.call { callee:=.builtin .append,args:=#[.tmp t,.tmp u],argTypes:=#[ty,tn] }) (hu:c.P.underlying ty=some (.slice el)) (htn:c.P.underlying tn=some (.int kn))
  (hp:0<tsize c.P el) (hz:(zav c.P el).length=tsize c.P el) (hone:(zav c.P el).all one=true)
  (hv:get e t=.raw (.slice (some ⟨g,0,none⟩) i cp)) (hi:get e u=.int .i64 kk) (hk0:0<kk) (hfz:∀ h ρ w,c.x h ρ w->Fz0 h g (tsize c.P el) l) (hil:i<=l.length) (hgrow:cp<i+kk)
  (hb:(i+kk)*AbB c.P el<=140737488355328) (hm63:i+kk<=9223372036854775807)
  (hk:AWp c (.ops all os::k) (put e o.dst (.sl s.length 0 (i+kk) (i+kk))) (s++[.arr (tsize c.P el) (l.take i++List.replicate kk (junk (tsize c.P el)))])):AWp c (.ops all (o::os)::k) e s:=by
 refine AyR (Q:=fun v s'=>v=.sl s.length 0 (i+kk) (i+kk)/\s'=s++[.arr (tsize c.P el) (l.take i++List.replicate kk (junk (tsize c.P el)))]) hN hd hg (fun h ρ a w hm he hx=>?_) ?_
 .obtain ⟨vs,h1,h2,h3⟩:=hfz h ρ w hx
  obtain⟨i0,z,hi0,his,hib,hiz,hzc,hzs⟩:=AfU hp hz;have hvl:vs.length=l.length*tsize c.P el:=by rw[h1.length,AaP h2]
  have hil':i*tsize c.P el<=l.length*tsize c.P el:=lbg _ hil;have hold:(Builtin.firstCells i0.size i (.slice (some ⟨g,0,none⟩) i cp)).run c.P w.drew=.ok (vs.take (i*tsize c.P el)).toArray w.drew:=by
   rw[his];refine firstCells_at (by omega) fun j v hj=>?_
   rw[lay];exact(Same.drew w).cell (hm.mem g j v (h3 j v hj)).1
  have hr:=Lib.run_append_grow_zeros w ty tn o.type el i0 z .i64 kn hu htn hi0 hiz (some ⟨g,0,none⟩) i cp _ hold kk hk0 (by omega) hgrow (by omega) (by
   grind) (by simp_all[growslice_fits])
  have hge:=grownCap_ge w (i+kk) cp el;have hcm:grownCap w (i+kk) cp el<=maxLen:=grownCap_le_maxLen w (i+kk) cp el (by grind[maxLen]);generalize grownCap w (i+kk) cp el=tot at *;have hone0:∀ k,∀ v∈(Builtin.zeroCells z.cells k).toList,v.oneCell'=true:=by
   intro k;refine A0E ?_ (by omega) k;intro u hu;rw[<- hzc]at hu;have hr:RL (fun _ _=>none) (Lf (fun _=>none) []) false (AdB c.P el) (zav c.P el):=consts_ok _
   grind[AfK]
  have hlen:∀ k,(Builtin.zeroCells z.cells k).toList.length=k*tsize c.P el:=by grind[Builtin.zeroCells]
  have hol:(vs.take (i*tsize c.P el)).length=i*tsize c.P el:=by grind
  have e1:a.eval (.tmp t)=.slice (some ⟨g,0,none⟩) i cp:=by
   have:=he t;rw[hv]at this;exact inv_raw this
  have e2:a.eval (.tmp u)=.int .i64 kk:=by
   have:=he u;rw[hi]at this;exact AaW this
  have hrun:(execOp a.eval o).run c.P w=((Builtin.append_ #[ty,tn] o.type #[a.eval (.tmp t),a.eval (.tmp u)]).run c.P w).andThen fun v w'=>.ok (.value v) w':=by
   simp_all[execOp,resolve,invoke,builtin]
  rw[e1,e2,hr]at hrun;have m0:=hm.same (Same.drew w);have hm':=m0.push (.cells ((vs.take (i*tsize c.P el)).toArray++Builtin.zeroCells z.cells kk++Builtin.zeroCells z.cells (tot-(i+kk))) el) (.arr (tsize c.P el) (l.take i++List.replicate kk (junk (tsize c.P el)))) (some tot) (by
   have hL:(l.take i++List.replicate kk (junk (tsize c.P el))).length=i+kk:=by grind
   refine .inr ⟨w.heap.size,tot,_,el,by simp[upd],.of (heap_alloc_new w.drew _),?_,by omega,hcm,hp,?_,?_,?_⟩
   .have g1:=hlen kk
    have g2:=hlen (tot-(i+kk))
    simp at g1 g2
    rw[Array.size_append,Array.size_append,List.size_toArray,g1,g2,hol,<- Nat.add_mul,<- Nat.add_mul]
    grind
   .grind[junk,cellsOf]
   .intro v hv
    simp only[Array.toList_append,lbq]at hv
    rcases hv with(hv|hv)|hv
    .obtain ⟨j,hj,rfl⟩:=List.mem_iff_getElem.1 (lat hv)
     exact(hm.mem g j _ (h3 j _ (by grind))).2
    all_goals grind
   .rw [hL,flat_append,ApJ]
    simp
    have e3:(i+kk)*tsize c.P el=(vs.take (i*tsize c.P el)).length+(Builtin.zeroCells z.cells kk).toList.length:=by grind
    rw[e3,List.take_length_add_append,List.take_left,<- hlen kk];have e4:=AbK h2 i;refine RL.append ?_ (BfX _);rw[<- e4];exact(h1.thaw (fun _ _ _ x=>x)).take _)
  refine⟨_,_,⟨rfl,rfl⟩,_,_,_,_,.inl hrun,hm'.1,(Later.same (Same.drew w)).trans hm'.2,.leaf ⟨rfl,?_⟩⟩
  simp_all[LfC,upd]
 .rintro _ _ ⟨rfl,rfl⟩
  exact hk
theorem BuA{o:Oper}{all os:List Oper}{f:FuncId}{fn:Func}{ats:Array TypeId}{tS tR el:TypeId}{t u:Tmp}{g n cp id off n' cp' es:Nat}{l:LY}{N:Nat}(hN:c.fn.ntmps=N)(hd:dOk N o.dst=true)(hg:o.guard=none)
  (ho:o.op=.call { callee:=.value (.func f),args:=#[.tmp t,.tmp u],argTypes:=ats })
  (hf:c.P.funcs[f]? = some fn) (hname:(fn.name == "runtime.NumGoroutine")=false) (hbn:fn.body.isNone=true) (hnx:Extern.findNext fn=none) (hex:Extern.find fn=some (Extern.SlicesOverlaps.overlaps #[tS,tS] #[tR]))
  (htS:c.P.underlying tS=some (.slice el)) (hp:0<tsize c.P el)
  (hv:get e t=.raw (.slice (some ⟨g,0,none⟩) n cp)) (hu:get e u=.sl id off n' cp') (hb:s.getD id .dead=.arr es l) (hl:off+cp'=l.length) (h0:0<cp') (hlone:∀ h ρ w,c.x h ρ w->BmY g h ρ w)
  (hk:AWp c (.ops all os::k) (put e o.dst (.bool false)) s):AWp c (.ops all (o::os)::k) e s:=by
 refine AyR (Q:=fun v s'=>v=.bool false/\s'=s) hN hd hg (fun h ρ a w hm he hx=>?_) ?_
 .refine ⟨_,_,⟨rfl,rfl⟩,AaB hm ?_ (.bool _)⟩
  obtain⟨cur,tt,k1,k2,k3⟩:=hlone h ρ w hx;have e1:a.eval (.tmp t)=.slice (some ⟨g,0,none⟩) n cp:=by
   have:=he t;rw[hv]at this;exact inv_raw this
  have hso:=AcO hb;have hlf:Lf ρ s (a.tmps.getD u undef) (.sl id off n' cp'):=AbL (by have:=he u; rw[hu]at this; omega);have hlc:=hlf.2;simp only[LfC,hso]at hlc
  rcases hlc.2 hl with⟨_,h6,_⟩|⟨g',tot,h5,hval,h7⟩
  .omega
  rcases hm.own id _ hso with⟨_,hno⟩|⟨g'',tot',cur',ty',h3,h4,h5',h6,h7',h8,_⟩
  .grind
  rw[h3]at h5
  simp at h5
  obtain⟨rfl,rfl⟩:=h5;have hne:g≠g'':=fun hq=>k3 id tot' (by grind)
  have hsz:∀ w,(Go.sizeOf el).run c.P w=.ok (tsize c.P el) w:=fun w=>AbJ hp w
  have hcs:cur'.size≠0:=by
   rw[h5'];have:=Nat.mul_pos (show 0<tot' by omega) h8;omega
  have hr:=Lib.run_overlaps_apart w tS tR el htS (tsize c.P el) hsz ⟨g,0,none⟩ ⟨g'',off*es,none⟩ n cp n' (tot'-off) hne tt ty' cur.size cur'.size (by grind[World.shape?]) h4.shape hcs (by grind[World.frozen?]) (by grind[World.frozen?]);have hc:=run_callFunc_extern hf hname hbn hnx hex #[.slice (some ⟨g,0,none⟩) n cp,.slice (some ⟨g'',off*es,none⟩) n' (tot'-off)] w;have e2:a.eval (.tmp u)=.slice (some ⟨g'',off*es,none⟩) n' (tot'-off):=hval;have e3:a.eval (.func f)=.func (.func f) #[] #[]:=rfl
  simp_all[execOp,resolve,Deferred.ofValue,invoke]
 .rintro _ _ ⟨rfl,rfl⟩
  exact hk
end Go.Av
set_option maxRecDepth 100000
set_option maxHeartbeats 4000000
namespace Go.Proofs.YtmhjbljckkgeoaaGreatDoor
open Av RowKit Proofs.Tryz
def insSc(l:List Sc)(k:Nat)(x:Sc):List Sc:=l.take k++x::l.drop k
def XI(g:Nat)(x:Sc)(h:Mem)(ρ:Go.Av.Own)(w:World):Prop:=Fz0 h g 5 [scA x]/\BmY g h ρ w
theorem BpQ(g:Nat)(x:Sc):Stb (XI g x):=⟨fun m lt ⟨h1,h2⟩=>⟨((AuQ stb0 g 5 [scA x]).later m lt ⟨trivial,h1⟩).2,(ApK g).later m lt h2⟩,fun hq ⟨h1,h2⟩=>⟨h1,(ApK g).fewer hq h2⟩⟩
def InsE(l:List Sc)(k:Nat)(x:Sc)(b0 b1 b2 b3 b5:Blk)(r:AV)(s:LB):Prop :=
 (r=.sl 4 0 (l.length+1) (l.length+1)/\s=[b0,b1,b2,b3,.arr 5 ((insSc l k x).map scA),b5])\/(r=.sl 6 0 (l.length+1) (l.length+1)/\s=[b0,b1,b2,b3,.dead,b5,.arr 5 ((insSc l k x).map scA)])
theorem keyI{g:Nat}{x:Sc}{h:Mem}{ρ:Go.Av.Own}{w:World}{s:LB}(hx:XI g x h ρ w):RV h (Lf ρ s) false (.slice (some ⟨g,0,none⟩) 1 1) (.fz 5 [scA x]):=hx.1.rv (l:=[scA x]) (c:=1) (lab _)
theorem ins_q{A:LY}{j:AV}{k m:Nat}(hk:k<A.length)(hm:m=A.length+1-k):List.take (k+1) (A++[j])++List.take (A.length-k) (List.take m (List.drop k (A++[j])))++List.drop (k+1+(List.take (A.length-k) (List.take m (List.drop k (A++[j])))).length) (A++[j])=A.take (k+1)++A.drop k:=by
 have h4:List.drop (k+1+(A.drop k).length) (A++[j])=[]:=List.drop_of_length_le (by grind)
 grind
theorem BxD{A:LY}{x:AV}{k:Nat}(hk:k<A.length):List.take k (A.take (k+1)++A.drop k)++[x]++List.drop (k+1) (A.take (k+1)++A.drop k)=A.take k++x::A.drop k:=by
 grind
theorem ins_g{A:LY}{x j:AV}{k m:Nat}(hk:k<=A.length)(hm:0<m):List.take k (A.take k++List.replicate m j)++[x]++List.drop (k+1) (A.take k++List.replicate m j)=A.take k++x::List.replicate (m-1) j:=by
 simp_all[List.drop_append]
theorem BxE{A Q:LY}{x j:AV}{k:Nat}(hk:k<=A.length)(hQ:Q=A.take k++x::List.replicate (A.length-k) j):List.take (k+1) Q++List.take (A.length-k) (List.drop k A)++List.drop (k+1+(List.take (A.length-k) (List.drop k A)).length) Q=A.take k++x::A.drop k:=by
 have h4:List.drop (k+1+(A.drop k).length) ((A.take k++[x])++List.replicate (A.length-k) j)=[]:=List.drop_of_length_le (by grind)
 grind
theorem A8W(b0 b1 b2 b3 b5:Blk)(l:List Sc)(x:Sc)(g:Nat)(hl:l.length<=1000) :
  CtX prog (XI g x) 46 [.sl 4 0 l.length l.length,.int .i64 l.length,.raw (.slice (some ⟨g,0,none⟩) 1 1)] [b0,b1,b2,b3,.arr 5 (l.map scA),b5] (InsE l l.length x b0 b1 b2 b3 b5):=by
 have d1:((1:Int)==0)=false:=by decide
 have d2:((l.length:Int)==(l.length:Int))=true:=by simp
 refine AyS (BpQ g x) func46 rfl ntmps46 hB46 (by simp) fun h ρ w=>AWp.shift (Shift.tell 2 rfl fun h ρ w hx=>keyI hx) (zgB ?_)
 simp only[go_sem,d1,d2,laa]
 repeat refine aqb ?_
 refine aret [6] rfl (.inl ⟨rfl,?_⟩)
 simp[insSc]
theorem insert_mid(b0 b1 b2 b3 b5:Blk)(l:List Sc)(x:Sc)(g k:Nat)(hl:l.length<=1000)(hk:k<l.length) :
  CtX prog (XI g x) 46 [.sl 4 0 l.length l.length,.int .i64 k,.raw (.slice (some ⟨g,0,none⟩) 1 1)] [b0,b1,b2,b3,.arr 5 (l.map scA),b5] (InsE l k x b0 b1 b2 b3 b5):=by
 have d1:((1:Int)==0)=false:=by decide
 have d2:((k:Int)==(l.length:Int))=false:=by simp; omega
 have e1:((l.length:Int)+1-0).toNat=l.length+1:=by omega
 have e2:((k:Int)+1).toNat=k+1:=by omega
 have e3:(((l.length+1:Nat):Int)-((k:Int)+1)).toNat=l.length-k:=by omega
 refine AyS (BpQ g x) func46 rfl ntmps46 hB46 (by simp) fun h ρ w=>AWp.room (t:=0) rfl rfl (by simp) (by omega) (AaG l) ?_ ?_
 .refine goB rfl 18 ?_
  simp only[go_sem,laa]
  repeat refine aqb ?_
  refine AWp.shift (Shift.tell 13 rfl fun h ρ w hx=>keyI hx) ?_;refine goB rfl 40 ?_;simp only[go_sem,d1,d2,laa]
  repeat refine aqb ?_
  refine goB rfl 9 ?_;simp only[go_sem]
  repeat refine aqb ?_
  refine BtV rfl rfl rfl rfl underlying28 rfl rfl (by simp) (by omega) fun m hm=>?_
  have d3:decide ((l.length:Int)+1>(m:Int))=false:=by rw[lai]; omega
  refine goB rfl 36 ?_;simp only[go_sem,d3,e1,e2,e3,Nat.sub_zero,Nat.add_sub_add_right]
  repeat refine aqb ?_
  refine BuA rfl rfl rfl rfl func93 (by kernel_rfl) (by kernel_rfl) (by kernel_rfl) (tS:=28) (tR:=4) (by kernel_rfl) underlying28 (by rw[ts83]; omega) rfl rfl rfl (by simp; omega) (by omega) (fun h ρ w hx=>hx.2) ?_;refine AWp.shift (Shift.tell 2 rfl fun h ρ w hx=>keyI hx) ?_;apply zgB;simp only[go_sem];refine zr [] AaF ?_;simp only[go_sem,e1,e2,e3,Nat.sub_zero,Nat.add_sub_add_right]
  repeat refine aqb ?_
  have hA:(List.map scA l).length=l.length:=by simp
  have hq:=ins_q (A:=List.map scA l) (j:=junk 5) (k:=k) (m:=(((l.length+1:Nat):Int)-(k:Int)).toNat) (by omega) (by omega);rw[hA]at hq;rw[hq];have hql:((List.map scA l).take (k+1)++(List.map scA l).drop k).length=l.length+1:=by simp; omega
  have hq2:=BxD (A:=List.map scA l) (x:=scA x) (k:=k) (by omega);generalize (List.map scA l).take (k+1)++(List.map scA l).drop k=Q at *;apply zgB;have hx1:List.take (((l.length+1:Nat):Int)-(k:Int)).toNat [scA x]=[scA x]:=lae (by simp; omega);have hx2:([scA x]:LY).length=1:=rfl;simp only[go_sem,e1,e2,e3,Nat.sub_zero,Nat.add_sub_add_right,hql];rw[hx1,hx2,hq2]
  repeat refine aqb ?_
  refine aret [6] rfl (.inl ⟨rfl,?_⟩)
  simp[insSc]
 .intro g' X hX hxx
  have k0:∀ (h:Mem) (ρ:Go.Av.Own) (w:World) (s:LB),X h ρ w->RV h (Lf ρ s) false (.slice (some ⟨g',0,none⟩) l.length l.length) (.fz 5 (l.map scA)):=fun h ρ w s hx=>by
   have:=(hxx h ρ w hx).2.rv (c:=l.length) (Lf:=Lf ρ s) (fl:=false) (by simp)
   simpa using this
  refine AWp.shift (Shift.tell 2 (x:=.fz 5 [scA x]) rfl fun h ρ w hx=>keyI (hxx h ρ w hx).1) ?_;refine goB rfl 11 ?_;simp only[go_sem];refine AWp.shift (Shift.tell 10 (x:=.fz 5 (l.map scA)) rfl fun h ρ w hx=>k0 h ρ w _ hx) ?_;refine goB rfl 28 ?_;simp only[go_sem,d1,d2,laa]
  repeat refine aqb ?_
  refine AWp.shift (Shift.tell 18 (x:=.fz 5 (l.map scA)) rfl fun h ρ w hx=>k0 h ρ w _ hx) ?_;refine goB rfl 28 ?_;simp only[go_sem,d1,d2,laa]
  repeat refine aqb ?_
  refine BtW rfl rfl rfl rfl underlying28 rfl ?_;have d3:decide ((l.length:Int)+1>(l.length:Int))=true:=by rw[laj]; omega
  refine goB rfl 11 ?_;simp only[go_sem,d3];refine BtX rfl rfl rfl rfl underlying28 (by rw[ts83]; omega) rfl rfl (by omega) (by omega) ?_;have e5:(l.length:Int)+1-(k:Int)=((l.length+1-k:Nat):Int):=by omega
  refine goB rfl 10 ?_;simp only[go_sem,e5]
  repeat refine aqb ?_
  refine BtZ (l:=l.map scA) rfl rfl rfl rfl underlying28 underlying3 (by rw[ts83]; omega) (by rw[za83,ts83]; rfl) (by rw[za83]; rfl) rfl rfl (by omega) (fun h ρ w hx=>by rw[ts83]; exact(hxx h ρ w hx).2) (by simp; omega) (by omega) (by rw[tb83]; omega) (by omega) ?_;rw[ts83];have e6:k+(l.length+1-k)=l.length+1:=by omega
  refine AWp.shift (Shift.tell 0 (x:=.fz 5 (l.map scA)) rfl fun h ρ w hx=>k0 h ρ w _ hx) ?_;apply zgB;simp only[go_sem,e1,e2,e3,e6,laa];have hA:(List.map scA l).length=l.length:=by simp
  have hx1:List.take (((l.length+1:Nat):Int)-(k:Int)).toNat [scA x]=[scA x]:=lae (by simp; omega);have hx2:([scA x]:LY).length=1:=rfl;have hq:=ins_g (A:=List.map scA l) (x:=scA x) (j:=junk 5) (k:=k) (m:=l.length+1-k) (by omega) (by omega);rw[hx1,hx2,hq,show l.length+1-k-1=l.length-k by omega];have hql:((List.map scA l).take k++scA x::List.replicate (l.length-k) (junk 5)).length=l.length+1:=by simp; omega
  have hq2:=BxE (A:=List.map scA l) (x:=scA x) (j:=junk 5) (k:=k) (by omega) rfl;rw[hA]at hq2
  repeat refine aqb ?_
  generalize (List.map scA l).take k++scA x::List.replicate (l.length-k) (junk 5)=Q at *;refine zr [] AaF ?_;simp only[go_sem,e1,e2,e3,e6,laa,hql,Nat.add_sub_add_right];rw[hq2]
  repeat refine aqb ?_
  apply zgB;simp only[go_sem];refine aret [6] rfl (.inr ⟨rfl,?_⟩)
  simp[insSc]
theorem A8X(b0 b1 b2 b3 b5:Blk)(l:List Sc)(x:Sc)(g k:Nat)(hl:l.length<=1000)(hk:k<=l.length) :
  CtX prog (XI g x) 46 [.sl 4 0 l.length l.length,.int .i64 k,.raw (.slice (some ⟨g,0,none⟩) 1 1)] [b0,b1,b2,b3,.arr 5 (l.map scA),b5] (InsE l k x b0 b1 b2 b3 b5):=by
 grind[insert_mid,A8W]
end Go.Proofs.YtmhjbljckkgeoaaGreatDoor
namespace Go.Av
open RowKit
variable [Tr]
variable {c:Cx}{k:List It}{e:Env}{s:LB}
theorem amid2{κ:Type}{y z:Code}(E:κ->Env)(S:κ->LB)(H:κ->Prop)(rest:∀ x,H x->AWp c k (E x) (S x))
  (step:∀ Q:Act->World->Prop,(∀ x,H x->∀ a w,Sim c (E x) (S x) a w->Q a w)->AWp c (.code y::.code z::.inv Q::k) e s):AWp c (.code y::.code z::k) e s:=by
 intro a w hs;have h1:=step (WQ c k .normal) (fun x hx a w hs=>rest x hx a w hs) a w hs;refine Code.wp_mono (fun en a' w' hq=>?_) (show y.wp c.P (WQ c (.code z::.inv (WQ c k .normal)::k)) a w from h1)
 cases en with
 | normal=>exact Code.wp_mono (fun en a' w' hq=>WQ_mid hq) (show z.wp c.P (WQ c (.inv (WQ c k .normal)::k)) a' w' from hq)
 | _=>exact WQ_mid hq
