/- A range over a function: the rule, for a caller whose body is walked in plain data; the. -/
import Derived.Test.YtmhjbljckkgeoaaGreatDoorC22
import Derived.RangeFuncLeaves
import Derived.RangeFuncOwn
import Derived.Shelf.SlSortCmp.NoneTotal
set_option linter.all false
namespace Go.Av
open RowKit
variable [Tr]
section
variable {h h' h0:Mem}{ρ ρ' ρ0:Own}{s s' s0:LB}{w w' w0:World}
theorem A1B{l b o:Nat}{x:Obj}(hb:b≠l):(w.putObj l x).cell? ⟨b,o,none⟩=w.cell? ⟨b,o,none⟩ :=
 World.cell?_of_block (World.putObj_heap_other hb)
theorem Mine.putObj(m:Mine h ρ s w){l:Nat}{o x:Obj}(hl:w.heap[l]? = some o)(hc:o.isCells=false)(hn:∀ i t,ρ i≠some (l,t)):Mine h ρ s (w.putObj l x):=by
 refine⟨fun b i v e=>?_,fun id blk e=>?_,m.out,m.inj,m.disj⟩
 .have h1:=m.mem b i v e
  grind[World.cell?,Obj.isCells,A1B]
 .exact (m.own id blk e).mono (fun _ _ _ x=>x) (fun _ _ x=>x) rfl fun g t hg=>World.putObj_heap_other fun e=>hn id t (by grind)
theorem Later.putNew(L:Later h0 ρ0 s0 w0 h ρ s w){l:Nat}{x:Obj}(hl:w0.heap.size<=l):Later h0 ρ0 s0 w0 h ρ s (w.putObj l x) :=
 ⟨L.hle,L.hnew,L.keep,L.os,L.tape,⟨L.output.1,Tr.trans L.output.2 (Tr.same rfl)⟩,by rw[World.putObj_size]; exact L.size,fun k hk hn=>(World.putObj_heap_other (by omega)).trans (L.block k hk hn),L.newown⟩
theorem Later.around{l:Nat}{o1 o2:Obj}(hl:w.heap[l]? = some o1)(L:Later h ρ s (w.putObj l o2) h' ρ' s' w'):Later h ρ s w h' ρ' s' (w'.putObj l o1):=by
 have hsz:=L.size;refine⟨L.hle,fun b o a e=>by have:=L.hnew b o a e; simp_all,L.keep,L.os,L.tape,⟨L.output.1,Tr.trans (Tr.same (w':=w.putObj l o2) rfl) (Tr.trans L.output.2 (Tr.same rfl))⟩,by simp_all,fun k hk hn=>?_,fun i g t e=>by have:=L.newown i g t e; simp_all⟩
 by_cases hkl:k=l
 .grind[World.putObj_heap_same]
 .rw [World.putObj_heap_other hkl,L.block k (by simp_all) hn,World.putObj_heap_other hkl]
end
theorem Lu{c:Cx}{e e':Env}{s s':LB}(h:wk e e')(hs:s=s'):Shift c e s e' s':=hs▸Ls h
def XB(l:List (Nat×Obj)):Mem->Own->World->Prop:=fun _ ρ w=>∀ p∈l,w.heap[p.1]? = some p.2/\∀ i t,ρ i≠some (p.1,t)
theorem stbB(l:List (Nat×Obj)):Stb (XB l) where
 later:=fun{h ρ sto w h' ρ' sto' w'} _ L x p hp=>by
  obtain⟨h1,h2⟩:=x p hp;have hlt:p.1<w.heap.size:=(Array.getElem?_eq_some_iff.1 h1).1;refine⟨(L.block p.1 hlt h2).trans h1,fun i t e=>?_⟩
  rcases L.newown i p.1 t e with⟨j,t',hj⟩|hs<;>grind
 fewer:=fun hf x p hp=>by
  obtain⟨h1,h2⟩:=x p hp
  grind
def DfO(Ds:List Nat):List (Nat×Obj):=Ds.map fun D=>(D,.deferred (some []))
def dfs(Ds:List Nat):List Deferred:=Ds.map fun D=>{ target:=.collected D,args:=#[] }
def outM(P:Program)(fn:Func)(h:Mem)(ρ:Own)(sto:LB)(w:World)(post:AV->LB->Prop):Exit->Act->World->Prop :=
 bodyPostM Fence.wide 0 P fn fun en w'=>∃ v r s h' ρ',en=.returned v/\post r s/\Mine h' ρ' s w'/\Later h ρ sto w h' ρ' s w'/\RV h' (Lf ρ' s) false v r
@[reducible] def mkM (P:Program) (fn:Func) (h:Mem) (ρ:Own) (sto:LB) (w:World) (post:AV->LB->Prop) (Ds:List Nat):Cr :=
 ⟨⟨P,fn,h,ρ,sto,w,post,XB (DfO Ds),stbB _⟩,none,dfs Ds,outM P fn h ρ sto w post⟩
@[reducible] def mkL (P:Program) (fn:Func) (h:Mem) (ρ:Own) (sto:LB) (w:World) (l:List (Nat×Obj)) (id:Nat):Cr :=
 ⟨⟨P,fn,h,ρ,sto,w,fun _ _=>True,XB l,stbB l⟩,some id,[],fun _ _ _=>False⟩
def ItC{σ:Type}(P:Program)(g:Std)(gf:FuncId)(lb xs:LY)(S:Nat->σ->LB)(q0:σ):Prop :=
 AaA P gf=true/\∀ (l:Nat) (X:Mem->Own->World->Prop) (hX:Stb X) (h:Mem) (ρ:Own) (w:World) (vs:List Value),Le g w ρ->Mine h ρ (S 0 q0) w->RL h (Lf ρ (S 0 q0)) false vs lb->X h ρ w ->
  (∀ j q x h1 ρ1 w1 v,xs[j]? = some x->Later h ρ (S 0 q0) w h1 ρ1 (S j q) w1->Mine h1 ρ1 (S j q) w1->X h1 ρ1 w1->RV h1 (Lf ρ1 (S j q)) false v x ->
   YieldAt Fence.wide 0 P l #[v] w1 fun en w'=>en=.returned (.bool true)/\∃ h' ρ',Mine h' ρ' (S (j+1) q) w'/\Later h1 ρ1 (S j q) w1 h' ρ' (S (j+1) q) w'/\X h' ρ' w') ->
  CallsIn Fence.wide 0 P gf (#[.func (.yield l) #[] #[]]++vs.toArray) w fun en w'=>(∃ v,en=.returned v)/\∃ q h' ρ',Mine h' ρ' (S xs.length q) w'/\Later h ρ (S 0 q0) w h' ρ' (S xs.length q) w'/\X h' ρ' w'
theorem AiA{P:Program}{f:FuncId}(hb:AaA P f=true)(args:Array Value)(w:World):(callFunc f args).run P w=.ok (.enter f args) w:=by
 unfold AaA at hb
 cases hq:P.funcs[f]? with
 | none=>grind
 | some fn =>
  have h4:fn.body.isNone=false:=by simp_all
  grind[callFunc,Sem.run_bind,run_program,Result.andThen_ok,Sem.run_pure]
theorem BcU{r:Cr}{c:Code}{J:Act->World->Prop}{a:Act}{w:World}{Q:Exit->Act->World->Prop}(h:WQr r [.code c,.inv J] .normal a w)(hout:∀ e a w,¬ r.out e a w)(hJ:∀ a w,J a w->Q .normal a w):c.wpIn r.F 0 r.c.P Q a w :=
 Code.wpIn_mono (fun en a' w' hq=>by
  cases en with
  | normal=>exact hJ _ _ hq
  | ret=>exact(hout _ _ _ hq).elim
  | exit id=>exact(hout _ _ _ hq).elim
  | goto l=>exact(hout _ _ _ hq).elim
  | panic ch=>exact(hout _ _ _ hq).elim
  | outgrown=>exact(hout _ _ _ hq).elim) (show c.wpIn r.F 0 r.c.P (WQr r [.inv J]) a w from h)
theorem BwC{σ:Type}{P:Program}{fn:Func}{h0:Mem}{ρ0:Own}{sto0:LB}{w0:World}{post:AV->LB->Prop}{Ds:List Nat}{g:Operand}{p:Tmp}{assign body:Code}{k:List It}{e:Env}{s:LB}{gf:FuncId}{lb xs:LY}
  {S:Nat->σ->LB} {q0:σ} {gs:Std} (hg:Le gs w0 ρ0) (he:ev e g=.fn (.func gf) lb) (hs:s=S 0 q0) (hit:ItC P gs gf lb xs S q0) (hp:p<fn.ntmps) (E1:Nat->Env)
  (hassign:∀ j q x h ρ w l id J,xs[j]? = some x->Le gs w ρ->(∀ a w',SimR (mkL P fn h ρ (S j q) w l id) (E1 j) (S j q) a w'->J a w')->AWpR (mkL P fn h ρ (S j q) w l id) [.code assign,.inv J] (put e (some p) x) (S j q))
  (hbody:∀ j q x h ρ w l id J,xs[j]? = some x->Le gs w ρ->(∀ a w',SimR (mkL P fn h ρ (S j q) w l id) [] (S (j+1) q) a w'->J a w')->AWpR (mkL P fn h ρ (S j q) w l id) [.code body,.inv J] (E1 j) (S j q))
  (hdone:∀ D q,w0.heap.size<=D->AWpR (mkM P fn h0 ρ0 sto0 w0 post (D::Ds)) k e (S xs.length q)):AWpR (mkM P fn h0 ρ0 sto0 w0 post Ds) (.code (.rangeFunc g #[p] assign body)::k) e s:=by
 subst hs;intro a w hsim;obtain⟨h,ρ,hm,hl,hen,hdf,hsz,hX⟩:=hsim;have hgv:=AaS hen g;rw[he]at hgv;obtain⟨vs,hvs,rvs⟩:∃ vs,a.eval g=.func (.func gf) #[] vs.toArray/\RL h (Lf ρ (S 0 q0)) false vs lb:=by
  generalize a.eval g=v at hgv
  cases hgv with
  | fn f vs l r=>grind
  | leaf lf=>exact lf.2.elim
 have hlw:Le gs w ρ:=hg.later hl;refine wpIn_rangeFunc ?_;intro fno hfn;obtain⟨rec,hrec⟩:∃ rec:LoopState->Option Code->Loop,rec=fun st pe=>{ state:=st,pending:=pe,fn:=fno,tmps:=a.tmps,params:=#[p],assign,body,defers:=w.heap.size }:=⟨_,rfl⟩
 obtain⟨W1,hW1⟩:∃ W1,(w.alloc (.deferred (some []))).alloc (.loop (rec .ready none))=W1:=⟨_,rfl⟩;have hL1:W1.heap[w.heap.size+1]? = some (.loop (rec .ready none)):=by
  grind[World.alloc_heap_new,World.size_alloc]
 have hK1:W1.heap[w.heap.size]? = some (.deferred (some [])):=by
  grind[Below.heap_alloc,World.alloc_heap_new]
 have sm:Same w W1:=by rw[<- hW1]; exact(Same.alloc w _).trans (Same.alloc _ _)
 have m1:Mine h ρ (S 0 q0) W1:=hm.same sm;have L1:Later h ρ (S 0 q0) w h ρ (S 0 q0) W1:=Later.same sm;have hnew:∀ b,w.heap.size<=b->∀ i t,ρ i≠some (b,t):=fun b hb i t hi=>by have:=hm.lt hi; omega
 have hX1:XB ((w.heap.size+1,.loop (rec .ready none))::DfO (w.heap.size::Ds)) h ρ W1:=by
  intro p hp;simp only[DfO,lak,List.mem_cons]at hp
  rcases hp with rfl|rfl|hp
  .grind
  .grind
  .exact (stbB (DfO Ds)).later hm L1 hX p hp
 refine⟨w.heap.size+1,[{ target:=.collected w.heap.size,args:=#[] }],W1,{ target:=.fn (.func gf) vs.toArray,args:=#[.func (.yield (w.heap.size+1)) #[] #[]] },W1,gf,
  #[.func (.yield (w.heap.size+1)) #[] #[]]++vs.toArray,W1,?_,?_,fun _ _=>trivial,?_,fun hq=>(by cases hq),?_⟩
 .rw [<- hW1,hrec]; exact run_enterLoop_outer _ _ _ _ _
 .simp only [resolve,hvs]
  simp[go_sem]
 .simp [invoke,go_sem,AiA hit.1]
 refine((hit.2 (w.heap.size+1) (XB ((w.heap.size+1,.loop (rec .ready none))::DfO (w.heap.size::Ds))) (stbB _) h ρ W1 vs (hlw.later L1) m1 (rvs.mono (fun _ _ _ x=>x) (fun _ _ x=>x)) hX1 ?_).mono ?_:CallsIn Fence.wide 0 P gf _ W1 _)
 .-- a round
  intro j q x h1 ρ1 w1 v hx hl1 hm1 hX1 rv;have hlo:w1.heap[w.heap.size+1]? = some (.loop (rec .ready none)):=(hX1 (w.heap.size+1,.loop (rec .ready none)) (by simp)).1;have hun:∀ i t,ρ1 i≠some (w.heap.size+1,t):=(hX1 (w.heap.size+1,.loop (rec .ready none)) (by simp)).2;have hy:=run_yield (P:=P) (args:=#[v]) hlo (by grind);rw[hrec]at hy;refine⟨fno,a.tmps.setIfInBounds p v,assign,body,hy.trans (by simp),roundIn_of_wpIn hfn ?_⟩;have hle1:Le gs w1 ρ1:=(hlw.later L1).later hl1;have hsim1:SimR (mkL P fn h1 ρ1 (S j q) w1 ((w.heap.size+1,.loop (rec .ready none))::DfO (w.heap.size::Ds)) (w.heap.size+1)) (put e (some p) x) (S j q) { tmps:=a.tmps.setIfInBounds p v,defers:=[] } w1:=by
   refine⟨h1,ρ1,hm1,.refl ..,?_,rfl,by grind,hX1⟩;have he1:EnvOk h1 ρ1 (S j q) e { tmps:=a.tmps,defers:=[] }:=fun t=>((hen t).mono L1.hle L1.keep).mono hl1.hle hl1.keep
   exact he1.put (by grind[dOk]) rv
  have:=hassign j q x h1 ρ1 w1 _ (w.heap.size+1) (fun a₁ w₁=>SimR (mkL P fn h1 ρ1 (S j q) w1 ((w.heap.size+1,.loop (rec .ready none))::DfO (w.heap.size::Ds)) (w.heap.size+1)) (E1 j) (S j q) a₁ w₁) hx hle1 (fun a w' hh=>hh) _ w1 hsim1;refine BcU this (fun _ _ _ x=>x) fun a₁ w₁ hq=>?_
  .obtain ⟨h2,ρ2,hm2,hl2,he2,hd2,hs2,hx2⟩:=hq
   have hlo2:=(hx2 (w.heap.size+1,.loop (rec .ready none)) (by simp)).1;have hun2:=(hx2 (w.heap.size+1,.loop (rec .ready none)) (by simp)).2;simp only at hlo2 hun2;refine⟨_,run_beginRound hlo2 (by grind),?_⟩;obtain⟨W2,hW2⟩:∃ W2,w₁.putObj (w.heap.size+1) (.loop { rec .ready none with state:=.busy })=W2:=⟨_,rfl⟩;rw[hW2];have hlt2:w.heap.size+1<w₁.heap.size:=(Array.getElem?_eq_some_iff.1 hlo2).1;have mB:Mine h2 ρ2 (S j q) W2:=by rw[<- hW2]; exact hm2.putObj hlo2 rfl hun2
   have hoth:∀ p∈DfO (w.heap.size::Ds),p.1≠w.heap.size+1:=fun p hp e=>by
    have h1:=(hx2 p (List.mem_cons_of_mem _ hp)).1
    grind[DfO]
   have xB:XB ((w.heap.size+1,.loop { rec .ready none with state:=.busy })::DfO (w.heap.size::Ds)) h2 ρ2 W2:=by
    intro p hp
    rcases List.mem_cons.1 hp with rfl|hp'
    .grind[World.putObj_heap_same]
    .have:=hx2 p (List.mem_cons_of_mem _ hp')
     grind[World.putObj_heap_other]
   have hleB:Le gs W2 ρ2:=fun kk o e=>by
    obtain⟨a1,a2⟩:=(hle1.later hl2) kk o e;refine⟨?_,a2⟩;rw[<- hW2];refine(World.putObj_heap_other fun e2=>?_).trans a1;have h1:=(hlw kk o e).1
    grind
   have simB:SimR (mkL P fn h2 ρ2 (S j q) W2 ((w.heap.size+1,.loop { rec .ready none with state:=.busy })::DfO (w.heap.size::Ds)) (w.heap.size+1)) (E1 j) (S j q) a₁ W2 :=
    ⟨h2,ρ2,mB,.refl ..,he2,hd2,hs2,xB⟩
   have hb:=hbody j q x h2 ρ2 W2 _ (w.heap.size+1) (fun a₃ w₃=>SimR (mkL P fn h2 ρ2 (S j q) W2 ((w.heap.size+1,.loop { rec .ready none with state:=.busy })::DfO (w.heap.size::Ds)) (w.heap.size+1)) [] (S (j+1) q) a₃ w₃) hx hleB (fun a w' hh=>hh) _ W2 simB;refine BcU hb (fun _ _ _ x=>x) fun a₃ w₃ hq3=>?_
   .obtain ⟨h3,ρ3,hm3,hl3,_,_,_,hx3⟩:=hq3
    have hlo3:=(hx3 (w.heap.size+1,.loop { rec .ready none with state:=.busy }) (by simp)).1;have hun3:=(hx3 (w.heap.size+1,.loop { rec .ready none with state:=.busy }) (by simp)).2;simp only at hlo3 hun3;have hend:=run_endRound (P:=P) none hlo3;have hrr:({ rec .ready none with state:=.busy }:Loop)={ rec .ready none with state:=.busy }:=rfl;have hback:({ { rec .ready none with state:=.busy } with state:=if(none:Option Code).isNone then .ready else .done,pending:=none }:Loop)=rec .ready none:=by grind
    rw[hback]at hend;refine⟨_,_,hend,rfl,h3,ρ3,hm3.putObj hlo3 rfl hun3,?_,?_⟩
    .rw [<- hW2]at hl3
     exact hl2.trans (Later.around hlo2 hl3)
    .intro p hp
     have hlt3:w.heap.size+1<w₃.heap.size:=(Array.getElem?_eq_some_iff.1 hlo3).1
     rcases List.mem_cons.1 hp with rfl|hp'
     .grind[World.putObj_heap_same]
     .have:=hx3 p (List.mem_cons_of_mem _ hp')
      grind[World.putObj_heap_other]
 .-- behind the iterator
  rintro en W3 ⟨⟨v,rfl⟩,q,h3,ρ3,hm3,hl3,hx3⟩;have hlo3:=(hx3 (w.heap.size+1,.loop (rec .ready none)) (by simp)).1;have hun3:=(hx3 (w.heap.size+1,.loop (rec .ready none)) (by simp)).2;simp only at hlo3 hun3;have hend:=run_endLoop (P:=P) hlo3 (by grind);rw[show(rec .ready none).pending=none by grind]at hend;refine⟨none,_,hend,?_⟩;have hD:w0.heap.size<=w.heap.size:=hl.size;have L3:=(hl.trans L1).trans hl3;refine hdone w.heap.size q hD _ _ ⟨h3,ρ3,hm3.putObj hlo3 rfl hun3,L3.putNew (show w0.heap.size<=w.heap.size+1 by omega),fun t=>((hen t).mono L1.hle L1.keep).mono hl3.hle hl3.keep,?_,hsz,?_⟩
  .show _::a.defers=_
   rw[hdf]; rfl
  .intro p hp
   have:=hx3 p (List.mem_cons_of_mem _ hp)
   grind[World.putObj_heap_other,DfO]
theorem BpC{c:Cx}{out:Exit->Act->World->Prop}{k:List It}{e:Env}{s s':LB}{all os:List Oper}{o:Oper}{f x:Operand}{ts:Array TypeId}{l:Nat}(ho:o.op=.call { callee:=.value f,args:=#[x],argTypes:=ts })(hf:ev e f=.raw (.func (.yield l) #[] #[]))
  (hY:∀ h1 ρ1 w1 v,Later c.h c.ρ c.sto c.w h1 ρ1 s w1->Mine h1 ρ1 s w1->c.x h1 ρ1 w1->RV h1 (Lf ρ1 s) false v (ev e x) ->
   YieldAt Fence.wide 0 c.P l #[v] w1 fun en w'=>en=.returned (.bool true)/\∃ h' ρ',Mine h' ρ' s' w'/\Later h1 ρ1 s w1 h' ρ' s' w'/\c.x h' ρ' w')
  (hk:AWpR ⟨c,none,[],out⟩ (.ops all os::k) (put e o.dst (.bool true)) s'):AWpR ⟨c,none,[],out⟩ (.op all o os::k) e s:=by
 intro a w hsim;obtain⟨h,ρ,hm,hl,he,hdf,hsz,hX⟩:=hsim;intro hd;have hfv:=AaS he f;rw[hf]at hfv;have hfe:=inv_raw hfv;obtain⟨fno,tm,asg,bd,hy,hR⟩:=hY h ρ w (a.eval x) hl hm hX (AaS he x);refine⟨fun _ _=>trivial,?_⟩;rw[Oper.semAt_eq _ _ _ (by grind)];have hrun:(execOp a.eval o).run c.P w=.ok (.round l fno tm asg bd) w:=by
  grind[execOp,resolve,Deferred.ofValue,invoke]
 rw[hrun];refine⟨fun hq=>(by cases hq),RoundIn.mono hR ?_⟩;rintro en w' ⟨rfl,h',ρ',hm',hl',hx'⟩;have he':EnvOk h' ρ' s' e a:=fun t=>(he t).mono hl'.hle hl'.keep
 exact hk _ _ ⟨h',ρ',hm',hl.trans hl',he'.put (by grind) (.bool true),by grind[AaE],by grind[AaO],hx'⟩
theorem BcV{σ:Type}{P:Program}{g:Std}{f:FuncId}{fn:Func}{body:Code}{N:Nat}{lb xs:LY}{S:Nat->σ->LB}{q0:σ}(hf:P.funcs[f]? = some fn)(hb:fn.body=some body)(hn:fn.ntmps=N)(hx:AaA P f=true)(hres:fn.results=#[])
  (ha:lb.length+1<=N)
  (hw:∀ (l:Nat) (c:Cx) (out:Exit->Act->World->Prop),c.P=P->c.fn=fn->c.sto=S 0 q0->Le g c.w c.ρ ->
   (∀ j q x,xs[j]? = some x->∀ h1 ρ1 w1 v,Later c.h c.ρ c.sto c.w h1 ρ1 (S j q) w1->Mine h1 ρ1 (S j q) w1->c.x h1 ρ1 w1->RV h1 (Lf ρ1 (S j q)) false v x ->
    YieldAt Fence.wide 0 c.P l #[v] w1 fun en w'=>en=.returned (.bool true)/\∃ h' ρ',Mine h' ρ' (S (j+1) q) w'/\Later h1 ρ1 (S j q) w1 h' ρ' (S (j+1) q) w'/\c.x h' ρ' w') ->
   (∀ x q,(x=.normal\/x=.ret)->AOut ⟨c,none,[],out⟩ x [] (S xs.length q)) ->
   AWpR ⟨c,none,[],out⟩ [.code body] (args0 0 (.raw (.func (.yield l) #[] #[])::lb)) (S 0 q0)):ItC P g f lb xs S q0:=by
 refine⟨hx,fun l X hX h ρ w vs hg hm hv hXw hY=>?_⟩;refine callsIn_of_wp hf hb trivial ?_
 let R:Ending->World->Prop:=fun en w'=>(∃ v,en=.returned v)/\∃ q h' ρ',Mine h' ρ' (S xs.length q) w'/\Later h ρ (S 0 q0) w h' ρ' (S xs.length q) w'/\X h' ρ' w'
 have hfin:∀ x q,(x=Exit.normal\/x=.ret)->AOut ⟨⟨P,fn,h,ρ,S 0 q0,w,fun _ _=>True,X,hX⟩,none,[],bodyPost P fn R⟩ x [] (S xs.length q):=by
  intro x q hxx a w' hsim;obtain⟨h',ρ',hm',hl',_,hdf,_,hx'⟩:=hsim;have:a.defers=[]/\∃ v,(results fn a.tmps).run P w'=.ok v w'/\R (.returned v) w' :=
   ⟨hdf,_,AhW (ts:=[]) (by grind) _ _,⟨_,rfl⟩,q,h',ρ',hm',hl',hx'⟩
  rcases hxx with rfl|rfl <;> exact this
 have:=hw l ⟨P,fn,h,ρ,S 0 q0,w,fun _ _=>True,X,hX⟩ (bodyPost P fn R) rfl rfl rfl hg (fun j q x hx h1 ρ1 w1 v a1 a2 a3 a4=>hY j q x h1 ρ1 w1 v hx a1 a2 a3 a4) hfin;have hlen:=hv.length;have hargs:(#[Value.func (.yield l) #[] #[]]++vs.toArray)=(Value.func (.yield l) #[] #[]::vs).toArray:=by simp
 rw[hargs];have hv2:RL h (Lf ρ (S 0 q0)) false (Value.func (.yield l) #[] #[]::vs) (.raw (.func (.yield l) #[] #[])::lb):=.cons (.raw _) hv;refine Code.wpIn_mono ?_ (this { tmps:=(Value.func (.yield l) #[] #[]::vs).toArray++Array.replicate (fn.ntmps-(Value.func (.yield l) #[] #[]::vs).toArray.size) undef,defers:=[] } w
  ⟨h,ρ,hm,.refl ..,fun t=>?_,rfl,by grind,hXw⟩)
 .intro en a' w' hq
  exact hq
 .rw [AeZ]
  simp only[Nat.zero_le,if_true,Nat.sub_zero];have h1:=hv2.getD t undef
  by_cases ht:t<vs.length+1
  .have:((Value.func (.yield l) #[] #[]::vs).toArray++Array.replicate (fn.ntmps-(Value.func (.yield l) #[] #[]::vs).toArray.size) undef).getD t undef=(Value.func (.yield l) #[] #[]::vs).getD t undef:=by
    simp_all[Array.getElem?_append]
   grind
  .have:(AV.raw (.func (.yield l) #[] #[])::lb).getD t .any=.any:=by grind
   rw[this]; exact .any _
theorem A7T{P:Program}{g:Std}{f:FuncId}{fn:Func}{body:Code}{N:Nat}{args:LY}{sto:LB}{post:AV->LB->Prop}(hf:P.funcs[f]? = some fn)(hb:fn.body=some body)(hn:fn.ntmps=N)(hx:AaA P f=true)
  (ha:args.length<=N) (hw:∀ h ρ w,Le g w ρ->AWpR (mkM P fn h ρ sto w post []) [.code body] (args0 0 args) sto):CtH P g f args sto post:=by
 refine⟨hx,fun hh ρ w vs hg hm hv=>?_⟩;refine(callsIn_wide (n:=0)).1 (callsIn_of_wp_marks hf hb trivial ?_);have hlen:=hv.length;have hsim:SimR (mkM P fn hh ρ sto w post []) (args0 0 args) sto { tmps:=vs.toArray++Array.replicate (fn.ntmps-vs.toArray.size) undef,defers:=[] } w:=by
  refine⟨hh,ρ,hm,.refl ..,fun t=>?_,rfl,by grind,fun p hp=>by grind[DfO]⟩;rw[AeZ];simp only[Nat.zero_le,if_true,Nat.sub_zero];have h1:=hv.getD t undef
  by_cases ht:t<vs.length
  .have:(vs.toArray++Array.replicate (fn.ntmps-vs.toArray.size) undef).getD t undef=vs.getD t undef:=by
    simp_all[Array.getElem?_append]
   grind
  .have:args.getD t .any=.any:=by grind
   rw[this]; exact .any _
 exact hw hh ρ w hg _ w hsim
theorem BwD{P:Program}{fn:Func}{h0:Mem}{ρ0:Own}{sto0:LB}{w0:World}{post:AV->LB->Prop}{e:Env}{s:LB}{D:Nat}{x:Exit}(hx:x=.normal\/x=.ret)(hD:w0.heap.size<=D)(ts:List Tmp)(hr:fn.results=(ts.map ResultVar.tmp).toArray)
  (hp:post (resV e ts) s):AOut (mkM P fn h0 ρ0 sto0 w0 post [D]) x e s:=by
 intro a w hsim;obtain⟨h,ρ,hm,hl,he,hdf,hsz,hX⟩:=hsim;have hK:=(hX (D,.deferred (some [])) (by simp[DfO])).1;have hun:=(hX (D,.deferred (some [])) (by simp[DfO])).2;have hm':=hm.putObj (x:=.deferred none) hK rfl hun;have hl':=hl.putNew (x:=.deferred none) hD;have hrv:RV h (Lf ρ s) false (resW a.tmps ts) (resV e ts):=by
  have hl:∀ l:List Tmp,RL h (Lf ρ s) false (l.map fun t=>a.tmps.getD t undef) (l.map (get e)):=by
   intro l
   induction l with
   | nil=>exact .nil
   | cons t l ih=>exact .cons (he t) ih
  match ts with
  | []=>exact .tup _ _ (hl [])
  | [t]=>exact he t
  | t::u::r=>exact .tup _ _ (hl (t::u::r))
 have:LeavesInM Fence.wide 0 P fn a.tmps (fun en w'=>∃ v r s h' ρ',en=.returned v/\post r s/\Mine h' ρ' s w'/\Later h0 ρ0 sto0 w0 h' ρ' s w'/\RV h' (Lf ρ' s) false v r) a.defers .returning w:=by
  rw[hdf];exact⟨by simp,.inl ⟨D,_,rfl,run_takeDeferred hK,_,AhW hr _ _,_,_,s,h,ρ,rfl,hp,hm',hl',hrv⟩⟩
 rcases hx with rfl|rfl <;> exact this
end Go.Av
namespace Go.Av
open RowKit Shelf Go.Sort Go.Proofs
section
variable {h:Mem}{ρ:Own}{s:LB}{w:World}{β:Type}{L:Value->AV->Prop}
theorem RL.split{fl:Bool}:∀ {a b:LY}{vs:List Value},RL h L fl vs (a++b)->∃ v1 v2,vs=v1++v2/\RL h L fl v1 a/\RL h L fl v2 b
 | [],b,vs,r=>⟨[],vs,rfl,.nil,r⟩
 | x::a,b,_,r=>by
  cases r with
  | cons r1 r2 =>
   obtain⟨v1,v2,rfl,h1,h2⟩:=r2.split;exact⟨_::v1,v2,rfl,.cons r1 h1,h2⟩
structure SCell(h:Mem)(L:Value->AV->Prop)(eA:β->AV) where
 el:β
 cells:List Value
 one:∀ v∈cells,v.oneCell'=true
 rl:RL h L false cells (cellsOf (eA el))
theorem AiB{eA:β->AV}:∀ (l:List β)(vs:List Value),RL h L false vs (flat (l.map eA))->(∀ v∈vs,v.oneCell'=true)->∃ d:List (SCell h L eA),d.map SCell.el=l/\(d.map SCell.cells).flatten=vs
 | [],vs,r,_=>by cases r<;>simp_all
 | x::l,vs,r,h1=>by
  obtain⟨v1,v2,rfl,r1,r2⟩:=r.split;obtain⟨d,e1,e2⟩:=AiB l v2 r2 (fun v hv=>h1 v (List.mem_append_right _ hv));exact⟨⟨x,v1,fun v hv=>h1 v (List.mem_append_left _ hv),r1⟩::d,by grind,by grind⟩
theorem AtC{eA:β->AV}:∀ (d:List (SCell h L eA)),RL h L false (d.map SCell.cells).flatten (flat ((d.map SCell.el).map eA))
 | []=>.nil
 | c::d=>by
  exact c.rl.append (AtC d)
theorem AwS{eA:β->AV}(d:List (SCell h L eA)):∀ v∈(d.map SCell.cells).flatten,v.oneCell'=true:=by
 intro v hv;obtain⟨l,hl,hv⟩:=List.mem_flatten.1 hv;obtain⟨c,_,rfl⟩:=List.mem_map.1 hl;exact c.one v hv
theorem AnN{γ:Type}{k:Nat}:∀ (L:List (List γ)),(∀ x∈L,x.length=k)->∀ (i j:Nat)(hi:i<L.length),j<k->L.flatten[i*k+j]? = L[i][j]?
 | [],_,i,j,hi,_=>by grind
 | x::L,h,0,j,_,hj=>by
  grind
 | x::L,h,i+1,j,hi,hj=>by
  have hx:=h x (by simp)
  simp
  rw[List.getElem?_append_right (by rw[Nat.succ_mul]; omega),show(i+1)*k+j-x.length=i*k+j by rw[Nat.succ_mul]; omega];exact AnN L (fun y hy=>h y (by simp[hy])) i j (by simpa using hi) hj
theorem AnO{γ:Type}{k:Nat}:∀ (L:List (List γ)),(∀ x∈L,x.length=k)->L.flatten.length=L.length*k
 | [],_=>by simp
 | x::L,h=>by
  simp only[List.flatten_cons,lah,lal,Nat.succ_mul];rw[h x (by simp),AnO L (fun y hy=>h y (by simp[hy]))];omega
theorem AqW{α:Type} [Inhabited α](enc:α->List Value)(k:Nat)(hk:∀ x,(enc x).length=k)(d:Array α):(flatK enc k d).toList=(d.toList.map enc).flatten:=by
 have hl:∀ x∈d.toList.map enc,x.length=k:=fun x hx=>by
  grind
 have hs:(flatK enc k d).size=d.size*k:=by simp
 apply lbo;intro t
 by_cases ht:t<d.size*k
 .have k0:0<k:=by
   grind
  have hq:t / k<d.size:=Nat.div_lt_of_lt_mul (by grind);have hr:t%k<k:=Nat.mod_lt _ k0;have e:t=t / k*k+t%k:=by grind[Nat.div_add_mod]
  have h1:=get_flatK enc k d t ht
  grind[AnN]
 .rw [List.getElem?_eq_none (by grind),List.getElem?_eq_none (by rw[AnO _ hl]; grind)]
end
theorem AwT{w w':World}(hs:@Same trUp w w'):∃ q os',w'=grow (w.drewN q) os':=by
 refine⟨w'.drawn-w.drawn,w'.heap.extract w.heap.size w'.heap.size,?_⟩;have h1:=@Same.os trUp _ _ hs;have h2:=@Same.tape trUp _ _ hs;have h3:=(@Same.output trUp _ _ hs).1;have h4:w.drawn<=w'.drawn:=(@Same.output trUp _ _ hs).2;have h5:=@Same.size trUp _ _ hs;have h6:=@Same.block trUp _ _ hs;obtain⟨heap',tape',drawn',os',output'⟩:=w';simp only[grow,World.drewN,World.mk.injEq,true_and,and_true]
 grind
section
variable {P:Program}{ρr:Ren}{β:Type}
theorem BsC(L:SlLaysF0.n6 P ρr){k:Nat}(aE:∀ w,(isAgg (ρr.t 24)).run P w=.ok true w)(zE:∀ w,(Go.sizeOf (ρr.t 24)).run P w=.ok k w)(hbf:AaA P (ρr.f 6)=true)(eA:β->AV)(hk0:0<k)(hk:∀ x,(cellsOf (eA x)).length=k)
  (cf:β->β->Int) (hO:SWO (ltOf cf)) {g:FuncId} (hg:AaA P g=true)
  (hcmp:∀ (h:Mem) (ρ:Own) (s:LB) (x y:β) (vs us:List Value),RL h (Lf ρ s) false vs (cellsOf (eA x))->RL h (Lf ρ s) false us (cellsOf (eA y))->(∀ v∈vs,v.oneCell'=true)->(∀ v∈us,v.oneCell'=true)->∀ W,Calls P g #[.agg vs.toArray,.agg us.toArray] W fun e w'=>e=.returned (.int .i64 (cf x y)) /\ @Same trUp W w')
  {s:LB} {bid:Nat} {l:List β} (hs:s[bid]? = some (.arr k (l.map eA))) (hl:l.length<4611686018427387904) :
  Ct P (ρr.f 6) [.sl bid 0 l.length l.length,.fn (.func g) []] s (fun r s'=>r=.tup []/\∃ l':List β,s'=s.set bid (.arr k (l'.map eA))/\l'.Perm l/\l'.Pairwise (fun x y=>¬ cf y x<0)):=by
 refine⟨hbf,fun h ρ w vs m r=>?_⟩
 cases r with
 | @cons _ v0 _ _ _ r0 r =>
  cases r with
  | @cons _ v1 _ _ _ r1 r =>
   cases r
   obtain⟨cvs,hv1,rc⟩:=AvH r1
   cases rc
   subst hv1;have hL:=(AbL r0).2;simp only[LfC,hs]at hL;have none_ok:l=[]->∀ (p:Option Addr) (cap:Nat),v0=.slice p 0 cap->Calls P (ρr.f 6) #[v0,.func (.func g) #[] #[]] w fun en w' =>
     ∃ v r s_1 h' ρ',en=.returned v/\(r=.tup []/\∃ l':List β,s_1=s.set bid (.arr k (l'.map eA))/\l'.Perm l/\l'.Pairwise (fun x y=>¬ cf y x<0))/\Mine h' ρ' s_1 w'/\Later h ρ s w h' ρ' s_1 w'/\RV h' (Lf ρ' s_1) false v r:=by
    intro h0 p cap e0;subst h0 e0;refine(AnyF.slices_SortFunc_none L p cap _ w).mono ?_;rintro e w' ⟨rfl,rfl⟩;exact⟨_,.tup [],s,h,ρ,rfl,⟨rfl,[],(set_same hs).symm,.nil,.nil⟩,m,.refl ..,.tup [] [] .nil⟩
   rcases hL.2 (by simp)with⟨h1,h2,a,rfl⟩|⟨g0,tot,h1,rfl,h3⟩
   .grind
   .by_cases hne:l=[]
    .grind
    .have hpos:0<l.length:=List.length_pos_iff.2 hne
     rcases m.own bid _ hs with⟨hn,_⟩|⟨g',tot',cur,tt,i3,i4,i5,i6,i7,i8,i9,i10,i11⟩
     .grind
     rw[h1]at i3
     simp at i3
     obtain⟨rfl,rfl⟩:=i3
     simp at i6 i11
     obtain⟨d,hd1,hd2⟩:=AiB l _ i11 (fun v hv=>i10 v (lat hv));have hdl:d.length=l.length:=by grind
     have hdk:∀ c:SCell h (Lf ρ s) eA,c.cells.length=k:=fun c=>by rw[c.rl.length,hk]
     haveI:Inhabited (SCell h (Lf ρ s) eA):=⟨d[0]'(by omega)⟩
     have hcl:cur.toList.length=tot*k:=by omega
     have hle:l.length*k<=tot*k:=lbg _ i6;have hfl:(flatK SCell.cells k d.toArray).toList=cur.toList.take (l.length*k):=by grind[AqW]
     have hfs:(flatK SCell.cells k d.toArray).size=l.length*k:=by simp_all
     have hH:HoldsK SCell.cells k w g0 0 d.toArray:=by
      intro j hj;rw[hfs]at hj;have hjc:j<cur.size:=by omega
      refine⟨?_,by rw[lay]; exact i4.fz hjc⟩;rw[lay,i4.cell,getElem!_pos _ j (by omega)];have:(flatK SCell.cells k d.toArray).toList[j]? = cur.toList[j]?:=by grind
      grind
     have hC:CmpLays P g #[] SCell.cells k (fun x y:SCell h (Lf ρ s) eA=>cf x.el y.el) g0 0 d.toArray.size w:=by
      intro mm os dk _ x y;have:=hcmp h ρ s x.el y.el x.cells y.cells x.rl y.rl x.one y.one (sortWorldK SCell.cells k w g0 0 mm dk os)
      grind[Calls.mono,AwT]
     have hO':SWO (ltOf (fun x y:SCell h (Lf ρ s) eA=>cf x.el y.el)):=⟨fun x=>hO.irrefl x.el,fun x y z=>hO.trans x.el y.el z.el,fun x y z=>hO.ntrans x.el y.el z.el⟩;have hlt:g0<w.heap.size:=i4.lt;have key:=AnyQ.slices_SortFunc L k aE zE SCell.cells hdk (fun x v hv=>x.one v hv) (fun x y:SCell h (Lf ρ s) eA=>cf x.el y.el) hO' g #[] g0 0 (tot-0) d.toArray w (fun a w=>AiA hg a w) hC hH hlt (by grind);have e0:d.toArray.size=l.length:=by omega
     rw[e0]at key;simp only[Nat.zero_mul];refine Calls.mono key ?_;rintro e w' ⟨rfl,d',nn,os,hp,hso,rfl⟩;obtain⟨hp1,_,hp3⟩:=hp;rw[e0]at hp1;have hperm:d'.toList.Perm d:=by
      have e1:(d'.extract 0 l.length).toList=d'.toList:=by rw[<- hp1]; simp
      grind
     have hlen':(d'.toList.map SCell.el).length=l.length:=by grind
     obtain⟨F,hF⟩:∃ F,flatK SCell.cells k d'=F:=⟨_,rfl⟩;have hFl:F.toList=(d'.toList.map SCell.cells).flatten:=by grind[AqW]
     have hFs:F.size=l.length*k:=by rw[<- hF]; simp[hp1]
     obtain⟨w1,hw1⟩:∃ w1,Go.Sort.putRow id (Go.Sort.ahead w nn) g0 0 F=w1:=⟨_,rfl⟩;have hW:sortWorldK SCell.cells k w g0 0 nn d' os=grow w1 os:=by
      rw[<- hw1,<- hF]; rfl
     rw[hW];obtain⟨mk,hmk1,hmk2⟩:=i4;have hcs:(Go.Sort.putCells id 0 F cur).size=cur.size:=by simp[Go.Sort.putCells]
     have hget:w1.heap[g0]? = some (.cells (Go.Sort.putCells id 0 F cur) tt mk):=by
      grind[Go.Sort.putRow,mapBlock,Go.Sort.ahead,onCells]
     have hoth:∀ b,b≠g0->w1.heap[b]? = w.heap[b]?:=by
      grind[Go.Sort.putRow,mapBlock,Go.Sort.ahead]
     have hsz1:w1.heap.size=w.heap.size:=by grind[Go.Sort.putRow,mapBlock,Go.Sort.ahead]
     have hel:∀ j,(Go.Sort.putCells id 0 F cur).toList[j]? = if j<l.length*k then F.toList[j]? else cur.toList[j]?:=by
      intro j;rw[lbm,lbm,lbm];simp only[Go.Sort.putCells,Array.getElem?_mapIdx,Nat.zero_le,true_and,lay,Nat.sub_zero,hFs,id]
      grind
     have htake:(Go.Sort.putCells id 0 F cur).toList.take (l.length*k)=F.toList:=by
      apply lbo
      grind
     have hset:∀ v a,Lf ρ s v a->Lf ρ (s.set bid (.arr k ((d'.toList.map SCell.el).map eA))) v a:=fun v a lf=>⟨lf.1,AbI hs (fun _ _=>rfl) (Or.inl ⟨rfl,by grind,rfl⟩:(_/\_/\_)\/_) lf.2⟩
     have hlen2:((d'.toList.map SCell.el).map eA).length=l.length:=by grind
     obtain⟨m1,L1⟩:=m.write hs (b':=.arr k ((d'.toList.map SCell.el).map eA)) h1 (.inl ⟨rfl,by grind⟩) (by rw[<- hw1]; rfl) (by rw[<- hw1]; rfl) ⟨by rw[<- hw1]; rfl,trivial⟩ hsz1 hoth (by
      refine .inr ⟨g0,tot,Go.Sort.putCells id 0 F cur,tt,h1,⟨mk,hget,by grind⟩,by omega,by omega,i7,hk0,?_,?_,?_⟩
      .grind
      .intro v hv
       obtain⟨j,hj,e⟩:=List.getElem_of_mem hv;have h2:=hel j
       grind[AwS]
      .rw [hlen2,htake,hFl]
       exact(AtC d'.toList).mono (fun _ _ _ x=>x) hset)
     have sm:Same w1 (grow w1 os):=⟨rfl,rfl,⟨rfl,trivial⟩,by simp,fun b hb=>heap_grow_old _ _ hb⟩;refine⟨_,.tup [],_,h,ρ,rfl,⟨rfl,d'.toList.map SCell.el,rfl,?_,?_⟩,m1.same sm,L1.trans (.same sm),.tup [] [] .nil⟩
     .grind
     .rw [List.pairwise_map,lbj]
      intro i j hi hj hij;have:=hso i j (Nat.zero_le _) hij (by grind)
      grind[ltOf]
end
end Go.Av
namespace Go.Av
open RowKit Shelf Go.Sort Go.Proofs
section
variable {P:Program}{ρr:Ren}{β:Type}
def SCell.val{h:Mem}{L:Value->AV->Prop}{eA:β->AV}(c:SCell h L eA):Value:=c.cells.headD default
theorem SCell.val_eq{h:Mem}{L:Value->AV->Prop}{eA:β->AV}(hk:∀ x,cellsOf (eA x)=[eA x])(c:SCell h L eA):c.cells=[c.val]:=by
 have hl:c.cells.length=1:=by rw[c.rl.length,hk]; rfl
 unfold SCell.val
 match hc:c.cells with
 | []=>grind
 | [v]=>rfl
 | _::_::_=>grind
theorem AnP{h:Mem}{L:Value->AV->Prop}{eA:β->AV}(hk:∀ x,cellsOf (eA x)=[eA x]):∀ d:List (SCell h L eA),(d.map SCell.cells).flatten=d.map SCell.val
 | []=>rfl
 | c::d=>by simp only[lak,List.flatten_cons,AnP hk d,c.val_eq hk]; rfl
theorem BkZ(L:SlLaysF.n6 P ρr)(hbf:AaA P (ρr.f 6)=true)(eA:β->AV)(hk:∀ x,cellsOf (eA x)=[eA x])
  (cf:β->β->Int) (hO:SWO (ltOf cf)) {g:FuncId} (hg:AaA P g=true)
  (hcmp:∀ (h:Mem) (ρ:Own) (s:LB) (x y:β) (v u:Value),RL h (Lf ρ s) false [v] [eA x]->RL h (Lf ρ s) false [u] [eA y]->v.oneCell'=true->u.oneCell'=true->∀ W,Calls P g #[v,u] W fun e w'=>e=.returned (.int .i64 (cf x y)) /\ @Same trUp W w')
  {s:LB} {bid:Nat} {l:List β} (hs:s[bid]? = some (.arr 1 (l.map eA))) (hl:l.length<4611686018427387904) :
  Ct P (ρr.f 6) [.sl bid 0 l.length l.length,.fn (.func g) []] s (fun r s'=>r=.tup []/\∃ l':List β,s'=s.set bid (.arr 1 (l'.map eA))/\l'.Perm l/\l'.Pairwise (fun x y=>¬ cf y x<0)):=by
 refine⟨hbf,fun h ρ w vs m r=>?_⟩
 cases r with
 | @cons _ v0 _ _ _ r0 r =>
  cases r with
  | @cons _ v1 _ _ _ r1 r =>
   cases r
   obtain⟨cvs,hv1,rc⟩:=AvH r1
   cases rc
   subst hv1;have hL:=(AbL r0).2;simp only[LfC,hs]at hL;have none_ok:l=[]->∀ (p:Option Addr) (cap:Nat),v0=.slice p 0 cap->Calls P (ρr.f 6) #[v0,.func (.func g) #[] #[]] w fun en w' =>
     ∃ v r s_1 h' ρ',en=.returned v/\(r=.tup []/\∃ l':List β,s_1=s.set bid (.arr 1 (l'.map eA))/\l'.Perm l/\l'.Pairwise (fun x y=>¬ cf y x<0))/\Mine h' ρ' s_1 w'/\Later h ρ s w h' ρ' s_1 w'/\RV h' (Lf ρ' s_1) false v r:=by
    intro h0 p cap e0;subst h0 e0;refine(AnyF.slices_SortFunc_none { L with } p cap _ w).mono ?_;rintro e w' ⟨rfl,rfl⟩;exact⟨_,.tup [],s,h,ρ,rfl,⟨rfl,[],(set_same hs).symm,.nil,.nil⟩,m,.refl ..,.tup [] [] .nil⟩
   rcases hL.2 (by simp)with⟨h1,h2,a,rfl⟩|⟨g0,tot,h1,rfl,h3⟩
   .grind
   .by_cases hne:l=[]
    .grind
    .have hpos:=List.length_pos_iff.2 hne
     rcases m.own bid _ hs with⟨hn,_⟩|⟨g',tot',cur,tt,i3,i4,i5,i6,i7,i8,i9,i10,i11⟩
     .grind
     rw[h1]at i3
     simp at i3
     obtain⟨rfl,rfl⟩:=i3
     simp at i6 i11
     obtain⟨d,hd1,hd2⟩:=AiB l _ i11 (fun v hv=>i10 v (lat hv));have hdl:d.length=l.length:=by grind
     haveI:Inhabited (SCell h (Lf ρ s) eA):=⟨d[0]'(by omega)⟩
     have hcl:cur.toList.length=tot:=by grind
     have hle:=i6;have hfl:d.map SCell.val=cur.toList.take l.length:=by grind[AnP]
     have hH:Holds SCell.val w g0 0 d.toArray:=by
      intro j hj;have hj':j<d.length:=by omega
      have hjc:j<cur.size:=by omega
      refine⟨?_,by rw[lay]; exact i4.fz hjc⟩;rw[lay,i4.cell,getElem!_pos _ j hj];have:(d.map SCell.val)[j]? = cur.toList[j]?:=by grind
      grind
     have hC:CmpLays1 P g #[] SCell.val (fun x y:SCell h (Lf ρ s) eA=>cf x.el y.el) g0 0 d.toArray.size w:=by
      intro mm os dk _ x y;have hx:=x.val_eq hk;have hy:=y.val_eq hk;have rx:=x.rl;have ry:=y.rl;have ox:=x.one;have oy:=y.one;rw[hx,hk]at rx;rw[hy,hk]at ry
      grind[Calls.mono,AwT]
     have hO':SWO (ltOf (fun x y:SCell h (Lf ρ s) eA=>cf x.el y.el)):=⟨fun x=>hO.irrefl x.el,fun x y z=>hO.trans x.el y.el z.el,fun x y z=>hO.ntrans x.el y.el z.el⟩;have hlt:=i4.lt;have key:=Any.slices_SortFunc L SCell.val (fun x=>x.one _ (by rw[x.val_eq hk]; simp)) (fun x y:SCell h (Lf ρ s) eA=>cf x.el y.el) hO' g #[] g0 0 (tot-0) d.toArray w (fun a w=>AiA hg a w) hC hH hlt (by grind);have e0:d.toArray.size=l.length:=by omega
     rw[e0]at key;simp only[Nat.zero_mul];refine Calls.mono key ?_;rintro e w' ⟨rfl,d',nn,os,hp,hso,rfl⟩;obtain⟨hp1,_,hp3⟩:=hp;rw[e0]at hp1;have hperm:d'.toList.Perm d:=by
      have e1:(d'.extract 0 l.length).toList=d'.toList:=by rw[<- hp1]; simp
      grind
     have hlen':(d'.toList.map SCell.el).length=l.length:=by grind
     obtain⟨F,hF⟩:∃ F,d'.map SCell.val=F:=⟨_,rfl⟩;have hFl:F.toList=(d'.toList.map SCell.cells).flatten:=by rw[<- hF,AnP hk]; simp
     have hFs:F.size=l.length:=by grind
     obtain⟨w1,hw1⟩:∃ w1,Go.Sort.putRow id (Go.Sort.ahead w nn) g0 0 F=w1:=⟨_,rfl⟩;have hpc:∀ c:Array Value,Go.Sort.putCells SCell.val 0 d' c=Go.Sort.putCells id 0 F c:=fun c=>by
      grind[Go.Sort.putCells]
     have hW:sortWorld SCell.val w g0 0 nn d' os=grow w1 os:=by
      rw[<- hw1];have:Go.Sort.putCells SCell.val 0 d'=Go.Sort.putCells id 0 F:=funext hpc
      grind[sortWorld,Go.Sort.putRow]
     obtain⟨mk,hmk1,hmk2⟩:=i4;have hcs:(Go.Sort.putCells id 0 F cur).size=cur.size:=by simp[Go.Sort.putCells]
     have hget:w1.heap[g0]? = some (.cells (Go.Sort.putCells id 0 F cur) tt mk):=by
      grind[Go.Sort.putRow,mapBlock,Go.Sort.ahead,onCells]
     have hoth:∀ b,b≠g0->w1.heap[b]? = w.heap[b]?:=by
      grind[Go.Sort.putRow,mapBlock,Go.Sort.ahead]
     have hsz1:w1.heap.size=w.heap.size:=by grind[Go.Sort.putRow,mapBlock,Go.Sort.ahead]
     have hel:∀ j,(Go.Sort.putCells id 0 F cur).toList[j]? = if j<l.length then F.toList[j]? else cur.toList[j]?:=by
      intro j;rw[lbm,lbm,lbm];simp only[Go.Sort.putCells,Array.getElem?_mapIdx,Nat.zero_le,true_and,lay,Nat.sub_zero,hFs,id]
      grind
     have htake:(Go.Sort.putCells id 0 F cur).toList.take (l.length*1)=F.toList:=by
      apply lbo
      grind
     have hset:∀ v a,Lf ρ s v a->Lf ρ (s.set bid (.arr 1 ((d'.toList.map SCell.el).map eA))) v a:=fun v a lf=>⟨lf.1,AbI hs (fun _ _=>rfl) (Or.inl ⟨rfl,by grind,rfl⟩) lf.2⟩
     have hlen2:((d'.toList.map SCell.el).map eA).length=l.length:=by grind
     obtain⟨m1,L1⟩:=m.write hs (b':=.arr 1 ((d'.toList.map SCell.el).map eA)) h1 (.inl ⟨rfl,by grind⟩) (by rw[<- hw1]; rfl) (by rw[<- hw1]; rfl) ⟨by rw[<- hw1]; rfl,trivial⟩ hsz1 hoth (by
      refine .inr ⟨g0,tot,Go.Sort.putCells id 0 F cur,tt,h1,⟨mk,hget,by grind⟩,by omega,by omega,i7,Nat.one_pos,?_,?_,?_⟩
      .grind
      .intro v hv
       obtain⟨j,hj,e⟩:=List.getElem_of_mem hv;have h2:=hel j
       grind[AwS]
      .rw [hlen2,htake,hFl]
       exact(AtC d'.toList).mono (fun _ _ _ x=>x) hset)
     have sm:Same w1 (sortWorld SCell.val w g0 0 nn d' os):=hW▸(show Same w1 (grow w1 os) from⟨rfl,rfl,⟨rfl,trivial⟩,by simp,fun b hb=>heap_grow_old _ _ hb⟩);refine⟨_,.tup [],_,h,ρ,rfl,⟨rfl,d'.toList.map SCell.el,rfl,?_,?_⟩,m1.same sm,L1.trans (.same sm),.tup [] [] .nil⟩
     .grind
     .rw [List.pairwise_map,lbj]
      intro i j hi hj hij;have:=hso i j (Nat.zero_le _) hij (by grind)
      grind[ltOf]
end
