/- A range over a function: the rule, for a caller whose body is walked in plain data; the. -/
import Derived.Test.YtccfklnmolggiaaGreatDoorZ20
import Derived.RangeFuncLeaves
import Derived.RangeFuncOwn
import Derived.Test.YtccfklnmolggiaaGreatDoorZ16
set_option linter.all false
namespace Go.Av
open RowKit
variable [Tr]
section
variable {h h' h0:Mem}{ρ ρ' ρ0:Own}{s s' s0:LB}{w w' w0:World}
theorem AwE{l b o:Nat}{x:Obj}(hb:b≠l):(w.putObj l x).cell? ⟨b,o,none⟩=w.cell? ⟨b,o,none⟩ :=
 World.cell?_of_block (World.putObj_heap_other hb)
theorem Mine.putObj(m:Mine h ρ s w){l:Nat}{o x:Obj}(hl:w.heap[l]? = some o)(hc:o.isCells=false)(hn:∀ i t,ρ i≠some (l,t)):Mine h ρ s (w.putObj l x):=by
 refine⟨fun b i v e=>?_,fun id blk e=>?_,m.out,m.inj,m.disj⟩
 .have h1:=m.mem b i v e
  grind[World.cell?,Obj.isCells,AwE]
 .exact (m.own id blk e).mono (fun _ _ _ x=>x) (fun _ _ x=>x) rfl fun g t hg=>World.putObj_heap_other fun e=>hn id t (by grind)
theorem Later.putNew(L:Later h0 ρ0 s0 w0 h ρ s w){l:Nat}{x:Obj}(hl:w0.heap.size<=l):Later h0 ρ0 s0 w0 h ρ s (w.putObj l x) :=
 ⟨L.hle,L.hnew,L.keep,L.os,L.tape,⟨L.output.1,Tr.trans L.output.2 (Tr.same rfl)⟩,by rw[World.putObj_size]; exact L.size,fun k hk hn=>(World.putObj_heap_other (by omega)).trans (L.block k hk hn),L.newown⟩
theorem Later.around{l:Nat}{o1 o2:Obj}(hl:w.heap[l]? = some o1)(L:Later h ρ s (w.putObj l o2) h' ρ' s' w'):Later h ρ s w h' ρ' s' (w'.putObj l o1):=by
 have hsz:=L.size;refine⟨L.hle,fun b o a e=>by have:=L.hnew b o a e; simp_all,L.keep,L.os,L.tape,⟨L.output.1,Tr.trans (Tr.same (w':=w.putObj l o2) rfl) (Tr.trans L.output.2 (Tr.same rfl))⟩,by simp_all,fun k hk hn=>?_,fun i g t e=>by have:=L.newown i g t e; simp_all⟩
 by_cases hkl:k=l
 .grind[World.putObj_heap_same]
 .rw [World.putObj_heap_other hkl,L.block k (by simp_all) hn,World.putObj_heap_other hkl]
end
theorem Lp{c:Cx}{e e':Env}{s s':LB}(h:wk e e')(hs:s=s'):Shift c e s e' s':=hs▸Lo h
def XB(l:List (Nat×Obj)):Mem->Own->World->Prop:=fun _ ρ w=>∀ p∈l,w.heap[p.1]? = some p.2/\∀ i t,ρ i≠some (p.1,t)
theorem stbB(l:List (Nat×Obj)):Stb (XB l) where
 later:=fun{h ρ sto w h' ρ' sto' w'} _ L x p hp=>by
  obtain⟨h1,h2⟩:=x p hp;have hlt:p.1<w.heap.size:=(Array.getElem?_eq_some_iff.1 h1).1;refine⟨(L.block p.1 hlt h2).trans h1,fun i t e=>?_⟩
  rcases L.newown i p.1 t e with⟨j,t',hj⟩|hs<;>grind
 fewer:=fun hf x p hp=>by
  obtain⟨h1,h2⟩:=x p hp
  grind
def DfO(Ds:List Nat):List (Nat×Obj):=Ds.map fun D=>(D,.deferred (some []))
def dfs(Ds:List Nat):List Deferred:=Ds.map fun D=>{ target:=.collected D,args:=#[] }
def outM(P:Program)(fn:Func)(h:Mem)(ρ:Own)(sto:LB)(w:World)(post:AV->LB->Prop):Exit->Act->World->Prop :=
 bodyPostM Fence.wide 0 P fn fun en w'=>∃ v r s h' ρ',en=.returned v/\post r s/\Mine h' ρ' s w'/\Later h ρ sto w h' ρ' s w'/\RV h' (Lf ρ' s) false v r
@[reducible] def mkM (P:Program) (fn:Func) (h:Mem) (ρ:Own) (sto:LB) (w:World) (post:AV->LB->Prop) (Ds:List Nat):Cr :=
 ⟨⟨P,fn,h,ρ,sto,w,post,XB (DfO Ds),stbB _⟩,none,dfs Ds,outM P fn h ρ sto w post⟩
@[reducible] def mkL (P:Program) (fn:Func) (h:Mem) (ρ:Own) (sto:LB) (w:World) (l:List (Nat×Obj)) (id:Nat):Cr :=
 ⟨⟨P,fn,h,ρ,sto,w,fun _ _=>True,XB l,stbB l⟩,some id,[],fun _ _ _=>False⟩
def ItC{σ:Type}(P:Program)(g:Std)(gf:FuncId)(lb xs:LY)(S:Nat->σ->LB)(q0:σ):Prop :=
 AaB P gf=true/\∀ (l:Nat) (X:Mem->Own->World->Prop) (hX:Stb X) (h:Mem) (ρ:Own) (w:World) (vs:List Value),Le g w ρ->Mine h ρ (S 0 q0) w->RL h (Lf ρ (S 0 q0)) false vs lb->X h ρ w ->
  (∀ j q x h1 ρ1 w1 v,xs[j]? = some x->Later h ρ (S 0 q0) w h1 ρ1 (S j q) w1->Mine h1 ρ1 (S j q) w1->X h1 ρ1 w1->RV h1 (Lf ρ1 (S j q)) false v x ->
   YieldAt Fence.wide 0 P l #[v] w1 fun en w'=>en=.returned (.bool true)/\∃ h' ρ',Mine h' ρ' (S (j+1) q) w'/\Later h1 ρ1 (S j q) w1 h' ρ' (S (j+1) q) w'/\X h' ρ' w') ->
  CallsIn Fence.wide 0 P gf (#[.func (.yield l) #[] #[]]++vs.toArray) w fun en w'=>(∃ v,en=.returned v)/\∃ q h' ρ',Mine h' ρ' (S xs.length q) w'/\Later h ρ (S 0 q0) w h' ρ' (S xs.length q) w'/\X h' ρ' w'
theorem AwF{P:Program}{f:FuncId}(hb:AaB P f=true)(args:Array Value)(w:World):(callFunc f args).run P w=.ok (.enter f args) w:=by
 unfold AaB at hb
 cases hq:P.funcs[f]? with
 | none=>grind
 | some fn =>
  have h4:fn.body.isNone=false:=by simp_all
  grind[callFunc,Sem.run_bind,run_program,Result.andThen_ok,Sem.run_pure]
theorem A5V{r:Cr}{c:Code}{J:Act->World->Prop}{a:Act}{w:World}{Q:Exit->Act->World->Prop}(h:WQr r [.code c,.inv J] .normal a w)(hout:∀ e a w,¬ r.out e a w)(hJ:∀ a w,J a w->Q .normal a w):c.wpIn r.F 0 r.c.P Q a w :=
 Code.wpIn_mono (fun en a' w' hq=>by
  cases en with
  | normal=>exact hJ _ _ hq
  | ret=>exact(hout _ _ _ hq).elim
  | exit id=>exact(hout _ _ _ hq).elim
  | goto l=>exact(hout _ _ _ hq).elim
  | panic ch=>exact(hout _ _ _ hq).elim
  | outgrown=>exact(hout _ _ _ hq).elim) (show c.wpIn r.F 0 r.c.P (WQr r [.inv J]) a w from h)
theorem BjP{σ:Type}{P:Program}{fn:Func}{h0:Mem}{ρ0:Own}{sto0:LB}{w0:World}{post:AV->LB->Prop}{Ds:List Nat}{g:Operand}{p:Tmp}{assign body:Code}{k:List It}{e:Env}{s:LB}{gf:FuncId}{lb xs:LY}
  {S:Nat->σ->LB} {q0:σ} {gs:Std} (hg:Le gs w0 ρ0) (he:ev e g=.fn (.func gf) lb) (hs:s=S 0 q0) (hit:ItC P gs gf lb xs S q0) (hp:p<fn.ntmps) (E1:Nat->Env)
  (hassign:∀ j q x h ρ w l id J,xs[j]? = some x->Le gs w ρ->(∀ a w',SimR (mkL P fn h ρ (S j q) w l id) (E1 j) (S j q) a w'->J a w')->AWpR (mkL P fn h ρ (S j q) w l id) [.code assign,.inv J] (put e (some p) x) (S j q))
  (hbody:∀ j q x h ρ w l id J,xs[j]? = some x->Le gs w ρ->(∀ a w',SimR (mkL P fn h ρ (S j q) w l id) [] (S (j+1) q) a w'->J a w')->AWpR (mkL P fn h ρ (S j q) w l id) [.code body,.inv J] (E1 j) (S j q))
  (hdone:∀ D q,w0.heap.size<=D->AWpR (mkM P fn h0 ρ0 sto0 w0 post (D::Ds)) k e (S xs.length q)):AWpR (mkM P fn h0 ρ0 sto0 w0 post Ds) (.code (.rangeFunc g #[p] assign body)::k) e s:=by
 subst hs;intro a w hsim;obtain⟨h,ρ,hm,hl,hen,hdf,hsz,hX⟩:=hsim;have hgv:=AaF hen g;rw[he]at hgv;obtain⟨vs,hvs,rvs⟩:∃ vs,a.eval g=.func (.func gf) #[] vs.toArray/\RL h (Lf ρ (S 0 q0)) false vs lb:=by
  generalize a.eval g=v at hgv
  cases hgv with
  | fn f vs l r=>grind
  | leaf lf=>exact lf.2.elim
 have hlw:Le gs w ρ:=hg.later hl;refine wpIn_rangeFunc ?_;intro fno hfn;obtain⟨rec,hrec⟩:∃ rec:LoopState->Option Code->Loop,rec=fun st pe=>{ state:=st,pending:=pe,fn:=fno,tmps:=a.tmps,params:=#[p],assign,body,defers:=w.heap.size }:=⟨_,rfl⟩
 obtain⟨W1,hW1⟩:∃ W1,(w.alloc (.deferred (some []))).alloc (.loop (rec .ready none))=W1:=⟨_,rfl⟩;have hL1:W1.heap[w.heap.size+1]? = some (.loop (rec .ready none)):=by
  grind[World.alloc_heap_new,World.size_alloc]
 have hK1:W1.heap[w.heap.size]? = some (.deferred (some [])):=by
  grind[Below.heap_alloc,World.alloc_heap_new]
 have sm:Same w W1:=by rw[<- hW1]; exact(Same.alloc w _).trans (Same.alloc _ _)
 have m1:Mine h ρ (S 0 q0) W1:=hm.same sm;have L1:Later h ρ (S 0 q0) w h ρ (S 0 q0) W1:=Later.same sm;have hnew:∀ b,w.heap.size<=b->∀ i t,ρ i≠some (b,t):=fun b hb i t hi=>by have:=hm.lt hi; omega
 have hX1:XB ((w.heap.size+1,.loop (rec .ready none))::DfO (w.heap.size::Ds)) h ρ W1:=by
  intro p hp;simp only[DfO,lah,List.mem_cons]at hp
  rcases hp with rfl|rfl|hp
  .grind
  .grind
  .exact (stbB (DfO Ds)).later hm L1 hX p hp
 refine⟨w.heap.size+1,[{ target:=.collected w.heap.size,args:=#[] }],W1,{ target:=.fn (.func gf) vs.toArray,args:=#[.func (.yield (w.heap.size+1)) #[] #[]] },W1,gf,
  #[.func (.yield (w.heap.size+1)) #[] #[]]++vs.toArray,W1,?_,?_,fun _ _=>trivial,?_,fun hq=>(by cases hq),?_⟩
 .rw [<- hW1,hrec]; exact run_enterLoop_outer _ _ _ _ _
 .simp only [resolve,hvs]
  simp[go_sem]
 .simp [invoke,go_sem,AwF hit.1]
 refine((hit.2 (w.heap.size+1) (XB ((w.heap.size+1,.loop (rec .ready none))::DfO (w.heap.size::Ds))) (stbB _) h ρ W1 vs (hlw.later L1) m1 (rvs.mono (fun _ _ _ x=>x) (fun _ _ x=>x)) hX1 ?_).mono ?_:CallsIn Fence.wide 0 P gf _ W1 _)
 .-- a round
  intro j q x h1 ρ1 w1 v hx hl1 hm1 hX1 rv;have hlo:w1.heap[w.heap.size+1]? = some (.loop (rec .ready none)):=(hX1 (w.heap.size+1,.loop (rec .ready none)) (by simp)).1;have hun:∀ i t,ρ1 i≠some (w.heap.size+1,t):=(hX1 (w.heap.size+1,.loop (rec .ready none)) (by simp)).2;have hy:=run_yield (P:=P) (args:=#[v]) hlo (by grind);rw[hrec]at hy;refine⟨fno,a.tmps.setIfInBounds p v,assign,body,hy.trans (by simp),roundIn_of_wpIn hfn ?_⟩;have hle1:Le gs w1 ρ1:=(hlw.later L1).later hl1;have hsim1:SimR (mkL P fn h1 ρ1 (S j q) w1 ((w.heap.size+1,.loop (rec .ready none))::DfO (w.heap.size::Ds)) (w.heap.size+1)) (put e (some p) x) (S j q) { tmps:=a.tmps.setIfInBounds p v,defers:=[] } w1:=by
   refine⟨h1,ρ1,hm1,.refl ..,?_,rfl,by grind,hX1⟩;have he1:EnvOk h1 ρ1 (S j q) e { tmps:=a.tmps,defers:=[] }:=fun t=>((hen t).mono L1.hle L1.keep).mono hl1.hle hl1.keep
   exact he1.put (by grind[dOk]) rv
  have:=hassign j q x h1 ρ1 w1 _ (w.heap.size+1) (fun a₁ w₁=>SimR (mkL P fn h1 ρ1 (S j q) w1 ((w.heap.size+1,.loop (rec .ready none))::DfO (w.heap.size::Ds)) (w.heap.size+1)) (E1 j) (S j q) a₁ w₁) hx hle1 (fun a w' hh=>hh) _ w1 hsim1;refine A5V this (fun _ _ _ x=>x) fun a₁ w₁ hq=>?_
  .obtain ⟨h2,ρ2,hm2,hl2,he2,hd2,hs2,hx2⟩:=hq
   have hlo2:=(hx2 (w.heap.size+1,.loop (rec .ready none)) (by simp)).1;have hun2:=(hx2 (w.heap.size+1,.loop (rec .ready none)) (by simp)).2;simp only at hlo2 hun2;refine⟨_,run_beginRound hlo2 (by grind),?_⟩;obtain⟨W2,hW2⟩:∃ W2,w₁.putObj (w.heap.size+1) (.loop { rec .ready none with state:=.busy })=W2:=⟨_,rfl⟩;rw[hW2];have hlt2:w.heap.size+1<w₁.heap.size:=(Array.getElem?_eq_some_iff.1 hlo2).1;have mB:Mine h2 ρ2 (S j q) W2:=by rw[<- hW2]; exact hm2.putObj hlo2 rfl hun2
   have hoth:∀ p∈DfO (w.heap.size::Ds),p.1≠w.heap.size+1:=fun p hp e=>by
    have h1:=(hx2 p (lcg _ hp)).1
    grind[DfO]
   have xB:XB ((w.heap.size+1,.loop { rec .ready none with state:=.busy })::DfO (w.heap.size::Ds)) h2 ρ2 W2:=by
    intro p hp
    rcases List.mem_cons.1 hp with rfl|hp'
    .grind[World.putObj_heap_same]
    .have:=hx2 p (lcg _ hp')
     grind[World.putObj_heap_other]
   have hleB:Le gs W2 ρ2:=fun kk o e=>by
    obtain⟨a1,a2⟩:=(hle1.later hl2) kk o e;refine⟨?_,a2⟩;rw[<- hW2];refine(World.putObj_heap_other fun e2=>?_).trans a1;have h1:=(hlw kk o e).1
    grind
   have simB:SimR (mkL P fn h2 ρ2 (S j q) W2 ((w.heap.size+1,.loop { rec .ready none with state:=.busy })::DfO (w.heap.size::Ds)) (w.heap.size+1)) (E1 j) (S j q) a₁ W2 :=
    ⟨h2,ρ2,mB,.refl ..,he2,hd2,hs2,xB⟩
   have hb:=hbody j q x h2 ρ2 W2 _ (w.heap.size+1) (fun a₃ w₃=>SimR (mkL P fn h2 ρ2 (S j q) W2 ((w.heap.size+1,.loop { rec .ready none with state:=.busy })::DfO (w.heap.size::Ds)) (w.heap.size+1)) [] (S (j+1) q) a₃ w₃) hx hleB (fun a w' hh=>hh) _ W2 simB;refine A5V hb (fun _ _ _ x=>x) fun a₃ w₃ hq3=>?_
   .obtain ⟨h3,ρ3,hm3,hl3,_,_,_,hx3⟩:=hq3
    have hlo3:=(hx3 (w.heap.size+1,.loop { rec .ready none with state:=.busy }) (by simp)).1;have hun3:=(hx3 (w.heap.size+1,.loop { rec .ready none with state:=.busy }) (by simp)).2;simp only at hlo3 hun3;have hend:=run_endRound (P:=P) none hlo3;have hrr:({ rec .ready none with state:=.busy }:Loop)={ rec .ready none with state:=.busy }:=rfl;have hback:({ { rec .ready none with state:=.busy } with state:=if(none:Option Code).isNone then .ready else .done,pending:=none }:Loop)=rec .ready none:=by grind
    rw[hback]at hend;refine⟨_,_,hend,rfl,h3,ρ3,hm3.putObj hlo3 rfl hun3,?_,?_⟩
    .rw [<- hW2]at hl3
     exact hl2.trans (Later.around hlo2 hl3)
    .intro p hp
     have hlt3:w.heap.size+1<w₃.heap.size:=(Array.getElem?_eq_some_iff.1 hlo3).1
     rcases List.mem_cons.1 hp with rfl|hp'
     .grind[World.putObj_heap_same]
     .have:=hx3 p (lcg _ hp')
      grind[World.putObj_heap_other]
 .-- behind the iterator
  rintro en W3 ⟨⟨v,rfl⟩,q,h3,ρ3,hm3,hl3,hx3⟩;have hlo3:=(hx3 (w.heap.size+1,.loop (rec .ready none)) (by simp)).1;have hun3:=(hx3 (w.heap.size+1,.loop (rec .ready none)) (by simp)).2;simp only at hlo3 hun3;have hend:=run_endLoop (P:=P) hlo3 (by grind);rw[show(rec .ready none).pending=none by grind]at hend;refine⟨none,_,hend,?_⟩;have hD:w0.heap.size<=w.heap.size:=hl.size;have L3:=(hl.trans L1).trans hl3;refine hdone w.heap.size q hD _ _ ⟨h3,ρ3,hm3.putObj hlo3 rfl hun3,L3.putNew (show w0.heap.size<=w.heap.size+1 by omega),fun t=>((hen t).mono L1.hle L1.keep).mono hl3.hle hl3.keep,?_,hsz,?_⟩
  .show _::a.defers=_
   rw[hdf]; rfl
  .intro p hp
   have:=hx3 p (lcg _ hp)
   grind[World.putObj_heap_other,DfO]
theorem BeK{c:Cx}{out:Exit->Act->World->Prop}{k:List It}{e:Env}{s s':LB}{all os:List Oper}{o:Oper}{f x:Operand}{ts:Array TypeId}{l:Nat}(ho:o.op=.call { callee:=.value f,args:=#[x],argTypes:=ts })(hf:ev e f=.raw (.func (.yield l) #[] #[]))
  (hY:∀ h1 ρ1 w1 v,Later c.h c.ρ c.sto c.w h1 ρ1 s w1->Mine h1 ρ1 s w1->c.x h1 ρ1 w1->RV h1 (Lf ρ1 s) false v (ev e x) ->
   YieldAt Fence.wide 0 c.P l #[v] w1 fun en w'=>en=.returned (.bool true)/\∃ h' ρ',Mine h' ρ' s' w'/\Later h1 ρ1 s w1 h' ρ' s' w'/\c.x h' ρ' w')
  (hk:AWpR ⟨c,none,[],out⟩ (.ops all os::k) (put e o.dst (.bool true)) s'):AWpR ⟨c,none,[],out⟩ (.op all o os::k) e s:=by
 intro a w hsim;obtain⟨h,ρ,hm,hl,he,hdf,hsz,hX⟩:=hsim;intro hd;have hfv:=AaF he f;rw[hf]at hfv;have hfe:=inv_raw hfv;obtain⟨fno,tm,asg,bd,hy,hR⟩:=hY h ρ w (a.eval x) hl hm hX (AaF he x);refine⟨fun _ _=>trivial,?_⟩;rw[Oper.semAt_eq _ _ _ (by grind)];have hrun:(execOp a.eval o).run c.P w=.ok (.round l fno tm asg bd) w:=by
  grind[execOp,resolve,Deferred.ofValue,invoke]
 rw[hrun];refine⟨fun hq=>(by cases hq),RoundIn.mono hR ?_⟩;rintro en w' ⟨rfl,h',ρ',hm',hl',hx'⟩;have he':EnvOk h' ρ' s' e a:=fun t=>(he t).mono hl'.hle hl'.keep
 exact hk _ _ ⟨h',ρ',hm',hl.trans hl',he'.put (by grind) (.bool true),by grind[AaC],by grind[AaL],hx'⟩
theorem A5W{σ:Type}{P:Program}{g:Std}{f:FuncId}{fn:Func}{body:Code}{N:Nat}{lb xs:LY}{S:Nat->σ->LB}{q0:σ}(hf:P.funcs[f]? = some fn)(hb:fn.body=some body)(hn:fn.ntmps=N)(hx:AaB P f=true)(hres:fn.results=#[])
  (ha:lb.length+1<=N)
  (hw:∀ (l:Nat) (c:Cx) (out:Exit->Act->World->Prop),c.P=P->c.fn=fn->c.sto=S 0 q0->Le g c.w c.ρ ->
   (∀ j q x,xs[j]? = some x->∀ h1 ρ1 w1 v,Later c.h c.ρ c.sto c.w h1 ρ1 (S j q) w1->Mine h1 ρ1 (S j q) w1->c.x h1 ρ1 w1->RV h1 (Lf ρ1 (S j q)) false v x ->
    YieldAt Fence.wide 0 c.P l #[v] w1 fun en w'=>en=.returned (.bool true)/\∃ h' ρ',Mine h' ρ' (S (j+1) q) w'/\Later h1 ρ1 (S j q) w1 h' ρ' (S (j+1) q) w'/\c.x h' ρ' w') ->
   (∀ x q,(x=.normal\/x=.ret)->AOut ⟨c,none,[],out⟩ x [] (S xs.length q)) ->
   AWpR ⟨c,none,[],out⟩ [.code body] (args0 0 (.raw (.func (.yield l) #[] #[])::lb)) (S 0 q0)):ItC P g f lb xs S q0:=by
 refine⟨hx,fun l X hX h ρ w vs hg hm hv hXw hY=>?_⟩;refine callsIn_of_wp hf hb trivial ?_
 let R:Ending->World->Prop:=fun en w'=>(∃ v,en=.returned v)/\∃ q h' ρ',Mine h' ρ' (S xs.length q) w'/\Later h ρ (S 0 q0) w h' ρ' (S xs.length q) w'/\X h' ρ' w'
 have hfin:∀ x q,(x=Exit.normal\/x=.ret)->AOut ⟨⟨P,fn,h,ρ,S 0 q0,w,fun _ _=>True,X,hX⟩,none,[],bodyPost P fn R⟩ x [] (S xs.length q):=by
  intro x q hxx a w' hsim;obtain⟨h',ρ',hm',hl',_,hdf,_,hx'⟩:=hsim;have:a.defers=[]/\∃ v,(results fn a.tmps).run P w'=.ok v w'/\R (.returned v) w' :=
   ⟨hdf,_,AgP (ts:=[]) (by grind) _ _,⟨_,rfl⟩,q,h',ρ',hm',hl',hx'⟩
  rcases hxx with rfl|rfl <;> exact this
 have:=hw l ⟨P,fn,h,ρ,S 0 q0,w,fun _ _=>True,X,hX⟩ (bodyPost P fn R) rfl rfl rfl hg (fun j q x hx h1 ρ1 w1 v a1 a2 a3 a4=>hY j q x h1 ρ1 w1 v hx a1 a2 a3 a4) hfin;have hlen:=hv.length;have hargs:(#[Value.func (.yield l) #[] #[]]++vs.toArray)=(Value.func (.yield l) #[] #[]::vs).toArray:=by simp
 rw[hargs];have hv2:RL h (Lf ρ (S 0 q0)) false (Value.func (.yield l) #[] #[]::vs) (.raw (.func (.yield l) #[] #[])::lb):=.cons (.raw _) hv;refine Code.wpIn_mono ?_ (this { tmps:=(Value.func (.yield l) #[] #[]::vs).toArray++Array.replicate (fn.ntmps-(Value.func (.yield l) #[] #[]::vs).toArray.size) undef,defers:=[] } w
  ⟨h,ρ,hm,.refl ..,fun t=>?_,rfl,by grind,hXw⟩)
 .intro en a' w' hq
  exact hq
 .rw [AfD]
  simp only[lbq,if_true,Nat.sub_zero];have h1:=hv2.getD t undef
  by_cases ht:t<vs.length+1
  .have:((Value.func (.yield l) #[] #[]::vs).toArray++Array.replicate (fn.ntmps-(Value.func (.yield l) #[] #[]::vs).toArray.size) undef).getD t undef=(Value.func (.yield l) #[] #[]::vs).getD t undef:=by
    simp_all[Array.getElem?_append]
   grind
  .have:(AV.raw (.func (.yield l) #[] #[])::lb).getD t .any=.any:=by grind
   rw[this]; exact .any _
theorem A1J{P:Program}{g:Std}{f:FuncId}{fn:Func}{body:Code}{N:Nat}{args:LY}{sto:LB}{post:AV->LB->Prop}(hf:P.funcs[f]? = some fn)(hb:fn.body=some body)(hn:fn.ntmps=N)(hx:AaB P f=true)
  (ha:args.length<=N) (hw:∀ h ρ w,Le g w ρ->AWpR (mkM P fn h ρ sto w post []) [.code body] (args0 0 args) sto):CtH P g f args sto post:=by
 refine⟨hx,fun hh ρ w vs hg hm hv=>?_⟩;refine(callsIn_wide (n:=0)).1 (callsIn_of_wp_marks hf hb trivial ?_);have hlen:=hv.length;have hsim:SimR (mkM P fn hh ρ sto w post []) (args0 0 args) sto { tmps:=vs.toArray++Array.replicate (fn.ntmps-vs.toArray.size) undef,defers:=[] } w:=by
  refine⟨hh,ρ,hm,.refl ..,fun t=>?_,rfl,by grind,fun p hp=>by grind[DfO]⟩;rw[AfD];simp only[lbq,if_true,Nat.sub_zero];have h1:=hv.getD t undef
  by_cases ht:t<vs.length
  .have:(vs.toArray++Array.replicate (fn.ntmps-vs.toArray.size) undef).getD t undef=vs.getD t undef:=by
    simp_all[Array.getElem?_append]
   grind
  .have:args.getD t .any=.any:=by grind
   rw[this]; exact .any _
 exact hw hh ρ w hg _ w hsim
theorem BjQ{P:Program}{fn:Func}{h0:Mem}{ρ0:Own}{sto0:LB}{w0:World}{post:AV->LB->Prop}{e:Env}{s:LB}{D:Nat}{x:Exit}(hx:x=.normal\/x=.ret)(hD:w0.heap.size<=D)(ts:List Tmp)(hr:fn.results=(ts.map ResultVar.tmp).toArray)
  (hp:post (resV e ts) s):AOut (mkM P fn h0 ρ0 sto0 w0 post [D]) x e s:=by
 intro a w hsim;obtain⟨h,ρ,hm,hl,he,hdf,hsz,hX⟩:=hsim;have hK:=(hX (D,.deferred (some [])) (by simp[DfO])).1;have hun:=(hX (D,.deferred (some [])) (by simp[DfO])).2;have hm':=hm.putObj (x:=.deferred none) hK rfl hun;have hl':=hl.putNew (x:=.deferred none) hD;have hrv:RV h (Lf ρ s) false (resW a.tmps ts) (resV e ts):=by
  have hl:∀ l:List Tmp,RL h (Lf ρ s) false (l.map fun t=>a.tmps.getD t undef) (l.map (get e)):=by
   intro l
   induction l with
   | nil=>exact .nil
   | cons t l ih=>exact .cons (he t) ih
  match ts with
  | []=>exact .tup _ _ (hl [])
  | [t]=>exact he t
  | t::u::r=>exact .tup _ _ (hl (t::u::r))
 have:LeavesInM Fence.wide 0 P fn a.tmps (fun en w'=>∃ v r s h' ρ',en=.returned v/\post r s/\Mine h' ρ' s w'/\Later h0 ρ0 sto0 w0 h' ρ' s w'/\RV h' (Lf ρ' s) false v r) a.defers .returning w:=by
  rw[hdf];exact⟨by simp,.inl ⟨D,_,rfl,run_takeDeferred hK,_,AgP hr _ _,_,_,s,h,ρ,rfl,hp,hm',hl',hrv⟩⟩
 rcases hx with rfl|rfl <;> exact this
end Go.Av
set_option maxRecDepth 100000
set_option maxHeartbeats 2000000
namespace Go.Proofs.YtccfklnmolggiaaGreatDoor
open Av RowKit Proofs.Tryz
def ApZ(c:UInt8):List LU->List LU
 | []=>[[c]]
 | w::ws=>(c::w)::ws
def splitW:LU->List LU
 | []=>[[]]
 | c::r=>if c==32 then[]::splitW r else ApZ c (splitW r)
theorem AsS:∀ q:LU,(Lib.index q [32]=-1/\splitW q=[q])\/∃ i:Nat,Lib.index q [32]=i/\i<q.length/\splitW q=q.take i::splitW (q.drop (i+1))
 | []=>.inl ⟨rfl,rfl⟩
 | c::r=>by
  by_cases hc:c=32
  .subst hc
   exact .inr ⟨0,by simp[Lib.index],by simp,by simp[splitW]⟩
  .have h1:(c==32)=false:=by simpa using hc
   have h2:((32:UInt8)==c)=false:=by simpa using fun e=>hc e.symm
   rcases AsS r with⟨h3,h4⟩|⟨i,h3,h4,h5⟩
   .refine .inl ⟨?_,by simp[splitW,h1,h4,ApZ]⟩
    simp[Lib.index,h3]
    exact fun e=>hc e.symm
   .refine .inr ⟨i+1,?_,by simpa using h4,by simp[splitW,h1,h5,ApZ]⟩
    have:((i:Int)==-1)=false:=by rw[lbd]; omega
    simp[Lib.index,h3,this]
    exact fun e=>(hc e.symm).elim
theorem A5X{S:Std}(hS:LibOk S)(s p:LU)(hs:s.length<4294967281):PcH prog S 132 [.str s,.str p] (· = .int .i64 (Lib.index s p)) :=
 ApS [_,_] (.int .i64 (Lib.index s p)) hB132 (AbY s p) (fun h=>.int _ _) fun w H=>(Any.strings_Index { Tryz.lays144 with } ⟨s.toArray⟩ ⟨p.toArray⟩ _ w hs (hS.cell.choose_spec w H)).mono fun e w' ⟨h1,h2⟩=>⟨h1,h2▸.refl w⟩
theorem AwG(sto:LB)(t p:LU):Ct prog 205 [.str t,.str p,.int .i64 0] sto (fun r s=>r=.fn (.func 217) [.ptr (sto.length+1) 1 0 0,.ptr sto.length 1 0 0,.ptr (sto.length+1+1) 1 0 0]/\s=sto++[.arr 1 [.str t]]++[.arr 1 [.str p]]++[.arr 1 [.int .i64 0]]):=by
 refine zcIN func205 rfl fun h ρ w=>?_
 simp only[go_sem];exact zt [6]
theorem AsT(sto:LB)(t p:LU):Ct prog 176 [.str t,.str p] sto (fun r s=>r=.fn (.func 217) [.ptr (sto.length+1) 1 0 0,.ptr sto.length 1 0 0,.ptr (sto.length+1+1) 1 0 0]/\s=sto++[.arr 1 [.str t]]++[.arr 1 [.str p]]++[.arr 1 [.int .i64 0]]):=by
 refine zcIN func176 rfl fun h ρ w=>?_
 simp only[go_sem];refine za (AwG sto t p) ?_;rintro _ _ ⟨rfl,rfl⟩;apply zgN;simp only[go_sem];exact zt [4]
theorem AwH{St:Std}(hS:LibOk St)(text:LU)(hl:text.length<100000000)(S:Nat->LU->LB)(ip is iz:Nat)(h1:∀ j q,(S j q).getD ip .dead=.arr 1 [.str [32]])(h2:∀ j q,(S j q).getD is .dead=.arr 1 [.str q])
  (h3:∀ j q,(S j q).getD iz .dead=.arr 1 [.int .i64 0]) (h4:∀ j q q',(S j q).set is (.arr 1 [.str q'])=S j q') :
  ItC prog St 217 [.ptr ip 1 0 0,.ptr is 1 0 0,.ptr iz 1 0 0] ((splitW text).map .str) S text:=by
 refine A5W func217 rfl ntmps217 hB217 rfl (by simp) fun l c out hP hfn hsto hg hY hfin=>?_
 obtain⟨P,fn,h,ρ,sto,w,post,x,hx⟩:=c;simp only at hP hfn hsto hg hY;subst hP; subst hfn; subst hsto;refine goR ntmps217 300 ?_;simp only[go_sem,h1,h2,h3];refine A5T (ι:=Nat×LU) (fun y=>y.2.length) (fun _=>[(0,.raw (.func (.yield l) #[] #[])),(1,.ptr ip 1 0 0),(2,.ptr is 1 0 0),(3,.ptr iz 1 0 0)]) (fun y=>S y.1 y.2)
  (fun y=>(splitW text).drop y.1=splitW y.2/\y.2.length<=text.length) (0,text) ⟨rfl,lab _⟩ ?_ ?_
 .refine Lo ?_
  simp only[go_sem]
 .rintro ⟨j,q⟩ ⟨g1,g2⟩ J hJ
  simp only at g1 g2 hJ |-;have hidx:=A5X hS q [32] (by omega);have hat:∀ a r,splitW q=a::r->(List.map AV.str (splitW text))[j]? = some (.str a):=fun a r e=>by
   rw[e]at g1;have:(splitW text)[j]? = some a:=by
    have:=congrArg (·[0]?) g1
    simpa using this
   simp[this]
  rcases AsS q with⟨e1,e2⟩|⟨i,e1,e2,e3⟩
  .rw [e1]at hidx
   have hn:(List.map AV.str (splitW text)).length=j+1:=by
    rw[e2]at g1;have:=congrArg List.length g1
    simp at this |-; omega
   refine goR ntmps217 300 ?_;simp only[go_sem,h1,h2,h3];refine AyX hg (hidx) rfl ntmps217 rfl (goR ntmps217 300 ?_);simp only[go_sem,h1,h2,h3];refine BeK (f:=?f) (x:=?x) (ts:=?ts) (s':=S (j+1) q) (l:=l) ?ho ?hf ?_ ?_
   case ho=>rfl
   case hf=>rfl
   .intro a1 a2 a3 a4 b1 b2 b3 b4
    exact hY j q (.str q) (hat q [] e2) a1 a2 a3 a4 b1 b2 b3 b4
   refine goR ntmps217 300 ?_;simp only[go_sem];rw[<- hn];exact AOut.shift (e':=[]) (Lo trivial) (hfin .normal q (.inl rfl))
  .rw [e1]at hidx
   have hlt:decide ((i:Int)<0)=false:=by simp
   refine goR ntmps217 300 ?_;simp only[go_sem,h1,h2,h3];refine AyX hg (hidx) rfl ntmps217 rfl (goR ntmps217 300 ?_);simp only[go_sem,h1,h2,h3,hlt]
   repeat refine al ?_
   refine BeK (f:=?f2) (x:=?x2) (ts:=?ts2) (s':=S (j+1) q) (l:=l) ?ho2 ?hf2 ?_ ?_
   case ho2=>rfl
   case hf2=>rfl
   .intro a1 a2 a3 a4 b1 b2 b3 b4
    exact hY j q (.str (q.take i)) (hat _ _ e3) a1 a2 a3 a4 b1 b2 b3 (by simpa[ev,Av.get,Av.put,cutL]using b4)
   refine goR ntmps217 300 ?_;simp only[go_sem,h1,h2,h3,h4]
   repeat refine al ?_
   refine AsR (hJ (j+1,q.drop (i+1)) ⟨?_,by simp; omega⟩ (by simp; omega)) (Lo ?_)
   .rw [e3]at g1
    rw[<- List.drop_drop,g1];rfl
   .simp only [go_sem]
def letB(n:Int):Bool:=capI n||(decide (n>=97)&&decide (n<=122))
theorem AdK(n:Int):Pc prog 61 [.int .u8 n] (· = .bool (letB n)):=by
 refine zpIN func61 rfl fun h ρ w=>?_
 simp only[go_sem];refine zpN (AaO n) ?_;unfold letB
 cases e:capI n with
 | true =>
  simp only[go_sem,e];exact zt [2]
 | false =>
  cases e1:decide (n>=97)with
  | true =>
   simp only[go_sem,e,e1];exact zt [2]
  | false =>
   simp only[go_sem,e,e1];exact zt [2]
structure Wst where
 letters:Bool
 word:LU
 out:List LU
def lowerC(c:UInt8):UInt8:=if capI c.toNat then c+32 else c
def wstep(s:Wst)(c:UInt8):Wst :=
 if letB c.toNat||digI c.toNat then⟨true,s.word++[lowerC c],s.out⟩
 else if((c.toNat:Int)==39) then⟨s.letters,s.word++[c],s.out⟩
 else⟨false,[],if s.letters then s.out++[s.word] else s.out⟩
def wordsL(s:LU):List LU:=((s++[32]).foldl wstep ⟨false,[],[]⟩).out
theorem A5Y{c:UInt8}(h:capI c.toNat=true):((lowerC c).toNat:Int)=c.toNat+32:=by
 simp only[lowerC,h,if_true];simp only[capI,lac,lao]at h;rw[UInt8.toNat_add];have:c.toNat+(32:UInt8).toNat=c.toNat+32:=rfl;omega
theorem A1K(l:LU):(flat (bys l)).all Av.frozen=true:=by
 induction l with
 | nil=>rfl
 | cons y l ih=>simpa[bys,flat,cellsOf,Av.frozen]using ih
theorem AbN(l:List LU):(flat (l.map AV.str)).all Av.frozen=true:=by
 induction l with
 | nil=>rfl
 | cons y l ih=>simpa[flat,cellsOf,Av.frozen]using ih
theorem AqA(n:Nat)(l:LU):lowB n (.arr 1 (bys l))=true:=AaD (A1K l)
theorem AgB(n:Nat)(l:List LU):lowB n (.arr 1 (l.map .str))=true:=AaD (AbN l)
theorem AjS(l:List LU):dry (.arr 1 (l.map .str))=true:=AbN l
theorem AyZ(s:LU)(hs:s.length<1000000):Pc prog 57 [.str s] (· = .fz 1 ((wordsL s).map .str)):=by
 refine zpIN func57 rfl fun h ρ w=>?_
 simp only[go_sem]
 repeat refine aqa ?_
 refine AaI (ι:=Nat×Wst) (fun y=>s.length+1-y.1)
  (fun y=>[(12,.int .i64 y.1),(11,.int .i64 (s.length+1)),(5,.sl 2 0 y.2.word.length y.2.word.length),(4,.bool y.2.letters),(3,.sl 1 0 y.2.out.length y.2.out.length),(0,.str s)])
  (fun y=>[.dead,.arr 1 (y.2.out.map .str),.arr 1 (bys y.2.word)])
  (fun y=>y.1<=s.length+1/\y.2.word.length<=y.1/\y.2.out.length<=y.1/\(((s++[32]).drop y.1).foldl wstep y.2).out=wordsL s) (0,⟨false,[],[]⟩) ⟨by simp,by simp,by simp,rfl⟩ ?_ ?_
 .refine Shift.trans (Ll 3 1 rfl) (Shift.trans (Shift.trim 5 (id:=0) rfl rfl rfl (lab _)) (Lo ?_))
  simp only[go_sem]
 .rintro ⟨i,st⟩ ⟨g1,g2,g3,g4⟩ J hJ
  simp only at g1 g2 g3 g4 hJ |-
  by_cases gi:i<s.length+1
  .have di:decide ((i:Int)<(s.length:Int)+1)=true:=by simp; omega
   have hi:i<(s++[32]).length:=by simpa using gi
   rw[lbc hi,List.foldl_cons]at g4;have hc:∃ c:UInt8,(s++[32])[i]=c:=⟨_,rfl⟩;obtain⟨c,hc⟩:=hc;rw[hc]at g4;have e1:(i:Int)+1=((i+1:Nat):Int):=by omega
   have app:∀ x:UInt8,bys st.word++[AV.int .u8 x.toNat]=bys (st.word++[x]):=fun x=>by simp[bys]
   have appl:∀ x:UInt8,st.word.length+1=(st.word++[x]).length:=fun x=>by simp
   have apo:List.map AV.str st.out++[AV.str st.word]=List.map AV.str (st.out++[st.word]):=by simp
   have apol:st.out.length+1=(st.out++[st.word]).length:=by simp
   by_cases hlt:i<s.length
   .have d2:decide ((i:Int)<(s.length:Int))=true:=by simp; omega
    have hgd:s.getD i 0=c:=by rw[<- hc]; simp[List.getD,hlt,List.getElem_append_left]
    apply zgN;simp only[go_sem,di,d2,hgd]
    repeat refine And.intro (by first|omega|simpa using hlt) ?_
    refine zpN (AdK _) ?_
    cases q1:letB c.toNat with
    | true =>
     simp only[go_sem];refine zpN (AaO _) ?_
     cases q2:capI c.toNat with
     | true =>
      have hv:=A5Y q2;have hw:wstep st c=⟨true,st.word++[lowerC c],st.out⟩:=by simp[wstep,q1]
      have hub:=(lowerC c).toNat_lt;simp only[go_sem];rw[<- hv]
      repeat refine al ?_
      rw[app,appl (lowerC c),e1];refine ainv (hJ (i+1,⟨true,st.word++[(lowerC c)],st.out⟩) ⟨by simp only; omega,by simp; omega,by simp only; omega,by rw[hw]at g4; exact g4⟩ (by simp only; omega)) (Shift.low 3 (by simp) (by simp) ?_ ?_)
      .simp only[go_sem,↓AqA,↓AgB,lowB]
      .simp only [go_sem]
     | false =>
      have hv:lowerC c=c:=by simp[lowerC,q2]
      have hw:wstep st c=⟨true,st.word++[c],st.out⟩:=by simp[wstep,q1,hv]
      simp only[go_sem]
      repeat refine al ?_
      rw[app,appl c,e1];refine ainv (hJ (i+1,⟨true,st.word++[c],st.out⟩) ⟨by simp only; omega,by simp; omega,by simp only; omega,by rw[hw]at g4; exact g4⟩ (by simp only; omega)) (Shift.low 3 (by simp) (by simp) ?_ ?_)
      .simp only[go_sem,↓AqA,↓AgB,lowB]
      .simp only [go_sem]
    | false =>
     simp only[go_sem];refine zpN (AcJ _) ?_
     cases q3:digI c.toNat with
     | true =>
      have q2:capI c.toNat=false:=by
       simp only[letB,Bool.or_eq_false_iff]at q1;exact q1.1
      have hv:lowerC c=c:=by simp[lowerC,q2]
      have hw:wstep st c=⟨true,st.word++[c],st.out⟩:=by simp[wstep,q1,q3,hv]
      simp only[go_sem];refine zpN (AaO _) ?_;rw[q2];simp only[go_sem]
      repeat refine al ?_
      rw[app,appl c,e1];refine ainv (hJ (i+1,⟨true,st.word++[c],st.out⟩) ⟨by simp only; omega,by simp; omega,by simp only; omega,by rw[hw]at g4; exact g4⟩ (by simp only; omega)) (Shift.low 3 (by simp) (by simp) ?_ ?_)
      .simp only[go_sem,↓AqA,↓AgB,lowB]
      .simp only [go_sem]
     | false =>
      cases q4:((c.toNat:Int)==39)with
      | true =>
       have hw:wstep st c=⟨st.letters,st.word++[c],st.out⟩:=by simp[wstep,q1,q3,q4]
       simp only[go_sem,q4]
       repeat refine al ?_
       rw[app,appl c,e1];refine ainv (hJ (i+1,⟨st.letters,st.word++[c],st.out⟩) ⟨by simp only; omega,by simp; omega,by simp only; omega,by rw[hw]at g4; exact g4⟩ (by simp only; omega)) (Shift.low 3 (by simp) (by simp) ?_ ?_)
       .simp only[go_sem,↓AqA,↓AgB,lowB]
       .simp only [go_sem]
      | false =>
       cases q5:st.letters with
       | true =>
        have hw:wstep st c=⟨false,[],st.out++[st.word]⟩:=by simp[wstep,q1,q3,q4,q5]
        simp only[go_sem,q4,q5];have htk:List.map Av.byteOf (List.take st.word.length (bys st.word))=st.word:=by
         rw[lag (by simp)]; exact(AjQ st.word).2
        have hall:(List.take st.word.length (bys st.word)).all AdF=true:=by
         rw[lag (by simp)]; exact(AjQ st.word).1
        rw[htk,hall]
        repeat refine al ?_
        rw[apo,apol];refine zr [] AaJ ?_;simp only[go_sem]
        repeat refine al ?_
        simp only[Nat.sub_zero];apply zgN;simp only[go_sem]
        repeat refine al ?_
        rw[e1];refine ainv (hJ (i+1,⟨false,[],st.out++[st.word]⟩) ⟨by simp only; omega,by simp,by simp; omega,by rw[hw]at g4; exact g4⟩ (by simp only; omega)) (Shift.trans (Shift.trim 5 (id:=2) rfl rfl (by simp) (lbq _)) (Shift.only 2 4 (by simp) (by simp) rfl (by simp) rfl ?_ ?_))
        .simp only [List.set_cons_succ,lbs,las,lbm,lcb,List.take_zero,laz,List.all_nil,↓AjS,dry,lbo]
        .simp only[wkg,okg,go_sem]
         simp
       | false =>
        have hw:wstep st c=⟨false,[],st.out⟩:=by simp[wstep,q1,q3,q4,q5]
        simp only[go_sem,q4,q5];refine zr [] AaJ ?_;simp only[go_sem]
        repeat refine al ?_
        simp only[Nat.sub_zero];apply zgN;simp only[go_sem]
        repeat refine al ?_
        rw[e1];refine ainv (hJ (i+1,⟨false,[],st.out⟩) ⟨by simp only; omega,by simp,by simp; omega,by rw[hw]at g4; exact g4⟩ (by simp only; omega)) (Shift.trans (Shift.trim 5 (id:=2) rfl rfl (by simp) (lbq _)) (Shift.only 2 3 (by simp) (by simp) rfl (by simp) rfl ?_ ?_))
        .simp only [List.set_cons_succ,lbs,las,lbm,lcb,List.take_zero,laz,List.all_nil,↓AjS,dry,lbo]
        .simp only[wkg,okg,go_sem]
         simp
   .have d2:decide ((i:Int)<(s.length:Int))=false:=by simp; omega
    have hc32:c=32:=by rw[<- hc]; rw[List.getElem_append_right (by omega)]; simp
    subst hc32;apply zgN;simp only[go_sem,di,d2];refine zpN (AdK 32) ?_;rw[show letB 32=false from rfl];simp only[go_sem];refine zpN (AcJ 32) ?_;rw[show digI 32=false from rfl]
    cases q5:st.letters with
    | true =>
     have hw:wstep st 32=⟨false,[],st.out++[st.word]⟩:=by
      have:letB ((32:UInt8).toNat:Int)=false:=rfl;have:digI ((32:UInt8).toNat:Int)=false:=rfl
      simp_all [wstep]
     simp only[go_sem,q5];have htk:List.map Av.byteOf (List.take st.word.length (bys st.word))=st.word:=by
      rw[lag (by simp)]; exact(AjQ st.word).2
     have hall:(List.take st.word.length (bys st.word)).all AdF=true:=by
      rw[lag (by simp)]; exact(AjQ st.word).1
     rw[htk,hall]
     repeat refine al ?_
     rw[apo,apol];refine zr [] AaJ ?_;simp only[go_sem]
     repeat refine al ?_
     simp only[Nat.sub_zero];apply zgN;simp only[go_sem]
     repeat refine al ?_
     rw[e1];refine ainv (hJ (i+1,⟨false,[],st.out++[st.word]⟩) ⟨by simp only; omega,by simp,by simp; omega,by rw[hw]at g4; exact g4⟩ (by simp only; omega)) (Shift.trans (Shift.trim 5 (id:=2) rfl rfl (by simp) (lbq _)) (Shift.only 2 4 (by simp) (by simp) rfl (by simp) rfl ?_ ?_))
     .simp only [List.set_cons_succ,lbs,las,lbm,lcb,List.take_zero,laz,List.all_nil,↓AjS,dry,lbo]
     .simp only[wkg,okg,go_sem]
      simp
    | false =>
     have hw:wstep st 32=⟨false,[],st.out⟩:=by
      have:letB ((32:UInt8).toNat:Int)=false:=rfl;have:digI ((32:UInt8).toNat:Int)=false:=rfl
      simp_all [wstep]
     simp only[go_sem,q5];refine zr [] AaJ ?_;simp only[go_sem]
     repeat refine al ?_
     simp only[Nat.sub_zero];apply zgN;simp only[go_sem]
     repeat refine al ?_
     rw[e1];refine ainv (hJ (i+1,⟨false,[],st.out⟩) ⟨by simp only; omega,by simp,by simp; omega,by rw[hw]at g4; exact g4⟩ (by simp only; omega)) (Shift.trans (Shift.trim 5 (id:=2) rfl rfl (by simp) (lbq _)) (Shift.only 2 3 (by simp) (by simp) rfl (by simp) rfl ?_ ?_))
     .simp only [List.set_cons_succ,lbs,las,lbm,lcb,List.take_zero,laz,List.all_nil,↓AjS,dry,lbo]
     .simp only[wkg,okg,go_sem]
      simp
  .have di:decide ((i:Int)<(s.length:Int)+1)=false:=by simp; omega
   have:i=s.length+1:=by omega
   subst this;rw[List.drop_of_length_le (by simp)]at g4;have hf:∀ l:List LU,(flat (l.map AV.str)).all Av.frozen=true:=fun l=>by
    induction l with
    | nil=>rfl
    | cons y l ih=>simpa[flat,cellsOf,Av.frozen]using ih
   apply zgN;simp only[go_sem,di];refine ARet.shift (Shift.freeze 2 (id:=1) rfl rfl (by simp) (lab _) (hf _)) (aret [2] rfl ⟨?_,rfl⟩);rw[<- g4]
   simp[resV,Av.get,Av.put,lag]
