/- A range over a function whose body may return before its end, at one known round. -/
import Derived.Test.YtnfkjpihaficbaaGreatDoorK29
set_option linter.unusedSimpArgs false
set_option linter.unusedVariables false
set_option linter.unusedSectionVars false
namespace Go.Av
open Go Go.RowKit
variable [Tr]
@[reducible] def mkS (P:Program) (fn:Func) (h:Mem) (ρ:Own) (sto:List Blk) (w:World) (l:List (Nat×Obj)) (id:Nat) (J:Act->World->Prop):Cr :=
 ⟨⟨P,fn,h,ρ,sto,w,fun _ _=>True,XB l,stbB l⟩,some id,[],fun x a w=>x=.ret/\J a w⟩
theorem BlT{P:Program}{fn:Func}{h:Mem}{ρ:Own}{sto:List Blk}{w:World}{l:List (Nat×Obj)}{id:Nat}{J:Act->World->Prop}{e e':Env}{s s':List Blk}
  (hJ:∀ a w',SimR (mkS P fn h ρ sto w l id J) e' s' a w'->J a w') (x:Shift (mkS P fn h ρ sto w l id J).c e s e' s'):AOut (mkS P fn h ρ sto w l id J) .ret e s:=fun a w hs=>⟨rfl,hJ a w (x.r hs)⟩
theorem putObj_putObj(w:World)(l:Nat)(a b:Obj):(w.putObj l a).putObj l b=w.putObj l b:=by
 unfold World.putObj
 simp
theorem AxF{w:World}{l:Nat}{o:Obj}(h:w.heap[l]? = some o):w.putObj l o=w:=by
 unfold World.putObj;have:w.heap.setIfInBounds l o=w.heap:=by
  obtain⟨h1,h2⟩:=Array.getElem?_eq_some_iff.1 h;apply Array.ext
  .simp
  .intro i h3 h4
   rw[Array.getElem_setIfInBounds]
   .split
    .rename_i e
     subst e;exact h2.symm
    .rfl
 rw[this]
def ItS{σ:Type}(P:Program)(g:Std)(gf:FuncId)(lb xs:List AV)(n:Nat)(S:Nat->σ->List Blk)(q0:σ):Prop :=
 AaB P gf=true/\∀ (l:Nat) (X:Mem->Own->World->Prop) (hX:Stb X) (Y:Mem->Own->World->Prop) (hY:Stb Y) (o1 o3:Obj) (hXo:∀ h ρ w,X h ρ w->w.heap[l]? = some o1) (hYo:∀ h ρ w,Y h ρ w->w.heap[l]? = some o3) (h:Mem) (ρ:Own) (w:World) (vs:List Value),Le g w ρ->Mine h ρ (S 0 q0) w->RL h (Lf ρ (S 0 q0)) false vs lb->X h ρ w ->
  (∀ j q x h1 ρ1 w1 v,xs[j]? = some x->j<n->Later h ρ (S 0 q0) w h1 ρ1 (S j q) w1->Mine h1 ρ1 (S j q) w1->X h1 ρ1 w1->RV h1 (Lf ρ1 (S j q)) false v x ->
   YieldAt Fence.wide 0 P l #[v] w1 fun en w'=>en=.returned (.bool true)/\∃ h' ρ',Mine h' ρ' (S (j+1) q) w'/\Later h1 ρ1 (S j q) w1 h' ρ' (S (j+1) q) w'/\X h' ρ' w') ->
  (∀ q x h1 ρ1 w1 v,xs[n]? = some x->Later h ρ (S 0 q0) w h1 ρ1 (S n q) w1->Mine h1 ρ1 (S n q) w1->X h1 ρ1 w1->RV h1 (Lf ρ1 (S n q)) false v x ->
   YieldAt Fence.wide 0 P l #[v] w1 fun en w'=>en=.returned (.bool false)/\∃ h' ρ',Mine h' ρ' (S (n+1) q) w'/\Later h1 ρ1 (S n q) w1 h' ρ' (S (n+1) q) (w'.putObj l o1)/\Y h' ρ' w') ->
  CallsIn Fence.wide 0 P gf (#[.func (.yield l) #[] #[]]++vs.toArray) w fun en w'=>(∃ v,en=.returned v) /\
   ((xs.length<=n/\∃ q h' ρ',Mine h' ρ' (S xs.length q) w'/\Later h ρ (S 0 q0) w h' ρ' (S xs.length q) w'/\X h' ρ' w')\/(n<xs.length/\∃ q h' ρ',Mine h' ρ' (S (n+1) q) w'/\Later h ρ (S 0 q0) w h' ρ' (S (n+1) q) (w'.putObj l o1)/\Y h' ρ' w'))
theorem BiR{σ:Type}{P:Program}{fn:Func}{h0:Mem}{ρ0:Own}{sto0:List Blk}{w0:World}{post:AV->List Blk->Prop}{Ds:List Nat}{g:Operand}{p:Tmp}{assign body:Code}{k:List It}{e:Env}{s:List Blk}{gf:FuncId}{lb xs:List AV}
  {n:Nat} {S:Nat->σ->List Blk} {q0:σ} {gs:Std} (hg:Le gs w0 ρ0) (he:ev e g=.fn (.func gf) lb) (hs:s=S 0 q0) (hit:ItS P gs gf lb xs n S q0) (hp:p<fn.ntmps) (E1:Nat->Env)
  (hassign:∀ j q x h ρ w l id J,xs[j]? = some x->j<=n->Le gs w ρ->(∀ a w',SimR (mkL P fn h ρ (S j q) w l id) (E1 j) (S j q) a w'->J a w')->AWpR (mkL P fn h ρ (S j q) w l id) [.code assign,.inv J] (put e (some p) x) (S j q))
  (hbody:∀ j q x h ρ w l id J,xs[j]? = some x->j<n->Le gs w ρ->(∀ a w',SimR (mkL P fn h ρ (S j q) w l id) [] (S (j+1) q) a w'->J a w')->AWpR (mkL P fn h ρ (S j q) w l id) [.code body,.inv J] (E1 j) (S j q))
  (hstop:∀ q x h ρ w l id J,xs[n]? = some x->Le gs w ρ->(∀ a w',SimR (mkS P fn h ρ (S n q) w l id J) [] (S (n+1) q) a w'->J a w')->AWpR (mkS P fn h ρ (S n q) w l id J) [.code body] (E1 n) (S n q))
  (hdone:xs.length<=n->∀ D q,w0.heap.size<=D->AWpR (mkM P fn h0 ρ0 sto0 w0 post (D::Ds)) k e (S xs.length q))
  (hquit:n<xs.length->∀ D q,w0.heap.size<=D->AOut (mkM P fn h0 ρ0 sto0 w0 post (D::Ds)) .ret e (S (n+1) q)):AWpR (mkM P fn h0 ρ0 sto0 w0 post Ds) (.code (.rangeFunc g #[p] assign body)::k) e s:=by
 subst hs;intro a w hsim;obtain⟨h,ρ,hm,hl,hen,hdf,hsz,hX⟩:=hsim;have hgv:=AaH hen g;rw[he]at hgv;obtain⟨vs,hvs,rvs⟩:∃ vs,a.eval g=.func (.func gf) #[] vs.toArray/\RL h (Lf ρ (S 0 q0)) false vs lb:=by
  generalize a.eval g=v at hgv
  cases hgv with
  | fn f vs l r=>exact⟨vs,rfl,r⟩
  | leaf lf=>exact lf.2.elim
 have hlw:Le gs w ρ:=hg.later hl
 show(Code.rangeFunc g #[p] assign body).wpIn _ 0 P _ a w
 refine wpIn_rangeFunc ?_;intro fno hfn;obtain⟨rec,hrec⟩:∃ rec:LoopState->Option Code->Loop,rec=fun st pe=>{ state:=st,pending:=pe,fn:=fno,tmps:=a.tmps,params:=#[p],assign,body,defers:=w.heap.size }:=⟨_,rfl⟩
 obtain⟨W1,hW1⟩:∃ W1,(w.alloc (.deferred (some []))).alloc (.loop (rec .ready none))=W1:=⟨_,rfl⟩;have hL1:W1.heap[w.heap.size+1]? = some (.loop (rec .ready none)):=by
  rw[<- hW1]; have:=World.alloc_heap_new (w.alloc (.deferred (some []))) (.loop (rec .ready none)); rwa [World.size_alloc]at this
 have hK1:W1.heap[w.heap.size]? = some (.deferred (some [])):=by
  rw[<- hW1]; exact(Below.heap_alloc _ _ _ (by simp)).trans (World.alloc_heap_new w _)
 have sm:Same w W1:=by rw[<- hW1]; exact(Same.alloc w _).trans (Same.alloc _ _)
 have m1:Mine h ρ (S 0 q0) W1:=hm.same sm;have L1:Later h ρ (S 0 q0) w h ρ (S 0 q0) W1:=Later.same sm;have hnew:∀ b,w.heap.size<=b->∀ i t,ρ i≠some (b,t):=fun b hb i t hi=>by have:=hm.lt hi; omega
 have hX1:XB ((w.heap.size+1,.loop (rec .ready none))::DfO (w.heap.size::Ds)) h ρ W1:=by
  intro p hp;simp only[DfO,List.map_cons,List.mem_cons]at hp
  rcases hp with rfl|rfl|hp
  .exact ⟨hL1,hnew _ (by omega)⟩
  .exact ⟨hK1,hnew _ (by omega)⟩
  .exact (stbB (DfO Ds)).later hm L1 hX p hp
 refine⟨w.heap.size+1,[{ target:=.collected w.heap.size,args:=#[] }],W1,{ target:=.fn (.func gf) vs.toArray,args:=#[.func (.yield (w.heap.size+1)) #[] #[]] },W1,gf,
  #[.func (.yield (w.heap.size+1)) #[] #[]]++vs.toArray,W1,?_,?_,fun _ _=>trivial,?_,fun hq=>(by cases hq),?_⟩
 .rw [<- hW1,hrec]; exact run_enterLoop_outer _ _ _ _ _
 .simp only [resolve,hvs]
  simp[go_sem]
 .simp [invoke,go_sem,AmY hit.1]
 refine((hit.2 (w.heap.size+1) (XB ((w.heap.size+1,.loop (rec .ready none))::DfO (w.heap.size::Ds))) (stbB _) (XB ((w.heap.size+1,.loop (rec .done (some .ret)))::DfO (w.heap.size::Ds))) (stbB _) (.loop (rec .ready none)) (.loop (rec .done (some .ret))) (fun _ _ _ hh=>(hh (w.heap.size+1,.loop (rec .ready none)) (by simp)).1) (fun _ _ _ hh=>(hh (w.heap.size+1,.loop (rec .done (some .ret))) (by simp)).1) h ρ W1 vs (hlw.later L1) m1 (rvs.mono (fun _ _ _ x=>x) (fun _ _ x=>x)) hX1 ?_ ?_).mono ?_:CallsIn Fence.wide 0 P gf _ W1 _)
 .-- a round
  intro j q x h1 ρ1 w1 v hx hjn hl1 hm1 hX1 rv;have hlo:w1.heap[w.heap.size+1]? = some (.loop (rec .ready none)):=(hX1 (w.heap.size+1,.loop (rec .ready none)) (by simp)).1;have hun:∀ i t,ρ1 i≠some (w.heap.size+1,t):=(hX1 (w.heap.size+1,.loop (rec .ready none)) (by simp)).2;have hy:=run_yield (P:=P) (args:=#[v]) hlo (by rw[hrec]; rfl);rw[hrec]at hy;refine⟨fno,a.tmps.setIfInBounds p v,assign,body,hy.trans (by simp),roundIn_of_wpIn (n:=0) (F:=Fence.wide) hfn ?_⟩;have hle1:Le gs w1 ρ1:=(hlw.later L1).later hl1;have hsim1:SimR (mkL P fn h1 ρ1 (S j q) w1 ((w.heap.size+1,.loop (rec .ready none))::DfO (w.heap.size::Ds)) (w.heap.size+1)) (put e (some p) x) (S j q) { tmps:=a.tmps.setIfInBounds p v,defers:=[] } w1:=by
   refine⟨h1,ρ1,hm1,.refl ..,?_,rfl,by simpa using hsz,hX1⟩;have he1:EnvOk h1 ρ1 (S j q) e { tmps:=a.tmps,defers:=[] }:=fun t=>((hen t).mono L1.hle L1.keep).mono hl1.hle hl1.keep
   exact he1.put (d:=some p) (by simpa[dOk,hsz]using hp) rv
  have:=hassign j q x h1 ρ1 w1 _ (w.heap.size+1) (fun a₁ w₁=>SimR (mkL P fn h1 ρ1 (S j q) w1 ((w.heap.size+1,.loop (rec .ready none))::DfO (w.heap.size::Ds)) (w.heap.size+1)) (E1 j) (S j q) a₁ w₁) hx (Nat.le_of_lt hjn) hle1 (fun a w' hh=>hh) _ w1 hsim1;refine AmZ this (fun _ _ _ x=>x) fun a₁ w₁ hq=>?_
  .obtain ⟨h2,ρ2,hm2,hl2,he2,hd2,hs2,hx2⟩:=hq
   have hlo2:=(hx2 (w.heap.size+1,.loop (rec .ready none)) (by simp)).1;have hun2:=(hx2 (w.heap.size+1,.loop (rec .ready none)) (by simp)).2;simp only at hlo2 hun2;refine⟨_,run_beginRound hlo2 (by rw[hrec]),?_⟩;obtain⟨W2,hW2⟩:∃ W2,w₁.putObj (w.heap.size+1) (.loop { rec .ready none with state:=.busy })=W2:=⟨_,rfl⟩;rw[hW2];have hlt2:w.heap.size+1<w₁.heap.size:=(Array.getElem?_eq_some_iff.1 hlo2).1;have mB:Mine h2 ρ2 (S j q) W2:=by rw[<- hW2]; exact hm2.putObj hlo2 rfl hun2
   have hoth:∀ p∈DfO (w.heap.size::Ds),p.1≠w.heap.size+1:=fun p hp e=>by
    have h1:=(hx2 p (List.mem_cons_of_mem _ hp)).1;rw[e,hlo2]at h1;simp only[DfO,List.mem_map]at hp;obtain⟨D,_,rfl⟩:=hp
    cases h1
   have xB:XB ((w.heap.size+1,.loop { rec .ready none with state:=.busy })::DfO (w.heap.size::Ds)) h2 ρ2 W2:=by
    intro p hp
    rcases List.mem_cons.1 hp with rfl|hp'
    .exact ⟨by rw[<- hW2]; exact World.putObj_heap_same hlt2,hun2⟩
    .have:=hx2 p (List.mem_cons_of_mem _ hp')
     exact⟨by rw[<- hW2]; exact(World.putObj_heap_other (hoth p hp')).trans this.1,this.2⟩
   have hleB:Le gs W2 ρ2:=fun kk o e=>by
    obtain⟨a1,a2⟩:=(hle1.later hl2) kk o e;refine⟨?_,a2⟩;rw[<- hW2];refine(World.putObj_heap_other fun e2=>?_).trans a1;have h1:=(hlw kk o e).1;have:=(Array.getElem?_eq_some_iff.1 h1).1;omega
   have simB:SimR (mkL P fn h2 ρ2 (S j q) W2 ((w.heap.size+1,.loop { rec .ready none with state:=.busy })::DfO (w.heap.size::Ds)) (w.heap.size+1)) (E1 j) (S j q) a₁ W2 :=
    ⟨h2,ρ2,mB,.refl ..,he2,hd2,hs2,xB⟩
   have hb:=hbody j q x h2 ρ2 W2 _ (w.heap.size+1) (fun a₃ w₃=>SimR (mkL P fn h2 ρ2 (S j q) W2 ((w.heap.size+1,.loop { rec .ready none with state:=.busy })::DfO (w.heap.size::Ds)) (w.heap.size+1)) [] (S (j+1) q) a₃ w₃) hx hjn hleB (fun a w' hh=>hh) _ W2 simB;refine AmZ hb (fun _ _ _ x=>x) fun a₃ w₃ hq3=>?_
   .obtain ⟨h3,ρ3,hm3,hl3,_,_,_,hx3⟩:=hq3
    have hlo3:=(hx3 (w.heap.size+1,.loop { rec .ready none with state:=.busy }) (by simp)).1;have hun3:=(hx3 (w.heap.size+1,.loop { rec .ready none with state:=.busy }) (by simp)).2;simp only at hlo3 hun3;have hend:=run_endRound (P:=P) none hlo3;have hrr:({ rec .ready none with state:=.busy }:Loop)={ rec .ready none with state:=.busy }:=rfl;have hback:({ { rec .ready none with state:=.busy } with state:=if(none:Option Code).isNone then .ready else .done,pending:=none }:Loop)=rec .ready none:=by rw[hrec]; rfl
    rw[hback]at hend;refine⟨_,_,hend,rfl,h3,ρ3,hm3.putObj hlo3 rfl hun3,?_,?_⟩
    .rw [<- hW2]at hl3
     exact hl2.trans (Later.around hlo2 hl3)
    .intro p hp
     have hlt3:w.heap.size+1<w₃.heap.size:=(Array.getElem?_eq_some_iff.1 hlo3).1
     rcases List.mem_cons.1 hp with rfl|hp'
     .exact ⟨World.putObj_heap_same hlt3,hun3⟩
     .have:=hx3 p (List.mem_cons_of_mem _ hp')
      exact⟨(World.putObj_heap_other (hoth p hp')).trans this.1,this.2⟩
 .-- the round that stops
  intro q x h1 ρ1 w1 v hx hl1 hm1 hX1 rv;have hlo:w1.heap[w.heap.size+1]? = some (.loop (rec .ready none)):=(hX1 (w.heap.size+1,.loop (rec .ready none)) (by simp)).1;have hun:∀ i t,ρ1 i≠some (w.heap.size+1,t):=(hX1 (w.heap.size+1,.loop (rec .ready none)) (by simp)).2;have hy:=run_yield (P:=P) (args:=#[v]) hlo (by rw[hrec]; rfl);rw[hrec]at hy;refine⟨fno,a.tmps.setIfInBounds p v,assign,body,hy.trans (by simp),roundIn_of_wpIn (n:=0) (F:=Fence.wide) hfn ?_⟩;have hle1:Le gs w1 ρ1:=(hlw.later L1).later hl1;have hsim1:SimR (mkL P fn h1 ρ1 (S n q) w1 ((w.heap.size+1,.loop (rec .ready none))::DfO (w.heap.size::Ds)) (w.heap.size+1)) (put e (some p) x) (S n q) { tmps:=a.tmps.setIfInBounds p v,defers:=[] } w1:=by
   refine⟨h1,ρ1,hm1,.refl ..,?_,rfl,by simpa using hsz,hX1⟩;have he1:EnvOk h1 ρ1 (S n q) e { tmps:=a.tmps,defers:=[] }:=fun t=>((hen t).mono L1.hle L1.keep).mono hl1.hle hl1.keep
   exact he1.put (d:=some p) (by simpa[dOk,hsz]using hp) rv
  have:=hassign n q x h1 ρ1 w1 _ (w.heap.size+1) (fun a₁ w₁=>SimR (mkL P fn h1 ρ1 (S n q) w1 ((w.heap.size+1,.loop (rec .ready none))::DfO (w.heap.size::Ds)) (w.heap.size+1)) (E1 n) (S n q) a₁ w₁) hx (Nat.le_refl _) hle1 (fun a w' hh=>hh) _ w1 hsim1;refine AmZ this (fun _ _ _ x=>x) fun a₁ w₁ hq=>?_
  .obtain ⟨h2,ρ2,hm2,hl2,he2,hd2,hs2,hx2⟩:=hq
   have hlo2:=(hx2 (w.heap.size+1,.loop (rec .ready none)) (by simp)).1;have hun2:=(hx2 (w.heap.size+1,.loop (rec .ready none)) (by simp)).2;simp only at hlo2 hun2;refine⟨_,run_beginRound hlo2 (by rw[hrec]),?_⟩;obtain⟨W2,hW2⟩:∃ W2,w₁.putObj (w.heap.size+1) (.loop { rec .ready none with state:=.busy })=W2:=⟨_,rfl⟩;rw[hW2];have hlt2:w.heap.size+1<w₁.heap.size:=(Array.getElem?_eq_some_iff.1 hlo2).1;have mB:Mine h2 ρ2 (S n q) W2:=by rw[<- hW2]; exact hm2.putObj hlo2 rfl hun2
   have hoth:∀ p∈DfO (w.heap.size::Ds),p.1≠w.heap.size+1:=fun p hp e=>by
    have h1:=(hx2 p (List.mem_cons_of_mem _ hp)).1;rw[e,hlo2]at h1;simp only[DfO,List.mem_map]at hp;obtain⟨D,_,rfl⟩:=hp
    cases h1
   have xB:XB ((w.heap.size+1,.loop { rec .ready none with state:=.busy })::DfO (w.heap.size::Ds)) h2 ρ2 W2:=by
    intro p hp
    rcases List.mem_cons.1 hp with rfl|hp'
    .exact ⟨by rw[<- hW2]; exact World.putObj_heap_same hlt2,hun2⟩
    .have:=hx2 p (List.mem_cons_of_mem _ hp')
     exact⟨by rw[<- hW2]; exact(World.putObj_heap_other (hoth p hp')).trans this.1,this.2⟩
   have hleB:Le gs W2 ρ2:=fun kk o e=>by
    obtain⟨a1,a2⟩:=(hle1.later hl2) kk o e;refine⟨?_,a2⟩;rw[<- hW2];refine(World.putObj_heap_other fun e2=>?_).trans a1;have h1:=(hlw kk o e).1;have:=(Array.getElem?_eq_some_iff.1 h1).1;omega
   have hb:=hstop q x h2 ρ2 W2 ((w.heap.size+1,.loop { rec .ready none with state:=.busy })::DfO (w.heap.size::Ds)) (w.heap.size+1) (fun a₃ w₃=>∃ J0,SimR (mkS P fn h2 ρ2 (S n q) W2 ((w.heap.size+1,.loop { rec .ready none with state:=.busy })::DfO (w.heap.size::Ds)) (w.heap.size+1) J0) [] (S (n+1) q) a₃ w₃) hx hleB (fun a w' hh=>⟨_,hh⟩) a₁ W2 ⟨h2,ρ2,mB,.refl ..,he2,hd2,hs2,xB⟩;refine Code.wpIn_mono ?_ hb;rintro en a₃ w₃ ⟨rfl,J0,hq3⟩;obtain⟨h3,ρ3,hm3,hl3,_,_,_,hx3⟩:=hq3;have hlo3:=(hx3 (w.heap.size+1,.loop { rec .ready none with state:=.busy }) (by simp)).1;have hun3:=(hx3 (w.heap.size+1,.loop { rec .ready none with state:=.busy }) (by simp)).2;simp only at hlo3 hun3;have hend:=run_endRound (P:=P) (some .ret) hlo3;have hback:({ { rec .ready none with state:=.busy } with state:=if(some Code.ret:Option Code).isNone then .ready else .done,pending:=some .ret }:Loop)=rec .done (some .ret):=by rw[hrec]; rfl
   rw[hback]at hend;refine⟨_,_,hend,rfl,h3,ρ3,hm3.putObj hlo3 rfl hun3,?_,?_⟩
   .rw [<- hW2]at hl3
    rw[putObj_putObj];exact hl2.trans (Later.around hlo2 hl3)
   .intro p hp
    have hlt3:w.heap.size+1<w₃.heap.size:=(Array.getElem?_eq_some_iff.1 hlo3).1
    rcases List.mem_cons.1 hp with rfl|hp'
    .exact ⟨World.putObj_heap_same hlt3,hun3⟩
    .have:=hx3 p (List.mem_cons_of_mem _ hp')
     exact⟨(World.putObj_heap_other (hoth p hp')).trans this.1,this.2⟩
 .-- behind the iterator
  rintro en W3 ⟨⟨v,rfl⟩,(⟨hxn,q,h3,ρ3,hm3,hl3,hx3⟩|⟨hxn,q,h3,ρ3,hm3,hl3,hx3⟩)⟩
  .have hlo3:=(hx3 (w.heap.size+1,.loop (rec .ready none)) (by simp)).1
   have hun3:=(hx3 (w.heap.size+1,.loop (rec .ready none)) (by simp)).2;simp only at hlo3 hun3;have hend:=run_endLoop (P:=P) hlo3 (by rw[hrec]; simp);rw[show(rec .ready none).pending=none by rw[hrec]]at hend;refine⟨none,_,hend,?_⟩;have hD:w0.heap.size<=w.heap.size:=hl.size;have L3:=(hl.trans L1).trans hl3;refine hdone hxn w.heap.size q hD _ _ ⟨h3,ρ3,hm3.putObj hlo3 rfl hun3,L3.putNew (show w0.heap.size<=w.heap.size+1 by omega),fun t=>((hen t).mono L1.hle L1.keep).mono hl3.hle hl3.keep,?_,hsz,?_⟩
   .show _::a.defers=_
    rw[hdf]; rfl
   .intro p hp
    have:=hx3 p (List.mem_cons_of_mem _ hp);refine⟨(World.putObj_heap_other fun e=>?_).trans this.1,this.2⟩;have h1:=this.1;rw[e,hlo3]at h1;simp only[DfO,List.mem_map]at hp;obtain⟨D,_,rfl⟩:=hp
    cases h1
  .have hlo3:=(hx3 (w.heap.size+1,.loop (rec .done (some .ret))) (by simp)).1
   have hun3:=(hx3 (w.heap.size+1,.loop (rec .done (some .ret))) (by simp)).2;simp only at hlo3 hun3;have hend:=run_endLoop (P:=P) hlo3 (by rw[hrec]; simp);rw[show(rec .done (some .ret)).pending=some .ret by rw[hrec]]at hend;refine⟨some .ret,_,hend,?_⟩;have hD:w0.heap.size<=w.heap.size:=hl.size;have L3:=(hl.trans L1).trans hl3;have hL4:∀ o,Later h0 ρ0 sto0 w0 h3 ρ3 (S (n+1) q) (W3.putObj (w.heap.size+1) o):=fun o=>by
    have:=L3.putNew (x:=o) (show w0.heap.size<=w.heap.size+1 by omega)
    rwa [putObj_putObj]at this
   refine wpIn_ret ?_;refine AwX (r:=mkM P fn h0 ρ0 sto0 w0 post (w.heap.size::Ds)) (k:=k) (hquit hxn w.heap.size q hD _ _ ⟨h3,ρ3,hm3.putObj hlo3 rfl hun3,hL4 _,fun t=>((hen t).mono L1.hle L1.keep).mono hl3.hle hl3.keep,?_,hsz,?_⟩)
   .show _::a.defers=_
    rw[hdf]; rfl
   .intro p hp
    have:=hx3 p (List.mem_cons_of_mem _ hp);refine⟨(World.putObj_heap_other fun e=>?_).trans this.1,this.2⟩;have h1:=this.1;rw[e,hlo3]at h1;simp only[DfO,List.mem_map]at hp;obtain⟨D,_,rfl⟩:=hp
    cases h1
theorem A8C{c:Cx}{out:Exit->Act->World->Prop}{k:List It}{e:Env}{s s':List Blk}{all os:List Oper}{o:Oper}{f x:Operand}{ts:Array TypeId}{l:Nat}{Y:Mem->Own->World->Prop}{hY:Stb Y}{o1:Obj}
  (ho:o.op=.call { callee:=.value f,args:=#[x],argTypes:=ts }) (hf:ev e f=.raw (.func (.yield l) #[] #[]))
  (hYf:∀ h1 ρ1 w1 v,Later c.h c.ρ c.sto c.w h1 ρ1 s w1->Mine h1 ρ1 s w1->c.x h1 ρ1 w1->RV h1 (Lf ρ1 s) false v (ev e x) ->
   YieldAt Fence.wide 0 c.P l #[v] w1 fun en w'=>en=.returned (.bool false)/\∃ h' ρ',Mine h' ρ' s' w'/\Later h1 ρ1 s w1 h' ρ' s' (w'.putObj l o1)/\Y h' ρ' w')
  (hk:∀ h' ρ' w',Later c.h c.ρ c.sto c.w h' ρ' s' (w'.putObj l o1)->Y h' ρ' w'->AWpR ⟨⟨c.P,c.fn,h',ρ',s',w',fun _ _=>True,Y,hY⟩,none,[],out⟩ (.ops all os::k) (put e o.dst (.bool false)) s'):AWpR ⟨c,none,[],out⟩ (.op all o os::k) e s:=by
 intro a w hsim;obtain⟨h,ρ,hm,hl,he,hdf,hsz,hX⟩:=hsim
 show dOk c.fn.ntmps o.dst=true->_
 intro hd;have hfv:=AaH he f;rw[hf]at hfv;have hfe:=AbF hfv;obtain⟨fno,tm,asg,bd,hy,hR⟩:=hYf h ρ w (a.eval x) hl hm hX (AaH he x);unfold Oper.wpIn;refine⟨fun _ _=>trivial,?_⟩;rw[Oper.semAt_eq _ _ _ (by rw[ho]; intro c hc; cases hc)];have hrun:(execOp a.eval o).run c.P w=.ok (.round l fno tm asg bd) w:=by
  rw[<- hy]
  simp[execOp,ho,resolve,hfe,Deferred.ofValue,invoke]
 rw[hrun];refine⟨fun hq=>(by cases hq),RoundIn.mono hR ?_⟩;rintro en w' ⟨rfl,h',ρ',hm',hl',hx'⟩;have he':EnvOk h' ρ' s' e a:=fun t=>(he t).mono hl'.hle hl'.keep
 exact hk _ _ _ (hl.trans hl') hx' _ _ ⟨h',ρ',hm',.refl ..,he'.put (by rw[hsz]; exact hd) (.bool false),by rw[AaE]; exact hdf,by rw[AaW]; exact hsz,hx'⟩
theorem A8D{σ:Type}{P:Program}{g:Std}{f:FuncId}{fn:Func}{body:Code}{N:Nat}{lb xs:List AV}{n:Nat}{S:Nat->σ->List Blk}{q0:σ}(hf:P.funcs[f]? = some fn)(hb:fn.body=some body)(hn:fn.ntmps=N)(hx:AaB P f=true)(hres:fn.results=#[])
  (ha:lb.length+1<=N)
  (hw:∀ (l:Nat) (c:Cx) (out:Exit->Act->World->Prop) (Y:Mem->Own->World->Prop) (hY:Stb Y) (o1:Obj),c.P=P->c.fn=fn->c.sto=S 0 q0->Le g c.w c.ρ ->
   (∀ j q x,xs[j]? = some x->j<n->∀ h1 ρ1 w1 v,Later c.h c.ρ c.sto c.w h1 ρ1 (S j q) w1->Mine h1 ρ1 (S j q) w1->c.x h1 ρ1 w1->RV h1 (Lf ρ1 (S j q)) false v x ->
    YieldAt Fence.wide 0 c.P l #[v] w1 fun en w'=>en=.returned (.bool true)/\∃ h' ρ',Mine h' ρ' (S (j+1) q) w'/\Later h1 ρ1 (S j q) w1 h' ρ' (S (j+1) q) w'/\c.x h' ρ' w') ->
   (∀ q x,xs[n]? = some x->∀ h1 ρ1 w1 v,Later c.h c.ρ c.sto c.w h1 ρ1 (S n q) w1->Mine h1 ρ1 (S n q) w1->c.x h1 ρ1 w1->RV h1 (Lf ρ1 (S n q)) false v x ->
    YieldAt Fence.wide 0 c.P l #[v] w1 fun en w'=>en=.returned (.bool false)/\∃ h' ρ',Mine h' ρ' (S (n+1) q) w'/\Later h1 ρ1 (S n q) w1 h' ρ' (S (n+1) q) (w'.putObj l o1)/\Y h' ρ' w') ->
   (xs.length<=n->∀ x q,(x=.normal\/x=.ret)->AOut ⟨c,none,[],out⟩ x [] (S xs.length q)) ->
   (n<xs.length->∀ x q h' ρ' w',Later c.h c.ρ c.sto c.w h' ρ' (S (n+1) q) (w'.putObj l o1)->Y h' ρ' w'->(x=.normal\/x=.ret)->AOut ⟨⟨c.P,c.fn,h',ρ',S (n+1) q,w',fun _ _=>True,Y,hY⟩,none,[],out⟩ x [] (S (n+1) q)) ->
   AWpR ⟨c,none,[],out⟩ [.code body] (args0 0 (.raw (.func (.yield l) #[] #[])::lb)) (S 0 q0)):ItS P g f lb xs n S q0:=by
 refine⟨hx,fun l X hX Y hY o1 o3 hXo hYo h ρ w vs hg hm hv hXw hYt hYf=>?_⟩;refine callsIn_of_wp hf hb trivial ?_
 let R:Ending->World->Prop:=fun en w'=>(∃ v,en=.returned v)/\((xs.length<=n/\∃ q h' ρ',Mine h' ρ' (S xs.length q) w'/\Later h ρ (S 0 q0) w h' ρ' (S xs.length q) w'/\X h' ρ' w')\/(n<xs.length/\∃ q h' ρ',Mine h' ρ' (S (n+1) q) w'/\Later h ρ (S 0 q0) w h' ρ' (S (n+1) q) (w'.putObj l o1)/\Y h' ρ' w'))
 have hfin:xs.length<=n->∀ x q,(x=Exit.normal\/x=.ret)->AOut ⟨⟨P,fn,h,ρ,S 0 q0,w,fun _ _=>True,X,hX⟩,none,[],bodyPost P fn R⟩ x [] (S xs.length q):=by
  intro hxn x q hxx a w' hsim;obtain⟨h',ρ',hm',hl',_,hdf,_,hx'⟩:=hsim;have:a.defers=[]/\∃ v,(results fn a.tmps).run P w'=.ok v w'/\R (.returned v) w' :=
   ⟨hdf,_,AdJ (ts:=[]) (by rw[hres]; rfl) _ _,⟨_,rfl⟩,.inl ⟨hxn,q,h',ρ',hm',hl',hx'⟩⟩
  rcases hxx with rfl|rfl <;> exact this
 have hqui:n<xs.length->∀ x q h' ρ' w',Later h ρ (S 0 q0) w h' ρ' (S (n+1) q) (w'.putObj l o1)->Y h' ρ' w'->(x=Exit.normal\/x=.ret)->AOut ⟨⟨P,fn,h',ρ',S (n+1) q,w',fun _ _=>True,Y,hY⟩,none,[],bodyPost P fn R⟩ x [] (S (n+1) q):=by
  intro hxn x q h' ρ' w' La hy' hxx a wf hsim;obtain⟨h2,ρ2,hm2,hl2,_,hdf,_,hy2⟩:=hsim;have ho3:=hYo _ _ _ hy';have hlt:l<w'.heap.size:=(Array.getElem?_eq_some_iff.1 ho3).1;have hlo:(w'.putObj l o1).heap[l]? = some o1:=World.putObj_heap_same hlt;have hback:(w'.putObj l o1).putObj l o3=w':=by rw[putObj_putObj,AxF ho3]
  have hl2:Later h' ρ' (S (n+1) q) ((w'.putObj l o1).putObj l o3) h2 ρ2 (S (n+1) q) wf:=by rw[hback]; exact hl2
  have:a.defers=[]/\∃ v,(results fn a.tmps).run P wf=.ok v wf/\R (.returned v) wf :=
   ⟨hdf,_,AdJ (ts:=[]) (by rw[hres]; rfl) _ _,⟨_,rfl⟩,.inr ⟨hxn,q,h2,ρ2,hm2,La.trans (Later.around hlo hl2),hy2⟩⟩
  rcases hxx with rfl|rfl <;> exact this
 have:=hw l ⟨P,fn,h,ρ,S 0 q0,w,fun _ _=>True,X,hX⟩ (bodyPost P fn R) Y hY o1 rfl rfl rfl hg (fun j q x hx hj h1 ρ1 w1 v a1 a2 a3 a4=>hYt j q x h1 ρ1 w1 v hx hj a1 a2 a3 a4) (fun q x hx h1 ρ1 w1 v a1 a2 a3 a4=>hYf q x h1 ρ1 w1 v hx a1 a2 a3 a4) hfin hqui;have hlen:=hv.length;have hargs:(#[Value.func (.yield l) #[] #[]]++vs.toArray)=(Value.func (.yield l) #[] #[]::vs).toArray:=by simp
 rw[hargs];have hv2:RL h (Lf ρ (S 0 q0)) false (Value.func (.yield l) #[] #[]::vs) (.raw (.func (.yield l) #[] #[])::lb):=.cons (.raw _) hv;refine Code.wpIn_mono ?_ (this { tmps:=(Value.func (.yield l) #[] #[]::vs).toArray++Array.replicate (fn.ntmps-(Value.func (.yield l) #[] #[]::vs).toArray.size) undef,defers:=[] } w
  ⟨h,ρ,hm,.refl ..,fun t=>?_,rfl,by simp; omega,hXw⟩)
 .intro en a' w' hq
  exact hq
 .rw [AeF]
  simp only[Nat.zero_le,if_true,Nat.sub_zero];have h1:=hv2.getD t undef
  by_cases ht:t<vs.length+1
  .have:((Value.func (.yield l) #[] #[]::vs).toArray++Array.replicate (fn.ntmps-(Value.func (.yield l) #[] #[]::vs).toArray.size) undef).getD t undef=(Value.func (.yield l) #[] #[]::vs).getD t undef:=by
    simp[Array.getElem?_append,ht,List.getD]
   simp only[this]; exact h1
  .have:(AV.raw (.func (.yield l) #[] #[])::lb).getD t .any=.any:=by simp[List.getD,List.getElem?_eq_none (by simp; omega:(AV.raw (.func (.yield l) #[] #[])::lb).length<=t)]
   rw[this]; exact .any _
