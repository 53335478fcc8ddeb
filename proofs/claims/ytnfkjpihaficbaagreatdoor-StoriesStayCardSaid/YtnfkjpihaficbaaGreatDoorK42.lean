/- The step of a range over a map of one's own: whichever entry comes. -/
import Derived.Test.YtnfkjpihaficbaaGreatDoorK41
set_option linter.unusedSimpArgs false
set_option linter.unusedVariables false
set_option linter.unusedSectionVars false
namespace Go.Av
open Go Go.RowKit
variable [Tr]
section
variable {h:Mem}{ρ:Own}{sto:List Blk}{w:World}{P:Program}
theorem A3L{en:Array MapEntry}{clock:Nat}{es:List (AV×AV)}{seen:List Nat}(ho:EnOk en clock es){e:MapEntry}(he:e∈(leftOf en seen.toArray).toList):∃ p:Nat,en.toList[p]? = some e/\(ixs 0 es)[p]? = some e.born/\e.born ∉ seen:=by
 simp only[leftOf,Array.toList_filter,List.mem_filter]at he;obtain⟨h1,h2⟩:=he;obtain⟨j,hj,e1⟩:=List.getElem_of_mem h1;have hg:en.toList[j]? = some e:=by rw[List.getElem?_eq_getElem hj,e1]
 exact⟨j,hg,ho.2.1 j e hg,by simpa using h2⟩
theorem AxV{en:Array MapEntry}{clock:Nat}{es:List (AV×AV)}{seen:List Nat}(ho:EnOk en clock es)(hl:en.toList.length=(lvs es).length)(he:(leftOf en seen.toArray).size=0):∀ (j:Nat)(z:AV×AV),es[j]? = some z->AaR z.1=true->j∈seen:=by
 intro j z hj hz;obtain⟨p,h1,h2⟩:=AyL (i:=0) hj hz;rw[Nat.zero_add]at h1;have hpl:p<en.toList.length:=by
  have:=(List.getElem?_eq_some_iff.1 h2).1;omega
 have hb:=ho.2.1 p _ (List.getElem?_eq_getElem hpl);rw[h1]at hb;have hb:=Option.some.inj hb;have:(leftOf en seen.toArray).toList=[]:=List.eq_nil_of_length_eq_zero (by simpa using he);simp only[leftOf,Array.toList_filter,List.filter_eq_nil_iff]at this;have:=this _ (List.getElem_mem hpl);rw[<- hb]at this
 simpa using this
theorem A9L{x:Operand}{o:Oper}{e:Env}{a:Act}(ho:o.op=.next x false)(m:Mine h ρ sto w)(he:EnvOk h ρ sto e a){id mid n:Nat}{seen:List Nat}{es:List (AV×AV)}(hx:ev e x=.mp id)
  (hb:sto[id]? = some (.it mid n seen)) (hb2:sto[mid]? = some (.mp es)) (hn:es.length=n) :
  ((∀ (j:Nat) (z:AV×AV),es[j]? = some z->AaR z.1=true->j∈seen)/\Okv h ρ sto w ((execOp a.eval o).run P w) (.tup [.bool false]) sto) \/
  ∃ j z,j ∉ seen/\es[j]? = some z/\AaR z.1=true/\Okv h ρ sto w ((execOp a.eval o).run P w) (.tup [.bool true,z.1,z.2]) (sto.set id (.it mid n (seen++[j]))):=by
 have hv:=AaH he x;rw[hx]at hv;obtain⟨r',g,en,clock,hu,hr,i2,i4,i5,hg,o2,o3,o4,o5⟩:=BeZ m hb hb2 hv;have hcl:clock=n:=by rw[o5.1,hn]
 obtain⟨ty,hrun⟩:∃ ty,(execOp a.eval o).run P w=((Instr.next (a.eval x) false ty).run P w).andThen fun v w'=>.ok (.value v) w':=⟨o.type,by simp[execOp,ho]⟩
 rw[hrun,hu]
 rcases run_next_at (P:=P) w ty r' g n n seen.toArray en clock i2 o2 (fun y hy=>by
   obtain⟨j,hj,e1⟩:=List.getElem_of_mem hy;have hg:=List.getElem?_eq_getElem hj;have:=ix_lt (o5.2.1 j _ hg);rw[e1]at this;omega) (Nat.le_refl _)with⟨h1,h2⟩|⟨y,hy,w1,hw1,h2⟩
 .refine .inl ⟨AxV o5 o3 h1,AaA m (u:=.tuple #[.bool false]) (by rw[h2]; rfl) (.tup [_] [_] (.cons (.bool _) .nil))⟩
 .obtain ⟨p,hj,hborn,hns⟩:=A3L o5 hy
  obtain⟨_,z,q1,q2,q3⟩:=AoL hborn;rw[Nat.sub_zero]at q1;obtain⟨z1,z2⟩:=o4 p z y q2 hj;have hjs:y.born<es.length:=(List.getElem?_eq_some_iff.1 q1).1;refine .inr ⟨y.born,z,hns,q1,q3,?_⟩;have sm:Same w w1:=by
   rcases hw1 with rfl|rfl
   .exact Same.refl _
   .exact Same.drew _
  have m1:=m.same sm;have L1:Later h ρ sto w h ρ sto w1:=Later.same sm;have hr1:w1.heap[r']? = some (.mapIter (some g) n seen.toArray n):=by
   rcases hw1 with rfl|rfl <;> exact i2
  have hlt:r'<w1.heap.size:=(Array.getElem?_eq_some_iff.1 hr1).1;obtain⟨m2,L2⟩:=m1.write (w':=ChangeMaps.setBlock w1 r' (.mapIter (some g) n (seen.toArray.push y.born) clock)) hb (b':=.it mid n (seen++[y.born])) hr trivial rfl rfl ⟨rfl,Tr.same rfl⟩ (by simp[ChangeMaps.setBlock]) (fun k hk=>by
    simp[ChangeMaps.setBlock,Array.getElem?_setIfInBounds_ne (Ne.symm hk)]) (by
    refine⟨r',g,hr,by simp[ChangeMaps.setBlock,hlt,hcl],?_,?_,?_⟩
    .have hne:mid≠id:=fun e=>by rw[e,hb]at hb2; cases hb2
     refine⟨rfl,?_⟩;simp only[LfC,List.getElem?_set_ne (Ne.symm hne),hb2];exact⟨g,hg,rfl⟩
    .rw [List.nodup_append]
     exact⟨i4,by simp,fun a ha b hb=>by simp at hb; subst hb; exact fun e=>hns (e▸ha)⟩
    .intro i hi
     rcases List.mem_append.1 hi with hi|hi
     .exact i5 i hi
     .simp at hi; omega)
  have L:=L1.trans L2;exact⟨_,_,_,_,.inl (by rw[h2]; rfl),m2,L,.tup [_,_,_] [_,_,_] (.cons (.bool _) (.cons ((z1.thaw (fun _ _ _ x=>x)).mono L.hle L.keep) (.cons (z2.mono L.hle L.keep) .nil)))⟩
end
theorem anext{c:Cx}{k:List It}{e:Env}{s:List Blk}{all os:List Oper}{o:Oper}{x:Operand}{id mid n:Nat}{seen:List Nat}{es:List (AV×AV)}(ho:o.op=.next x false)(hx:ev e x=.mp id)
  (hb:s.getD id .dead=.it mid n seen) (hb2:s.getD mid .dead=.mp es) (hn:es.length=n)
  (hend:(∀ (j:Nat) (z:AV×AV),es[j]? = some z->AaR z.1=true->j∈seen)->AWp c (.ops all os::k) (put e o.dst (.tup [.bool false])) s)
  (hstep:∀ (j:Nat) (z:AV×AV),j ∉ seen->es[j]? = some z->AaR z.1=true->AWp c (.ops all os::k) (put e o.dst (.tup [.bool true,z.1,z.2])) (s.set id (.it mid n (seen++[j])))):AWp c (.op all o os::k) e s:=by
 intro a w hsim;obtain⟨h,ρ,hm,hl,he,hdf,hsz,hX⟩:=hsim
 show _->_
 intro hd
 rcases A9L (P:=c.P) ho hm he hx (A5G hb) (AcX hb2) hn with⟨h1,h2⟩|⟨j,z,h1,h2,h4,h3⟩
 .exact AjQ hl he hdf hsz hm hX hd h2 (hend h1) hd
 .exact AjQ hl he hdf hsz hm hX hd h3 (hstep j z h1 h2 h4) hd
end Go.Av
namespace Go.Av
open Go Go.RowKit
variable [Tr]
def ItA{σ:Type}(P:Program)(g:Std)(gf:FuncId)(lb:List AV)(Ok:List AV->AV->Prop)(Fin:List AV->Prop)(S:List AV->σ->List Blk)(q0:σ):Prop :=
 AaB P gf=true/\∀ (l:Nat) (X:Mem->Own->World->Prop) (hX:Stb X) (h:Mem) (ρ:Own) (w:World) (vs:List Value),Le g w ρ->Mine h ρ (S [] q0) w->RL h (Lf ρ (S [] q0)) false vs lb->X h ρ w ->
  (∀ j q x h1 ρ1 w1 v,Ok j x->Later h ρ (S [] q0) w h1 ρ1 (S j q) w1->Mine h1 ρ1 (S j q) w1->X h1 ρ1 w1->RV h1 (Lf ρ1 (S j q)) false v x ->
   YieldAt Fence.wide 0 P l #[v] w1 fun en w'=>en=.returned (.bool true)/\∃ h' ρ',Mine h' ρ' (S (j++[x]) q) w'/\Later h1 ρ1 (S j q) w1 h' ρ' (S (j++[x]) q) w'/\X h' ρ' w') ->
  CallsIn Fence.wide 0 P gf (#[.func (.yield l) #[] #[]]++vs.toArray) w fun en w'=>(∃ v,en=.returned v)/\∃ j q h' ρ',Fin j/\Mine h' ρ' (S j q) w'/\Later h ρ (S [] q0) w h' ρ' (S j q) w'/\X h' ρ' w'
theorem BjR{σ:Type}{P:Program}{fn:Func}{h0:Mem}{ρ0:Own}{sto0:List Blk}{w0:World}{post:AV->List Blk->Prop}{Ds:List Nat}{g:Operand}{p:Tmp}{assign body:Code}{k:List It}{e:Env}{s:List Blk}{gf:FuncId}{lb:List AV}{Ok:List AV->AV->Prop}{Fin:List AV->Prop}
  {S:List AV->σ->List Blk} {q0:σ} {gs:Std} (hg:Le gs w0 ρ0) (he:ev e g=.fn (.func gf) lb) (hs:s=S [] q0) (hit:ItA P gs gf lb Ok Fin S q0) (hp:p<fn.ntmps) (E1:List AV->σ->AV->Env) (SA SB:List AV->σ->AV->List Blk)
  (hdrop:∀ j q x (c:Cx),Ok j x->c.sto=S j q->Shift c [] (SB j q x) [] (S (j++[x]) q))
  (hassign:∀ j q x h ρ w l id J,Ok j x->Le gs w ρ->(∀ a w',SimR (mkL P fn h ρ (S j q) w l id) (E1 j q x) (SA j q x) a w'->J a w')->AWpR (mkL P fn h ρ (S j q) w l id) [.code assign,.inv J] (put e (some p) x) (S j q))
  (hbody:∀ j q x h ρ w l id J,Ok j x->Le gs w ρ->(∀ a w',SimR (mkL P fn h ρ (SA j q x) w l id) [] (SB j q x) a w'->J a w')->AWpR (mkL P fn h ρ (SA j q x) w l id) [.code body,.inv J] (E1 j q x) (SA j q x))
  (hdone:∀ j,Fin j->∀ D q,w0.heap.size<=D->AWpR (mkM P fn h0 ρ0 sto0 w0 post (D::Ds)) k e (S j q)):AWpR (mkM P fn h0 ρ0 sto0 w0 post Ds) (.code (.rangeFunc g #[p] assign body)::k) e s:=by
 subst hs;intro a w hsim;obtain⟨h,ρ,hm,hl,hen,hdf,hsz,hX⟩:=hsim;have hgv:=AaH hen g;rw[he]at hgv;obtain⟨vs,hvs,rvs⟩:∃ vs,a.eval g=.func (.func gf) #[] vs.toArray/\RL h (Lf ρ (S [] q0)) false vs lb:=by
  generalize a.eval g=v at hgv
  cases hgv with
  | fn f vs l r=>exact⟨vs,rfl,r⟩
  | leaf lf=>exact lf.2.elim
 have hlw:Le gs w ρ:=hg.later hl
 show(Code.rangeFunc g #[p] assign body).wpIn _ 0 P _ a w
 refine wpIn_rangeFunc ?_;intro fno hfn;obtain⟨rec,hrec⟩:∃ rec:LoopState->Option Code->Loop,rec=fun st pe=>{ state:=st,pending:=pe,fn:=fno,tmps:=a.tmps,params:=#[p],assign,body,defers:=w.heap.size }:=⟨_,rfl⟩
 obtain⟨W1,hW1⟩:∃ W1,(w.alloc (.deferred (some []))).alloc (.loop (rec .ready none))=W1:=⟨_,rfl⟩;have hL1:W1.heap[w.heap.size+1]? = some (.loop (rec .ready none)):=by
  rw[<- hW1]; have:=World.alloc_heap_new (w.alloc (.deferred (some []))) (.loop (rec .ready none)); rwa [World.size_alloc]at this
 have hK1:W1.heap[w.heap.size]? = some (.deferred (some [])):=by
  rw[<- hW1]; exact(Below.heap_alloc _ _ _ (by simp)).trans (World.alloc_heap_new w _)
 have sm:Same w W1:=by rw[<- hW1]; exact(Same.alloc w _).trans (Same.alloc _ _)
 have m1:Mine h ρ (S [] q0) W1:=hm.same sm;have L1:Later h ρ (S [] q0) w h ρ (S [] q0) W1:=Later.same sm;have hnew:∀ b,w.heap.size<=b->∀ i t,ρ i≠some (b,t):=fun b hb i t hi=>by have:=hm.lt hi; omega
 have hX1:XB ((w.heap.size+1,.loop (rec .ready none))::DfO (w.heap.size::Ds)) h ρ W1:=by
  intro p hp;simp only[DfO,List.map_cons,List.mem_cons]at hp
  rcases hp with rfl|rfl|hp
  .exact ⟨hL1,hnew _ (by omega)⟩
  .exact ⟨hK1,hnew _ (by omega)⟩
  .exact (stbB (DfO Ds)).later hm L1 hX p hp
 refine⟨w.heap.size+1,[{ target:=.collected w.heap.size,args:=#[] }],W1,{ target:=.fn (.func gf) vs.toArray,args:=#[.func (.yield (w.heap.size+1)) #[] #[]] },W1,gf,
  #[.func (.yield (w.heap.size+1)) #[] #[]]++vs.toArray,W1,?_,?_,fun _ _=>trivial,?_,fun hq=>(by cases hq),?_⟩
 .rw [<- hW1,hrec]; exact run_enterLoop_outer _ _ _ _ _
 .simp only [resolve,hvs]
  simp[go_sem]
 .simp [invoke,go_sem,AmY hit.1]
 refine((hit.2 (w.heap.size+1) (XB ((w.heap.size+1,.loop (rec .ready none))::DfO (w.heap.size::Ds))) (stbB _) h ρ W1 vs (hlw.later L1) m1 (rvs.mono (fun _ _ _ x=>x) (fun _ _ x=>x)) hX1 ?_).mono ?_:CallsIn Fence.wide 0 P gf _ W1 _)
 .-- a round
  intro j q x h1 ρ1 w1 v hx hl1 hm1 hX1 rv;have hlo:w1.heap[w.heap.size+1]? = some (.loop (rec .ready none)):=(hX1 (w.heap.size+1,.loop (rec .ready none)) (by simp)).1;have hun:∀ i t,ρ1 i≠some (w.heap.size+1,t):=(hX1 (w.heap.size+1,.loop (rec .ready none)) (by simp)).2;have hy:=run_yield (P:=P) (args:=#[v]) hlo (by rw[hrec]; rfl);rw[hrec]at hy;refine⟨fno,a.tmps.setIfInBounds p v,assign,body,hy.trans (by simp),roundIn_of_wpIn (n:=0) (F:=Fence.wide) hfn ?_⟩;have hle1:Le gs w1 ρ1:=(hlw.later L1).later hl1;have hsim1:SimR (mkL P fn h1 ρ1 (S j q) w1 ((w.heap.size+1,.loop (rec .ready none))::DfO (w.heap.size::Ds)) (w.heap.size+1)) (put e (some p) x) (S j q) { tmps:=a.tmps.setIfInBounds p v,defers:=[] } w1:=by
   refine⟨h1,ρ1,hm1,.refl ..,?_,rfl,by simpa using hsz,hX1⟩;have he1:EnvOk h1 ρ1 (S j q) e { tmps:=a.tmps,defers:=[] }:=fun t=>((hen t).mono L1.hle L1.keep).mono hl1.hle hl1.keep
   exact he1.put (d:=some p) (by simpa[dOk,hsz]using hp) rv
  have:=hassign j q x h1 ρ1 w1 _ (w.heap.size+1) (fun a₁ w₁=>SimR (mkL P fn h1 ρ1 (S j q) w1 ((w.heap.size+1,.loop (rec .ready none))::DfO (w.heap.size::Ds)) (w.heap.size+1)) (E1 j q x) (SA j q x) a₁ w₁) hx hle1 (fun a w' hh=>hh) _ w1 hsim1;refine AmZ this (fun _ _ _ x=>x) fun a₁ w₁ hq=>?_
  .obtain ⟨h2,ρ2,hm2,hl2,he2,hd2,hs2,hx2⟩:=hq
   have hlo2:=(hx2 (w.heap.size+1,.loop (rec .ready none)) (by simp)).1;have hun2:=(hx2 (w.heap.size+1,.loop (rec .ready none)) (by simp)).2;simp only at hlo2 hun2;refine⟨_,run_beginRound hlo2 (by rw[hrec]),?_⟩;obtain⟨W2,hW2⟩:∃ W2,w₁.putObj (w.heap.size+1) (.loop { rec .ready none with state:=.busy })=W2:=⟨_,rfl⟩;rw[hW2];have hlt2:w.heap.size+1<w₁.heap.size:=(Array.getElem?_eq_some_iff.1 hlo2).1;have mB:Mine h2 ρ2 (SA j q x) W2:=by rw[<- hW2]; exact hm2.putObj hlo2 rfl hun2
   have hoth:∀ p∈DfO (w.heap.size::Ds),p.1≠w.heap.size+1:=fun p hp e=>by
    have h1:=(hx2 p (List.mem_cons_of_mem _ hp)).1;rw[e,hlo2]at h1;simp only[DfO,List.mem_map]at hp;obtain⟨D,_,rfl⟩:=hp
    cases h1
   have xB:XB ((w.heap.size+1,.loop { rec .ready none with state:=.busy })::DfO (w.heap.size::Ds)) h2 ρ2 W2:=by
    intro p hp
    rcases List.mem_cons.1 hp with rfl|hp'
    .exact ⟨by rw[<- hW2]; exact World.putObj_heap_same hlt2,hun2⟩
    .have:=hx2 p (List.mem_cons_of_mem _ hp')
     exact⟨by rw[<- hW2]; exact(World.putObj_heap_other (hoth p hp')).trans this.1,this.2⟩
   have hleB:Le gs W2 ρ2:=fun kk o e=>by
    obtain⟨a1,a2⟩:=(hle1.later hl2) kk o e;refine⟨?_,a2⟩;rw[<- hW2];refine(World.putObj_heap_other fun e2=>?_).trans a1;have h1:=(hlw kk o e).1;have:=(Array.getElem?_eq_some_iff.1 h1).1;omega
   have simB:SimR (mkL P fn h2 ρ2 (SA j q x) W2 ((w.heap.size+1,.loop { rec .ready none with state:=.busy })::DfO (w.heap.size::Ds)) (w.heap.size+1)) (E1 j q x) (SA j q x) a₁ W2 :=
    ⟨h2,ρ2,mB,.refl ..,he2,hd2,hs2,xB⟩
   have hb:=hbody j q x h2 ρ2 W2 _ (w.heap.size+1) (fun a₃ w₃=>SimR (mkL P fn h2 ρ2 (SA j q x) W2 ((w.heap.size+1,.loop { rec .ready none with state:=.busy })::DfO (w.heap.size::Ds)) (w.heap.size+1)) [] (SB j q x) a₃ w₃) hx hleB (fun a w' hh=>hh) _ W2 simB;refine AmZ hb (fun _ _ _ x=>x) fun a₃ w₃ hq3=>?_
   .obtain ⟨h3,ρ3,hm3,hl3,_,_,hsz3,hx3⟩:=hq3
    have hlo3:=(hx3 (w.heap.size+1,.loop { rec .ready none with state:=.busy }) (by simp)).1;have hun3:=(hx3 (w.heap.size+1,.loop { rec .ready none with state:=.busy }) (by simp)).2;simp only at hlo3 hun3;have hend:=run_endRound (P:=P) none hlo3;have hback:({ { rec .ready none with state:=.busy } with state:=if(none:Option Code).isNone then .ready else .done,pending:=none }:Loop)=rec .ready none:=by rw[hrec]; rfl
    rw[hback]at hend;rw[<- hW2]at hl3;have hsim3:Sim ⟨P,fn,h1,ρ1,S j q,w1,fun _ _=>True,XB ((w.heap.size+1,.loop (rec .ready none))::DfO (w.heap.size::Ds)),stbB _⟩ [] (SB j q x) { a₃ with defers:=[] } (w₃.putObj (w.heap.size+1) (.loop (rec .ready none))):=by
     refine⟨h3,ρ3,hm3.putObj hlo3 rfl hun3,hl2.trans (Later.around hlo2 hl3),fun t=>.any _,rfl,hsz3,?_⟩;intro p hp;have hlt3:w.heap.size+1<w₃.heap.size:=(Array.getElem?_eq_some_iff.1 hlo3).1
     rcases List.mem_cons.1 hp with rfl|hp'
     .exact ⟨World.putObj_heap_same hlt3,hun3⟩
     .have:=hx3 p (List.mem_cons_of_mem _ hp')
      exact⟨(World.putObj_heap_other (hoth p hp')).trans this.1,this.2⟩
    obtain⟨h4,ρ4,hm4,hl4,_,_,_,hx4⟩:=hdrop j q x _ hx rfl _ _ hsim3;exact⟨_,_,hend,rfl,h4,ρ4,hm4,hl4,hx4⟩
 .-- behind the iterator
  rintro en W3 ⟨⟨v,rfl⟩,j,q,h3,ρ3,hfj,hm3,hl3,hx3⟩;have hlo3:=(hx3 (w.heap.size+1,.loop (rec .ready none)) (by simp)).1;have hun3:=(hx3 (w.heap.size+1,.loop (rec .ready none)) (by simp)).2;simp only at hlo3 hun3;have hend:=run_endLoop (P:=P) hlo3 (by rw[hrec]; simp);rw[show(rec .ready none).pending=none by rw[hrec]]at hend;refine⟨none,_,hend,?_⟩;have hD:w0.heap.size<=w.heap.size:=hl.size;have L3:=(hl.trans L1).trans hl3;refine hdone j hfj w.heap.size q hD _ _ ⟨h3,ρ3,hm3.putObj hlo3 rfl hun3,L3.putNew (show w0.heap.size<=w.heap.size+1 by omega),fun t=>((hen t).mono L1.hle L1.keep).mono hl3.hle hl3.keep,?_,hsz,?_⟩
  .show _::a.defers=_
   rw[hdf]; rfl
  .intro p hp
   have:=hx3 p (List.mem_cons_of_mem _ hp);refine⟨(World.putObj_heap_other fun e=>?_).trans this.1,this.2⟩;have h1:=this.1;rw[e,hlo3]at h1;simp only[DfO,List.mem_map]at hp;obtain⟨D,_,rfl⟩:=hp
   cases h1
theorem A9M{σ:Type}{P:Program}{g:Std}{f:FuncId}{fn:Func}{body:Code}{N:Nat}{lb:List AV}{Ok:List AV->AV->Prop}{Fin:List AV->Prop}{S:List AV->σ->List Blk}{q0:σ}(hf:P.funcs[f]? = some fn)(hb:fn.body=some body)(hn:fn.ntmps=N)(hx:AaB P f=true)(hres:fn.results=#[])
  (ha:lb.length+1<=N)
  (hw:∀ (l:Nat) (c:Cx) (out:Exit->Act->World->Prop),c.P=P->c.fn=fn->c.sto=S [] q0->Le g c.w c.ρ ->
   (∀ j q x,Ok j x->∀ h1 ρ1 w1 v,Later c.h c.ρ c.sto c.w h1 ρ1 (S j q) w1->Mine h1 ρ1 (S j q) w1->c.x h1 ρ1 w1->RV h1 (Lf ρ1 (S j q)) false v x ->
    YieldAt Fence.wide 0 c.P l #[v] w1 fun en w'=>en=.returned (.bool true)/\∃ h' ρ',Mine h' ρ' (S (j++[x]) q) w'/\Later h1 ρ1 (S j q) w1 h' ρ' (S (j++[x]) q) w'/\c.x h' ρ' w') ->
   (∀ x j q,Fin j->(x=.normal\/x=.ret)->AOut ⟨c,none,[],out⟩ x [] (S j q)) ->
   AWpR ⟨c,none,[],out⟩ [.code body] (args0 0 (.raw (.func (.yield l) #[] #[])::lb)) (S [] q0)):ItA P g f lb Ok Fin S q0:=by
 refine⟨hx,fun l X hX h ρ w vs hg hm hv hXw hY=>?_⟩;refine callsIn_of_wp hf hb trivial ?_
 let R:Ending->World->Prop:=fun en w'=>(∃ v,en=.returned v)/\∃ j q h' ρ',Fin j/\Mine h' ρ' (S j q) w'/\Later h ρ (S [] q0) w h' ρ' (S j q) w'/\X h' ρ' w'
 have hfin:∀ x j q,Fin j->(x=Exit.normal\/x=.ret)->AOut ⟨⟨P,fn,h,ρ,S [] q0,w,fun _ _=>True,X,hX⟩,none,[],bodyPost P fn R⟩ x [] (S j q):=by
  intro x j q hfj hxx a w' hsim;obtain⟨h',ρ',hm',hl',_,hdf,_,hx'⟩:=hsim;have:a.defers=[]/\∃ v,(results fn a.tmps).run P w'=.ok v w'/\R (.returned v) w' :=
   ⟨hdf,_,AdJ (ts:=[]) (by rw[hres]; rfl) _ _,⟨_,rfl⟩,j,q,h',ρ',hfj,hm',hl',hx'⟩
  rcases hxx with rfl|rfl <;> exact this
 have:=hw l ⟨P,fn,h,ρ,S [] q0,w,fun _ _=>True,X,hX⟩ (bodyPost P fn R) rfl rfl rfl hg (fun j q x hx h1 ρ1 w1 v a1 a2 a3 a4=>hY j q x h1 ρ1 w1 v hx a1 a2 a3 a4) hfin;have hlen:=hv.length;have hargs:(#[Value.func (.yield l) #[] #[]]++vs.toArray)=(Value.func (.yield l) #[] #[]::vs).toArray:=by simp
 rw[hargs];have hv2:RL h (Lf ρ (S [] q0)) false (Value.func (.yield l) #[] #[]::vs) (.raw (.func (.yield l) #[] #[])::lb):=.cons (.raw _) hv;refine Code.wpIn_mono ?_ (this { tmps:=(Value.func (.yield l) #[] #[]::vs).toArray++Array.replicate (fn.ntmps-(Value.func (.yield l) #[] #[]::vs).toArray.size) undef,defers:=[] } w
  ⟨h,ρ,hm,.refl ..,fun t=>?_,rfl,by simp; omega,hXw⟩)
 .intro en a' w' hq
  exact hq
 .rw [AeF]
  simp only[Nat.zero_le,if_true,Nat.sub_zero];have h1:=hv2.getD t undef
  by_cases ht:t<vs.length+1
  .have:((Value.func (.yield l) #[] #[]::vs).toArray++Array.replicate (fn.ntmps-(Value.func (.yield l) #[] #[]::vs).toArray.size) undef).getD t undef=(Value.func (.yield l) #[] #[]::vs).getD t undef:=by
    simp[Array.getElem?_append,ht,List.getD]
   simp only[this]; exact h1
  .have:(AV.raw (.func (.yield l) #[] #[])::lb).getD t .any=.any:=by simp[List.getD,List.getElem?_eq_none (by simp; omega:(AV.raw (.func (.yield l) #[] #[])::lb).length<=t)]
   rw[this]; exact .any _
theorem BmI{r:Cr}{k:List It}{e:Env}{s:List Blk}{all os:List Oper}{o:Oper}{x:Operand}{id mid n:Nat}{seen:List Nat}{es:List (AV×AV)}(ho:o.op=.next x false)(hx:ev e x=.mp id)
  (hb:s.getD id .dead=.it mid n seen) (hb2:s.getD mid .dead=.mp es) (hn:es.length=n)
  (hend:(∀ (j:Nat) (z:AV×AV),es[j]? = some z->AaR z.1=true->j∈seen)->AWpR r (.ops all os::k) (put e o.dst (.tup [.bool false])) s)
  (hstep:∀ (j:Nat) (z:AV×AV),j ∉ seen->es[j]? = some z->AaR z.1=true->AWpR r (.ops all os::k) (put e o.dst (.tup [.bool true,z.1,z.2])) (s.set id (.it mid n (seen++[j])))):AWpR r (.op all o os::k) e s:=by
 intro a w hsim;obtain⟨h,ρ,hm,hl,he,hdf,hsz,hX⟩:=hsim
 show _->_
 intro hd
 rcases A9L (P:=r.c.P) ho hm he hx (A5G hb) (AcX hb2) hn with⟨h1,h2⟩|⟨j,z,h1,h2,h4,h3⟩
 .exact AfL hl he hdf hsz hm hX (by rw[ho]; intro c hc; cases hc) hd h2 (hend h1) hd
 .exact AfL hl he hdf hsz hm hX (by rw[ho]; intro c hc; cases hc) hd h3 (hstep j z h1 h2 h4) hd
end Go.Av
set_option maxRecDepth 100000
namespace Go.Proofs.YtnfkjpihaficbaaGreatDoor
open Go Go.Av Go.RowKit _root_.Go.Proofs.Tryz
abbrev elFs:List Field:=[{ name:= "Kind",type:=3,offset:=0,embedded:=false,tag:= "",pkgPath:= "",byteOffset:=0 },{ name:= "Name",type:=9,offset:=1,embedded:=false,tag:= "",pkgPath:= "",byteOffset:=8 }]
theorem keyEl(a b:El):keyEqS prog elFs (elA a) (elA b)=some (a==b):=by
 simp only[keyEqS,elA,elFs,List.length_cons,List.length_nil,decide_true,Bool.and_self,cond_true,eqFs,underlying9,underlying3,leafEq,bothB,if_true,el_beq,Bool.and_true]
abbrev NMap:=List (Option (El×Int×Bool))
structure Nd where
 el:El
 n:Int
 hand:Bool
def ndA(x:Nd):AV:=.agg [.int .i64 x.el.kind,.str x.el.name,.int .i64 x.n,.bool x.hand]
def ndV(k:El)(v:Int×Bool):AV:=ndA ⟨k,v.1,v.2⟩
def ndE:Option (El×Int×Bool)->AV×AV
 | some x=>(elA x.1,ndV x.1 x.2)
 | none=>tomb
def ndM(es:NMap):List (AV×AV):=es.map ndE
theorem AgO(k:El):∀ (es:NMap)(n:Nat),mfindS prog elFs (elA k) (ndM es) n=(match tix k es with|some i=>some (some (n+i,ndV k ((tval k es).getD (0,false))))|none=>some none)
 | [],n=>rfl
 | none::r,n=>by
  have e:mfindS prog elFs (elA k) (ndM (none::r)) n=mfindS prog elFs (elA k) (ndM r) (n+1):=rfl;rw[e,AgO k r (n+1)];simp only[tix,tval]
  cases tix k r with
  | none=>rfl
  | some i=>simp only[Option.map_some,show n+1+i=n+(i+1) by omega]
 | some x::r,n=>by
  have e:mfindS prog elFs (elA k) (ndM (some x::r)) n=(match keyEqS prog elFs (elA k) (elA x.1)with|some true=>some (some (n,ndV x.1 x.2))|some false=>mfindS prog elFs (elA k) (ndM r) (n+1)|none=>none):=rfl;rw[e,keyEl]
  by_cases h:x.1=k
  .subst h
   simp[tix,tval]
  .have h1:(k==x.1)=false:=by simpa using Ne.symm h
   simp only[h1];rw[AgO k r (n+1)];have t1:tix k (some x::r)=(tix k r).map (· + 1):=by simp only[tix,if_neg h]
   have t2:tval k (some x::r)=tval k r:=by simp only[tval,if_neg h]
   rw[t1,t2]
   cases tix k r with
   | none=>rfl
   | some i=>simp only[Option.map_some,show n+1+i=n+(i+1) by omega]
theorem AxW(es:NMap)(k:El)(v:Int×Bool):ndM (tput es k v)=(match tix k es with|some i=>(ndM es).set i (elA k,ndV k v)|none=>ndM es++[(elA k,ndV k v)]):=by
 unfold tput
 cases tix k es with
 | none=>simp[ndM,ndE]
 | some i=>simp only[ndM,List.map_set,ndE]
theorem BjS(es:NMap)(k:El):ndM (tdel es k)=(match tix k es with|some i=>(ndM es).set i tomb|none=>ndM es):=by
 unfold tdel
 cases tix k es with
 | none=>rfl
 | some i=>simp only[ndM,List.map_set,ndE]
theorem BjT(n:Nat)(es:NMap):lowB n (.mp (ndM es))=true:=by
 show(ndM es).all _=true
 rw[ndM,List.all_map,List.all_eq_true];intro x hx
 cases x <;> rfl
def lkE:Option ((El×List UInt8)×List UInt8)->AV×AV
 | some x=>(lkA x.1,.str x.2)
 | none=>tomb
def lkM(es:LMap):List (AV×AV):=es.map lkE
theorem AlE(k:El×List UInt8):∀ (es:LMap)(n:Nat),mfindT prog 160 (lkA k) (lkM es) n=(match tix k es with|some i=>some (some (n+i,.str ((tval k es).getD [])))|none=>some none)
 | [],n=>rfl
 | none::r,n=>by
  have e:mfindT prog 160 (lkA k) (lkM (none::r)) n=mfindT prog 160 (lkA k) (lkM r) (n+1):=rfl;rw[e,AlE k r (n+1)];simp only[tix,tval]
  cases tix k r with
  | none=>rfl
  | some i=>simp only[Option.map_some,show n+1+i=n+(i+1) by omega]
 | some x::r,n=>by
  have e:mfindT prog 160 (lkA k) (lkM (some x::r)) n=(match keyEqT prog 160 (lkA k) (lkA x.1)with|some true=>some (some (n,.str x.2))|some false=>mfindT prog 160 (lkA k) (lkM r) (n+1)|none=>none):=rfl;rw[e,keyLk]
  by_cases h:x.1=k
  .subst h
   simp[tix,tval]
  .have h1:(k==x.1)=false:=by simpa using Ne.symm h
   simp only[h1];rw[AlE k r (n+1)];have t1:tix k (some x::r)=(tix k r).map (· + 1):=by simp only[tix,if_neg h]
   have t2:tval k (some x::r)=tval k r:=by simp only[tval,if_neg h]
   rw[t1,t2]
   cases tix k r with
   | none=>rfl
   | some i=>simp only[Option.map_some,show n+1+i=n+(i+1) by omega]
theorem BjU(es:LMap)(k:El×List UInt8)(v:List UInt8):lkM (tput es k v)=(match tix k es with|some i=>(lkM es).set i (lkA k,.str v)|none=>lkM es++[(lkA k,.str v)]):=by
 unfold tput
 cases tix k es with
 | none=>simp[lkM,lkE]
 | some i=>simp only[lkM,List.map_set,lkE]
theorem BjV(es:LMap)(k:El×List UInt8):lkM (tdel es k)=(match tix k es with|some i=>(lkM es).set i tomb|none=>lkM es):=by
 unfold tdel
 cases tix k es with
 | none=>rfl
 | some i=>simp only[lkM,List.map_set,lkE]
theorem low_lkM(n:Nat)(es:LMap):lowB n (.mp (lkM es))=true:=by
 show(lkM es).all _=true
 rw[lkM,List.all_map,List.all_eq_true];intro x hx
 cases x <;> rfl
end Go.Proofs.YtnfkjpihaficbaaGreatDoor
namespace Go.Proofs.YtnfkjpihaficbaaGreatDoor
open Go Go.Av Go.RowKit
theorem A9N:∀ a b:List UInt8,Lib.compareBytes a b=(if bytesLess a b then -1 else if bytesLess b a then 1 else 0)
 | [],[]=>rfl
 | [],_::_=>rfl
 | _::_,[]=>rfl
 | a::x,b::y=>by
  have ih:=A9N x y;simp only[Lib.compareBytes,bytesLess,Bool.or_eq_true,decide_eq_true_eq,Bool.and_eq_true,beq_iff_eq]
  by_cases h1:a<b
  .simp [h1]
  .by_cases h2:b<a
   .have h3:¬ a=b:=fun e=>by subst e; exact h1 h2
    simp[h1,h2,h3]
   .have h3:a=b:=by
     have e1:=UInt8.not_lt.1 h1;have e2:=UInt8.not_lt.1 h2;exact UInt8.le_antisymm e2 e1
    subst h3
    simp[UInt8.lt_irrefl,ih]
theorem AfQ:∀ a:List UInt8,bytesLess a a=false
 | []=>rfl
 | a::x=>by simp[bytesLess,AfQ x]
theorem ArT:∀ a b c:List UInt8,bytesLess a b=true->bytesLess b c=true->bytesLess a c=true
 | [],[],c,h1,_=>by cases h1
 | _,_::_,[],_,h2=>by cases h2
 | _::_,[],_,h1,_=>by cases h1
 | [],_::_,_::_,_,_=>rfl
 | a::x,b::y,c::z,h1,h2=>by
  simp only[bytesLess,Bool.or_eq_true,decide_eq_true_eq,Bool.and_eq_true,beq_iff_eq]at h1 h2 |-
  rcases h1 with h1|⟨e1,h1⟩
  .rcases h2 with h2|⟨e2,h2⟩
   .exact .inl (UInt8.lt_trans h1 h2)
   .subst e2; exact .inl h1
  .subst e1
   rcases h2 with h2|⟨e2,h2⟩
   .exact .inl h2
   .subst e2; exact .inr ⟨rfl,ArT x y z h1 h2⟩
theorem AlF:∀ a b:List UInt8,bytesLess a b=false->bytesLess b a=false->a=b
 | [],[],_,_=>rfl
 | [],_::_,h1,_=>by cases h1
 | _::_,[],_,h2=>by cases h2
 | a::x,b::y,h1,h2=>by
  simp only[bytesLess,Bool.or_eq_false_iff,decide_eq_false_iff_not,Bool.and_eq_false_imp,beq_iff_eq]at h1 h2;have h3:a=b:=UInt8.le_antisymm (UInt8.not_lt.1 h2.1) (UInt8.not_lt.1 h1.1);subst h3;rw[AlF x y (h1.2 rfl) (h2.2 rfl)]
theorem BmJ{a b:List UInt8}:Lib.compareBytes a b<0 ↔ bytesLess a b=true:=by
 rw[A9N]
 cases bytesLess a b with
 | true=>simp
 | false=>cases bytesLess b a <;> simp
theorem BjW{a b:List UInt8}:Lib.compareBytes a b=0 ↔ a=b:=by
 rw[A9N]
 cases h1:bytesLess a b with
 | true =>
  simp only[if_true]
  constructor
  .intro h; cases h
  .rintro rfl; rw[AfQ]at h1; cases h1
 | false =>
  cases h2:bytesLess b a with
  | true =>
   simp only[if_true,Bool.false_eq_true,if_false]
   constructor
   .intro h; cases h
   .rintro rfl; rw[AfQ]at h2; cases h2
  | false=>simpa using AlF a b h1 h2
theorem BjX{a b:Int}:cmpI a b<0 ↔ a<b:=by
 unfold cmpI
 by_cases h1:a<b
 .simp [h1]
 .by_cases h2:b<a
  .simp [h1,h2]
  .simp [h1,h2]
theorem cmpI_zero{a b:Int}:cmpI a b=0 ↔ a=b:=by
 unfold cmpI
 by_cases h1:a<b
 .simp [h1]; omega
 .by_cases h2:b<a
  .simp [h1,h2]; omega
  .simp [h1,h2]; omega
structure Ordr{α:Type}(lt:α->α->Prop):Prop where
 irrefl:∀ x,¬ lt x x
 trans:∀ x y z,lt x y->lt y z->lt x z
 total:∀ x y,¬ lt x y->¬ lt y x->x=y
section
variable {α:Type}{lt:α->α->Prop}(O:Ordr lt)
include O
theorem Ordr.asymm{x y:α}(h:lt x y):¬ lt y x:=fun h'=>O.irrefl x (O.trans _ _ _ h h')
theorem Ordr.ntrans{x y z:α}(h1:¬ lt y x)(h2:¬ lt z y):¬ lt z x:=fun h=>by
 by_cases h3:lt x y
 .exact h2 (O.trans _ _ _ h h3)
 .have:=O.total x y h3 h1
  subst this;exact h2 h
theorem Ordr.uniq:∀ {l m:List α},l.Pairwise lt->m.Pairwise lt->(∀ x,x∈l ↔ x∈m)->l=m
 | [],[],_,_,_=>rfl
 | [],y::m,_,_,h=>by have:=(h y).2 (by simp); cases this
 | x::l,[],_,_,h=>by have:=(h x).1 (by simp); cases this
 | x::l,y::m,h1,h2,h=>by
  obtain⟨a1,a2⟩:=List.pairwise_cons.1 h1;obtain⟨b1,b2⟩:=List.pairwise_cons.1 h2;have e:x=y:=by
   rcases List.mem_cons.1 ((h x).1 (by simp))with e|e
   .exact e
   .rcases List.mem_cons.1 ((h y).2 (by simp))with e2|e2
    .exact e2.symm
    .exact absurd (a1 y e2) (O.asymm (b1 x e))
  subst e;rw[Ordr.uniq a2 b2 fun z=>?_]
  constructor
  .intro hz
   rcases List.mem_cons.1 ((h z).1 (by simp[hz]))with e|e
   .subst e; exact absurd (a1 z hz) (O.irrefl z)
   .exact e
  .intro hz
   rcases List.mem_cons.1 ((h z).2 (by simp[hz]))with e|e
   .subst e; exact absurd (b1 z hz) (O.irrefl z)
   .exact e
end
section
variable {α:Type}(lt:α->α->Prop)(d:α)
def AhN(q:List α)(i:Nat):Prop:=∀ x y,x<y->y<i->¬ lt (q.getD y d) (q.getD x d)
def InsI(q:List α)(i j:Nat):Prop:=∀ x y,x<y->y<=i->y≠j->¬ lt (q.getD y d) (q.getD x d)
variable {lt d}
theorem AuW{q:List α}{i:Nat}(h:AhN lt d q i):InsI lt d q i i:=fun x y h1 h2 h3=>h x y h1 (by omega)
theorem AuX{q:List α}{i:Nat}(h:InsI lt d q i 0):AhN lt d q (i+1):=fun x y h1 h2=>h x y h1 (by omega) (by omega)
theorem A1F(nt:∀ x y z:α,¬ lt y x->¬ lt z y->¬ lt z x){q:List α}{i j:Nat}(h:InsI lt d q i j)(hj:0<j)(hs:¬ lt (q.getD j d) (q.getD (j-1) d)):AhN lt d q (i+1):=fun x y h1 h2=>by
 by_cases hy:y=j
 .subst hy
  by_cases hx:x=y-1
  .subst hx; exact hs
  .exact nt _ _ _ (h x (y-1) (by omega) (by omega) (by omega)) hs
 .exact h x y h1 (by omega) hy
theorem AuY{q:List α}{j:Nat}(hj:0<j)(hl:j<q.length)(t:Nat):((q.set j (q.getD (j-1) d)).set (j-1) (q.getD j d)).getD t d=if t=j-1 then q.getD j d else if t=j then q.getD (j-1) d else q.getD t d:=by
 simp only[List.getD_eq_getElem?_getD,List.getElem?_set,List.length_set]
 by_cases h1:j-1=t
 .subst h1
  simp[show j-1<q.length by omega]
 .by_cases h2:j=t
  .subst h2
   have:¬ j=j-1:=by omega
   simp[h1,hl,this]
  .simp [h1,h2,Ne.symm h1,Ne.symm h2]
theorem A1G(has:∀ x y:α,lt x y->¬ lt y x){q:List α}{i j:Nat}(h:InsI lt d q i j)(hj:0<j)(hl:j<q.length)(hs:lt (q.getD j d) (q.getD (j-1) d)):InsI lt d ((q.set j (q.getD (j-1) d)).set (j-1) (q.getD j d)) i (j-1):=fun x y h1 h2 h3=>by
 rw[AuY hj hl,AuY hj hl];rw[if_neg h3]
 by_cases hy:y=j
 .subst hy
  rw[if_pos rfl]
  by_cases hx:x=y-1
  .rw [if_pos hx]; exact has _ _ hs
  .rw [if_neg hx,if_neg (by omega)]
   exact h x (y-1) (by omega) (by omega) (by omega)
 .rw [if_neg hy]
  by_cases hx:x=j-1
  .rw [if_pos hx]
   exact h j y (by omega) h2 hy
  .rw [if_neg hx]
   by_cases hx2:x=j
   .rw [if_pos hx2]
    exact h (j-1) y (by omega) h2 hy
   .rw [if_neg hx2]
    exact h x y h1 h2 hy
theorem AnT(q:List α):AhN lt d q 1:=fun x y h1 h2=>by omega
theorem AnU{q:List α}{n:Nat}(h:AhN lt d q n)(hn:q.length<=n):q.Pairwise fun x y=>¬ lt y x:=by
 rw[List.pairwise_iff_getElem];intro i j hi hj hij;have:=h i j hij (by omega)
 simpa[List.getD,hi,hj]using this
end
def elLt(a b:El):Prop:=a.kind<b.kind\/(a.kind=b.kind/\bytesLess a.name b.name=true)
def AjJ(a b:El):Int:=orI (cmpI a.kind b.kind) (Lib.compareBytes a.name b.name)
theorem elCmp_lt{a b:El}:AjJ a b<0 ↔ elLt a b:=by
 unfold AjJ elLt orI
 by_cases h:cmpI a.kind b.kind=0
 .rw [if_pos h,BmJ]
  have h2:=cmpI_zero.1 h
  simp[h2]
 .rw [if_neg h,BjX]
  have h2:=mt cmpI_zero.2 h
  simp[h2]
theorem elCmp_zero{a b:El}:AjJ a b=0 ↔ a=b:=by
 unfold AjJ orI
 by_cases h:cmpI a.kind b.kind=0
 .rw [if_pos h,BjW]
  have h2:=cmpI_zero.1 h
  cases a; cases b
  simp only[El.mk.injEq]at h2 |-
  simp[h2]
 .rw [if_neg h]
  have h2:=mt cmpI_zero.2 h
  constructor
  .intro e; exact absurd e h
  .rintro rfl; exact absurd rfl h2
theorem elO:Ordr elLt:=by
 refine⟨fun x h=>?_,fun x y z h1 h2=>?_,fun x y h1 h2=>?_⟩
 .rcases h with h|⟨_,h⟩
  .omega
  .rw [AfQ]at h; cases h
 .rcases h1 with h1|⟨e1,h1⟩ <;> rcases h2 with h2|⟨e2,h2⟩
  .exact .inl (by omega)
  .exact .inl (by omega)
  .exact .inl (by omega)
  .exact .inr ⟨e1.trans e2,ArT _ _ _ h1 h2⟩
 .unfold elLt at h1 h2
  simp only[not_or,Bool.not_eq_true,not_and,Int.not_lt]at h1 h2;have e:x.kind=y.kind:=by omega
  have e2:=AlF _ _ (h1.2 e) (h2.2 e.symm)
  cases x; cases y
  simp_all
abbrev LKey:=El×List UInt8
def kLt(a b:LKey):Prop:=elLt a.1 b.1\/(a.1=b.1/\bytesLess a.2 b.2=true)
def kCmp(a b:LKey):Int:=orI (AjJ a.1 b.1) (Lib.compareBytes a.2 b.2)
theorem kCmp_lt{a b:LKey}:kCmp a b<0 ↔ kLt a b:=by
 unfold kCmp kLt orI
 by_cases h:AjJ a.1 b.1=0
 .rw [if_pos h,BmJ]
  have h2:=elCmp_zero.1 h;have h3:¬ elLt a.1 b.1:=by rw[h2]; exact elO.irrefl _
  simp[h2,elO.irrefl]
 .rw [if_neg h,elCmp_lt]
  have h2:=mt elCmp_zero.2 h
  simp[h2]
theorem kO:Ordr kLt:=by
 refine⟨fun x h=>?_,fun x y z h1 h2=>?_,fun x y h1 h2=>?_⟩
 .rcases h with h|⟨_,h⟩
  .exact elO.irrefl _ h
  .rw [AfQ]at h; cases h
 .rcases h1 with h1|⟨e1,h1⟩ <;> rcases h2 with h2|⟨e2,h2⟩
  .exact .inl (elO.trans _ _ _ h1 h2)
  .exact .inl (by rw[<- e2]; exact h1)
  .exact .inl (by rw[e1]; exact h2)
  .exact .inr ⟨e1.trans e2,ArT _ _ _ h1 h2⟩
 .unfold kLt at h1 h2
  simp only[not_or,Bool.not_eq_true,not_and]at h1 h2;have e:=elO.total _ _ h1.1 h2.1;have e2:=AlF _ _ (h1.2 e) (h2.2 e.symm);exact Prod.ext e e2
def lkey(y:Lk):LKey:=(y.el,y.facet)
def lkLt(a b:Lk):Prop:=kLt (lkey a) (lkey b)
theorem A9O(x y z:Lk)(h1:¬ lkLt y x)(h2:¬ lkLt z y):¬ lkLt z x:=kO.ntrans h1 h2
theorem BeH(x y:Lk)(h:lkLt x y):¬ lkLt y x:=kO.asymm h
def lvL(es:LMap):List Lk:=es.filterMap fun x=>x.map fun y=>⟨y.1.1,y.1.2,y.2⟩
def AdZ(es:LMap)(l:List Lk):Prop:=(∀ y:Lk,y∈l ↔ tval (lkey y) es=some y.value)/\l.Pairwise lkLt
theorem A9P{es:LMap}(hu:AbX es)(y:Lk):y∈lvL es ↔ tval (lkey y) es=some y.value:=by
 rw[AiB hu];unfold lvL lkey;rw[List.mem_filterMap]
 constructor
 .rintro ⟨x,hx,e⟩
  cases x with
  | none=>cases e
  | some x =>
   simp only[Option.map_some,Option.some.injEq]at e;subst e;exact hx
 .intro h
  exact⟨_,h,by cases y; rfl⟩
theorem AiJ:∀ {es:LMap},AbX es->(lvL es).Pairwise fun a b=>lkey a≠lkey b
 | [],_=>.nil
 | none::es,h=>AiJ (es:=es) (List.pairwise_cons.1 h).2
 | some x::es,h=>by
  obtain⟨h1,h2⟩:=List.pairwise_cons.1 h
  show List.Pairwise _ ((⟨x.1.1,x.1.2,x.2⟩:Lk)::lvL es)
  refine List.pairwise_cons.2 ⟨fun b hb=>?_,AiJ h2⟩;obtain⟨z,hz,e⟩:=List.mem_filterMap.1 hb
  cases z with
  | none=>cases e
  | some z =>
   simp only[Option.map_some,Option.some.injEq]at e;subst e;exact h1 _ hz x z rfl rfl
theorem AoH{es:LMap}(hu:AbX es){l:List Lk}(hp:l.Perm (lvL es))(hs:l.Pairwise fun x y=>¬ lkLt y x):AdZ es l:=by
 refine⟨fun y=>by rw[hp.mem_iff,A9P hu],?_⟩;have hk:l.Pairwise fun a b=>lkey a≠lkey b:=hp.symm.pairwise (AiJ hu) fun h e=>h e.symm
 refine(hs.and hk).imp fun{a b} h=>?_
 by_cases hl:lkLt a b
 .exact hl
 .exact absurd (kO.total _ _ hl h.1) h.2
theorem AuZ{es fs:LMap}(h:∀ k,tval k es=tval k fs){l m:List Lk}(hl:AdZ es l)(hm:AdZ fs m):l=m:=by
 have inj:∀ a b:Lk,a∈l->b∈l->lkey a=lkey b->a=b:=fun a b ha hb e=>by
  have h1:=(hl.1 a).1 ha;have h2:=(hl.1 b).1 hb;rw[e,h2]at h1;simp only[Option.some.injEq]at h1
  cases a; cases b
  simp only[lkey,Prod.mk.injEq]at e
  simp_all
 have hmem:∀ y,y∈l ↔ y∈m:=fun y=>by rw[hl.1,hm.1,h]
 have hk:l.map lkey=m.map lkey:=by
  refine kO.uniq (List.pairwise_map.2 hl.2) (List.pairwise_map.2 hm.2) fun x=>?_
  simp only[List.mem_map];exact⟨fun⟨y,h1,h2⟩=>⟨y,(hmem y).1 h1,h2⟩,fun⟨y,h1,h2⟩=>⟨y,(hmem y).2 h1,h2⟩⟩
 have hlen:l.length=m.length:=by simpa using congrArg List.length hk
 refine List.ext_getElem hlen fun i h1 h2=>?_
 refine inj _ _ (List.getElem_mem h1) ((hmem _).2 (List.getElem_mem h2)) ?_;have:=congrArg (fun l=>l[i]?) hk
 simpa[h1,h2]using this
