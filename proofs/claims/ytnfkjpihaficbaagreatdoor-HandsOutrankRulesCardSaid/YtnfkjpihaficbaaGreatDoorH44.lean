/- A range over a function that hands on values in an order of its own (the values of a map). Own work of this seat (written by a program out of AvRf). -/
import Derived.Test.YtnfkjpihaficbaaGreatDoorH43
set_option linter.unusedSimpArgs false
set_option linter.unusedVariables false
set_option linter.unusedSectionVars false
namespace Go.Av
open Go Go.RowKit
variable [Tr]
def ItA {σ:Type} (P:Program) (g:Std) (gf:FuncId) (lb:List AV) (Ok:List AV→AV→Prop) (Fin:List AV→Prop) (S:List AV→σ→List Blk) (q0:σ):Prop :=
 hasBody P gf=true∧∀ (l:Nat) (X:Mem→Own→World→Prop) (hX:Stb X) (h:Mem) (ρ:Own) (w:World) (vs:List Value),Le g w ρ→Mine h ρ (S [] q0) w→RL h (Lf ρ (S [] q0)) false vs lb→X h ρ w →
  (∀ j q x h1 ρ1 w1 v,Ok j x→Later h ρ (S [] q0) w h1 ρ1 (S j q) w1→Mine h1 ρ1 (S j q) w1→X h1 ρ1 w1→RV h1 (Lf ρ1 (S j q)) false v x →
   YieldAt Fence.wide 0 P l #[v] w1 fun en w'=>en=.returned (.bool true)∧∃ h' ρ',Mine h' ρ' (S (j++[x]) q) w'∧Later h1 ρ1 (S j q) w1 h' ρ' (S (j++[x]) q) w'∧X h' ρ' w') →
  CallsIn Fence.wide 0 P gf (#[.func (.yield l) #[] #[]]++vs.toArray) w fun en w'=>(∃ v,en=.returned v)∧∃ j q h' ρ',Fin j∧Mine h' ρ' (S j q) w'∧Later h ρ (S [] q0) w h' ρ' (S j q) w'∧X h' ρ' w'
theorem arangeA {σ:Type} {P:Program} {fn:Func} {h0:Mem} {ρ0:Own} {sto0:List Blk} {w0:World} {post:AV→List Blk→Prop} {Ds:List Nat} {g:Operand} {p:Tmp} {assign body:Code} {k:List It} {e:Env} {s:List Blk} {gf:FuncId} {lb:List AV} {Ok:List AV→AV→Prop} {Fin:List AV→Prop}
  {S:List AV→σ→List Blk} {q0:σ} {gs:Std} (hg:Le gs w0 ρ0) (he:ev e g=.fn (.func gf) lb) (hs:s=S [] q0) (hit:ItA P gs gf lb Ok Fin S q0) (hp:p < fn.ntmps) (E1:List AV→σ→AV→Env) (SA SB:List AV→σ→AV→List Blk)
  (hdrop:∀ j q x (c:Cx),Ok j x→c.sto=S j q→Shift c [] (SB j q x) [] (S (j++[x]) q))
  (hassign:∀ j q x h ρ w l id J,Ok j x→Le gs w ρ→(∀ a w',SimR (mkL P fn h ρ (S j q) w l id) (E1 j q x) (SA j q x) a w'→J a w')→AWpR (mkL P fn h ρ (S j q) w l id) [.code assign,.inv J] (put e (some p) x) (S j q))
  (hbody:∀ j q x h ρ w l id J,Ok j x→Le gs w ρ→(∀ a w',SimR (mkL P fn h ρ (SA j q x) w l id) [] (SB j q x) a w'→J a w')→AWpR (mkL P fn h ρ (SA j q x) w l id) [.code body,.inv J] (E1 j q x) (SA j q x))
  (hdone:∀ j,Fin j→∀ D q,w0.heap.size ≤ D→AWpR (mkM P fn h0 ρ0 sto0 w0 post (D :: Ds)) k e (S j q)):AWpR (mkM P fn h0 ρ0 sto0 w0 post Ds) (.code (.rangeFunc g #[p] assign body) :: k) e s:=by
 subst hs
 intro a w hsim
 obtain ⟨h,ρ,hm,hl,hen,hdf,hsz,hX⟩:=hsim
 have hgv:=ev_ok hen g
 rw [he] at hgv
 obtain ⟨vs,hvs,rvs⟩:∃ vs,a.eval g=.func (.func gf) #[] vs.toArray∧RL h (Lf ρ (S [] q0)) false vs lb:=by
  generalize a.eval g=v at hgv
  cases hgv with
  | fn f vs l r=>exact ⟨vs,rfl,r⟩
  | leaf lf=>exact lf.2.elim
 have hlw:Le gs w ρ:=hg.later hl
 show (Code.rangeFunc g #[p] assign body).wpIn _ 0 P _ a w
 refine wpIn_rangeFunc ?_
 intro fno hfn
 obtain ⟨rec,hrec⟩:∃ rec:LoopState→Option Code→Loop,rec=fun st pe=>{ state:=st,pending:=pe,fn:=fno,tmps:=a.tmps,params:=#[p],assign,body,defers:=w.heap.size }:=⟨_,rfl⟩
 obtain ⟨W1,hW1⟩:∃ W1,(w.alloc (.deferred (some []))).alloc (.loop (rec .ready none))=W1:=⟨_,rfl⟩
 have hL1:W1.heap[w.heap.size+1]? = some (.loop (rec .ready none)):=by
  rw [← hW1]; have:=World.alloc_heap_new (w.alloc (.deferred (some []))) (.loop (rec .ready none)); rwa [World.size_alloc] at this
 have hK1:W1.heap[w.heap.size]? = some (.deferred (some [])):=by
  rw [← hW1]; exact (Below.heap_alloc _ _ _ (by simp)).trans (World.alloc_heap_new w _)
 have sm:Same w W1:=by rw [← hW1]; exact (Same.alloc w _).trans (Same.alloc _ _)
 have m1:Mine h ρ (S [] q0) W1:=hm.same sm
 have L1:Later h ρ (S [] q0) w h ρ (S [] q0) W1:=Later.same sm
 have hnew:∀ b,w.heap.size ≤ b→∀ i t,ρ i ≠ some (b,t):=fun b hb i t hi=>by have:=hm.lt hi; omega
 have hX1:XB ((w.heap.size+1,.loop (rec .ready none)) :: DfO (w.heap.size :: Ds)) h ρ W1:=by
  intro p hp
  simp only [DfO,List.map_cons,List.mem_cons] at hp
  rcases hp with rfl | rfl | hp
  ·exact ⟨hL1,hnew _ (by omega)⟩
  ·exact ⟨hK1,hnew _ (by omega)⟩
  ·exact (stbB (DfO Ds)).later hm L1 hX p hp
 refine ⟨w.heap.size+1,[{ target:=.collected w.heap.size,args:=#[] }],W1,{ target:=.fn (.func gf) vs.toArray,args:=#[.func (.yield (w.heap.size+1)) #[] #[]] },W1,gf,
  #[.func (.yield (w.heap.size+1)) #[] #[]]++vs.toArray,W1,?_,?_,fun _ _=>trivial,?_,fun hq=>(by cases hq),?_⟩
 ·rw [← hW1,hrec]; exact run_enterLoop_outer _ _ _ _ _
 ·simp only [resolve,hvs]
  simp [go_sem]
 ·simp [invoke,go_sem,call_enters hit.1]
 refine ((hit.2 (w.heap.size+1) (XB ((w.heap.size+1,.loop (rec .ready none)) :: DfO (w.heap.size :: Ds))) (stbB _) h ρ W1 vs (hlw.later L1) m1 (rvs.mono (fun _ _ _ x=>x) (fun _ _ x=>x)) hX1 ?_).mono ?_:CallsIn Fence.wide 0 P gf _ W1 _)
 ·-- a round
  intro j q x h1 ρ1 w1 v hx hl1 hm1 hX1 rv
  have hlo:w1.heap[w.heap.size+1]? = some (.loop (rec .ready none)):=(hX1 (w.heap.size+1,.loop (rec .ready none)) (by simp)).1
  have hun:∀ i t,ρ1 i ≠ some (w.heap.size+1,t):=(hX1 (w.heap.size+1,.loop (rec .ready none)) (by simp)).2
  have hy:=run_yield (P:=P) (args:=#[v]) hlo (by rw [hrec]; rfl)
  rw [hrec] at hy
  refine ⟨fno,a.tmps.setIfInBounds p v,assign,body,hy.trans (by simp),roundIn_of_wpIn (n:=0) (F:=Fence.wide) hfn ?_⟩
  have hle1:Le gs w1 ρ1:=(hlw.later L1).later hl1
  have hsim1:SimR (mkL P fn h1 ρ1 (S j q) w1 ((w.heap.size+1,.loop (rec .ready none)) :: DfO (w.heap.size :: Ds)) (w.heap.size+1)) (put e (some p) x) (S j q) { tmps:=a.tmps.setIfInBounds p v,defers:=[] } w1:=by
   refine ⟨h1,ρ1,hm1,.refl ..,?_,rfl,by simpa using hsz,hX1⟩
   have he1:EnvOk h1 ρ1 (S j q) e { tmps:=a.tmps,defers:=[] }:=fun t=>((hen t).mono L1.hle L1.keep).mono hl1.hle hl1.keep
   exact he1.put (d:=some p) (by simpa [dOk,hsz] using hp) rv
  have:=hassign j q x h1 ρ1 w1 _ (w.heap.size+1) (fun a₁ w₁=>SimR (mkL P fn h1 ρ1 (S j q) w1 ((w.heap.size+1,.loop (rec .ready none)) :: DfO (w.heap.size :: Ds)) (w.heap.size+1)) (E1 j q x) (SA j q x) a₁ w₁) hx hle1 (fun a w' hh=>hh) _ w1 hsim1
  refine wp_code this (fun _ _ _ x=>x) fun a₁ w₁ hq=>?_
  ·obtain ⟨h2,ρ2,hm2,hl2,he2,hd2,hs2,hx2⟩:=hq
   have hlo2:=(hx2 (w.heap.size+1,.loop (rec .ready none)) (by simp)).1
   have hun2:=(hx2 (w.heap.size+1,.loop (rec .ready none)) (by simp)).2
   simp only at hlo2 hun2
   refine ⟨_,run_beginRound hlo2 (by rw [hrec]),?_⟩
   obtain ⟨W2,hW2⟩:∃ W2,w₁.putObj (w.heap.size+1) (.loop { rec .ready none with state:=.busy })=W2:=⟨_,rfl⟩
   rw [hW2]
   have hlt2:w.heap.size+1 < w₁.heap.size:=(Array.getElem?_eq_some_iff.1 hlo2).1
   have mB:Mine h2 ρ2 (SA j q x) W2:=by rw [← hW2]; exact hm2.putObj hlo2 rfl hun2
   have hoth:∀ p ∈ DfO (w.heap.size :: Ds),p.1 ≠ w.heap.size+1:=fun p hp e=>by
    have h1:=(hx2 p (List.mem_cons_of_mem _ hp)).1
    rw [e,hlo2] at h1
    simp only [DfO,List.mem_map] at hp
    obtain ⟨D,_,rfl⟩:=hp
    cases h1
   have xB:XB ((w.heap.size+1,.loop { rec .ready none with state:=.busy }) :: DfO (w.heap.size :: Ds)) h2 ρ2 W2:=by
    intro p hp
    rcases List.mem_cons.1 hp with rfl | hp'
    ·exact ⟨by rw [← hW2]; exact World.putObj_heap_same hlt2,hun2⟩
    ·have:=hx2 p (List.mem_cons_of_mem _ hp')
     exact ⟨by rw [← hW2]; exact (World.putObj_heap_other (hoth p hp')).trans this.1,this.2⟩
   have hleB:Le gs W2 ρ2:=fun kk o e=>by
    obtain ⟨a1,a2⟩:=(hle1.later hl2) kk o e
    refine ⟨?_,a2⟩
    rw [← hW2]
    refine (World.putObj_heap_other fun e2=>?_).trans a1
    have h1:=(hlw kk o e).1
    have:=(Array.getElem?_eq_some_iff.1 h1).1
    omega
   have simB:SimR (mkL P fn h2 ρ2 (SA j q x) W2 ((w.heap.size+1,.loop { rec .ready none with state:=.busy }) :: DfO (w.heap.size :: Ds)) (w.heap.size+1)) (E1 j q x) (SA j q x) a₁ W2 :=
    ⟨h2,ρ2,mB,.refl ..,he2,hd2,hs2,xB⟩
   have hb:=hbody j q x h2 ρ2 W2 _ (w.heap.size+1) (fun a₃ w₃=>SimR (mkL P fn h2 ρ2 (SA j q x) W2 ((w.heap.size+1,.loop { rec .ready none with state:=.busy }) :: DfO (w.heap.size :: Ds)) (w.heap.size+1)) [] (SB j q x) a₃ w₃) hx hleB (fun a w' hh=>hh) _ W2 simB
   refine wp_code hb (fun _ _ _ x=>x) fun a₃ w₃ hq3=>?_
   ·obtain ⟨h3,ρ3,hm3,hl3,_,_,hsz3,hx3⟩:=hq3
    have hlo3:=(hx3 (w.heap.size+1,.loop { rec .ready none with state:=.busy }) (by simp)).1
    have hun3:=(hx3 (w.heap.size+1,.loop { rec .ready none with state:=.busy }) (by simp)).2
    simp only at hlo3 hun3
    have hend:=run_endRound (P:=P) none hlo3
    have hback:({ { rec .ready none with state:=.busy } with state:=if (none:Option Code).isNone then .ready else .done,pending:=none }:Loop)=rec .ready none:=by rw [hrec]; rfl
    rw [hback] at hend
    rw [← hW2] at hl3
    have hsim3:Sim ⟨P,fn,h1,ρ1,S j q,w1,fun _ _=>True,XB ((w.heap.size+1,.loop (rec .ready none)) :: DfO (w.heap.size :: Ds)),stbB _⟩ [] (SB j q x) { a₃ with defers:=[] } (w₃.putObj (w.heap.size+1) (.loop (rec .ready none))):=by
     refine ⟨h3,ρ3,hm3.putObj hlo3 rfl hun3,hl2.trans (Later.around hlo2 hl3),fun t=>.any _,rfl,hsz3,?_⟩
     intro p hp
     have hlt3:w.heap.size+1 < w₃.heap.size:=(Array.getElem?_eq_some_iff.1 hlo3).1
     rcases List.mem_cons.1 hp with rfl | hp'
     ·exact ⟨World.putObj_heap_same hlt3,hun3⟩
     ·have:=hx3 p (List.mem_cons_of_mem _ hp')
      exact ⟨(World.putObj_heap_other (hoth p hp')).trans this.1,this.2⟩
    obtain ⟨h4,ρ4,hm4,hl4,_,_,_,hx4⟩:=hdrop j q x _ hx rfl _ _ hsim3
    exact ⟨_,_,hend,rfl,h4,ρ4,hm4,hl4,hx4⟩
 ·-- behind the iterator
  rintro en W3 ⟨⟨v,rfl⟩,j,q,h3,ρ3,hfj,hm3,hl3,hx3⟩
  have hlo3:=(hx3 (w.heap.size+1,.loop (rec .ready none)) (by simp)).1
  have hun3:=(hx3 (w.heap.size+1,.loop (rec .ready none)) (by simp)).2
  simp only at hlo3 hun3
  have hend:=run_endLoop (P:=P) hlo3 (by rw [hrec]; simp)
  rw [show (rec .ready none).pending=none by rw [hrec]] at hend
  refine ⟨none,_,hend,?_⟩
  have hD:w0.heap.size ≤ w.heap.size:=hl.size
  have L3:=(hl.trans L1).trans hl3
  refine hdone j hfj w.heap.size q hD _ _ ⟨h3,ρ3,hm3.putObj hlo3 rfl hun3,L3.putNew (show w0.heap.size ≤ w.heap.size+1 by omega),fun t=>((hen t).mono L1.hle L1.keep).mono hl3.hle hl3.keep,?_,hsz,?_⟩
  ·show _ :: a.defers=_
   rw [hdf]; rfl
  ·intro p hp
   have:=hx3 p (List.mem_cons_of_mem _ hp)
   refine ⟨(World.putObj_heap_other fun e=>?_).trans this.1,this.2⟩
   have h1:=this.1
   rw [e,hlo3] at h1
   simp only [DfO,List.mem_map] at hp
   obtain ⟨D,_,rfl⟩:=hp
   cases h1
theorem ita_intro {σ:Type} {P:Program} {g:Std} {f:FuncId} {fn:Func} {body:Code} {N:Nat} {lb:List AV} {Ok:List AV→AV→Prop} {Fin:List AV→Prop} {S:List AV→σ→List Blk} {q0:σ} (hf:P.funcs[f]? = some fn) (hb:fn.body=some body) (hn:fn.ntmps=N) (hx:hasBody P f=true) (hres:fn.results=#[])
  (ha:lb.length+1 ≤ N)
  (hw:∀ (l:Nat) (c:Cx) (out:Exit→Act→World→Prop),c.P=P→c.fn=fn→c.sto=S [] q0→Le g c.w c.ρ →
   (∀ j q x,Ok j x→∀ h1 ρ1 w1 v,Later c.h c.ρ c.sto c.w h1 ρ1 (S j q) w1→Mine h1 ρ1 (S j q) w1→c.x h1 ρ1 w1→RV h1 (Lf ρ1 (S j q)) false v x →
    YieldAt Fence.wide 0 c.P l #[v] w1 fun en w'=>en=.returned (.bool true)∧∃ h' ρ',Mine h' ρ' (S (j++[x]) q) w'∧Later h1 ρ1 (S j q) w1 h' ρ' (S (j++[x]) q) w'∧c.x h' ρ' w') →
   (∀ x j q,Fin j→(x=.normal∨x=.ret)→AOut ⟨c,none,[],out⟩ x [] (S j q)) →
   AWpR ⟨c,none,[],out⟩ [.code body] (args0 0 (.raw (.func (.yield l) #[] #[]) :: lb)) (S [] q0)):ItA P g f lb Ok Fin S q0:=by
 refine ⟨hx,fun l X hX h ρ w vs hg hm hv hXw hY=>?_⟩
 refine callsIn_of_wp hf hb trivial ?_
 let R:Ending→World→Prop:=fun en w'=>(∃ v,en=.returned v)∧∃ j q h' ρ',Fin j∧Mine h' ρ' (S j q) w'∧Later h ρ (S [] q0) w h' ρ' (S j q) w'∧X h' ρ' w'
 have hfin:∀ x j q,Fin j→(x=Exit.normal∨x=.ret)→AOut ⟨⟨P,fn,h,ρ,S [] q0,w,fun _ _=>True,X,hX⟩,none,[],bodyPost P fn R⟩ x [] (S j q):=by
  intro x j q hfj hxx a w' hsim
  obtain ⟨h',ρ',hm',hl',_,hdf,_,hx'⟩:=hsim
  have:a.defers=[]∧∃ v,(results fn a.tmps).run P w'=.ok v w'∧R (.returned v) w' :=
   ⟨hdf,_,results_run (ts:=[]) (by rw [hres]; rfl) _ _,⟨_,rfl⟩,j,q,h',ρ',hfj,hm',hl',hx'⟩
  rcases hxx with rfl | rfl <;> exact this
 have:=hw l ⟨P,fn,h,ρ,S [] q0,w,fun _ _=>True,X,hX⟩ (bodyPost P fn R) rfl rfl rfl hg (fun j q x hx h1 ρ1 w1 v a1 a2 a3 a4=>hY j q x h1 ρ1 w1 v hx a1 a2 a3 a4) hfin
 have hlen:=hv.length
 have hargs:(#[Value.func (.yield l) #[] #[]]++vs.toArray)=(Value.func (.yield l) #[] #[] :: vs).toArray:=by simp
 rw [hargs]
 have hv2:RL h (Lf ρ (S [] q0)) false (Value.func (.yield l) #[] #[] :: vs) (.raw (.func (.yield l) #[] #[]) :: lb):=.cons (.raw _) hv
 refine Code.wpIn_mono ?_ (this { tmps:=(Value.func (.yield l) #[] #[] :: vs).toArray++Array.replicate (fn.ntmps - (Value.func (.yield l) #[] #[] :: vs).toArray.size) undef,defers:=[] } w
  ⟨h,ρ,hm,.refl ..,fun t=>?_,rfl,by simp; omega,hXw⟩)
 ·intro en a' w' hq
  exact hq
 ·rw [args0_get]
  simp only [Nat.zero_le,if_true,Nat.sub_zero]
  have h1:=hv2.getD t undef
  by_cases ht:t < vs.length+1
  ·have:((Value.func (.yield l) #[] #[] :: vs).toArray++Array.replicate (fn.ntmps - (Value.func (.yield l) #[] #[] :: vs).toArray.size) undef).getD t undef=(Value.func (.yield l) #[] #[] :: vs).getD t undef:=by
    simp [Array.getElem?_append,ht,List.getD]
   simp only [this]; exact h1
  ·have:(AV.raw (.func (.yield l) #[] #[]) :: lb).getD t .any=.any:=by simp [List.getD,List.getElem?_eq_none (by simp; omega:(AV.raw (.func (.yield l) #[] #[]) :: lb).length ≤ t)]
   rw [this]; exact .any _
theorem anextR {r:Cr} {k:List It} {e:Env} {s:List Blk} {all os:List Oper} {o:Oper} {x:Operand} {id mid n:Nat} {seen:List Nat} {es:List (AV × AV)} (ho:o.op=.next x false) (hx:ev e x=.mp id)
  (hb:s.getD id .dead=.it mid n seen) (hb2:s.getD mid .dead=.mp es) (hn:es.length=n)
  (hend:(∀ (j:Nat) (z:AV × AV),es[j]? = some z→liveK z.1=true→j ∈ seen)→AWpR r (.ops all os :: k) (put e o.dst (.tup [.bool false])) s)
  (hstep:∀ (j:Nat) (z:AV × AV),j ∉ seen→es[j]? = some z→liveK z.1=true→AWpR r (.ops all os :: k) (put e o.dst (.tup [.bool true,z.1,z.2])) (s.set id (.it mid n (seen++[j])))):AWpR r (.op all o os :: k) e s:=by
 intro a w hsim
 obtain ⟨h,ρ,hm,hl,he,hdf,hsz,hX⟩:=hsim
 show _→_
 intro hd
 rcases next_ok (P:=r.c.P) ho hm he hx (sto_it hb) (sto_mp hb2) hn with ⟨h1,h2⟩ | ⟨j,z,h1,h2,h4,h3⟩
 ·exact okv_goR hl he hdf hsz hm hX (by rw [ho]; intro c hc; cases hc) hd h2 (hend h1) hd
 ·exact okv_goR hl he hdf hsz hm hX (by rw [ho]; intro c hc; cases hc) hd h3 (hstep j z h1 h2 h4) hd
end Go.Av
set_option maxRecDepth 100000
namespace Go.Proofs.YtnfkjpihaficbaaGreatDoor
open Go Go.Av Go.RowKit
abbrev elFs:List Field:=[{ name:= "Kind",type:=3,offset:=0,embedded:=false,tag:= "",pkgPath:= "",byteOffset:=0 },{ name:= "Name",type:=9,offset:=1,embedded:=false,tag:= "",pkgPath:= "",byteOffset:=8 }]
theorem keyEl (a b:El):keyEqS Tryz.prog elFs (elA a) (elA b)=some (a == b):=by
 simp only [keyEqS,elA,elFs,List.length_cons,List.length_nil,decide_true,Bool.and_self,cond_true,eqFs,Tryz.underlying9,Tryz.underlying3,leafEq,bothB,if_true,el_beq,Bool.and_true]
abbrev NMap:=List (Option (El × Int × Bool))
structure Nd where
 el:El
 n:Int
 hand:Bool
def ndA (x:Nd):AV:=.agg [.int .i64 x.el.kind,.str x.el.name,.int .i64 x.n,.bool x.hand]
def ndV (k:El) (v:Int × Bool):AV:=ndA ⟨k,v.1,v.2⟩
def ndE:Option (El × Int × Bool)→AV × AV
 | some x=>(elA x.1,ndV x.1 x.2)
 | none=>tomb
def ndM (es:NMap):List (AV × AV):=es.map ndE
theorem ndM_find (k:El):∀ (es:NMap) (n:Nat),mfindS Tryz.prog elFs (elA k) (ndM es) n=(match tix k es with | some i=>some (some (n+i,ndV k ((tval k es).getD (0,false)))) | none=>some none)
 | [],n=>rfl
 | none :: r,n=>by
  have e:mfindS Tryz.prog elFs (elA k) (ndM (none :: r)) n=mfindS Tryz.prog elFs (elA k) (ndM r) (n+1):=rfl
  rw [e,ndM_find k r (n+1)]
  simp only [tix,tval]
  cases tix k r with
  | none=>rfl
  | some i=>simp only [Option.map_some,show n+1+i=n+(i+1) by omega]
 | some x :: r,n=>by
  have e:mfindS Tryz.prog elFs (elA k) (ndM (some x :: r)) n=(match keyEqS Tryz.prog elFs (elA k) (elA x.1) with | some true=>some (some (n,ndV x.1 x.2)) | some false=>mfindS Tryz.prog elFs (elA k) (ndM r) (n+1) | none=>none):=rfl
  rw [e,keyEl]
  by_cases h:x.1=k
  ·subst h
   simp [tix,tval]
  ·have h1:(k == x.1)=false:=by simpa using Ne.symm h
   simp only [h1]
   rw [ndM_find k r (n+1)]
   have t1:tix k (some x :: r)=(tix k r).map (· + 1):=by simp only [tix,if_neg h]
   have t2:tval k (some x :: r)=tval k r:=by simp only [tval,if_neg h]
   rw [t1,t2]
   cases tix k r with
   | none=>rfl
   | some i=>simp only [Option.map_some,show n+1+i=n+(i+1) by omega]
theorem ndM_put (es:NMap) (k:El) (v:Int × Bool):ndM (tput es k v)=(match tix k es with | some i=>(ndM es).set i (elA k,ndV k v) | none=>ndM es++[(elA k,ndV k v)]):=by
 unfold tput
 cases tix k es with
 | none=>simp [ndM,ndE]
 | some i=>simp only [ndM,List.map_set,ndE]
theorem ndM_del (es:NMap) (k:El):ndM (tdel es k)=(match tix k es with | some i=>(ndM es).set i tomb | none=>ndM es):=by
 unfold tdel
 cases tix k es with
 | none=>rfl
 | some i=>simp only [ndM,List.map_set,ndE]
theorem low_ndM (n:Nat) (es:NMap):lowB n (.mp (ndM es))=true:=by
 show (ndM es).all _=true
 rw [ndM,List.all_map,List.all_eq_true]
 intro x hx
 cases x <;> rfl
end Go.Proofs.YtnfkjpihaficbaaGreatDoor
namespace Go.Proofs.YtnfkjpihaficbaaGreatDoor
open Go Go.Av Go.RowKit
theorem cb_val:∀ a b:List UInt8,Lib.compareBytes a b=(if bytesLess a b then -1 else if bytesLess b a then 1 else 0)
 | [],[]=>rfl
 | [],_ :: _=>rfl
 | _ :: _,[]=>rfl
 | a :: x,b :: y=>by
  have ih:=cb_val x y
  simp only [Lib.compareBytes,bytesLess,Bool.or_eq_true,decide_eq_true_eq,Bool.and_eq_true,beq_iff_eq]
  by_cases h1:a < b
  ·simp [h1]
  ·by_cases h2:b < a
   ·have h3:¬ a=b:=fun e=>by subst e; exact h1 h2
    simp [h1,h2,h3]
   ·have h3:a=b:=by
     have e1:=UInt8.not_lt.1 h1
     have e2:=UInt8.not_lt.1 h2
     exact UInt8.le_antisymm e2 e1
    subst h3
    simp [UInt8.lt_irrefl,ih]
theorem bl_irrefl:∀ a:List UInt8,bytesLess a a=false
 | []=>rfl
 | a :: x=>by simp [bytesLess,bl_irrefl x]
theorem bl_trans:∀ a b c:List UInt8,bytesLess a b=true→bytesLess b c=true→bytesLess a c=true
 | [],[],c,h1,_=>by cases h1
 | _,_ :: _,[],_,h2=>by cases h2
 | _ :: _,[],_,h1,_=>by cases h1
 | [],_ :: _,_ :: _,_,_=>rfl
 | a :: x,b :: y,c :: z,h1,h2=>by
  simp only [bytesLess,Bool.or_eq_true,decide_eq_true_eq,Bool.and_eq_true,beq_iff_eq] at h1 h2 ⊢
  rcases h1 with h1 | ⟨e1,h1⟩
  ·rcases h2 with h2 | ⟨e2,h2⟩
   ·exact .inl (UInt8.lt_trans h1 h2)
   ·subst e2; exact .inl h1
  ·subst e1
   rcases h2 with h2 | ⟨e2,h2⟩
   ·exact .inl h2
   ·subst e2; exact .inr ⟨rfl,bl_trans x y z h1 h2⟩
theorem bl_total:∀ a b:List UInt8,bytesLess a b=false→bytesLess b a=false→a=b
 | [],[],_,_=>rfl
 | [],_ :: _,h1,_=>by cases h1
 | _ :: _,[],_,h2=>by cases h2
 | a :: x,b :: y,h1,h2=>by
  simp only [bytesLess,Bool.or_eq_false_iff,decide_eq_false_iff_not,Bool.and_eq_false_imp,beq_iff_eq] at h1 h2
  have h3:a=b:=UInt8.le_antisymm (UInt8.not_lt.1 h2.1) (UInt8.not_lt.1 h1.1)
  subst h3
  rw [bl_total x y (h1.2 rfl) (h2.2 rfl)]
theorem cb_lt {a b:List UInt8}:Lib.compareBytes a b < 0 ↔ bytesLess a b=true:=by
 rw [cb_val]
 cases bytesLess a b with
 | true=>simp
 | false=>cases bytesLess b a <;> simp
theorem cmpI_lt {a b:Int}:cmpI a b < 0 ↔ a < b:=by
 unfold cmpI
 by_cases h1:a < b
 ·simp [h1]
 ·by_cases h2:b < a
  ·simp [h1,h2]
  ·simp [h1,h2]
theorem cmpI_zero {a b:Int}:cmpI a b=0 ↔ a=b:=by
 unfold cmpI
 by_cases h1:a < b
 ·simp [h1]; omega
 ·by_cases h2:b < a
  ·simp [h1,h2]; omega
  ·simp [h1,h2]; omega
structure Ordr {α:Type} (lt:α→α→Prop):Prop where
 irrefl:∀ x,¬ lt x x
 trans:∀ x y z,lt x y→lt y z→lt x z
 total:∀ x y,¬ lt x y→¬ lt y x→x=y
section
variable {α:Type} {lt:α→α→Prop} (O:Ordr lt)
include O
theorem Ordr.asymm {x y:α} (h:lt x y):¬ lt y x:=fun h'=>O.irrefl x (O.trans _ _ _ h h')
theorem Ordr.ntrans {x y z:α} (h1:¬ lt y x) (h2:¬ lt z y):¬ lt z x:=fun h=>by
 by_cases h3:lt x y
 ·exact h2 (O.trans _ _ _ h h3)
 ·have:=O.total x y h3 h1
  subst this
  exact h2 h
end
section
variable {α:Type} (lt:α→α→Prop) (d:α)
def Sorted0 (q:List α) (i:Nat):Prop:=∀ x y,x < y→y < i→¬ lt (q.getD y d) (q.getD x d)
def InsI (q:List α) (i j:Nat):Prop:=∀ x y,x < y→y ≤ i→y ≠ j→¬ lt (q.getD y d) (q.getD x d)
variable {lt d}
theorem ins_start {q:List α} {i:Nat} (h:Sorted0 lt d q i):InsI lt d q i i:=fun x y h1 h2 h3=>h x y h1 (by omega)
theorem ins_stop0 {q:List α} {i:Nat} (h:InsI lt d q i 0):Sorted0 lt d q (i+1):=fun x y h1 h2=>h x y h1 (by omega) (by omega)
theorem ins_stop (nt:∀ x y z:α,¬ lt y x→¬ lt z y→¬ lt z x) {q:List α} {i j:Nat} (h:InsI lt d q i j) (hj:0 < j) (hs:¬ lt (q.getD j d) (q.getD (j - 1) d)):Sorted0 lt d q (i+1):=fun x y h1 h2=>by
 by_cases hy:y=j
 ·subst hy
  by_cases hx:x=y - 1
  ·subst hx; exact hs
  ·exact nt _ _ _ (h x (y - 1) (by omega) (by omega) (by omega)) hs
 ·exact h x y h1 (by omega) hy
theorem getD_swap {q:List α} {j:Nat} (hj:0 < j) (hl:j < q.length) (t:Nat):((q.set j (q.getD (j - 1) d)).set (j - 1) (q.getD j d)).getD t d=if t=j - 1 then q.getD j d else if t=j then q.getD (j - 1) d else q.getD t d:=by
 simp only [List.getD_eq_getElem?_getD,List.getElem?_set,List.length_set]
 by_cases h1:j - 1=t
 ·subst h1
  simp [show j - 1 < q.length by omega]
 ·by_cases h2:j=t
  ·subst h2
   have:¬ j=j - 1:=by omega
   simp [h1,hl,this]
  ·simp [h1,h2,Ne.symm h1,Ne.symm h2]
theorem ins_swap (has:∀ x y:α,lt x y→¬ lt y x) {q:List α} {i j:Nat} (h:InsI lt d q i j) (hj:0 < j) (hl:j < q.length) (hs:lt (q.getD j d) (q.getD (j - 1) d)):InsI lt d ((q.set j (q.getD (j - 1) d)).set (j - 1) (q.getD j d)) i (j - 1):=fun x y h1 h2 h3=>by
 rw [getD_swap hj hl,getD_swap hj hl]
 rw [if_neg h3]
 by_cases hy:y=j
 ·subst hy
  rw [if_pos rfl]
  by_cases hx:x=y - 1
  ·rw [if_pos hx]; exact has _ _ hs
  ·rw [if_neg hx,if_neg (by omega)]
   exact h x (y - 1) (by omega) (by omega) (by omega)
 ·rw [if_neg hy]
  by_cases hx:x=j - 1
  ·rw [if_pos hx]
   exact h j y (by omega) h2 hy
  ·rw [if_neg hx]
   by_cases hx2:x=j
   ·rw [if_pos hx2]
    exact h (j - 1) y (by omega) h2 hy
   ·rw [if_neg hx2]
    exact h x y h1 h2 hy
theorem sorted0_one (q:List α):Sorted0 lt d q 1:=fun x y h1 h2=>by omega
theorem sorted0_all {q:List α} {n:Nat} (h:Sorted0 lt d q n) (hn:q.length ≤ n):q.Pairwise fun x y=>¬ lt y x:=by
 rw [List.pairwise_iff_getElem]
 intro i j hi hj hij
 have:=h i j hij (by omega)
 simpa [List.getD,hi,hj] using this
end
def elLt (a b:El):Prop:=a.kind < b.kind∨(a.kind=b.kind∧bytesLess a.name b.name=true)
def elCmp (a b:El):Int:=orI (cmpI a.kind b.kind) (Lib.compareBytes a.name b.name)
theorem elCmp_lt {a b:El}:elCmp a b < 0 ↔ elLt a b:=by
 unfold elCmp elLt orI
 by_cases h:cmpI a.kind b.kind=0
 ·rw [if_pos h,cb_lt]
  have h2:=cmpI_zero.1 h
  simp [h2]
 ·rw [if_neg h,cmpI_lt]
  have h2:=mt cmpI_zero.2 h
  simp [h2]
theorem elO:Ordr elLt:=by
 refine ⟨fun x h=>?_,fun x y z h1 h2=>?_,fun x y h1 h2=>?_⟩
 ·rcases h with h | ⟨_,h⟩
  ·omega
  ·rw [bl_irrefl] at h; cases h
 ·rcases h1 with h1 | ⟨e1,h1⟩ <;> rcases h2 with h2 | ⟨e2,h2⟩
  ·exact .inl (by omega)
  ·exact .inl (by omega)
  ·exact .inl (by omega)
  ·exact .inr ⟨e1.trans e2,bl_trans _ _ _ h1 h2⟩
 ·unfold elLt at h1 h2
  simp only [not_or,Bool.not_eq_true,not_and,Int.not_lt] at h1 h2
  have e:x.kind=y.kind:=by omega
  have e2:=bl_total _ _ (h1.2 e) (h2.2 e.symm)
  cases x; cases y
  simp_all
end Go.Proofs.YtnfkjpihaficbaaGreatDoor
namespace Go.Proofs.YtnfkjpihaficbaaGreatDoor
open Go Go.Av Go.RowKit
theorem byElement_pc (a b:El):Pc Tryz.prog 55 [elA a,elA b] (· = .int .i64 (elCmp a b)):=by
 have ho:=or_pc (cmpI a.kind b.kind) (Lib.compareBytes a.name b.name)
 simp only [elA]
 refine pc_intro (ct_intro Tryz.func55 rfl Tryz.ntmps55 hB55 (by simp) fun h ρ w=>goB (N:=17) Tryz.ntmps55 300 ?_)
 simp only [go_sem]
 refine adraw [.int .i64 (cmpI a.kind b.kind),.int .i64 (Lib.compareBytes a.name b.name),.int .i64 (elCmp a b)] mixed (by decide) (N:=17) Tryz.ntmps55 (by decide) 100 ?_
 simp only [go_sem]
 repeat refine And.intro (by first | exact (cmp_int_pc _ _).at | exact (compare_str_pc _ _).at | exact ho.at | omega | rfl | (simp; done) | (simp; omega)) ?_
 refine goB (N:=17) Tryz.ntmps55 300 ?_
 simp only [go_sem]
 exact aret [4] rfl ⟨rfl,rfl⟩
theorem set_getD {s:List Blk} {bid:Nat} (h:bid < s.length) (b:Blk):(s.set bid b).getD bid .dead=b:=by simp [List.getD,h]
theorem by1 (x:UInt8):-9223372036854775808 ≤ (x.toNat:Int):=by omega
theorem by2 (x:UInt8):(x.toNat:Int) ≤ 9223372036854775807:=by have:=x.toNat_lt; omega
theorem by3 (x:UInt8):-9223372036854775808 ≤ 0+(x.toNat:Int):=by omega
theorem by4 (x:UInt8):0+(x.toNat:Int) ≤ 9223372036854775807:=by have:=x.toNat_lt; omega
theorem len64_pc (n:Nat) (hn:n ≤ 12):Pc Tryz.prog 222 [.int .u64 n] (fun r=>∃ m:Int,r=.int .i64 m):=by
 have d1:decide ((n:Int) ≥ 4294967296)=false:=by simp; omega
 have d2:decide ((n:Int) ≥ 65536)=false:=by simp; omega
 have d3:decide ((n:Int) ≥ 256)=false:=by simp; omega
 refine pc_intro (ct_intro Tryz.func222 rfl Tryz.ntmps222 hB222 (by simp) fun h ρ w=>goB (N:=25) Tryz.ntmps222 300 ?_)
 simp only [go_sem,d1,d2,d3]
 repeat refine And.intro (by first | omega | exact by1 _ | exact by2 _ | exact by3 _ | exact by4 _ | exact Int.ofNat_lt.2 (Nat.lt_of_lt_of_le (by omega:n < 256) (by decide))) ?_
 exact aret [2] rfl ⟨⟨_,rfl⟩,rfl⟩
theorem len_pc (n:Nat) (hn:n ≤ 12):Pc Tryz.prog 160 [.int .u64 n] (fun r=>∃ m:Int,r=.int .i64 m):=by
 refine pc_intro (ct_intro Tryz.func160 rfl Tryz.ntmps160 hB160 (by simp) fun h ρ w=>goB (N:=8) Tryz.ntmps160 300 ?_)
 simp only [go_sem]
 refine pcall (len64_pc n hn) rfl (N:=8) Tryz.ntmps160 rfl ?_
 rintro _ ⟨m,rfl⟩
 refine goB (N:=8) Tryz.ntmps160 300 ?_
 simp only [go_sem]
 exact aret [2] rfl ⟨⟨m,rfl⟩,rfl⟩
theorem wrapU (n:Nat) (h:n ≤ 12):IntKind.u64.wrap (n:Int)=(n:Int):=by
 rcases (by omega:n=0∨n=1∨n=2∨n=3∨n=4∨n=5∨n=6∨n=7∨n=8∨n=9∨n=10∨n=11∨n=12) with rfl | rfl | rfl | rfl | rfl | rfl | rfl | rfl | rfl | rfl | rfl | rfl | rfl <;> decide
theorem fm_congr {α β:Type} {f g:α→Option β}:∀ {l:List α},(∀ x ∈ l,f x=g x)→l.filterMap f=l.filterMap g
 | [],_=>rfl
 | a :: l,h=>by
  rw [List.filterMap_cons,List.filterMap_cons,h a (by simp),fm_congr (l:=l) fun x hx=>h x (by simp [hx])]
theorem pigeonN:∀ (n:Nat) (l:List Nat),l.Nodup→(∀ x ∈ l,x < n)→l.length ≤ n
 | 0,l,_,h=>by
  cases l with
  | nil=>simp
  | cons a l=>exact absurd (h a (by simp)) (by omega)
 | n+1,l,hn,h=>by
  have h1:=pigeonN n (l.erase n) (hn.erase n) (fun x hx=>by
   have h2:=h x (List.mem_of_mem_erase hx)
   have h3:x ≠ n:=fun e=>by
    subst e
    exact (hn.not_mem_erase) hx
   omega)
  have h4:=List.length_erase (a:=n) (l:=l)
  split at h4 <;> omega
end Go.Proofs.YtnfkjpihaficbaaGreatDoor
