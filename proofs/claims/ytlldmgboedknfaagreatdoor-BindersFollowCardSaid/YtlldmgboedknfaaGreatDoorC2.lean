/- What memory of the call's own is (numbered blocks), when a machine's state is a state of. -/
import Derived.Test.YtlldmgboedknfaaGreatDoorC1
import Derived.Deep.MidRow
import Derived.Laws.CopyRow
set_option linter.unusedSimpArgs false
set_option linter.unusedVariables false
set_option linter.unusedSectionVars false
namespace Go.Av
open Go Go.RowKit
inductive Blk where
 | arr (esz:Nat) (l:List AV)
 | mp (es:List (AV×AV))
 | it (mid n:Nat) (seen:List Nat)
 | dead
abbrev Own:=Nat->Option (Nat×Nat)
def upd(ρ:Own)(id:Nat)(x:Option (Nat×Nat)):Own:=fun i=>if i=id then x else ρ i
def at0(a:Option (Nat×Nat)):Option Addr:=a.map fun x=>⟨x.1,x.2,none⟩
def LfC(ρ:Own)(sto:List Blk)(v:Value)(a:AV):Prop :=
 match a with
 | .sl id off len cap=>match sto[id]? with
  | some (.arr e l)=>off+cap<=l.length/\(off+cap=l.length->(len=0/\cap=0/\∃ a,v=.slice (at0 a) 0 0) \/
    ∃ g tot,ρ id=some (g,tot)/\v=.slice (some ⟨g,off*e,none⟩) len (tot-off)/\len<=cap)
  | some _=>True
  | none=>False
 | .ptr id n i off=>match sto[id]? with
  | some (.arr e l)=>n<=l.length/\(n=l.length->i<n/\∃ g tot,ρ id=some (g,tot)/\v=.pointer (some ⟨g,i*e+off,none⟩))
  | some _=>True
  | none=>False
 | .mp id=>match sto[id]? with
  | some (.mp _)=>∃ g,ρ id=some (g,0)/\v=.map (some g)
  | some (.it _ _ _)=>∃ g,ρ id=some (g,0)/\v=.pointer (some ⟨g,0,none⟩)
  | some _=>True
  | none=>False
 | _=>False
def Lf(ρ:Own)(sto:List Blk)(v:Value)(a:AV):Prop:=v.oneCell'=true/\LfC ρ sto v a
def HRow(w:World)(g:Nat)(cur:Array Value)(t:TypeId):Prop:=∃ mk,w.heap[g]? = some (.cells cur t mk)/\(mk=(0,0)\/cur.size<=mk.1)
theorem HRow.of{w:World}{g:Nat}{cur:Array Value}{t:TypeId}(e:w.heap[g]? = some (.cells cur t (0,0))):HRow w g cur t:=⟨_,e,.inl rfl⟩
theorem HRow.via{w w':World}{g:Nat}{cur:Array Value}{t:TypeId}(e:w'.heap[g]? = w.heap[g]?)(r:HRow w g cur t):HRow w' g cur t:=by
 obtain⟨mk,h1,h2⟩:=r;exact⟨mk,e.trans h1,h2⟩
theorem HRow.lt{w:World}{g:Nat}{cur:Array Value}{t:TypeId}(r:HRow w g cur t):g<w.heap.size:=by
 obtain⟨mk,h1,_⟩:=r;exact(Array.getElem?_eq_some_iff.1 h1).1
theorem HRow.cell{w:World}{g:Nat}{cur:Array Value}{t:TypeId}(r:HRow w g cur t)(o:Nat):w.cell? ⟨g,o,none⟩=cur[o]?:=by
 obtain⟨mk,h1,_⟩:=r;exact cell_of_row w g o cur t mk h1
theorem HRow.fz{w:World}{g:Nat}{cur:Array Value}{t:TypeId}(r:HRow w g cur t){o:Nat}(ho:o<cur.size):w.frozen? ⟨g,o,none⟩=false:=by
 obtain⟨⟨lo,hi⟩,h1,h2⟩:=r;simp only[World.frozen?,h1,Bool.and_eq_false_iff,decide_eq_false_iff_not]
 rcases h2 with h2|h2
 .right; simp at h2; omega
 .left; simp at h2; omega
theorem HRow.set{w:World}{g:Nat}{cur:Array Value}{t:TypeId}(r:HRow w g cur t){cs:Array Value}(hs:cs.size=cur.size):HRow (w.setRow g cs) g cs t:=by
 obtain⟨mk,h1,h2⟩:=r;exact⟨mk,setRow_heap w g cur cs t mk h1,by rw[hs]; exact h2⟩
theorem HRow.shape{w:World}{g:Nat}{cur:Array Value}{t:TypeId}(r:HRow w g cur t):w.shape? g=some (t,cur.size):=by
 obtain⟨mk,h1,_⟩:=r
 simp[World.shape?,h1]
theorem AbD(P:Program)(g o:Nat)(t:TypeId):∀ (vs:List Value)(i:Nat)(cur:Array Value)(w:World),HRow w g cur t->o+i+vs.length<=cur.size->(∀ v∈vs,v.oneCell'=true) ->
  (storeCells ⟨g,o,none⟩ vs i).run P w=.ok () (w.setRow g (cur.toList.take (o+i)++vs++cur.toList.drop (o+i+vs.length)).toArray)
 | [],i,cur,w,hg,_,_=>by
  obtain⟨mk,h1,_⟩:=hg;simp only[storeCells,List.append_nil,List.length_nil,Nat.add_zero,List.take_append_drop,Array.toArray_toList];rw[setRow_self w g cur t mk h1];rfl
 | v::rest,i,cur,w,hg,hl,h1=>by
  have hi:o+i<cur.size:=by simp at hl; omega
  have hadd:(⟨g,o,none⟩:Addr).add i=⟨g,o+i,none⟩:=by unfold Addr.add; split <;> simp_all
  have hcell:w.cell? ⟨g,o+i,none⟩=some cur[o+i]:=by rw[hg.cell]; simp[hi]
  have hfro:w.frozen? ⟨g,o+i,none⟩=false:=hg.fz hi;obtain⟨mk,g1,g2⟩:=hg;have hst:(store ((⟨g,o,none⟩:Addr).add i) v).run P w=.ok () (w.setRow g (cur.setIfInBounds (o+i) v)):=by
   rw[hadd,run_store P w _ v _ (h1 v (by simp)),hcell]
   simp[hfro,setCell_eq_setRow w g (o+i) cur t mk v g1]
  have ih:=AbD P g o t rest (i+1) (cur.setIfInBounds (o+i) v) (w.setRow g (cur.setIfInBounds (o+i) v)) (HRow.set ⟨mk,g1,g2⟩ (by simp)) (by simp at hl |-; omega) (fun x hx=>h1 x (by simp[hx]));simp only[storeCells,Sem.run_bind,hst,Result.andThen_ok,ih,setRow_setRow]
  congr 3
  have e:=list_seg_step cur.toList (o+i) v rest (by simp at hl |-; omega)
  simpa[Array.toList_setIfInBounds,Nat.add_assoc]using e
def tomb:AV×AV:=(.fz 0 [.any],.any)
def AaW:AV->Bool
 | .fz _ _=>false
 | _=>true
def lvs:List (AV×AV)->List (AV×AV)
 | []=>[]
 | x::r=>bif AaW x.1 then x::lvs r else lvs r
def ixs:Nat->List (AV×AV)->List Nat
 | _,[]=>[]
 | i,x::r=>bif AaW x.1 then i::ixs (i+1) r else ixs (i+1) r
theorem lvs_map(f:AV->AV):∀ es:List (AV×AV),lvs (es.map fun x=>(x.1,f x.2))=(lvs es).map fun x=>(x.1,f x.2)
 | []=>rfl
 | x::r=>by
  simp only[List.map_cons,lvs]
  cases h:AaW x.1 <;> simp[lvs_map f r]
theorem A9O(f:AV->AV):∀ (es:List (AV×AV))(i:Nat),ixs i (es.map fun x=>(x.1,f x.2))=ixs i es
 | [],_=>rfl
 | x::r,i=>by
  simp only[List.map_cons,ixs]
  cases h:AaW x.1 <;> simp[A9O f r]
theorem AzY{x:AV×AV}:∀ {es:List (AV×AV)},x∈lvs es->x∈es
 | [],h=>by simp[lvs]at h
 | y::r,h=>by
  simp only[lvs]at h
  cases hl:AaW y.1 with
  | false=>rw[hl]at h; exact List.mem_cons_of_mem _ (AzY h)
  | true =>
   rw[hl]at h
   rcases List.mem_cons.1 h with rfl|h
   .exact List.mem_cons_self
   .exact List.mem_cons_of_mem _ (AzY h)
theorem AmU:∀ (es:List (AV×AV))(i:Nat),(ixs i es).length=(lvs es).length
 | [],_=>rfl
 | x::r,i=>by
  simp only[ixs,lvs]
  cases h:AaW x.1 <;> simp[AmU r]
theorem AzZ:∀ (a b:List (AV×AV)),lvs (a++b)=lvs a++lvs b
 | [],_=>rfl
 | x::r,b=>by
  simp only[List.cons_append,lvs]
  cases h:AaW x.1 <;> simp[AzZ r]
theorem A9P:∀ (a b:List (AV×AV))(i:Nat),ixs i (a++b)=ixs i a++ixs (i+a.length) b
 | [],_,_=>rfl
 | x::r,b,i=>by
  simp only[List.cons_append,ixs,A9P r b,List.length_cons];rw[show i+1+r.length=i+(r.length+1) by omega]
  cases h:AaW x.1 <;> simp
theorem ArB:∀ {es:List (AV×AV)}{i p j:Nat},(ixs i es)[p]? = some j->i<=j/\∃ x,es[j-i]? = some x/\(lvs es)[p]? = some x/\AaW x.1=true
 | [],i,p,j,h=>by simp[ixs]at h
 | x::r,i,p,j,h=>by
  simp only[ixs,lvs]at h |-
  cases hl:AaW x.1 with
  | false =>
   rw[hl]at h;obtain⟨h1,y,h2,h3,h4⟩:=ArB h;refine⟨by omega,y,?_,by simpa using h3,h4⟩;rw[show j-i=(j-(i+1))+1 by omega]
   simpa using h2
  | true =>
   rw[hl]at h;simp only[cond_true]at h |-
   cases p with
   | zero =>
    simp at h
    subst h;exact⟨Nat.le_refl _,x,by simp,rfl,hl⟩
   | succ p =>
    simp only[List.getElem?_cons_succ]at h |-;obtain⟨h1,y,h2,h3,h4⟩:=ArB h;refine⟨by omega,y,?_,h3,h4⟩;rw[show j-i=(j-(i+1))+1 by omega]
    simpa using h2
theorem A3G:∀ {es:List (AV×AV)}{i j:Nat}{x:AV×AV},es[j]? = some x->AaW x.1=true->∃ p:Nat,(ixs i es)[p]? = some (i+j)/\(lvs es)[p]? = some x
 | [],_,j,x,h,_=>by simp at h
 | y::r,i,0,x,h,hl=>by
  simp at h
  subst h;exact⟨0,by simp[ixs,hl],by simp[lvs,hl]⟩
 | y::r,i,j+1,x,h,hl=>by
  simp only[List.getElem?_cons_succ]at h;obtain⟨p,h1,h2⟩:=A3G (i:=i+1) h hl;rw[show i+1+j=i+(j+1) by omega]at h1;simp only[ixs,lvs]
  cases hy:AaW y.1 with
  | false=>exact⟨p,by simpa using h1,by simpa using h2⟩
  | true=>exact⟨p+1,by simpa using h1,by simpa using h2⟩
theorem ix_lt{es:List (AV×AV)}{p j:Nat}(h:(ixs 0 es)[p]? = some j):j<es.length:=by
 obtain⟨_,x,h2,_⟩:=ArB h;have:=(List.getElem?_eq_some_iff.1 h2).1;omega
theorem AmV:∀ (es:List (AV×AV))(i:Nat),(ixs i es).Pairwise (·<·)/\∀ j∈ixs i es,i<=j
 | [],_=>⟨.nil,by simp[ixs]⟩
 | x::r,i=>by
  obtain⟨h1,h2⟩:=AmV r (i+1);simp only[ixs]
  cases hl:AaW x.1 with
  | false=>exact⟨h1,fun j hj=>by have:=h2 j hj; omega⟩
  | true =>
   refine⟨List.pairwise_cons.2 ⟨fun j hj=>by have:=h2 j hj; omega,h1⟩,fun j hj=>?_⟩
   rcases List.mem_cons.1 hj with rfl|hj
   .exact Nat.le_refl _
   .have:=h2 j hj; omega
theorem BrR{es:List (AV×AV)}{p q j:Nat}(h:(ixs 0 es)[p]? = some j)(h2:(ixs 0 es)[q]? = some j):p=q:=by
 obtain⟨hp,e1⟩:=List.getElem?_eq_some_iff.1 h;obtain⟨hq,e2⟩:=List.getElem?_eq_some_iff.1 h2;have hr:=List.pairwise_iff_getElem.1 (AmV es 0).1
 rcases Nat.lt_trichotomy p q with hpq|hpq|hpq
 .have:=hr p q hp hq hpq; omega
 .exact hpq
 .have:=hr q p hq hp hpq; omega
theorem AmW{x:AV×AV}(hx:AaW x.1=true):∀ {es:List (AV×AV)}{i p j:Nat},(ixs i es)[p]? = some (i+j)->lvs (es.set j x)=(lvs es).set p x/\∀ n,ixs n (es.set j x)=ixs n es
 | [],_,_,_,h=>by simp[ixs]at h
 | y::r,i,p,0,h=>by
  obtain⟨_,z,h2,h3,h4⟩:=ArB h
  simp at h2
  subst h2;simp only[ixs,h4,cond_true]at h
  cases p with
  | zero=>exact⟨by simp[lvs,hx,h4],fun n=>by simp[ixs,hx,h4]⟩
  | succ p =>
   simp only[List.getElem?_cons_succ]at h;have:=(AmV r (i+1)).2 _ (List.mem_of_getElem? h);omega
 | y::r,i,p,j+1,h=>by
  simp only[List.set_cons_succ]
  cases hy:AaW y.1 with
  | false =>
   simp only[ixs,hy,cond_false]at h;obtain⟨h1,h2⟩:=AmW hx (es:=r) (i:=i+1) (p:=p) (j:=j) (by rw[h]; congr 1; omega);exact⟨by simp[lvs,hy,h1],fun n=>by simp[ixs,hy,h2]⟩
  | true =>
   simp only[ixs,hy,cond_true]at h
   cases p with
   | zero=>simp at h
   | succ p =>
    simp only[List.getElem?_cons_succ]at h;obtain⟨h1,h2⟩:=AmW hx (es:=r) (i:=i+1) (p:=p) (j:=j) (by rw[h]; congr 1; omega);exact⟨by simp[lvs,hy,h1],fun n=>by simp[ixs,hy,h2]⟩
theorem A0A:∀ {es:List (AV×AV)}{i p j:Nat},(ixs i es)[p]? = some (i+j)->lvs (es.set j tomb)=(lvs es).eraseIdx p/\∀ n,ixs n (es.set j tomb)=(ixs n es).eraseIdx p
 | [],_,_,_,h=>by simp[ixs]at h
 | y::r,i,p,0,h=>by
  obtain⟨_,z,h2,h3,h4⟩:=ArB h
  simp at h2
  subst h2;simp only[ixs,h4,cond_true]at h
  cases p with
  | zero =>
   have ht:AaW tomb.1=false:=rfl;exact⟨by simp only[List.set_cons_zero,lvs,ht,h4,cond_true,cond_false,List.eraseIdx_cons_zero],fun n=>by simp only[List.set_cons_zero,ixs,ht,h4,cond_true,cond_false,List.eraseIdx_cons_zero]⟩
  | succ p =>
   simp only[List.getElem?_cons_succ]at h;have:=(AmV r (i+1)).2 _ (List.mem_of_getElem? h);omega
 | y::r,i,p,j+1,h=>by
  simp only[List.set_cons_succ]
  cases hy:AaW y.1 with
  | false =>
   simp only[ixs,hy,cond_false]at h;obtain⟨h1,h2⟩:=A0A (es:=r) (i:=i+1) (p:=p) (j:=j) (by rw[h]; congr 1; omega);exact⟨by simp[lvs,hy,h1],fun n=>by simp[ixs,hy,h2]⟩
  | true =>
   simp only[ixs,hy,cond_true]at h
   cases p with
   | zero=>simp at h
   | succ p =>
    simp only[List.getElem?_cons_succ]at h;obtain⟨h1,h2⟩:=A0A (es:=r) (i:=i+1) (p:=p) (j:=j) (by rw[h]; congr 1; omega);exact⟨by simp[lvs,hy,h1],fun n=>by simp[ixs,hy,h2]⟩
theorem AgW:∀ {es:List (AV×AV)}{x:AV×AV},x∈lvs es->AaW x.1=true
 | [],x,h=>by simp[lvs]at h
 | y::r,x,h=>by
  simp only[lvs]at h
  cases hl:AaW y.1 with
  | false=>rw[hl]at h; exact AgW h
  | true =>
   rw[hl]at h
   rcases List.mem_cons.1 h with rfl|h
   .exact hl
   .exact AgW h
def EnOk(en:Array MapEntry)(clock:Nat)(es:List (AV×AV)):Prop:=clock=es.length/\(∀ (j:Nat)(y:MapEntry),en.toList[j]? = some y->(ixs 0 es)[j]? = some y.born)/\en.toList.Pairwise (fun x y=>x.key≠y.key)
theorem EnOk.map{en:Array MapEntry}{clock:Nat}{es:List (AV×AV)}(f:AV->AV)(h:EnOk en clock es):EnOk en clock (es.map fun x=>(x.1,f x.2)):=by
 unfold EnOk at h |-;rw[List.length_map,A9O];exact h
def OwnB(h:Mem)(ρ:Own)(sto:List Blk)(w:World)(id:Nat):Blk->Prop
 | .arr e l=>(l=[]/\ρ id=none)\/∃ g tot cur t,ρ id=some (g,tot)/\HRow w g cur t/\cur.size=tot*e/\l.length<=tot/\tot<=maxLen/\0<e /\
   (∀ x∈l,(cellsOf x).length=e)/\(∀ v∈cur.toList,v.oneCell'=true)/\RL h (Lf ρ sto) false (cur.toList.take (l.length*e)) (flat l)
 | .mp es=>∃ g en clock,ρ id=some (g,0)/\w.heap[g]? = some (.map en clock) /\
   en.toList.length=(lvs es).length/\(∀ (k:Nat) (x:AV×AV) (y:MapEntry),(lvs es)[k]? = some x->en.toList[k]? = some y->RV h (Lf ρ sto) true y.key x.1/\RV h (Lf ρ sto) false y.val x.2)/\EnOk en clock es
 | .it mid n seen=>∃ g gm,ρ id=some (g,0)/\w.heap[g]? = some (.mapIter (some gm) n seen.toArray n)/\Lf ρ sto (.map (some gm)) (.mp mid)/\seen.Nodup/\∀ j∈seen,j<n
 | .dead=>ρ id=none
class Tr where
 R:World->World->Prop
 trans:∀ {a b c:World},R a b->R b c->R a c
 same:∀ {w w':World},w'.drawn=w.drawn->R w w'
 drew:∀ w:World,R w w.drew
variable [Tr]
structure Mine(h:Mem)(ρ:Own)(sto:List Blk)(w:World):Prop where
 mem:∀ b o v,h b o=some v->w.cell? ⟨b,o,none⟩=some v/\v.oneCell'=true
 own:∀ (id:Nat) (blk:Blk),sto[id]? = some blk->OwnB h ρ sto w id blk
 out:∀ id,sto.length<=id->ρ id=none
 inj:∀ i j g t t',ρ i=some (g,t)->ρ j=some (g,t')->i=j
 disj:∀ i g t,ρ i=some (g,t)->∀ o,h g o=none
structure Later(h:Mem)(ρ:Own)(sto:List Blk)(w:World)(h':Mem)(ρ':Own)(sto':List Blk)(w':World):Prop where
 hle:∀ b o v,h b o=some v->h' b o=some v
 hnew:∀ b o,h b o=none->h' b o≠none->(∃ j t,ρ j=some (b,t))\/w.heap.size<=b
 keep:∀ v a,Lf ρ sto v a->Lf ρ' sto' v a
 os:w'.os=w.os
 tape:w'.tape=w.tape
 output:w'.output=w.output/\Tr.R w w'
 size:w.heap.size<=w'.heap.size
 block:∀ k,k<w.heap.size->(∀ i t,ρ i≠some (k,t))->w'.heap[k]? = w.heap[k]?
 newown:∀ i g t,ρ' i=some (g,t)->(∃ j t',ρ j=some (g,t'))\/w.heap.size<=g
theorem Later.refl(h:Mem)(ρ:Own)(sto:List Blk)(w:World):Later h ρ sto w h ρ sto w :=
 ⟨fun _ _ _ x=>x,fun _ _ a b=>(b a).elim,fun _ _ x=>x,rfl,rfl,⟨rfl,Tr.same rfl⟩,Nat.le_refl _,fun _ _ _=>rfl,fun i _ t x=>.inl ⟨i,t,x⟩⟩
theorem Later.trans{h ρ sto w h1 ρ1 sto1 w1 h2 ρ2 sto2 w2}(a:Later h ρ sto w h1 ρ1 sto1 w1)(b:Later h1 ρ1 sto1 w1 h2 ρ2 sto2 w2):Later h ρ sto w h2 ρ2 sto2 w2 where
 hle:=fun x y z e=>b.hle x y z (a.hle x y z e)
 hnew:=fun x y e n=>by
  cases hq:h1 x y with
  | some v=>exact a.hnew x y e (by simp[hq])
  | none =>
   rcases b.hnew x y hq n with⟨j,t,hj⟩|hs
   .exact a.newown j x t hj
   .exact .inr (Nat.le_trans a.size hs)
 keep:=fun v x l=>b.keep v x (a.keep v x l)
 os:=b.os.trans a.os
 tape:=b.tape.trans a.tape
 output:=⟨b.output.1.trans a.output.1,Tr.trans a.output.2 b.output.2⟩
 size:=Nat.le_trans a.size b.size
 block:=fun k hk hn=>by
  rw[b.block k (Nat.lt_of_lt_of_le hk a.size) ?_,a.block k hk hn];intro i t e
  rcases a.newown i k t e with⟨j,t',hj⟩|hs
  .exact hn j t' hj
  .omega
 newown:=fun i g t e=>by
  rcases b.newown i g t e with⟨j,t',hj⟩|hs
  .exact a.newown j g t' hj
  .exact .inr (Nat.le_trans a.size hs)
section
variable {h h':Mem}{ρ ρ':Own}{sto sto':List Blk}{w w':World}
theorem Mine.lt(m:Mine h ρ sto w) {i g t}(e:ρ i=some (g,t)):g<w.heap.size:=by
 have hi:i<sto.length:=by
  rcases Nat.lt_or_ge i sto.length with x|x
  .exact x
  .simp [m.out i x]at e
 have ho:=m.own i _ (List.getElem?_eq_getElem hi)
 cases hb:sto[i]with
 | arr es l =>
  rw[hb]at ho
  rcases ho with⟨_,hn⟩|⟨g',tot,cur,tt,h1,h2,_⟩
  .simp [hn]at e
  .rw [h1]at e; cases e
   exact h2.lt
 | mp es =>
  rw[hb]at ho;obtain⟨g',en,cl,h1,h2,_⟩:=ho;rw[h1]at e; cases e;exact(Array.getElem?_eq_some_iff.1 h2).1
 | it mid n seen =>
  rw[hb]at ho;obtain⟨g',gm,h1,h2,_⟩:=ho;rw[h1]at e; cases e;exact(Array.getElem?_eq_some_iff.1 h2).1
 | dead=>rw[hb]at ho; simp only[OwnB]at ho; simp[ho]at e
theorem Mine.memlt(m:Mine h ρ sto w) {b o v}(e:h b o=some v):b<w.heap.size:=by
 have:=World.block_lt_of_cell? w ⟨b,o,none⟩ (m.mem b o v e).1;exact this
theorem OwnB.mono(hh:∀ b o v,h b o=some v->h' b o=some v)(hl:∀ v a,Lf ρ sto v a->Lf ρ' sto' v a){id:Nat}{blk:Blk}(e:ρ' id=ρ id)
  (hw:∀ g t,ρ id=some (g,t)->w'.heap[g]? = w.heap[g]?) (o:OwnB h ρ sto w id blk):OwnB h' ρ' sto' w' id blk:=by
 cases blk with
 | arr es l =>
  rcases o with⟨h1,h2⟩|⟨g,tot,cur,t,h1,h2,h3,h4,h5,h6,h7,h8,h9⟩
  .exact .inl ⟨h1,e.trans h2⟩
  .exact .inr ⟨g,tot,cur,t,e.trans h1,h2.via (hw g tot h1),h3,h4,h5,h6,h7,h8,h9.mono hh hl⟩
 | mp es =>
  obtain⟨g,en,cl,h1,h2,h3,h4,h5⟩:=o;refine⟨g,en,cl,e.trans h1,(hw g 0 h1).trans h2,h3,fun k x y hx hy=>?_,h5⟩;obtain⟨p,q⟩:=h4 k x y hx hy;exact⟨p.mono hh hl,q.mono hh hl⟩
 | it mid n seen =>
  obtain⟨g,gm,h1,h2,h3,h4⟩:=o;exact⟨g,gm,e.trans h1,(hw g 0 h1).trans h2,hl _ _ h3,h4⟩
 | dead=>exact e.trans o
structure Same(w w':World):Prop where
 os:w'.os=w.os
 tape:w'.tape=w.tape
 output:w'.output=w.output/\Tr.R w w'
 size:w.heap.size<=w'.heap.size
 block:∀ k,k<w.heap.size->w'.heap[k]? = w.heap[k]?
theorem Same.refl(w:World):Same w w:=⟨rfl,rfl,⟨rfl,Tr.same rfl⟩,Nat.le_refl _,fun _ _=>rfl⟩
theorem Same.alloc(w:World)(o:Obj):Same w (w.alloc o):=⟨rfl,rfl,⟨rfl,Tr.same rfl⟩,by simp,fun k hk=>Below.heap_alloc w o k hk⟩
theorem Same.drew(w:World):Same w w.drew:=⟨rfl,rfl,⟨rfl,Tr.drew w⟩,Nat.le_refl _,fun _ _=>rfl⟩
theorem Same.trans{w1 w2 w3:World}(a:Same w1 w2)(b:Same w2 w3):Same w1 w3 :=
 ⟨b.os.trans a.os,b.tape.trans a.tape,⟨b.output.1.trans a.output.1,Tr.trans a.output.2 b.output.2⟩,Nat.le_trans a.size b.size,fun k hk=>(b.block k (Nat.lt_of_lt_of_le hk a.size)).trans (a.block k hk)⟩
theorem Same.cell{w w':World}(s:Same w w'){b o:Nat}{v:Value}(e:w.cell? ⟨b,o,none⟩=some v):w'.cell? ⟨b,o,none⟩=some v:=by
 have:=World.block_lt_of_cell? w ⟨b,o,none⟩ e;exact(World.cell?_of_block (s.block b this)).trans e
theorem Mine.same(m:Mine h ρ sto w)(s:Same w w'):Mine h ρ sto w' where
 mem:=fun b o v e=>⟨s.cell (m.mem b o v e).1,(m.mem b o v e).2⟩
 own:=fun id blk e=>(m.own id blk e).mono (fun _ _ _ x=>x) (fun _ _ x=>x) rfl (fun g t hg=>s.block g (m.lt hg))
 out:=m.out
 inj:=m.inj
 disj:=m.disj
theorem Later.same(s:Same w w'):Later h ρ sto w h ρ sto w' :=
 ⟨fun _ _ _ x=>x,fun _ _ a b=>(b a).elim,fun _ _ x=>x,s.os,s.tape,s.output,s.size,fun k hk _=>s.block k hk,fun i _ t x=>.inl ⟨i,t,x⟩⟩
def Mem.add(h:Mem)(b:Nat)(cs:List Value):Mem:=fun b' o=>if b'=b then cs[o]? else h b' o
theorem Mine.freezeNew(m:Mine h ρ sto w)(cs:List Value)(t:TypeId)(h1:∀ v∈cs,v.oneCell'=true) :
  Mine (Mem.add h w.heap.size cs) ρ sto (w.alloc (.cells cs.toArray t))/\Later h ρ sto w (Mem.add h w.heap.size cs) ρ sto (w.alloc (.cells cs.toArray t)):=by
 have hle:∀ b o v,h b o=some v->Mem.add h w.heap.size cs b o=some v:=by
  intro b o v e;have:=m.memlt e
  simp[Mem.add,Nat.ne_of_lt this,e]
 have s:=Same.alloc w (.cells cs.toArray t);refine⟨⟨?_,?_,m.out,m.inj,?_⟩,⟨hle,?_,fun _ _ x=>x,rfl,rfl,⟨rfl,Tr.same rfl⟩,s.size,fun k hk _=>s.block k hk,fun i _ t x=>.inl ⟨i,t,x⟩⟩⟩
 .intro b o v e
  by_cases hb:b=w.heap.size
  .subst hb
   simp only[Mem.add,if_true]at e;exact⟨by rw[World.cell?_alloc_new]; simpa using e,h1 v (List.mem_of_getElem? e)⟩
  .simp only [Mem.add,hb,if_false]at e
   exact⟨s.cell (m.mem b o v e).1,(m.mem b o v e).2⟩
 .exact fun id blk e=>(m.own id blk e).mono hle (fun _ _ x=>x) rfl (fun g t hg=>s.block g (m.lt hg))
 .intro i g t e o
  have:=m.lt e
  simp[Mem.add,Nat.ne_of_lt this,m.disj i g t e o]
 .intro b o e n
  by_cases hb:b=w.heap.size
  .exact .inr (by omega)
  .simp [Mem.add,hb,e]at n
theorem BgS{b:Blk}{x:Option (Nat×Nat)}{v:Value}{a:AV}(l:LfC ρ sto v a):LfC (upd ρ sto.length x) (sto++[b]) v a:=by
 have key:∀ id,id<sto.length->(sto++[b])[id]? = sto[id]? /\ upd ρ sto.length x id=ρ id:=by
  intro id hid;exact⟨List.getElem?_append_left hid,by simp[upd,Nat.ne_of_lt hid]⟩
 cases a <;> simp only[LfC]at l |-
 case sl id off len cap =>
  cases hq:sto[id]? with
  | none=>simp[hq]at l
  | some y =>
   obtain⟨e1,e2⟩:=key id (List.getElem?_eq_some_iff.1 hq).1;rw[e1,e2,hq]; rw[hq]at l; exact l
 case ptr id n i off =>
  cases hq:sto[id]? with
  | none=>simp[hq]at l
  | some y =>
   obtain⟨e1,e2⟩:=key id (List.getElem?_eq_some_iff.1 hq).1;rw[e1,e2,hq]; rw[hq]at l; exact l
 case mp id =>
  cases hq:sto[id]? with
  | none=>simp[hq]at l
  | some y =>
   obtain⟨e1,e2⟩:=key id (List.getElem?_eq_some_iff.1 hq).1;rw[e1,e2,hq]; rw[hq]at l; exact l
theorem AiB{b:Blk}{x:Option (Nat×Nat)}{v:Value}{a:AV}(l:Lf ρ sto v a):Lf (upd ρ sto.length x) (sto++[b]) v a:=⟨l.1,BgS l.2⟩
theorem Mine.push(m:Mine h ρ sto w)(o:Obj)(b:Blk)(x:Option Nat)
  (hb:OwnB h (upd ρ sto.length (x.map fun t=>(w.heap.size,t))) (sto++[b]) (w.alloc o) sto.length b) :
  Mine h (upd ρ sto.length (x.map fun t=>(w.heap.size,t))) (sto++[b]) (w.alloc o)/\Later h ρ sto w h (upd ρ sto.length (x.map fun t=>(w.heap.size,t))) (sto++[b]) (w.alloc o):=by
 have s:=Same.alloc w o;have hk:∀ v a,Lf ρ sto v a->Lf (upd ρ sto.length (x.map fun t=>(w.heap.size,t))) (sto++[b]) v a:=fun _ _=>AiB
 have hnone:∀ i,upd ρ sto.length (x.map fun t=>(w.heap.size,t)) i=if i=sto.length then x.map (fun t=>(w.heap.size,t)) else ρ i:=fun _=>rfl
 have hown:∀ i g t,upd ρ sto.length (x.map fun t=>(w.heap.size,t)) i=some (g,t)->(i=sto.length/\g=w.heap.size)\/(i≠sto.length/\ρ i=some (g,t)):=by
  intro i g t e;rw[hnone]at e
  split at e
  .rename_i hi
   cases x with
   | none=>simp at e
   | some t'=>simp at e; exact .inl ⟨hi,e.1.symm⟩
  .rename_i hi; exact .inr ⟨hi,e⟩
 refine⟨⟨fun b o v e=>⟨s.cell (m.mem b o v e).1,(m.mem b o v e).2⟩,?_,?_,?_,?_⟩,⟨fun _ _ _ x=>x,fun _ _ a b=>(b a).elim,hk,rfl,rfl,⟨rfl,Tr.same rfl⟩,s.size,fun k hk _=>s.block k hk,?_⟩⟩
 .intro id blk e
  by_cases hid:id<sto.length
  .rw [List.getElem?_append_left hid]at e
   exact(m.own id blk e).mono (fun _ _ _ x=>x) hk (by simp[upd,Nat.ne_of_lt hid]) (fun g t hg=>s.block g (m.lt hg))
  .have hlt:=(List.getElem?_eq_some_iff.1 e).1
   simp at hlt
   have hid':id=sto.length:=by omega
   subst hid'
   simp at e
   subst e;exact hb
 .intro id hid
  simp at hid
  rw[hnone,if_neg (by omega)];exact m.out id (by omega)
 .intro i j g t t' hi hj
  rcases hown i g t hi with⟨h1,h2⟩|⟨h1,h2⟩ <;> rcases hown j g t' hj with⟨h3,h4⟩|⟨h3,h4⟩
  .omega
  .have:=m.lt h4; omega
  .have:=m.lt h2; omega
  .exact m.inj i j g t t' h2 h4
 .intro i g t e o
  rcases hown i g t e with⟨h1,h2⟩|⟨h1,h2⟩
  .cases hq:h g o with
   | none=>rfl
   | some v=>have:=m.memlt hq; omega
  .exact m.disj i g t h2 o
 .intro i g t e
  rcases hown i g t e with⟨h1,h2⟩|⟨h1,h2⟩
  .exact .inr (by omega)
  .exact .inl ⟨i,t,h2⟩
theorem AbT{id:Nat}{b b':Blk}(hb:sto[id]? = some b)(hρ:∀ i,i≠id->ρ' i=ρ i)
  (ok:match b,b' with
   | .arr e l,.arr e' l'=>(e'=e/\l'.length=l.length/\ρ' id=ρ id)\/l.length<l'.length
   | .mp _,.mp _=>ρ' id=ρ id
   | .it _ _ _,.it _ _ _=>ρ' id=ρ id
   | _,.dead=>True
   | _,_=>False) {v:Value} {a:AV} (l:LfC ρ sto v a):LfC ρ' (sto.set id b') v a:=by
 have hid:=(List.getElem?_eq_some_iff.1 hb).1;have other:∀ i,i≠id->(sto.set id b')[i]? = sto[i]?:=fun i hi=>by rw[List.getElem?_set_ne (Ne.symm hi)]
 have this':(sto.set id b')[id]? = some b':=by simp[hid]
 cases a <;> simp only[LfC]at l |-
 case sl i off len cap =>
  by_cases hi:i=id
  .subst hi
   rw[this']; rw[hb]at l
   cases b <;> cases b' <;> simp only at ok l |-
   .rename_i e l0 e' l1
    rcases ok with⟨rfl,h2,h3⟩|h2
    .rw [h2,h3]; exact l
    .exact ⟨by omega,fun hh=>by omega⟩
  .rw [other i hi,hρ i hi]; exact l
 case ptr i n j off =>
  by_cases hi:i=id
  .subst hi
   rw[this']; rw[hb]at l
   cases b <;> cases b' <;> simp only at ok l |-
   .rename_i e l0 e' l1
    rcases ok with⟨rfl,h2,h3⟩|h2
    .rw [h2,h3]; exact l
    .exact ⟨by omega,fun hh=>by omega⟩
  .rw [other i hi,hρ i hi]; exact l
 case mp i =>
  by_cases hi:i=id
  .subst hi
   rw[this']; rw[hb]at l
   cases b <;> cases b' <;> simp only at ok l |-
   .rw [ok]; exact l
   .rw [ok]; exact l
  .rw [other i hi,hρ i hi]; exact l
theorem Mine.write(m:Mine h ρ sto w){id:Nat}{b b':Blk}(hb:sto[id]? = some b){g tot:Nat}(hg:ρ id=some (g,tot))
  (ok:match b,b' with
   | .arr e l,.arr e' l'=>(e'=e/\l'.length=l.length)\/l.length<l'.length
   | .mp _,.mp _=>True
   | .it _ _ _,.it _ _ _=>True
   | _,_=>False)
  (hos:w'.os=w.os) (htape:w'.tape=w.tape) (hout:w'.output=w.output/\Tr.R w w') (hsz:w'.heap.size=w.heap.size) (hblk:∀ k,k≠g->w'.heap[k]? = w.heap[k]?)
  (hn:OwnB h ρ (sto.set id b') w' id b'):Mine h ρ (sto.set id b') w'/\Later h ρ sto w h ρ (sto.set id b') w':=by
 have hid:=(List.getElem?_eq_some_iff.1 hb).1;have hk:∀ v a,Lf ρ sto v a->Lf ρ (sto.set id b') v a:=fun v a l=>⟨l.1,AbT hb (fun _ _=>rfl) (by
  cases b <;> cases b' <;> simp only at ok |-
  rcases ok with⟨h1,h2⟩|h1
  .exact .inl ⟨h1,h2,trivial⟩
  .exact .inr h1) l.2⟩
 refine⟨⟨?_,?_,?_,m.inj,m.disj⟩,⟨fun _ _ _ x=>x,fun _ _ a b=>(b a).elim,hk,hos,htape,hout,Nat.le_of_eq hsz.symm,?_,fun i _ t x=>.inl ⟨i,t,x⟩⟩⟩
 .intro b o v e
  refine⟨?_,(m.mem b o v e).2⟩;have hne:b≠g:=fun hq=>by subst hq; simp[m.disj id b tot hg o]at e
  exact(World.cell?_of_block (hblk b hne)).trans (m.mem b o v e).1
 .intro i blk e
  by_cases hi:i=id
  .subst hi
   simp[hid]at e
   subst e;exact hn
  .rw [List.getElem?_set_ne (Ne.symm hi)]at e
   refine(m.own i blk e).mono (fun _ _ _ x=>x) hk rfl (fun g' t hg'=>hblk g' fun hq=>?_);subst hq;exact hi (m.inj i id g' t tot hg' hg)
 .intro i hi
  simp at hi
  exact m.out i hi
 .intro k hk' hno
  exact hblk k fun hq=>hno id tot (by rw[hq]; exact hg)
theorem Mine.move(m:Mine h ρ sto w){id:Nat}{e e':Nat}{l l':List AV}(hb:sto[id]? = some (.arr e l))(hlen:l.length<l'.length)(tot:Nat)(s:Same w w')(hnew:w.heap.size<w'.heap.size)
  (hn:OwnB h (upd ρ id (some (w.heap.size,tot))) (sto.set id (.arr e' l')) w' id (.arr e' l')) :
  Mine h (upd ρ id (some (w.heap.size,tot))) (sto.set id (.arr e' l')) w'/\Later h ρ sto w h (upd ρ id (some (w.heap.size,tot))) (sto.set id (.arr e' l')) w':=by
 have hid:=(List.getElem?_eq_some_iff.1 hb).1;have hk:∀ v a,Lf ρ sto v a->Lf (upd ρ id (some (w.heap.size,tot))) (sto.set id (.arr e' l')) v a:=fun v a lf=>⟨lf.1,AbT hb (fun i hi=>by simp[upd,hi]) (Or.inr hlen:(e'=e/\l'.length=l.length/\_)\/_) lf.2⟩
 have hown:∀ i g t,upd ρ id (some (w.heap.size,tot)) i=some (g,t)->(i=id/\g=w.heap.size)\/(i≠id/\ρ i=some (g,t)):=by
  intro i g t e;unfold upd at e
  split at e
  .rename_i hi; simp at e; exact .inl ⟨hi,e.1.symm⟩
  .rename_i hi; exact .inr ⟨hi,e⟩
 refine⟨⟨fun b o v e=>⟨s.cell (m.mem b o v e).1,(m.mem b o v e).2⟩,?_,?_,?_,?_⟩,⟨fun _ _ _ x=>x,fun _ _ a b=>(b a).elim,hk,s.os,s.tape,s.output,s.size,fun k hk _=>s.block k hk,?_⟩⟩
 .intro i blk e
  by_cases hi:i=id
  .subst hi
   simp[hid]at e
   subst e;exact hn
  .rw [List.getElem?_set_ne (Ne.symm hi)]at e
   exact(m.own i blk e).mono (fun _ _ _ x=>x) hk (by simp[upd,hi]) (fun g' t hg'=>s.block g' (m.lt hg'))
 .intro i hi
  simp at hi
  have:i≠id:=by omega
  simp[upd,this,m.out i hi]
 .intro i j g t t' hi hj
  rcases hown i g t hi with⟨h1,h2⟩|⟨h1,h2⟩ <;> rcases hown j g t' hj with⟨h3,h4⟩|⟨h3,h4⟩
  .omega
  .have:=m.lt h4; omega
  .have:=m.lt h2; omega
  .exact m.inj i j g t t' h2 h4
 .intro i g t e o
  rcases hown i g t e with⟨h1,h2⟩|⟨h1,h2⟩
  .cases hq:h g o with
   | none=>rfl
   | some v=>have:=m.memlt hq; omega
  .exact m.disj i g t h2 o
 .intro i g t e
  rcases hown i g t e with⟨h1,h2⟩|⟨h1,h2⟩
  .exact .inr (by omega)
  .exact .inl ⟨i,t,h2⟩
end
instance trAny:Tr:=⟨fun _ _=>True,fun _ _=>trivial,fun _=>trivial,fun _=>trivial⟩
@[reducible] def trUp:Tr:=⟨fun w w'=>w.drawn<=w'.drawn,fun a b=>Nat.le_trans a b,fun e=>Nat.le_of_eq e.symm,fun w=>Nat.le_succ _⟩
