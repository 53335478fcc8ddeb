/- Statements whose order is open, in which an append may pass readers of other blocks. Own work of this seat. -/
import Derived.Test.YtnfkjpihaficbaaGreatDoorH17
set_option linter.unusedSimpArgs false
set_option linter.unusedVariables false
set_option linter.unusedSectionVars false
namespace Go.Av
open Go Go.RowKit
variable [Tr]
def isApp:Op→Bool
 | .call c=>match c.callee with
  | .builtin .append=>true
  | _=>false
 | _=>false
def appOk (id:Nat) (e:Env):Op→Bool
 | .call c=>match c.args.toList with
  | x :: _=>match ev e x with
   | .sl i _ _ _=>i == id
   | _=>true
  | []=>true
 | _=>true
def cka (id:Nat) (i:Nat) (e:Env) (s:List Blk) (o:Oper):Prop :=
 (bif isApp o.op then appOk id e o.op=true else True)∧(bif reader o.op && !blind o.op then opOk s.length id e o.op=true else True)
theorem xapp_sto {P:Program} {sto s3:List Blk} {dst src w:AV} {tx td:Option TypeDesc} {p:Prop} (h:xapp P sto dst src tx td=.sto p w s3) :
  (∃ b,s3=sto++[b])∨∃ i o l c b,dst=.sl i o l c∧s3=sto.set i b:=by
 have hB:∀ {id off len cap sz bytes z L q b},xappB sto id off len cap sz bytes z L q b=.sto p w s3→∃ b',s3=sto.set id b':=by
  intro id off len cap sz bytes z L q b h
  unfold xappB at h
  split at h
  ·cases hc:(len == cap) <;> rw [hc] at h <;> simp only [cond_true,cond_false,Res.sto.injEq] at h <;> exact ⟨_,h.2.2.symm⟩
  ·cases h
 unfold xapp at h
 split at h
 ·cases h1:notInt tx <;> rw [h1] at h <;> simp only [cond_true,cond_false] at h
  ·cases h2:isI tx <;> rw [h2] at h <;> simp only [cond_true,cond_false] at h
   ·cases h
   ·unfold xappZ at h
    split at h
    ·simp only [Res.sto.injEq] at h
     exact .inl ⟨_,h.2.2.symm⟩
    ·cases h
  ·unfold xappS at h
   split at h
   ·unfold xappD at h
    split at h
    ·simp only [Res.sto.injEq] at h
     exact .inl ⟨_,h.2.2.symm⟩
    ·obtain ⟨b',hb⟩:=hB h
     exact .inr ⟨_,_,_,_,b',rfl,hb⟩
    ·cases h
   ·cases h
 ·cases h
theorem Agr.refl {n id:Nat} {s:List Blk}:Agr n id s s:=fun _ _ _=>rfl
theorem app_agr {c:Cx} {ops:Array Oper} {s s1:List Blk} {o:Oper} {cv v:AV} {e:Env} {id:Nat} (ha:isApp o.op=true) (hk:appOk id e o.op=true) (h:Does c ops s o cv e v s1):Agr s.length id s s1∧s.length ≤ s1.length:=by
 have hd:DoesOp c s o cv e v s1→Agr s.length id s s1∧s.length ≤ s1.length:=by
  intro h
  unfold DoesOp at h
  split at h <;> rename_i hq
  ·rw [h.2]; exact ⟨Agr.refl,Nat.le_refl _⟩
  ·rw [h.2.2]; exact ⟨Agr.refl,Nat.le_refl _⟩
  ·obtain ⟨_,_,_,rfl⟩:=h
   cases hop:o.op <;> rw [hop] at ha hk hq <;> try (exfalso; revert ha; simp [isApp]; done)
   rename_i cl
   simp only [isApp] at ha
   split at ha <;> try (cases ha; done)
   rename_i hcl
   simp only [xop,hcl] at hq
   unfold xapp2 at hq
   split at hq
   ·rename_i x y t u hx hy
    simp only [appOk,hx] at hk
    rcases xapp_sto hq with ⟨b,rfl⟩ | ⟨i,o',l,cc,b,hdst,rfl⟩
    ·exact ⟨Agr.push b,by simp⟩
    ·rw [hdst] at hk
     have:i=id:=by simpa using hk
     subst this
     exact ⟨Agr.set b,by simp⟩
   ·cases hq
  ·rw [h.2]; exact ⟨Agr.refl,Nat.le_refl _⟩
  ·rw [h.2.2.2]; exact ⟨Agr.refl,Nat.le_refl _⟩
  ·exact h.elim
 unfold Does at h
 split at h
 ·exact hd h
 ·split at h
  ·rcases h with ⟨_,h⟩ | ⟨_,_,rfl⟩
   ·exact hd h
   ·exact ⟨Agr.refl,Nat.le_refl _⟩
  ·exact h.elim
theorem appOk_agree {id:Nat} {e e':Env} {op:Op} (h:∀ x ∈ op.operands,ev e x=ev e' x):appOk id e op=appOk id e' op:=by
 unfold appOk
 cases op <;> try rfl
 rename_i c
 simp only
 cases hc:c.args.toList with
 | nil=>rfl
 | cons x r =>
  have hm:x ∈ (Op.call c).operands:=by
   have:x ∈ c.args:=by
    rw [← Array.mem_toList_iff,hc]; simp
   simp only [Op.operands,Go.Call.operands]
   split <;> simp [this]
  simp only [h x hm]
theorem cka_agree {id i:Nat} {e e':Env} {s s':List Blk} {o:Oper} (h:∀ x ∈ o.op.operands,ev e x=ev e' x) (hs:s.length ≤ s'.length) (hp:cka id i e s o):cka id i e' s' o:=by
 refine ⟨?_,?_⟩
 ·rw [← appOk_agree h]; exact hp.1
 ·have h2:=hp.2
  cases hb:(reader o.op && !blind o.op) with
  | false=>trivial
  | true =>
   rw [hb] at h2
   simp only [cond_true] at h2 ⊢
   rw [← opOk_agree h]
   exact opOk_mono hs h2
def ChA (c:Cx) (ops:Array Oper) (id:Nat) (K:Env→List Blk→Prop):List Nat→Env→List Blk→Prop
 | [],e,s=>K e s
 | i :: r,e,s=>match ops[i]? with
  | some o=>cka id i e s o∧∃ cv v s',Does c ops s o cv e v s'∧ChA c ops id K r (put e o.dst v) s'
  | none=>False
def okAp (ops:List Oper) (j i:Nat):Bool:=match ops[j]?,ops[i]? with
 | some oj,some oi=>oj.apart ops.toArray oi && (together oj oi || (reader oj.op && isApp oi.op))
 | _,_=>false
section
variable {cx:Cx} {ops:Array Oper} {K:Env→List Blk→Prop} {id:Nat}
theorem ChA.congr (hK:∀ e e' s,Eqv e e'→K e s→K e' s):∀ {l:List Nat} {e e':Env} {s:List Blk},Eqv e e'→ChA cx ops id K l e s→ChA cx ops id K l e' s
 | [],e,e',s,h,c=>hK e e' s h c
 | i :: r,e,e',s,h,c=>by
  unfold ChA at c ⊢
  split at c
  ·rename_i o ho
   obtain ⟨h0,cv,v,s',h1,h2⟩:=c
   exact ⟨cka_agree (fun x _=>ev_agree fun t _=>h t) (Nat.le_refl _) h0,cv,v,s',h1.agree fun t _=>h t,ChA.congr hK (h.put _ _) h2⟩
  ·exact c.elim
theorem ChA.swap {opl:List Oper} (hops:ops=opl.toArray) (hK:∀ e e' s,Eqv e e'→K e s→K e' s) {i j:Nat} {r:List Nat} (hok:okAp opl j i=true) {e:Env} {s:List Blk} (c:ChA cx ops id K (j :: i :: r) e s) :
  ChA cx ops id K (i :: j :: r) e s:=by
 unfold okAp at hok
 split at hok
 rotate_left
 ·cases hok
 rename_i oj oi hj' hi'
 have hj:ops[j]? = some oj:=by rw [hops]; simpa using hj'
 have hi:ops[i]? = some oi:=by rw [hops]; simpa using hi'
 simp only [Bool.and_eq_true,Bool.or_eq_true] at hok
 obtain ⟨ha,hok⟩:=hok
 rw [← hops] at ha
 obtain ⟨a1,a2,a3⟩:=Oper.apart_spec ha
 simp only [ChA,hj,hi] at c ⊢
 obtain ⟨pj,cv,v,s1,h1,pi,cu,u,s2,h2,h3⟩:=c
 have gi:∀ (e:Env) (v:AV),Agree ops oi (put e oj.dst v) e:=fun e v t ht=>by
  rw [get_put,if_neg]; intro h; exact a1 t h ht
 have gj:∀ (e:Env) (v:AV),Agree ops oj e (put e oi.dst v):=fun e v t ht=>by
  rw [get_put,if_neg]; intro h; exact a3 t h ht
 have h2':Does cx ops s1 oi cu e u s2:=h2.agree (gi e v)
 have h1':∀ {z z'},Does cx ops z oj cv e v z'→Does cx ops z oj cv (put e oi.dst u) v z':=fun hd=>hd.agree (gj e u)
 have h3':=ChA.congr hK (put_swap a2) h3
 have pi':∀ s',s1.length ≤ s'.length→cka id i e s' oi:=fun s' hs=>cka_agree (agree_ops (gi e v)) hs pi
 have pj':∀ s',s.length ≤ s'.length→cka id j (put e oi.dst u) s' oj:=fun s' hs=>cka_agree (agree_ops (gj e u)) hs pj
 have bj:blind oj.op=true→∀ s',cka id j (put e oi.dst u) s' oj:=fun hb s'=>⟨(pj' s (Nat.le_refl _)).1,by simp [hb]⟩
 have bi:blind oi.op=true→∀ s',cka id i e s' oi:=fun hb s'=>⟨(pi' s1 (Nat.le_refl _)).1,by simp [hb]⟩
 rcases hok with hok | hok
 ·simp only [together,Bool.or_eq_true,Bool.and_eq_true] at hok
  rcases hok with (⟨c1,c2⟩ | c1) | c1
  ·have e1:=h1.calm c1
   subst e1
   have e2:=h2.calm c2
   subst e2
   exact ⟨pi' _ (Nat.le_refl _),cu,u,_,h2',pj' _ (Nat.le_refl _),cv,v,_,h1' h1,h3'⟩
  ·have e1:=h1.calm (blind_calm c1)
   subst e1
   exact ⟨pi' _ (Nat.le_refl _),cu,u,_,h2',bj c1 _,cv,v,_,h1' (h1.blind c1),h3'⟩
  ·have e2:=h2.calm (blind_calm c1)
   subst e2
   exact ⟨bi c1 _,cu,u,_,h2'.blind c1,pj' _ (Nat.le_refl _),cv,v,_,h1' h1,h3'⟩
 ·obtain ⟨hr,hap⟩:=hok
  have e1:=h1.calm (reader_calm hr)
  subst e1
  have pis:=pi' _ (Nat.le_refl _)
  have hk:appOk id e oi.op=true:=by have:=pis.1; rw [hap] at this; exact this
  obtain ⟨hag,hle⟩:=app_agr hap hk h2'
  have ok0:blind oj.op=false→opOk s1.length id e oj.op=true:=fun hb=>by have:=pj.2; rw [hr,hb] at this; exact this
  exact ⟨pis,cu,u,_,h2',pj' _ hle,cv,v,_,h1' (does_reader hr ok0 hag h1).2,h3'⟩
theorem ChA.front {opl:List Oper} (hops:ops=opl.toArray) (hK:∀ e e' s,Eqv e e'→K e s→K e' s) {i:Nat} {r:List Nat}:∀ {l:List Nat} {e:Env} {s:List Blk},(∀ j ∈ l,okAp opl j i=true) →
  ChA cx ops id K (l++i :: r) e s→ChA cx ops id K (i :: (l++r)) e s
 | [],_,_,_,c=>c
 | j :: l,e,s,h,c=>by
  refine ChA.swap hops hK (h j (by simp)) ?_
  simp only [List.cons_append,ChA] at c ⊢
  split at c
  ·rename_i o ho
   obtain ⟨h0,cv,v,s',h1,h2⟩:=c
   exact ⟨h0,cv,v,s',h1,ChA.front hops hK (fun k hk=>h k (by simp [hk])) h2⟩
  ·exact c.elim
end
section
variable {c:Cx} {k:List It} {e:Env} {s:List Blk}
end
end Go.Av
set_option maxRecDepth 100000
namespace Go.Proofs.YtnfkjpihaficbaaGreatDoor
open Go Go.Av Go.RowKit
structure El where
 kind:Int
 name:List UInt8
deriving DecidableEq
structure Fa where
 scene:List UInt8
 el:El
 facet:List UInt8
 value:List UInt8
deriving DecidableEq
structure Lk where
 el:El
 facet:List UInt8
 value:List UInt8
deriving DecidableEq
section
variable {κ ν:Type} [DecidableEq κ]
def tval (k:κ):List (Option (κ × ν))→Option ν
 | []=>none
 | some x :: r=>if x.1=k then some x.2 else tval k r
 | none :: r=>tval k r
def tix (k:κ):List (Option (κ × ν))→Option Nat
 | []=>none
 | some x :: r=>if x.1=k then some 0 else (tix k r).map (· + 1)
 | none :: r=>(tix k r).map (· + 1)
def tput (es:List (Option (κ × ν))) (k:κ) (v:ν):List (Option (κ × ν)):=match tix k es with
 | some i=>es.set i (some (k,v))
 | none=>es++[some (k,v)]
def tdel (es:List (Option (κ × ν))) (k:κ):List (Option (κ × ν)):=match tix k es with
 | some i=>es.set i none
 | none=>es
def Tuniq (es:List (Option (κ × ν))):Prop:=es.Pairwise fun a b=>∀ x y,a=some x→b=some y→x.1 ≠ y.1
theorem tix_none {k:κ}:∀ {es:List (Option (κ × ν))},tix k es=none ↔ ∀ x,some x ∈ es→x.1 ≠ k
 | []=>by simp [tix]
 | none :: r=>by
  have ih:=tix_none (k:=k) (es:=r)
  simp only [tix,Option.map_eq_none_iff,ih,List.mem_cons]
  constructor
  ·rintro h x (e | e)
   ·cases e
   ·exact h x e
  ·exact fun h x e=>h x (.inr e)
 | some y :: r=>by
  have ih:=tix_none (k:=k) (es:=r)
  simp only [tix]
  split
  ·rename_i h
   constructor
   ·intro e; cases e
   ·intro e; exact absurd h (e y (by simp))
  ·rename_i h
   rw [Option.map_eq_none_iff,ih]
   constructor
   ·intro e x hx
    rcases List.mem_cons.1 hx with hx | hx
    ·cases hx; exact h
    ·exact e x hx
   ·exact fun e x hx=>e x (by simp [hx])
theorem tix_some {k:κ}:∀ {es:List (Option (κ × ν))} {i:Nat},tix k es=some i→∃ v,es[i]? = some (some (k,v))∧tval k es=some v
 | [],i,h=>by simp [tix] at h
 | none :: r,i,h=>by
  simp only [tix,Option.map_eq_some_iff] at h
  obtain ⟨j,h1,rfl⟩:=h
  obtain ⟨v,h2,h3⟩:=tix_some h1
  exact ⟨v,by simpa using h2,by simpa [tval] using h3⟩
 | some y :: r,i,h=>by
  simp only [tix] at h
  split at h
  ·rename_i e
   simp at h
   subst h e
   exact ⟨y.2,by simp,by simp [tval]⟩
  ·rename_i e
   obtain ⟨j,h1,rfl⟩:=Option.map_eq_some_iff.1 h
   obtain ⟨v,h2,h3⟩:=tix_some h1
   exact ⟨v,by simpa using h2,by simpa [tval,e] using h3⟩
theorem tval_none {k:κ} {es:List (Option (κ × ν))} (h:tix k es=none):tval k es=none:=by
 induction es with
 | nil=>rfl
 | cons a r ih =>
  cases a with
  | none=>simp only [tix,Option.map_eq_none_iff] at h; simpa [tval] using ih h
  | some y =>
   simp only [tix] at h
   split at h
   ·cases h
   ·rename_i e
    rw [Option.map_eq_none_iff] at h
    simpa [tval,e] using ih h
theorem tval_mem {k:κ} {v:ν}:∀ {es:List (Option (κ × ν))},Tuniq es→(tval k es=some v ↔ some (k,v) ∈ es)
 | [],_=>by simp [tval]
 | none :: r,h=>by
  have ih:=tval_mem (k:=k) (v:=v) (es:=r) (List.pairwise_cons.1 h).2
  simp [tval,ih]
 | some y :: r,h=>by
  obtain ⟨h1,h2⟩:=List.pairwise_cons.1 h
  have ih:=tval_mem (k:=k) (v:=v) (es:=r) h2
  simp only [tval]
  split
  ·rename_i e
   constructor
   ·intro hv; simp at hv; subst hv e; simp
   ·intro hm
    rcases List.mem_cons.1 hm with hm | hm
    ·simp only [Option.some.injEq] at hm ⊢; rw [← hm]
    ·exact absurd e (h1 _ hm y (k,v) rfl rfl)
  ·rename_i e
   rw [ih]
   constructor
   ·exact fun hm=>by simp [hm]
   ·intro hm
    rcases List.mem_cons.1 hm with hm | hm
    ·simp only [Option.some.injEq] at hm; rw [← hm] at e; exact absurd rfl e
    ·exact hm
theorem tval_set {k k':κ} {v:ν}:∀ {es:List (Option (κ × ν))} {i:Nat},Tuniq es→tix k es=some i→tval k' (es.set i (some (k,v)))=if k'=k then some v else tval k' es
 | [],i,_,h=>by simp [tix] at h
 | none :: r,i,hu,h=>by
  simp only [tix,Option.map_eq_some_iff] at h
  obtain ⟨j,h1,rfl⟩:=h
  simpa [tval] using tval_set (k':=k') (v:=v) (List.pairwise_cons.1 hu).2 h1
 | some y :: r,i,hu,h=>by
  simp only [tix] at h
  split at h
  ·rename_i e
   simp at h
   subst h e
   simp only [List.set_cons_zero,tval]
   by_cases hk:k'=y.1
   ·subst hk; simp
   ·rw [if_neg (Ne.symm hk),if_neg hk,if_neg (Ne.symm hk)]
  ·rename_i e
   obtain ⟨j,h1,rfl⟩:=Option.map_eq_some_iff.1 h
   have ih:=tval_set (k':=k') (v:=v) (List.pairwise_cons.1 hu).2 h1
   simp only [List.set_cons_succ,tval,ih]
   by_cases hk:y.1=k'
   ·have:k' ≠ k:=fun e2=>e (hk.trans e2)
    simp [hk,this]
   ·simp [hk]
theorem tval_app {k k':κ} {v:ν}:∀ {es:List (Option (κ × ν))},tix k es=none→tval k' (es++[some (k,v)])=if k'=k then some v else tval k' es
 | [],_=>by
  simp only [List.nil_append,tval]
  by_cases h:k'=k
  ·simp [h]
  ·simp [h,Ne.symm h]
 | none :: r,h=>by
  simp only [tix,Option.map_eq_none_iff] at h
  simpa [tval] using tval_app (k':=k') (v:=v) h
 | some y :: r,h=>by
  simp only [tix] at h
  split at h
  ·cases h
  ·rename_i e
   rw [Option.map_eq_none_iff] at h
   have ih:=tval_app (k':=k') (v:=v) h
   simp only [List.cons_append,tval,ih]
   by_cases hk:y.1=k'
   ·have:k' ≠ k:=fun e2=>e (hk.trans e2)
    simp [hk,this]
   ·simp [hk]
theorem tval_put {k k':κ} {v:ν} {es:List (Option (κ × ν))} (hu:Tuniq es):tval k' (tput es k v)=if k'=k then some v else tval k' es:=by
 unfold tput
 cases h:tix k es with
 | none=>exact tval_app h
 | some i=>exact tval_set hu h
theorem tval_clr {k k':κ}:∀ {es:List (Option (κ × ν))} {i:Nat},Tuniq es→tix k es=some i→tval k' (es.set i none)=if k'=k then none else tval k' es
 | [],i,_,h=>by simp [tix] at h
 | none :: r,i,hu,h=>by
  simp only [tix,Option.map_eq_some_iff] at h
  obtain ⟨j,h1,rfl⟩:=h
  simpa [tval] using tval_clr (k':=k') (List.pairwise_cons.1 hu).2 h1
 | some y :: r,i,hu,h=>by
  obtain ⟨hu1,hu2⟩:=List.pairwise_cons.1 hu
  simp only [tix] at h
  split at h
  ·rename_i e
   simp at h
   subst h e
   simp only [List.set_cons_zero,tval]
   by_cases hk:k'=y.1
   ·rw [if_pos hk]
    refine tval_none (tix_none.2 fun x hx=>?_)
    rw [hk]
    exact Ne.symm (hu1 _ hx y x rfl rfl)
   ·rw [if_neg hk,if_neg (Ne.symm hk)]
  ·rename_i e
   obtain ⟨j,h1,rfl⟩:=Option.map_eq_some_iff.1 h
   have ih:=tval_clr (k':=k') hu2 h1
   simp only [List.set_cons_succ,tval,ih]
   by_cases hk:y.1=k'
   ·have:k' ≠ k:=fun e2=>e (hk.trans e2)
    simp [hk,this]
   ·simp [hk]
theorem tval_del {k k':κ} {es:List (Option (κ × ν))} (hu:Tuniq es):tval k' (tdel es k)=if k'=k then none else tval k' es:=by
 unfold tdel
 cases h:tix k es with
 | none =>
  simp only
  by_cases hk:k'=k
  ·rw [if_pos hk,hk]; exact tval_none h
  ·rw [if_neg hk]
 | some i=>exact tval_clr hu h
theorem tuniq_set {k:κ} {v:Option ν} {es:List (Option (κ × ν))} {i:Nat} (hu:Tuniq es) (h:tix k es=some i):Tuniq (es.set i (v.map fun v=>(k,v))):=by
 obtain ⟨v0,h1,_⟩:=tix_some h
 obtain ⟨hil,h1⟩:=List.getElem?_eq_some_iff.1 h1
 unfold Tuniq at hu ⊢
 rw [List.pairwise_iff_getElem] at hu ⊢
 intro a b ha hb hab x y hx hy
 rw [List.length_set] at ha hb
 rw [List.getElem_set] at hx hy
 split at hx <;> split at hy
 ·omega
 ·rename_i e1 e2
  subst e1
  obtain ⟨v,_,rfl⟩:=Option.map_eq_some_iff.1 hx
  exact hu i b ha hb hab (k,v0) y h1 hy
 ·rename_i e1 e2
  subst e2
  obtain ⟨v,_,rfl⟩:=Option.map_eq_some_iff.1 hy
  exact hu a i ha hb hab x (k,v0) hx h1
 ·exact hu a b ha hb hab x y hx hy
theorem tuniq_put {k:κ} {v:ν} {es:List (Option (κ × ν))} (hu:Tuniq es):Tuniq (tput es k v):=by
 unfold tput
 cases h:tix k es with
 | none =>
  simp only
  refine List.pairwise_append.2 ⟨hu,by simp,fun a ha b hb x y hx hy=>?_⟩
  rw [List.mem_singleton.1 hb] at hy
  cases hy
  subst hx
  exact tix_none.1 h x ha
 | some i=>exact tuniq_set (v:=some v) hu h
theorem tuniq_del {k:κ} {es:List (Option (κ × ν))} (hu:Tuniq es):Tuniq (tdel es k):=by
 unfold tdel
 cases h:tix k es with
 | none=>exact hu
 | some i=>exact tuniq_set (v:=none) hu h
theorem tput_len {k:κ} {v:ν} {es:List (Option (κ × ν))}:(tput es k v).length ≤ es.length+1:=by
 unfold tput
 split <;> simp
theorem tdel_len {k:κ} {es:List (Option (κ × ν))}:(tdel es k).length=es.length:=by
 unfold tdel
 split <;> simp
end
def fkey (f:Fa):El × List UInt8:=(f.el,f.facet)
abbrev LMap:=List (Option ((El × List UInt8) × List UInt8))
def lstep (es:LMap) (f:Fa):LMap:=if f.value=[] then tdel (tput es (fkey f) f.value) (fkey f) else tput es (fkey f) f.value
def lrun (fs:List Fa):LMap:=fs.foldl lstep []
end Go.Proofs.YtnfkjpihaficbaaGreatDoor
namespace Go.Proofs.YtnfkjpihaficbaaGreatDoor
open Go Go.Av Go.RowKit
attribute [go_sem ↓] Go.Av.br_true Go.Av.br_false Go.Av.dbr_true Go.Av.dbr_false Go.Av.dbri_true Go.Av.dbri_false Go.Av.dbrg_true Go.Av.dbrg_false
attribute [go_sem] Go.Av.run Go.Av.cont Go.Av.br Go.Av.dbr Go.Av.dx Go.Av.dxc Go.Av.dgrd Go.Av.dyld Go.Av.dres Go.Av.dcall Go.Av.calm Go.Av.fieldPlace? Go.Av.allHas Go.Av.step1 Go.Av.opN Go.Av.grdN Go.Av.resN Go.Av.condN Go.Av.exitN Go.Av.stopN Go.Av.exitIt Go.Av.dOk Go.Av.xop Go.Av.xbin Go.Av.xint Go.Av.xarith Go.Av.xstr Go.Av.xbool Go.Av.xpick Go.Av.xnot Go.Av.xneg Go.Av.xextract Go.Av.xpart Go.Av.xpartOk Go.Av.xindex Go.Av.xfieldF Go.Av.fieldD Go.Av.xnew Go.Av.xbox Go.Av.xalloc Go.Av.xfieldAddr Go.Av.xptrAddIf Go.Av.xindexAddr Go.Av.xloadC Go.Av.xload Go.Av.putCells Go.Av.reElem Go.Av.xstoreB Go.Av.xstore Go.Av.xconv Go.Av.xtext Go.Av.xlen Go.Av.xlen2 Go.Av.xcall Go.Av.xfill Go.Av.xbuild Go.Av.cut Go.Av.rep Go.Av.xbuildSlice Go.Av.xbuildSliceD Go.Av.isRow Go.Av.elemD Go.Av.isU8 Go.Av.ev Go.Av.evs Go.Av.evp Go.Av.put Go.Av.get Go.Av.ofConst Go.Av.yldD Go.Av.yldV Go.Av.notBool_undef Go.Av.args0 Go.Av.cellsOf cond_true cond_false decide_true decide_false decide_eq_true_eq decide_eq_false_iff_not List.getElem?_cons_zero List.getElem?_cons_succ List.getElem?_nil List.getD_cons_zero List.getD_cons_succ List.getD_nil List.set_cons_zero List.set_cons_succ List.length_cons List.length_nil List.cons_append List.nil_append List.append_nil List.all_cons List.all_nil List.map_cons List.map_nil List.take_succ_cons List.take_zero List.drop_succ_cons List.drop_zero Bool.and_true Bool.true_and Bool.and_self Bool.and_false Bool.false_and Go.Av.one Go.Av.frozen beq_self_eq_true true_and and_true forall_const false_implies implies_true and_self Option.map_some Option.map_none Nat.zero_add Nat.add_zero Nat.zero_mul Nat.mul_one Nat.one_mul Int.toNat_zero ne_eq not_false_eq_true not_true_eq_false Bool.true_eq_false Bool.false_eq_true List.toList_toArray Go.Av.inr Go.Av.byteOf Go.Av.isByte decide_eq_decide Bool.not_true Bool.not_false Bool.not_eq_true' Bool.or_true Bool.true_or Bool.or_false Bool.false_or ge_iff_le gt_iff_lt and_assoc Bool.decide_eq_true beq_iff_eq beq_eq_false_iff_ne bne_iff_ne bne_self_eq_false if_true if_false Bool.and_eq_true Bool.or_eq_true Bool.and_eq_false_imp Bool.or_eq_false_iff Bool.not_eq_false' Go.Av.has Option.isSome_some Option.isSome_none Int.toNat_natCast Int.cast_ofNat_Int List.length_append Go.Av.xapp2 Go.Av.xapp Go.Av.xappS Go.Av.xappD Go.Av.xappB Go.Av.notInt Go.Av.srcOf Go.Av.srcB Go.Av.byteAV Go.Av.splice' Go.Av.xcut Go.Av.xcutS Go.Av.xcutF Go.Av.xcutB Go.Av.xcutN Go.Av.xcut0 Go.Av.cutL Go.Av.loOf Go.Av.hiOf Go.Av.evo Go.Av.xmake Go.Av.zelem Go.Av.xmax Go.Av.xcopy2 Go.Av.xcopyS Go.Av.xcopyB Go.Av.xnil Go.Av.xcut3 Go.Av.xcutA Go.Av.ixOf Go.Av.xclear2 Go.Av.xclearB List.getElem?_toArray Go.Av.xbin2 Go.Av.xnileq Go.Av.xmapnil Go.Av.xempty Go.Av.xmkmap Go.Av.xmput Go.Av.xmputB Go.Av.xmputF Go.Av.isKey Go.Av.keyEq Go.Av.mfind Go.Av.xbin3 Go.Av.xeqs Go.Av.xeqop Go.Av.eqFs Go.Av.eqFN Go.Av.eqF1 Go.Av.bothB Go.Av.leafEq Go.Av.xlook Go.Av.xlookB Go.Av.xlookF Go.Av.xbytes Go.Av.beq_c_n Go.Av.beq_n_c Go.Av.bne_c_n Go.Av.bne_n_c Go.Av.one_nil Go.Av.dxi Go.Av.dxic Go.Av.dbri Go.Av.rix Go.Av.dck Go.Av.reader Go.Av.blind Go.Av.opOk Go.Av.refOk Go.Op.operands Go.Call.operands List.contains_cons List.contains_nil Go.Av.dxg Go.Av.dxgc Go.Av.dbrg Go.Av.pck Go.Av.putD List.lookup_cons List.lookup_nil Go.Av.xboxF Go.Av.xbox2 Go.Av.keyEqS Go.Av.isKeyS Go.Av.mfindS Go.Av.xputS Go.Av.xmputS Go.Av.xlookS Go.Av.xmentryF Go.Av.xmentryB Go.Av.xmentry Go.Av.xestoreB Go.Av.xestore Go.Av.xrangeB Go.Av.xrange Go.Av.xentryB Go.Av.xentryI Go.Av.xentry Go.Av.frozen0 Go.Av.isI Go.Av.xappZ Go.Av.xcap Go.Av.xcap2 Go.Av.keyEqT Go.Av.isKeyT Go.Av.mfindT Go.Av.eqLs Go.Av.xmputT Go.Av.xlookT Go.Av.xdelF Go.Av.xdelB Go.Av.xdelS Go.Av.xdelT Go.Av.xdel Go.Av.xdel2 Go.Av.liveK ts2 tb2 zv2 zk2 za2 Tryz.underlying2 ts3 tb3 zv3 zk3 za3 Tryz.underlying3 ts4 tb4 zv4 zk4 za4 Tryz.underlying4 ts5 tb5 zv5 zk5 za5 Tryz.underlying5 fl7 fl8 ts9 tb9 zv9 zk9 za9 Tryz.underlying9 ts12 tb12 zv12 zk12 za12 Tryz.underlying12 fl13 fl14 fl18 fl19 ts21 tb21 zv21 zk21 za21 Tryz.underlying21 ts22 tb22 zv22 zk22 za22 Tryz.underlying22 ts24 tb24 zv24 zk24 za24 fl24 Tryz.underlying24 ts25 tb25 zv25 zk25 za25 fl25 Tryz.underlying25 ts26 tb26 zv26 zk26 za26 Tryz.underlying26 ts27 tb27 zv27 zk27 za27 fl27 Tryz.underlying27 ts28 tb28 zv28 zk28 za28 fl28 Tryz.underlying28 ts30 tb30 zv30 zk30 za30 Tryz.underlying30 ts32 tb32 zv32 zk32 za32 Tryz.underlying32 ts34 tb34 zv34 zk34 za34 Tryz.underlying34 ts35 tb35 zv35 zk35 za35 Tryz.underlying35 ts39 tb39 zv39 zk39 za39 Tryz.underlying39 ts40 tb40 zv40 zk40 za40 fl40 Tryz.underlying40 ts41 tb41 zv41 zk41 za41 fl41 Tryz.underlying41 ts43 tb43 zv43 zk43 za43 fl43 Tryz.underlying43 ts44 tb44 zv44 zk44 za44 fl44 Tryz.underlying44 ts45 tb45 zv45 zk45 za45 fl45 lf45 Tryz.underlying45 ts46 tb46 zv46 zk46 za46 fl46 lf46 Tryz.underlying46 ts48 tb48 zv48 zk48 za48 fl48 lf48 Tryz.underlying48 ts49 tb49 zv49 zk49 za49 fl49 lf49 Tryz.underlying49 ts56 tb56 zv56 zk56 za56 Tryz.underlying56 ts60 tb60 zv60 zk60 za60 fl60 lf60 Tryz.underlying60 ts61 tb61 zv61 zk61 za61 fl61 lf61 Tryz.underlying61 ts62 tb62 zv62 zk62 za62 Tryz.underlying62 ts63 tb63 zv63 zk63 za63 fl63 Tryz.underlying63 ts64 tb64 zv64 zk64 za64 fl64 Tryz.underlying64 ts65 tb65 zv65 zk65 za65 Tryz.underlying65 ts69 tb69 zv69 zk69 za69 fl69 lf69 Tryz.underlying69 ts70 tb70 zv70 zk70 za70 fl70 lf70 Tryz.underlying70 ts71 tb71 zv71 zk71 za71 Tryz.underlying71 fl83 fl84 ts89 tb89 zv89 zk89 za89 fl89 lf89 Tryz.underlying89 ts90 tb90 zv90 zk90 za90 fl90 lf90 Tryz.underlying90 fl95 fl96 ts105 tb105 zv105 zk105 za105 Tryz.underlying105 ts108 tb108 zv108 zk108 za108 Tryz.underlying108 ts112 tb112 zv112 zk112 za112 Tryz.underlying112 ts113 tb113 zv113 zk113 za113 Tryz.underlying113 ts114 tb114 zv114 zk114 za114 fl114 Tryz.underlying114 ts115 tb115 zv115 zk115 za115 fl115 Tryz.underlying115 ts116 tb116 zv116 zk116 za116 fl116 Tryz.underlying116 ts117 tb117 zv117 zk117 za117 fl117 Tryz.underlying117 ts118 tb118 zv118 zk118 za118 Tryz.underlying118 ts122 tb122 zv122 zk122 za122 Tryz.underlying122 ts126 tb126 zv126 zk126 za126 Tryz.underlying126 ts129 tb129 zv129 zk129 za129 fl129 Tryz.underlying129 ts130 tb130 zv130 zk130 za130 fl130 Tryz.underlying130 ts131 tb131 zv131 zk131 za131 Tryz.underlying131 fl140 fl141 fl159 lf159 fl160 lf160 ts176 tb176 zv176 zk176 za176 Tryz.underlying176 ts187 tb187 zv187 zk187 za187 Tryz.underlying187 ts188 tb188 zv188 zk188 za188 Tryz.underlying188 ts194 tb194 zv194 zk194 za194 Tryz.underlying194 ts195 tb195 zv195 zk195 za195 fl195 lf195 Tryz.underlying195 ts196 tb196 zv196 zk196 za196 fl196 lf196 Tryz.underlying196 ts206 tb206 zv206 zk206 za206 Tryz.underlying206 ts210 tb210 zv210 zk210 za210 Tryz.underlying210 ts211 tb211 zv211 zk211 za211 fl211 Tryz.underlying211 ts212 tb212 zv212 zk212 za212 fl212 Tryz.underlying212 fl218 fl219 ts230 tb230 zv230 zk230 za230 Tryz.underlying230 ts232 tb232 zv232 zk232 za232 fl232 Tryz.underlying232 ts233 tb233 zv233 zk233 za233 fl233 Tryz.underlying233 fl248 lf248 fl249 lf249 ts251 tb251 zv251 zk251 za251 Tryz.underlying251 ts254 tb254 zv254 zk254 za254 Tryz.underlying254 ts257 tb257 zv257 zk257 za257 Tryz.underlying257 ts274 tb274 zv274 zk274 za274 Tryz.underlying274 ts281 tb281 zv281 zk281 za281 Tryz.underlying281 ts287 tb287 zv287 zk287 za287 Tryz.underlying287 ts301 tb301 zv301 zk301 za301 Tryz.underlying301 fl305 fl306 ts314 tb314 Tryz.underlying314 ts321 tb321 zv321 zk321 za321 fl321 Tryz.underlying321 ts322 tb322 zv322 zk322 za322 fl322 Tryz.underlying322 ts329 tb329 zv329 zk329 za329 Tryz.underlying329 fl342 fl343 fl345 fl346 fl348 fl349 ts353 tb353 Tryz.underlying353 ts357 tb357 zv357 zk357 za357 fl357 Tryz.underlying357 ts358 tb358 zv358 zk358 za358 fl358 Tryz.underlying358 ts367 tb367 zv367 zk367 za367 fl367 Tryz.underlying367 ts368 tb368 zv368 zk368 za368 fl368 Tryz.underlying368 ts369 tb369 Tryz.underlying369 ts371 tb371 Tryz.underlying371 ts372 tb372 Tryz.underlying372 fl373 fl374 fl383 fl384
attribute [go_sem] Nat.reduceAdd Nat.reduceMul Nat.reduceSub Nat.reduceBEq Nat.reduceLT Nat.reduceLeDiff reduceIte reduceCtorEq Int.reduceToNat Int.reduceLE Int.reduceLT Int.reduceNe Int.reduceMul Int.reduceAdd Int.reduceSub Int.reduceDiv Int.reduceMod Int.reduceEq Int.reduceGE Int.reduceGT Int.reduceNeg Int.reduceBEq Int.reduceBNe Nat.reduceEqDiff
set_option maxRecDepth 100000
set_option linter.unusedSimpArgs false
set_option linter.unusedVariables false
theorem below_pc (x n:Int) (h1:1 ≤ n) (h2:n ≤ 9223372036854775807) :
  Pc Tryz.prog 68 [.int .i64 x,.int .i64 n] (· = .int .i64 (x % n)):=by
 refine pc_intro (ct_intro Tryz.func68 rfl Tryz.ntmps68 hB68 (by simp) fun h ρ w=>goW (N:=16) Tryz.ntmps68 200 ?_)
 have hm:x.tmod n=if 0 ≤ x∨n ∣ x then x % n else x % n - n.natAbs:=by
  rw [Int.tmod_eq_emod]; split <;> simp
 have hlt:=Int.emod_lt_of_pos x (show 0 < n by omega)
 have hge:=Int.emod_nonneg x (show n ≠ 0 by omega)
 have hna:(n.natAbs:Int)=n:=by omega
 rw [hna] at hm
 simp only [go_sem,xint]
 refine ⟨fun _=>by omega,fun _=>⟨by omega,fun h3=>?_,fun h3=>?_⟩⟩
 ·refine aret [4] rfl ⟨?_,rfl⟩
  show AV.int .i64 _=_
  rw [hm] at h3 ⊢
  split at h3
  ·omega
  ·rw [if_neg (by assumption),show x % n - n+n=x % n by omega]
   exact congrArg _ (IntWalk.i64_in _ ⟨by omega,by omega⟩)
 ·refine aret [4] rfl ⟨?_,rfl⟩
  show AV.int .i64 _=_
  rw [hm] at h3 ⊢
  split at h3
  ·rw [if_pos (by assumption)]
  ·omega
def str (L:List Int) (at':Int):AV:=.agg [.fz 1 (L.map (.int .i64)),.int .i64 at']
end Go.Proofs.YtnfkjpihaficbaaGreatDoor
namespace Go.Proofs.YtnfkjpihaficbaaGreatDoor
open Go Go.RowKit Go.Lib
open Go.Av (Fr rowOf WriteC StringC)
theorem jb:∃ j,Tryz.prog.info? 212=some j∧j.size=2:=Option.map_eq_some_iff.1 (show (Tryz.prog.info? 212).map (·.size)=some 2 by kernel_rfl)
set_option maxRecDepth 100000 in
theorem cc_used (b:Nat) (w:World) (h0:w.cell? ⟨b,0,none⟩=some (.pointer (some ⟨b,0,none⟩))) :
  Calls Tryz.prog 175 #[.pointer (some ⟨b,0,none⟩)] w fun e w'=>e=.returned (.tuple #[])∧w'=w:=by
 obtain ⟨j,hj,hjs⟩:=jb
 go_enter Tryz.func175,Tryz.ntmps175
 go_wp2
 rw [run_neq_ptr_same w _ Tryz.underlying209 hj]
 go_wp2
 go_end0
 exact ⟨rfl,rfl⟩
set_option maxRecDepth 100000 in
theorem cc_fresh (b:Nat) (w:World) (h0:w.cell? ⟨b,0,none⟩=some (.pointer none)) (hsh:w.shape? b=some (212,2)) (hfz:w.frozen? ⟨b,0,none⟩=false) :
  Calls Tryz.prog 175 #[.pointer (some ⟨b,0,none⟩)] w fun e w'=>e=.returned (.tuple #[])∧w'=w.setCell ⟨b,0,none⟩ (.pointer (some ⟨b,0,none⟩)):=by
 obtain ⟨j,hj,hjs⟩:=jb
 go_enter Tryz.func175,Tryz.ntmps175
 go_wp2
 rw [run_to_unsafe w ⟨b,0,none⟩ Tryz.underlying209 Tryz.underlying301 hj (by rw [hjs]; decide) hsh (Nat.zero_lt_succ 1)]
 simp only [Result.andThen]
 rw [Oper.upon_value]
 go_wp2
 rw [run_callFunc_extern Tryz.func234 (by kernel_rfl) (by kernel_rfl) (by kernel_rfl) (e:=Extern.AbiNoEscape.same) (by kernel_rfl)]
 rw [run_noEscape]
 simp only [Result.andThen]
 rw [Oper.upon_value]
 go_wp2
 rw [run_from_unsafe w ⟨b,0,none⟩ Tryz.underlying301 Tryz.underlying209 hj hsh (by kernel_rfl)]
 simp only [Result.andThen]
 rw [Oper.upon_value]
 go_wp2
 go_end0
 exact ⟨rfl,rfl⟩
theorem cc (B b:Nat) (bs:List Value) (w:World) (h:IsBuilder 212 5 B b bs w):Calls Tryz.prog 175 #[.pointer (some ⟨b,0,none⟩)] w fun e w'=>e=.returned (.tuple #[])∧BuilderAt 212 5 B b (.pointer (some ⟨b,0,none⟩)) bs w' ∧
  Fr w w' b none∧w'.cell? ⟨b,1,none⟩=w.cell? ⟨b,1,none⟩:=by
 rcases h with h | h
 ·refine (cc_fresh b w h.cell0 h.shape h.frozen0).mono ?_
  rintro e w' ⟨rfl,rfl⟩
  refine ⟨rfl,h.used _,⟨rfl,rfl,rfl,by simp [World.setCell],fun k _ hk _=>heap_setCell_other w _ k _ hk⟩,World.cell?_setCell_other _ _ _ _ (by simp)⟩
 ·refine (cc_used b w h.cell0).mono ?_
  rintro e w' ⟨rfl,rfl⟩
  exact ⟨rfl,h,⟨rfl,rfl,rfl,Nat.le_refl _,fun _ _ _ _=>rfl⟩,rfl⟩
end Go.Proofs.YtnfkjpihaficbaaGreatDoor
