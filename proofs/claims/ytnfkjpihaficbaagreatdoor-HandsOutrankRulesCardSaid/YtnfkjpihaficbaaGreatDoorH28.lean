/- Statements whose order is open, in which listed calls may change a block and make new ones. Written by mkjc.py after AvJi. Own work of this seat. -/
import Derived.Test.YtnfkjpihaficbaaGreatDoorH27
set_option linter.unusedSimpArgs false
set_option linter.unusedVariables false
set_option linter.unusedSectionVars false
namespace Go.Av
open Go Go.RowKit
variable [Tr]
theorem Agr.rfl' {n id:Nat} {s:List Blk}:Agr n id s s:=fun _ _ _=>rfl
def ICallC (c:Cx) (n:Nat) (f:FuncId) (args:List AV) (id:Nat) (s:List Blk) (K:AV→List Blk→Prop):Prop :=
 ∃ post:AV→List Blk→Prop,(hasBody c.P f=true∧∀ h ρ w vs,Mine h ρ s w→Later c.h c.ρ c.sto c.w h ρ s w→RL h (Lf ρ s) false vs args→Calls c.P f vs.toArray w fun en w' =>
  ∃ v r s' h' ρ',en=.returned v∧post r s'∧Mine h' ρ' s' w'∧Later h ρ s w h' ρ' s' w'∧RV h' (Lf ρ' s') false v r)∧(∃ r s',post r s')∧∀ r s',post r s'→Agr n id s s'∧K r s'
def ImpC (c:Cx) (n:Nat) (id:Nat) (o:Oper) (e:Env) (s:List Blk) (K:AV→List Blk→Prop):Prop :=
 o.guard=none∧∃ f args,xop false true c.P e s o.op=.call f args∧ICallC c n f args id s K
def ChC (c:Cx) (ops:Array Oper) (im:List Nat) (n0 id:Nat) (K:Env→List Blk→Prop):List Nat→Env→List Blk→Prop
 | [],e,s=>K e s
 | i :: r,e,s=>match ops[i]? with
  | none=>False
  | some o=>bif im.contains i then ImpC c n0 id o e s (fun v s'=>ChC c ops im n0 id K r (put e o.dst v) s')
   else (reader o.op=true→blind o.op=false→opOk n0 id e o.op=true)∧∃ cv v s',Does c ops s o cv e v s'∧ChC c ops im n0 id K r (put e o.dst v) s'
def okC (ops:List Oper) (im:List Nat) (j i:Nat):Bool:=match ops[j]?,ops[i]? with
 | some oj,some oi=>oj.apart ops.toArray oi && (bif im.contains i then !im.contains j && reader oj.op else bif im.contains j then reader oi.op else together oj oi)
 | _,_=>false
section
variable {cx:Cx} {ops:Array Oper} {s:List Blk} {K:Env→List Blk→Prop} {im:List Nat} {n0 id:Nat}
theorem ImpC.agree {o:Oper} {e e':Env} {s:List Blk} {K K':AV→List Blk→Prop} (h:∀ x ∈ o.op.operands,ev e x=ev e' x) (hK:∀ r s,K r s→K' r s) (x:ImpC cx n0 id o e s K):ImpC cx n0 id o e' s K':=by
 obtain ⟨h1,f,args,h2,post,h4,h5,h6⟩:=x
 exact ⟨h1,f,args,by rw [← xop_agree h]; exact h2,post,h4,h5,fun r b hp=>⟨(h6 r b hp).1,hK _ _ (h6 r b hp).2⟩⟩
theorem ChC.congr (hK:∀ e e' s,Eqv e e'→K e s→K e' s):∀ {l:List Nat} {e e':Env} {s:List Blk},Eqv e e'→ChC cx ops im n0 id K l e s→ChC cx ops im n0 id K l e' s
 | [],e,e',s,h,x=>hK e e' s h x
 | i :: r,e,e',s,h,x=>by
  unfold ChC at x ⊢
  split at x
  ·exact x.elim
  ·rename_i o ho
   cases hi:im.contains i with
   | true =>
    rw [hi] at x
    exact ImpC.agree (fun y _=>ev_agree fun t _=>h t) (fun r' s' z=>ChC.congr hK (h.put _ _) z) x
   | false =>
    rw [hi] at x
    obtain ⟨h1,cv,v,s',h2,h3⟩:=x
    exact ⟨fun hr hb=>by rw [← opOk_agree (e:=e) (fun y _=>ev_agree fun t _=>h t)]; exact h1 hr hb,cv,v,s',h2.agree fun t _=>h t,ChC.congr hK (h.put _ _) h3⟩
theorem ChC.swap {opl:List Oper} (hops:ops=opl.toArray) (hK:∀ e e' s,Eqv e e'→K e s→K e' s) {i j:Nat} {r:List Nat} (hok:okC opl im j i=true) {e:Env} {s:List Blk} (x:ChC cx ops im n0 id K (j :: i :: r) e s) :
  ChC cx ops im n0 id K (i :: j :: r) e s:=by
 unfold okC at hok
 split at hok
 rotate_left
 ·cases hok
 rename_i oj oi hj' hi'
 have hj:ops[j]? = some oj:=by rw [hops]; simpa using hj'
 have hi:ops[i]? = some oi:=by rw [hops]; simpa using hi'
 simp only [Bool.and_eq_true] at hok
 obtain ⟨ha,hok⟩:=hok
 rw [← hops] at ha
 obtain ⟨a1,a2,a3⟩:=Oper.apart_spec ha
 have gi:∀ (e:Env) (v:AV),Agree ops oi (put e oj.dst v) e:=fun e v t ht=>by
  rw [get_put,if_neg]; intro h; exact a1 t h ht
 have gj:∀ (e:Env) (v:AV),Agree ops oj e (put e oi.dst v):=fun e v t ht=>by
  rw [get_put,if_neg]; intro h; exact a3 t h ht
 have sw:∀ (e:Env) (v u:AV),Eqv (put (put e oj.dst v) oi.dst u) (put (put e oi.dst u) oj.dst v):=fun e v u=>put_swap a2
 simp only [ChC,hi,hj] at x ⊢
 cases mi:im.contains i with
 | true =>
  rw [mi] at hok x
  simp only [cond_true,Bool.and_eq_true,Bool.not_eq_true'] at hok
  obtain ⟨mj,rj⟩:=hok
  rw [mj] at x ⊢
  simp only [cond_true,cond_false] at x ⊢
  obtain ⟨o1,cv,v,s',d1,y⟩:=x
  obtain ⟨rfl,_⟩:=does_reader rj (o1 rj) (Agr.rfl' (n:=n0) (id:=id)) d1
  obtain ⟨h1,f,args,h2,post,h4,h5,h6⟩:=y
  refine ⟨h1,f,args,by rw [← xop_agree (agree_ops (gi e v))]; exact h2,post,h4,h5,fun u b hp=>?_⟩
  obtain ⟨ag,hy⟩:=h6 u b hp
  have hs:=(does_reader rj (o1 rj) ag d1).2
  refine ⟨ag,fun _ hb=>?_,cv,v,_,hs.agree (gj e u),ChC.congr hK (sw e v u) hy⟩
  rw [← opOk_agree (e:=e) (agree_ops (gj e u))]
  exact o1 rj hb
 | false =>
  rw [mi] at hok x
  simp only [cond_false] at hok x ⊢
  cases mj:im.contains j with
  | true =>
   rw [mj] at hok x
   simp only [cond_true] at hok x ⊢
   obtain ⟨h1,f,args,h2,post,h4,⟨u0,b0,h5⟩,h6⟩:=x
   obtain ⟨ag0,o0,cv0,v0,s0,d0,z0⟩:=h6 u0 b0 h5
   have ok0:blind oi.op=false→opOk n0 id e oi.op=true:=fun hb=>by
    have:=o0 hok hb
    rw [opOk_agree (agree_ops (gi e u0))] at this
    exact this
   have d0':Does cx ops b0 oi cv0 e v0 s0:=d0.agree (gi e u0)
   have d0s:=(does_reader hok ok0 ag0.symm d0').2
   refine ⟨fun _=>ok0,cv0,v0,s,d0s,h1,f,args,?_,post,h4,⟨u0,b0,h5⟩,fun u b hp=>?_⟩
   ·rw [← xop_agree (agree_ops (gj e v0))]; exact h2
   ·obtain ⟨ag,_,cv,v,s',d,y⟩:=h6 u b hp
    have d':Does cx ops b oi cv e v s':=d.agree (gi e u)
    obtain ⟨e1,ds⟩:=does_reader hok ok0 ag.symm d'
    subst e1
    have:=does_det hok d0s ds
    subst this
    exact ⟨ag,ChC.congr hK (sw e u v0) y⟩
  | false =>
   rw [mj] at hok x
   simp only [cond_false] at hok x ⊢
   obtain ⟨o1,cv,v,s1,h1,o2,cu,u,s2,h2,h3⟩:=x
   have h2':Does cx ops s1 oi cu e u s2:=h2.agree (gi e v)
   have h1':∀ {z z'},Does cx ops z oj cv e v z'→Does cx ops z oj cv (put e oi.dst u) v z':=fun hd=>hd.agree (gj e u)
   have h3':=ChC.congr hK (sw e v u) h3
   have oi':∀ {n},reader oi.op=true→opOk n id (put e oj.dst v) oi.op=opOk n id e oi.op:=fun _=>opOk_agree (agree_ops (gi e v))
   have oj':∀ {n},opOk n id e oj.op=opOk n id (put e oi.dst u) oj.op:=opOk_agree (agree_ops (gj e u))
   simp only [Bool.or_eq_true,Bool.and_eq_true,together] at hok
   rcases hok with (⟨c1,c2⟩ | c1) | c1
   ·have e1:=h1.calm c1
    subst e1
    have e2:=h2.calm c2
    subst e2
    exact ⟨fun hr hb=>by rw [← oi' hr]; exact o2 hr hb,cu,u,_,h2',fun hr hb=>by rw [← oj']; exact o1 hr hb,cv,v,_,h1' h1,h3'⟩
   ·have e1:=h1.calm (blind_calm c1)
    subst e1
    exact ⟨fun hr hb=>by rw [← oi' hr]; exact o2 hr hb,cu,u,_,h2',fun hr hb=>(by rw [c1] at hb; cases hb),cv,v,_,h1' (h1.blind c1),h3'⟩
   ·have e2:=h2.calm (blind_calm c1)
    subst e2
    exact ⟨fun hr hb=>(by rw [c1] at hb; cases hb),cu,u,_,h2'.blind c1,fun hr hb=>by rw [← oj']; exact o1 hr hb,cv,v,_,h1' h1,h3'⟩
theorem ChC.front {opl:List Oper} (hops:ops=opl.toArray) (hK:∀ e e' s,Eqv e e'→K e s→K e' s):∀ (l:List Nat) (i:Nat) (r:List Nat) (e:Env) (s:List Blk),(∀ j ∈ l,okC opl im j i=true) →
  ChC cx ops im n0 id K (l++i :: r) e s→ChC cx ops im n0 id K (i :: (l++r)) e s
 | [],_,_,_,_,_,x=>x
 | j :: l,i,r,e,s,h,x=>by
  refine ChC.swap hops hK (h j (by simp)) ?_
  have ih:=fun e s=>ChC.front hops hK l i r e s fun k hk=>h k (by simp [hk])
  simp only [List.cons_append,ChC] at x ⊢
  split at x
  ·exact x.elim
  ·rename_i o ho
   cases hm:im.contains j with
   | true =>
    rw [hm] at x
    exact ImpC.agree (fun _ _=>rfl) (fun r' s' z=>ih _ _ z) x
   | false =>
    rw [hm] at x
    obtain ⟨h1,cv,v,s',h2,h3⟩:=x
    exact ⟨h1,cv,v,s',h2,ih _ _ h3⟩
end
section
variable {c:Cx} {k:List It} {e:Env} {s:List Blk}
theorem chC_step {ops:List Oper} {im:List Nat} {n0 id:Nat} (hdst:∀ o ∈ ops,dOk c.fn.ntmps o.dst=true) (i:Nat) (o:Oper) (r:List Nat) (e:Env) (s:List Blk) (a:Act) (w:World) (Kc:Act→World→Prop) (ho:ops[i]? = some o)
  (x:ChC c ops.toArray im n0 id (fun e s=>AWp c k e s) (i :: r) e s) (hs:Sim c e s a w) (hK:∀ e' s' a w,ChC c ops.toArray im n0 id (fun e s=>AWp c k e s) r e' s'→Sim c e' s' a w→Kc a w) :
  if Region.wanted o (yielded ops.toArray a.tmps) then o.wp c.P a w Kc (WQ c k) else Kc (a.put o.dst undef) w:=by
 have ho':ops.toArray[i]? = some o:=by simpa using ho
 have hd:=hdst o (List.mem_of_getElem? ho)
 simp only [ChC,ho'] at x
 cases hm:im.contains i with
 | false =>
  rw [hm] at x
  obtain ⟨_,cv,v,s',h2,h3⟩:=x
  exact does_wp hs hd h2 fun a w hs'=>hK _ _ a w h3 hs'
 | true =>
  rw [hm] at x
  obtain ⟨hg,f,args,hx,post,h4,_,h6⟩:=x
  rw [if_pos (by simp [Region.wanted,hg])]
  obtain ⟨hh,ρ,hmm,hl,he,hdf,hsz,hX⟩:=hs
  have hsnd:=xop_sound (P:=c.P) (wr:=false) (frz:=true) (o:=o) hmm he
  rw [hx] at hsnd
  obtain ⟨vs,hv,hr⟩:=hsnd
  unfold Oper.wp
  rw [hr h4.1]
  refine (h4.2 hh ρ w vs hmm hl hv).mono ?_
  rintro en w' ⟨u,r',b,h',ρ',rfl,hp,hm',hlt,rv⟩
  have he':EnvOk h' ρ' b e a:=fun t=>(he t).mono hlt.hle hlt.keep
  exact hK _ _ _ _ (h6 r' b hp).2 ⟨h',ρ',hm',hl.trans hlt,he'.put (by rw [hsz]; exact hd) rv,by rw [put_defers']; exact hdf,by rw [put_size]; exact hsz,c.hx.later hmm hlt hX⟩
mutual
def dxn (c:Cx) (all:List Oper) (im:List Nat) (n0 id:Nat) (k:List It):Nat→List Oper→List AV→Env→List Blk→Prop
 | _,[],_,e,s=>AWp c k e s
 | 0,_ :: _,_,_,_=>False
 | n+1,o :: r,cs,e,s=>bif im.contains (rix all (o :: r)) then
   (match o.guard,xop false true c.P e s o.op with
    | none,.call f args=>ICallC c n0 f args id s (fun v s'=>dxn c all im n0 id k n r cs (put e o.dst v) s')
    | _,_=>False)
  else dck (reader o.op && !blind o.op) n0 id e o.op∧dxnc c all im n0 id k n (dgrd c all s o r cs e o.guard)
def dxnc (c:Cx) (all:List Oper) (im:List Nat) (n0 id:Nat) (k:List It):Nat→Dn→Prop
 | n,.go r cs e s=>dxn c all im n0 id k n r cs e s
 | n,.two b r cs e r' cs' e' s=>dbrn c all im n0 id k n b r cs e r' cs' e' s
 | n,.side p r cs e s=>p∧dxn c all im n0 id k n r cs e s
 | _,.fail=>False
def dbrn (c:Cx) (all:List Oper) (im:List Nat) (n0 id:Nat) (k:List It):Nat→Bool→List Oper→List AV→Env→List Oper→List AV→Env→List Blk→Prop
 | 0,_,_,_,_,_,_,_,_=>False
 | n+1,b,r,cs,e,r',cs',e',s=>(b=true→dxn c all im n0 id k n r cs e s)∧(b=false→dxn c all im n0 id k n r' cs' e' s)
end
theorem dbrn_true {all:List Oper} {im:List Nat} {n0 id n:Nat} {r cs e r' cs' e' s}:dbrn c all im n0 id k (n+1) true r cs e r' cs' e' s=dxn c all im n0 id k n r cs e s:=by rw [dbrn]; simp
theorem dbrn_false {all:List Oper} {im:List Nat} {n0 id n:Nat} {r cs e r' cs' e' s}:dbrn c all im n0 id k (n+1) false r cs e r' cs' e' s=dxn c all im n0 id k n r' cs' e' s:=by rw [dbrn]; simp
theorem dxn_op {all:List Oper} {im:List Nat} {n0 id n:Nat} {o:Oper} {r:List Oper} {cs:List AV} (hm:im.contains (rix all (o :: r))=false) (hg:o.guard=none) (h:dxn c all im n0 id k n (o :: r) cs e s) :
  dck (reader o.op && !blind o.op) n0 id e o.op∧∃ cv v n' cs' s',DoesOp c s o cv e v s'∧dxn c all im n0 id k n' r cs' (put e o.dst v) s':=by
 cases n with
 | zero=>rw [dxn] at h; exact h.elim
 | succ n =>
  rw [dxn,hm] at h
  simp only [cond_false] at h
  refine ⟨h.1,?_⟩
  replace h:=h.2
  rw [hg] at h
  unfold dgrd at h
  unfold DoesOp
  revert h
  cases xop false true c.P e s o.op with
  | ok u=>intro h; simp only [dres,dxnc] at h; exact ⟨.any,u,n,cs,s,⟨rfl,rfl⟩,h⟩
  | side p u=>intro h; simp only [dres,dxnc] at h; exact ⟨.any,u,n,cs,s,⟨h.1,rfl,rfl⟩,h.2⟩
  | sto p u s'=>intro h; simp only [dres,dxnc] at h; exact ⟨.any,u,n,cs,s',⟨h.1.1,h.1.2,rfl,rfl⟩,h.2⟩
  | pick b x y =>
   intro h; simp only [dres,dxnc] at h
   cases n with
   | zero=>rw [dbrn] at h; exact h.elim
   | succ n =>
   rw [dbrn] at h
   refine ⟨.any,_,n,cs,s,⟨rfl,rfl⟩,?_⟩
   cases b with
   | true=>exact h.1 rfl
   | false=>exact h.2 rfl
  | call f args =>
   intro h; simp only [dres] at h
   cases cs with
   | nil=>simp only [dcall,dxnc] at h
   | cons cv cs=>simp only [dcall,dxnc] at h; exact ⟨cv,cv,n,cs,s,⟨h.1.1,h.1.2,rfl,rfl⟩,h.2⟩
  | anyb p=>intro h; simp only [dres,dxnc] at h
  | stuck=>intro h; simp only [dres,dxnc] at h
theorem dxn_step {all:List Oper} {im:List Nat} {n0 id n:Nat} {o:Oper} {r:List Oper} {cs:List AV} (hm:im.contains (rix all (o :: r))=false) (h:dxn c all im n0 id k n (o :: r) cs e s) :
  dck (reader o.op && !blind o.op) n0 id e o.op∧∃ cv v n' cs' s',Does c all.toArray s o cv e v s'∧dxn c all im n0 id k n' r cs' (put e o.dst v) s':=by
 cases hg:o.guard with
 | none =>
  obtain ⟨h0,cv,v,n',cs',s',h1,h2⟩:=dxn_op hm hg h
  exact ⟨h0,cv,v,n',cs',s',by unfold Does; rw [hg]; exact h1,h2⟩
 | some jw =>
  obtain ⟨j,want⟩:=jw
  cases n with
  | zero=>rw [dxn] at h; exact h.elim
  | succ n =>
   rw [dxn,hm] at h
   simp only [cond_false] at h
   refine ⟨h.1,?_⟩
   replace h:=h.2
   rw [hg] at h
   unfold dgrd dyld at h
   cases hy:yldD want e all[j]? with
   | none=>simp only [hy,dxnc] at h
   | some b =>
    simp only [hy] at h
    have key:(b=want→∃ n',dxn c all im n0 id k n' ({ o with guard:=none } :: r) cs e s)∧(b ≠ want→∃ n',dxn c all im n0 id k n' r cs (put e o.dst (.raw undef)) s):=by
     cases n with
     | zero=>cases want <;> simp only [cond_true,cond_false,dxnc,dbrn] at h
     | succ n =>
      cases want <;> simp only [cond_true,cond_false,dxnc,dbrn] at h <;> cases b <;>
       first
       | exact ⟨fun _=>⟨n,h.1 rfl⟩,fun hh=>(hh rfl).elim⟩
       | exact ⟨fun _=>⟨n,h.2 rfl⟩,fun hh=>(hh rfl).elim⟩
       | exact ⟨fun hh=>(by cases hh),fun _=>⟨n,h.1 rfl⟩⟩
       | exact ⟨fun hh=>(by cases hh),fun _=>⟨n,h.2 rfl⟩⟩
    have hy':yldD want e all.toArray[j]? = some b:=by simpa using hy
    by_cases hb:b=want
    ·obtain ⟨n1,h1⟩:=key.1 hb
     obtain ⟨_,cv,v,n',cs',s',h1,h2⟩:=dxn_op (o:={ o with guard:=none }) (by exact hm) rfl h1
     refine ⟨cv,v,n',cs',s',?_,h2⟩
     unfold Does
     rw [hg]
     simp only [hy']
     exact .inl ⟨hb,h1⟩
    ·obtain ⟨n1,h1⟩:=key.2 hb
     refine ⟨.any,.raw undef,n1,cs,s,?_,h1⟩
     unfold Does
     rw [hg]
     simp only [hy']
     exact .inr ⟨hb,trivial,trivial⟩
theorem chC_of_dxn {all:List Oper} {im:List Nat} {n0 id:Nat}:∀ {r:List Oper} {m n:Nat} {cs:List AV} {e:Env} {s:List Blk},(∀ (j:Nat),r[j]? = all[m+j]?)→all.length=m+r.length→dxn c all im n0 id k n r cs e s→ChC c all.toArray im n0 id (fun e s=>AWp c k e s) (List.range' m r.length) e s
 | [],m,n,cs,e,s,_,_,h=>by
  rw [dxn] at h
  exact h
 | o :: r,m,n,cs,e,s,hr,hlen,h=>by
  have h0:all.toArray[m]? = some o:=by have:=hr 0; simpa using this.symm
  have hix:rix all (o :: r)=m:=by unfold rix; omega
  have hr':∀ j,r[j]? = all[m+1+j]?:=fun j=>by have:=hr (j+1); simpa [Nat.add_assoc,Nat.add_comm 1 j] using this
  simp only [List.length_cons,List.range'_succ,ChC,h0]
  cases hm:im.contains m with
  | true =>
   simp only [cond_true]
   cases n with
   | zero=>rw [dxn] at h; exact h.elim
   | succ n =>
    rw [dxn,hix,hm] at h
    simp only [cond_true] at h
    split at h
    ·rename_i f args hg hx
     obtain ⟨post,h4,h5,h6⟩:=h
     exact ⟨hg,f,args,hx,post,h4,h5,fun u b hp=>⟨(h6 u b hp).1,chC_of_dxn hr' (by simp at hlen; omega) (h6 u b hp).2⟩⟩
    ·exact h.elim
  | false =>
   simp only [cond_false]
   obtain ⟨hd,cv,v,n',cs',s',h1,h2⟩:=dxn_step (by rw [hix]; exact hm) h
   refine ⟨fun hr hb=>?_,cv,v,s',h1,chC_of_dxn hr' (by simp at hlen; omega) h2⟩
   unfold dck at hd
   simpa [hr,hb] using hd
theorem adrawC (im:List Nat) (bid:Nat) (cs:List AV) {id:Nat} {ops:List Oper} (hm:c.P.follows .mixedOrders=true) (hok:drawOkG (okC ops im) ops=true) {N:Nat} (hN:c.fn.ntmps=N) (hdst:ops.all (fun o=>dOk N o.dst)=true) (n:Nat)
  (h:dxn c ops im s.length bid k n ops cs e s):AWp c (.code (.region id ops.toArray true) :: k) e s:=by
 intro a w hsim
 obtain ⟨n1,hn1⟩:∃ n1,n1=s.length:=⟨_,rfl⟩
 rw [← hn1] at h
 have hch:=chC_of_dxn (m:=0) (by intro j; simp) (by simp) h
 rw [← List.range_eq_range'] at hch
 refine wp_region_any hm ?_
 have hsim':Sim c e s a { w with drawn:=w.drawn+1 }:=by
  obtain ⟨hh,ρ,hmm,hl,he,hdf,hsz,hX⟩:=hsim
  have sm:Same w { w with drawn:=w.drawn+1 }:=Same.drew w
  exact ⟨hh,ρ,hmm.same sm,hl.trans (Later.same sm),he,hdf,hsz,c.hx.later hmm (Later.same sm) hX⟩
 have hd:∀ o ∈ ops,dOk c.fn.ntmps o.dst=true:=fun o ho=>by rw [hN]; exact (List.all_eq_true.1 hdst) o ho
 refine any_of_gen (okp:=okC ops im) (ChC c ops.toArray im n1 bid (fun e s=>AWp c k e s)) hok (fun e s x=>x) (fun l i r e s hj x=>ChC.front rfl AWp.K l i r e s hj x) (fun i o r e s a w Kc ho x hs hK=>chC_step hd i o r e s a w Kc ho x hs hK)
  ops.length (Array.replicate ops.length false) (List.range ops.length) e s a _ (by simp) ?_ (by simp) ?_ hch hsim'
 ·symm
  rw [List.filter_eq_self]
  intro i hi
  simp at hi
  simp [hi]
 ·intro i hi j hj
  exfalso
  by_cases h1:i < ops.length
  ·simp [h1] at hi
  ·unfold waits at hj
   have:ops[i]? = none:=by simp; omega
   simp [this] at hj
theorem icc {n:Nat} {f:FuncId} {args:List AV} {post:AV→List Blk→Prop} {K:AV→List Blk→Prop} {id:Nat} (hc:Ct c.P f args s post) (hin:∃ r s',post r s') (hk:∀ r s',post r s'→Agr n id s s'∧K r s'):ICallC c n f args id s K :=
 ⟨post,⟨hc.1,fun h ρ w vs m l rr=>hc.2 h ρ w vs m rr⟩,hin,hk⟩
theorem Agr.set' {n id:Nat} {s:List Blk} (b:Blk):Agr n id s (s.set id b):=fun i hi hne=>by
 rw [List.getD_eq_getElem?_getD,List.getD_eq_getElem?_getD,List.getElem?_set_ne (Ne.symm hne)]
theorem icc_mc {n:Nat} {f:FuncId} {es:Nat} {agg:AV} {args:List AV} {post:AV→AV→Prop} {K:AV→List Blk→Prop} (hc:Mc c.P f es agg args post) (ha:args.all nr1=true) (hg:nr1 agg=true) {id:Nat} (hid:s[id]? = some (.arr es [agg]))
  (hin:∃ r agg',post r agg'∧nr1 agg'=true) (hk:∀ r agg',post r agg'→K r (s.set id (.arr es [agg']))):ICallC c n f (.ptr id 1 0 0 :: args) id s K :=
 icc (hc.ct ha hg hid) (hin.elim fun r h=>h.elim fun a h=>⟨r,_,a,h.1,h.2,rfl⟩) fun r s' h=>by
  obtain ⟨a,h1,_,rfl⟩:=h
  exact ⟨.set' _,hk r a h1⟩
end
end Go.Av
set_option maxRecDepth 100000
namespace Go.Proofs.YtnfkjpihaficbaaGreatDoor
open Go Go.Av Go.RowKit
def NoL:List (List UInt8):=[[],[49],[50],[57],[49,50],[49,50,66],[49,50,65,66],[49,50,66,66],[49,50,90,90,90,90,90],[49,51],[48,66],[48,65,66],[48,65,65,65,65,66],[57,57,57],[57,57,57,66],[57,57,57,90,90,90,90,90],[57,57,56,90,90,90,90,90],[49,65],[48],[48,49],[49,98],[49,48,48,48]]
theorem noDX_mc (L:List Int) (k:Int) (h3:0 ≤ k) (h4:k ≤ 900000):Mc Tryz.prog 101 2 (str L k) [] (fun r s=>r=.str (oneF L k NoL)∧s=str L (k+1)):=by
 refine ct_intro Tryz.func101 rfl Tryz.ntmps101 hB101 (by simp) fun h ρ w=>goB (N:=6) Tryz.ntmps101 300 ?_
 simp only [go_sem]
 refine mcall (oneX_mc L k NoL (by decide) (by decide) h3 (by omega)) rfl rfl (id:=0) rfl (N:=6) Tryz.ntmps101 rfl ?_
 rintro _ _ ⟨rfl,rfl⟩
 refine goB (N:=6) Tryz.ntmps101 300 ?_
 simp only [go_sem]
 exact aret [2] rfl ⟨_,_,rfl,rfl,rfl,rfl,rfl⟩
def noF (L:List Int) (k:Int) (x:Sr):List UInt8 × Int :=
 if x.scenes.length=0 then (oneF L k NoL,k+1)
 else if flipF L k 12 then (oneF L (k+1) NoL,k+1+1)
 else ((x.scenes.map (·.no)).getD (nx L (k+1) x.scenes.length).toNat [],k+1+1)
theorem noF_bd (L:List Int) (k:Int) (x:Sr):k ≤ (noF L k x).2∧(noF L k x).2 ≤ k+2:=by
 unfold noF
 split
 ·exact ⟨by simp only; omega,by simp only; omega⟩
 ·split <;> exact ⟨by simp only; omega,by simp only; omega⟩
theorem noX_mc (L:List Int) (k:Int) (x:Sr) (hl:x.scenes.length ≤ 1000) (h3:0 ≤ k) (h4:k ≤ 850000):Mc Tryz.prog 47 2 (str L k) [srA x] (fun r s=>r=.str (noF L k x).1∧s=str L (noF L k x).2):=by
 unfold noF
 simp only [srA]
 by_cases h0:x.scenes.length=0
 ·rw [if_pos h0]
  have d0:((x.scenes.length:Int) == 0)=true:=by rw [h0]; rfl
  refine ct_intro Tryz.func47 rfl Tryz.ntmps47 hB47 (by simp) fun h ρ w=>goB (N:=25) Tryz.ntmps47 300 ?_
  simp only [go_sem,d0,List.length_map]
  refine mcall (noDX_mc L k h3 (by omega)) rfl rfl (id:=0) rfl (N:=25) Tryz.ntmps47 rfl ?_
  rintro _ _ ⟨rfl,rfl⟩
  refine goB (N:=25) Tryz.ntmps47 300 ?_
  simp only [go_sem]
  exact aret [4] rfl ⟨_,_,rfl,rfl,rfl,rfl,rfl⟩
 ·rw [if_neg h0]
  have d0:((x.scenes.length:Int) == 0)=false:=by rw [beq_eq_false_iff_ne]; omega
  have hfl:=flipX_mc L k 12 (by decide) (by decide) h3 (by omega)
  generalize flipF L k 12=b at *
  have hb:=nx_bd L (k+1) x.scenes.length (by omega)
  have hnx:=nextX_mc L (k+1) x.scenes.length (by omega) (by omega) (by omega) (by omega)
  generalize nx L (k+1) x.scenes.length=v at *
  obtain ⟨b1,b2⟩:=hb
  refine ct_intro Tryz.func47 rfl Tryz.ntmps47 hB47 (by simp) fun h ρ w=>goB (N:=25) Tryz.ntmps47 300 ?_
  simp only [go_sem,d0,List.length_map]
  refine mcall (hfl) rfl rfl (id:=0) rfl (N:=25) Tryz.ntmps47 rfl ?_
  rintro _ _ ⟨rfl,rfl⟩
  cases b with
  | true =>
   refine goB (N:=25) Tryz.ntmps47 300 ?_
   simp only [go_sem]
   refine mcall (noDX_mc L (k+1) (by omega) (by omega)) rfl rfl (id:=0) rfl (N:=25) Tryz.ntmps47 rfl ?_
   rintro _ _ ⟨rfl,rfl⟩
   refine goB (N:=25) Tryz.ntmps47 300 ?_
   simp only [go_sem]
   exact aret [4] rfl ⟨_,_,rfl,rfl,rfl,rfl,rfl⟩
  | false =>
   obtain ⟨i,rfl⟩:∃ i:Nat,v=i:=⟨v.toNat,by omega⟩
   have hi:i < x.scenes.length:=by omega
   have hget:=scA_get x.scenes i (by omega)
   have hno:(x.scenes.map (·.no)).getD ((i:Int)).toNat []=(x.scenes[i]'(by omega)).no:=by simp [List.getD,show i < x.scenes.length by omega]
   simp only [Bool.false_eq_true,if_false,hno]
   refine goB (N:=25) Tryz.ntmps47 300 ?_
   simp only [go_sem]
   refine adrawC [6] 0 [] mixed (by decide) (N:=25) Tryz.ntmps47 (by decide) 100 ?_
   simp only [go_sem,Go.Av.dxn,Go.Av.dxnc,↓Go.Av.dbrn_true,↓Go.Av.dbrn_false,Go.Av.dbrn,List.length_map,Array.toList_append]
   repeat refine And.intro (by first | omega | rfl | (simp; done) | (simp; omega)) ?_
   refine icc_mc hnx rfl rfl rfl ⟨_,_,⟨rfl,rfl⟩,rfl⟩ ?_
   rintro _ _ ⟨rfl,rfl⟩
   simp only [go_sem,Go.Av.dxn,Go.Av.dxnc,↓Go.Av.dbrn_true,↓Go.Av.dbrn_false,Go.Av.dbrn,hget,List.length_map]
   repeat refine And.intro (by first | omega | rfl | (simp; done) | (simp; omega)) ?_
   refine goB (N:=25) Tryz.ntmps47 300 ?_
   simp only [go_sem]
   exact aret [4] rfl ⟨_,_,rfl,rfl,rfl,rfl,rfl⟩
def ElA:List (List UInt8):=[[],[71,117,110,115],[32,97],[97,32,32,98],[97,110,110],[110,110,110,110,110,110,110,110,110,110,110,110,110,110,110,110,110,110,110,110,110,110,110,110,110,110,110,110,110,110,110,110,110,110,110,110,110,110,110,110],[110,110,110,110,110,110,110,110,110,110,110,110,110,110,110,110,110,110,110,110,110,110,110,110,110,110,110,110,110,110,110,110,110,110,110,110,110,110,110,110,110]]
def ElB:List (List UInt8):=[[103,117,110,115],[114,101,100,32,99,97,114],[49,50]]
def elF (L:List Int) (k:Int):El × Int :=
 if flipF L k 12 then (⟨rangeF L (k+1) 0 12,oneF L (k+1+1) ElA⟩,k+1+1+1)
 else if flipF L (k+1) 3 then (⟨11,oneF L (k+1+1) NameL⟩,k+1+1+1)
 else (⟨pickF L (k+1+1) [1,2,2,3,6,10],oneF L (k+1+1+1) ElB⟩,k+1+1+1+1)
theorem elF_bd (L:List Int) (k:Int):k ≤ (elF L k).2∧(elF L k).2 ≤ k+4:=by
 unfold elF
 split
 ·exact ⟨by simp only; omega,by simp only; omega⟩
 ·split <;> exact ⟨by simp only; omega,by simp only; omega⟩
theorem elF_ok (L:List Int) (k:Int):0 ≤ (elF L k).1.kind∧(elF L k).1.kind ≤ 12∧(elF L k).1.name.length ≤ 41:=by
 have h1:∀ s ∈ ElA,s.length ≤ 41:=by decide
 have h2:∀ s ∈ NameL,s.length ≤ 41:=by decide
 have h3:∀ s ∈ ElB,s.length ≤ 41:=by decide
 have h4:∀ n ∈ [(1:Int),2,2,3,6,10],0 ≤ n∧n ≤ 12:=by decide
 unfold elF
 split
 ·have:=nx_bd L (k+1) (12 - 0+1) (by decide)
  exact ⟨by simp only [rangeF]; omega,by simp only [rangeF]; omega,h1 _ (oneF_mem (by decide))⟩
 ·split
  ·exact ⟨by simp only; omega,by simp only; omega,h2 _ (oneF_mem (by decide))⟩
  ·have:=h4 _ (pickF_mem (L:=L) (k:=k+1+1) (ls:=[1,2,2,3,6,10]) (by decide))
   exact ⟨this.1,this.2,h3 _ (oneF_mem (by decide))⟩
def elA (e:El):AV:=.agg [.int .i64 e.kind,.str e.name]
set_option maxHeartbeats 2000000 in
theorem elX_mc (L:List Int) (k:Int) (h3:0 ≤ k) (h4:k ≤ 900000):Mc Tryz.prog 27 2 (str L k) [] (fun r s=>r=elA (elF L k).1∧s=str L (elF L k).2):=by
 have hf1:=flipX_mc L k 12 (by decide) (by decide) h3 (by omega)
 have hf2:=flipX_mc L (k+1) 3 (by decide) (by decide) (by omega) (by omega)
 have hra:=rangeX_mc L (k+1) 0 12 (by decide) (by decide) (by decide) (by omega) (by omega)
 have hoa:=oneX_mc L (k+1+1) ElA (by decide) (by decide) (by omega) (by omega)
 have hon:=oneX_mc L (k+1+1) NameL (by decide) (by decide) (by omega) (by omega)
 have hpi:=pickX_mc L (k+1+1) [1,2,2,3,6,10] (by decide) (by decide) (by omega) (by omega)
 have hob:=oneX_mc L (k+1+1+1) ElB (by decide) (by decide) (by omega) (by omega)
 have hr1:=repeat_pc [110] 40 (by decide) (by decide)
 have hr2:=repeat_pc [110] 41 (by decide) (by decide)
 unfold elF
 generalize flipF L k 12=b1 at *
 generalize flipF L (k+1) 3=b2 at *
 generalize rangeF L (k+1) 0 12=v1 at *
 generalize oneF L (k+1+1) ElA=v2 at *
 generalize oneF L (k+1+1) NameL=v3 at *
 generalize pickF L (k+1+1) [1,2,2,3,6,10]=v4 at *
 generalize oneF L (k+1+1+1) ElB=v5 at *
 refine ct_intro Tryz.func27 rfl Tryz.ntmps27 hB27 (by simp) fun h ρ w=>goB (N:=26) Tryz.ntmps27 300 ?_
 simp only [go_sem]
 refine mcall (hf1) rfl rfl (id:=0) rfl (N:=26) Tryz.ntmps27 rfl ?_
 rintro _ _ ⟨rfl,rfl⟩
 cases b1 with
 | true =>
  refine goB (N:=26) Tryz.ntmps27 300 ?_
  simp only [go_sem]
  refine mcall (hra) rfl rfl (id:=0) rfl (N:=26) Tryz.ntmps27 rfl ?_
  rintro _ _ ⟨rfl,rfl⟩
  refine goB (N:=26) Tryz.ntmps27 300 ?_
  simp only [go_sem]
  refine pcall1 (hr1) rfl (N:=26) Tryz.ntmps27 rfl (goB (N:=26) Tryz.ntmps27 300 ?_)
  simp only [go_sem]
  refine pcall1 (hr2) rfl (N:=26) Tryz.ntmps27 rfl (goB (N:=26) Tryz.ntmps27 300 ?_)
  simp only [go_sem]
  refine mcall (hoa) rfl rfl (id:=0) rfl (N:=26) Tryz.ntmps27 rfl ?_
  rintro _ _ ⟨rfl,rfl⟩
  refine goB (N:=26) Tryz.ntmps27 300 ?_
  simp only [go_sem]
  exact aretc [.cell 2 44] rfl [_] ⟨by simp only [go_sem,sideIs,elA],trivial⟩ ⟨_,_,rfl,rfl,rfl,rfl,rfl⟩
 | false =>
  refine goB (N:=26) Tryz.ntmps27 300 ?_
  simp only [go_sem]
  refine mcall (hf2) rfl rfl (id:=0) rfl (N:=26) Tryz.ntmps27 rfl ?_
  rintro _ _ ⟨rfl,rfl⟩
  cases b2 with
  | true =>
   refine goB (N:=26) Tryz.ntmps27 300 ?_
   simp only [go_sem]
   refine pcall1 (names_pc) rfl (N:=26) Tryz.ntmps27 rfl (goB (N:=26) Tryz.ntmps27 300 ?_)
   simp only [go_sem]
   refine mcall (hon) rfl rfl (id:=0) rfl (N:=26) Tryz.ntmps27 rfl ?_
   rintro _ _ ⟨rfl,rfl⟩
   refine goB (N:=26) Tryz.ntmps27 300 ?_
   simp only [go_sem]
   exact aretc [.cell 2 44] rfl [_] ⟨by simp only [go_sem,sideIs,elA],trivial⟩ ⟨_,_,rfl,rfl,rfl,rfl,rfl⟩
  | false =>
   refine goB (N:=26) Tryz.ntmps27 300 ?_
   simp only [go_sem]
   refine mcall (hpi) rfl rfl (id:=0) rfl (N:=26) Tryz.ntmps27 rfl ?_
   rintro _ _ ⟨rfl,rfl⟩
   refine goB (N:=26) Tryz.ntmps27 300 ?_
   simp only [go_sem]
   refine mcall (hob) rfl rfl (id:=0) rfl (N:=26) Tryz.ntmps27 rfl ?_
   rintro _ _ ⟨rfl,rfl⟩
   refine goB (N:=26) Tryz.ntmps27 300 ?_
   simp only [go_sem]
   exact aretc [.cell 2 44] rfl [_] ⟨by simp only [go_sem,sideIs,elA],trivial⟩ ⟨_,_,rfl,rfl,rfl,rfl,rfl⟩
end Go.Proofs.YtnfkjpihaficbaaGreatDoor
