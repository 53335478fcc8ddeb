/- Statements whose order is open, in which several listed operations make blocks and no edge binds them: one list of operations for each order of theirs. Own work of this seat. -/
import Derived.Test.YtnfkjpihaficbaaGreatDoorG38
set_option linter.unusedSimpArgs false
set_option linter.unusedVariables false
set_option linter.unusedSectionVars false
namespace Go.Av
open Go Go.RowKit
variable [Tr]
def ImpV (c:Cx) (ops:Array Oper) (n:Nat) (id:Nat) (cf:List Blk→AV × List Blk) (o:Oper) (e:Env) (s:List Blk) (K:AV→List Blk→Prop):Prop :=
 gOnB ops e o=true∧∃ v s',Agr n id s s'∧K v s' ∧
  ((∃ f args,xop false true c.P e s o.op=.call f args∧ICallC c n f args id s (fun r b=>r=v∧b=s')∧(v,s')=cf s)∨((∀ f args,xop false true c.P e s o.op ≠ .call f args)∧DoesOp c s o .any e v s'))
def ChV (c:Cx) (ops:Array Oper) (im lk:List Nat) (cv:Nat→AV) (cf:Nat→List Blk→AV × List Blk) (n0 id:Nat) (K:Env→List Blk→Prop):List Nat→Env→List Blk→Prop
 | [],e,s=>K e s
 | i :: r,e,s=>match ops[i]? with
  | none=>False
  | some o=>bif im.contains i then ImpV c ops n0 id (cf i) o e s (fun v s'=>ChV c ops im lk cv cf n0 id K r (put e o.dst v) s')
   else (reader o.op=true→blind o.op=false→lk.contains i=false→opOk n0 id e o.op=true)∧∃ v s',Does c ops s o (cv i) e v s'∧ChV c ops im lk cv cf n0 id K r (put e o.dst v) s'
def okV (ops:List Oper) (im lk:List Nat) (j i:Nat):Bool:=!(im.contains i && lk.contains j) && !(im.contains j && lk.contains i) && match ops[j]?,ops[i]? with
 | some oj,some oi=>oj.apart ops.toArray oi && (bif im.contains i then !im.contains j && (reader oj.op || blind oj.op) else bif im.contains j then (reader oi.op || blind oi.op) else together oj oi)
 | _,_=>false
theorem does_rb {c:Cx} {ops:Array Oper} {n id:Nat} {s s' s1:List Blk} {o:Oper} {cv v:AV} {e:Env} (hr:(reader o.op || blind o.op)=true) (ho:reader o.op=true→blind o.op=false→opOk n id e o.op=true) (ha:Agr n id s s') (h:Does c ops s o cv e v s1):s1=s∧Does c ops s' o cv e v s':=by
 cases hb:blind o.op with
 | true=>exact ⟨h.calm (blind_calm hb),h.blind hb⟩
 | false =>
  rw [hb,Bool.or_false] at hr
  exact does_reader hr (fun _=>ho hr hb) ha h
section
variable {cx:Cx} {ops:Array Oper} {s:List Blk} {K:Env→List Blk→Prop} {im lk:List Nat} {cv:Nat→AV} {cf:Nat→List Blk→AV × List Blk} {n0 id:Nat}
theorem ImpV.agree {o:Oper} {e e':Env} {s:List Blk} {g:List Blk→AV × List Blk} {K K':AV→List Blk→Prop} (h:Agree ops o e e') (hK:∀ r s,K r s→K' r s) (x:ImpV cx ops n0 id g o e s K):ImpV cx ops n0 id g o e' s K':=by
 obtain ⟨h1,v,s',h2,h3,h4⟩:=x
 refine ⟨by rw [← gOn_agree h]; exact h1,v,s',h2,hK _ _ h3,?_⟩
 have hx:=xop_agree (wr:=false) (frz:=true) (P:=cx.P) (s:=s) (agree_ops h)
 rcases h4 with ⟨f,args,h4,h5,h6⟩ | ⟨h4,h5⟩
 ·exact .inl ⟨f,args,by rw [← hx]; exact h4,h5,h6⟩
 ·refine .inr ⟨by rw [← hx]; exact h4,?_⟩
  unfold DoesOp at h5 ⊢
  rw [← hx]
  exact h5
theorem ChV.congr (hK:∀ e e' s,Eqv e e'→K e s→K e' s):∀ {l:List Nat} {e e':Env} {s:List Blk},Eqv e e'→ChV cx ops im lk cv cf n0 id K l e s→ChV cx ops im lk cv cf n0 id K l e' s
 | [],e,e',s,h,x=>hK e e' s h x
 | i :: r,e,e',s,h,x=>by
  unfold ChV at x ⊢
  split at x
  ·exact x.elim
  ·rename_i o ho
   cases hi:im.contains i with
   | true =>
    rw [hi] at x
    exact ImpV.agree (fun t _=>h t) (fun r' s' z=>ChV.congr hK (h.put _ _) z) x
   | false =>
    rw [hi] at x
    obtain ⟨h1,v,s',h2,h3⟩:=x
    exact ⟨fun hr hb hk=>by rw [← opOk_agree (e:=e) (fun y _=>ev_agree fun t _=>h t)]; exact h1 hr hb hk,v,s',h2.agree fun t _=>h t,ChV.congr hK (h.put _ _) h3⟩
theorem ChV.swap {opl:List Oper} (hops:ops=opl.toArray) (hK:∀ e e' s,Eqv e e'→K e s→K e' s) {i j:Nat} {r:List Nat} (hok:okV opl im lk j i=true) {e:Env} {s:List Blk} (x:ChV cx ops im lk cv cf n0 id K (j :: i :: r) e s) :
  ChV cx ops im lk cv cf n0 id K (i :: j :: r) e s:=by
 unfold okV at hok
 rw [Bool.and_eq_true] at hok
 obtain ⟨hlk,hok⟩:=hok
 simp only [Bool.and_eq_true,Bool.not_eq_true',Bool.and_eq_false_iff] at hlk
 obtain ⟨hl1,hl2⟩:=hlk
 split at hok
 rotate_left
 ·cases hok
 rename_i oj oi hj' hi'
 have hj:ops[j]? = some oj:=by rw [hops]; simpa using hj'
 have hi:ops[i]? = some oi:=by rw [hops]; simpa using hi'
 rw [Bool.and_eq_true] at hok
 obtain ⟨ha,hok⟩:=hok
 rw [← hops] at ha
 obtain ⟨a1,a2,a3⟩:=Oper.apart_spec ha
 have gi:∀ (e:Env) (v:AV),Agree ops oi (put e oj.dst v) e:=fun e v t ht=>by
  rw [get_put,if_neg]; intro h; exact a1 t h ht
 have gi':∀ (e:Env) (v:AV),Agree ops oi e (put e oj.dst v):=fun e v t ht=>(gi e v t ht).symm
 have gj:∀ (e:Env) (v:AV),Agree ops oj e (put e oi.dst v):=fun e v t ht=>by
  rw [get_put,if_neg]; intro h; exact a3 t h ht
 have sw:∀ (e:Env) (v u:AV),Eqv (put (put e oj.dst v) oi.dst u) (put (put e oi.dst u) oj.dst v):=fun e v u=>put_swap a2
 simp only [ChV,hi,hj] at x ⊢
 cases mi:im.contains i with
 | true =>
  rw [mi] at hok x
  simp only [cond_true] at hok
  rw [Bool.and_eq_true,Bool.not_eq_true'] at hok
  obtain ⟨mj,rj⟩:=hok
  rw [mj] at x ⊢
  simp only [cond_true,cond_false] at x ⊢
  obtain ⟨o1',v,s',d1,y⟩:=x
  have ljf:lk.contains j=false:=hl1.resolve_left (by rw [mi]; simp)
  have o1:reader oj.op=true→blind oj.op=false→opOk n0 id e oj.op=true:=fun hr hb=>o1' hr hb ljf
  obtain ⟨rfl,_⟩:=does_rb rj o1 (Agr.rfl' (n:=n0) (id:=id)) d1
  obtain ⟨h1,u,b,ag,hy,h4⟩:=ImpV.agree (K':=fun u b=>ChV cx ops im lk cv cf n0 id K r (put (put e oj.dst v) oi.dst u) b) (gi e v) (fun _ _ z=>z) y
  refine ⟨h1,u,b,ag,?_,h4⟩
  have hs:=(does_rb rj o1 ag d1).2
  refine ⟨fun hr hb _=>?_,v,_,hs.agree (gj e u),ChV.congr hK (sw e v u) hy⟩
  rw [← opOk_agree (e:=e) (agree_ops (gj e u))]
  exact o1 hr hb
 | false =>
  rw [mi] at hok x
  simp only [cond_false] at hok x ⊢
  cases mj:im.contains j with
  | true =>
   rw [mj] at hok x
   simp only [cond_true] at hok x ⊢
   obtain ⟨h1,u,b,ag,⟨o0,v,s0,d0,z0⟩,h4⟩:=x
   have ok0:reader oi.op=true→blind oi.op=false→opOk n0 id e oi.op=true:=fun hr hb=>by
    have:=o0 hr hb (hl2.resolve_left (by rw [mj]; simp))
    rw [opOk_agree (agree_ops (gi e u))] at this
    exact this
   have d0':Does cx ops b oi (cv i) e v s0:=d0.agree (gi e u)
   obtain ⟨rfl,d0s⟩:=does_rb hok ok0 ag.symm d0'
   refine ⟨fun hr hb _=>ok0 hr hb,v,s,d0s,ImpV.agree (gj e v) (fun _ _ z=>z) ⟨h1,u,_,ag,?_,h4⟩⟩
   exact ChV.congr hK (sw e u v) z0
  | false =>
   rw [mj] at hok x
   simp only [cond_false] at hok x ⊢
   obtain ⟨o1,v,s1,h1,o2,u,s2,h2,h3⟩:=x
   have h2':Does cx ops s1 oi (cv i) e u s2:=h2.agree (gi e v)
   have h1':∀ {z z'},Does cx ops z oj (cv j) e v z'→Does cx ops z oj (cv j) (put e oi.dst u) v z':=fun hd=>hd.agree (gj e u)
   have h3':=ChV.congr hK (sw e v u) h3
   have oi':∀ {n},reader oi.op=true→opOk n id (put e oj.dst v) oi.op=opOk n id e oi.op:=fun _=>opOk_agree (agree_ops (gi e v))
   have oj':∀ {n},opOk n id e oj.op=opOk n id (put e oi.dst u) oj.op:=opOk_agree (agree_ops (gj e u))
   simp only [Bool.or_eq_true,Bool.and_eq_true,together] at hok
   rcases hok with (⟨c1,c2⟩ | c1) | c1
   ·have e1:=h1.calm c1
    subst e1
    have e2:=h2.calm c2
    subst e2
    exact ⟨fun hr hb hk=>by rw [← oi' hr]; exact o2 hr hb hk,u,_,h2',fun hr hb hk=>by rw [← oj']; exact o1 hr hb hk,v,_,h1' h1,h3'⟩
   ·have e1:=h1.calm (blind_calm c1)
    subst e1
    exact ⟨fun hr hb hk=>by rw [← oi' hr]; exact o2 hr hb hk,u,_,h2',fun hr hb _=>(by rw [c1] at hb; cases hb),v,_,h1' (h1.blind c1),h3'⟩
   ·have e2:=h2.calm (blind_calm c1)
    subst e2
    exact ⟨fun hr hb _=>(by rw [c1] at hb; cases hb),u,_,h2'.blind c1,fun hr hb hk=>by rw [← oj']; exact o1 hr hb hk,v,_,h1' h1,h3'⟩
theorem ChV.front {opl:List Oper} (hops:ops=opl.toArray) (hK:∀ e e' s,Eqv e e'→K e s→K e' s):∀ (l:List Nat) (i:Nat) (r:List Nat) (e:Env) (s:List Blk),(∀ j ∈ l,okV opl im lk j i=true) →
  ChV cx ops im lk cv cf n0 id K (l++i :: r) e s→ChV cx ops im lk cv cf n0 id K (i :: (l++r)) e s
 | [],_,_,_,_,_,x=>x
 | j :: l,i,r,e,s,h,x=>by
  refine ChV.swap hops hK (h j (by simp)) ?_
  have ih:=fun e s=>ChV.front hops hK l i r e s fun k hk=>h k (by simp [hk])
  simp only [List.cons_append,ChV] at x ⊢
  split at x
  ·exact x.elim
  ·rename_i o ho
   cases hm:im.contains j with
   | true =>
    rw [hm] at x
    exact ImpV.agree (fun _ _=>rfl) (fun r' s' z=>ih _ _ z) x
   | false =>
    rw [hm] at x
    obtain ⟨h1,v,s',h2,h3⟩:=x
    exact ⟨h1,v,s',h2,ih _ _ h3⟩
end
section
variable {c:Cx} {k:List It} {e:Env} {s:List Blk}
theorem does_of_gOn {ops:Array Oper} {o:Oper} {v:AV} {s':List Blk} (hg:gOnB ops e o=true) (h:DoesOp c s o .any e v s'):Does c ops s o .any e v s':=by
 unfold gOnB at hg
 unfold Does
 split
 ·exact h
 ·rename_i j want hq
  rw [hq] at hg
  simp only at hg
  split
  ·rename_i b hb
   rw [hb] at hg
   exact .inl ⟨by simpa using hg,h⟩
  ·rename_i hb
   rw [hb] at hg
   cases hg
theorem chV_step {ops:List Oper} {im lk:List Nat} {cv:Nat→AV} {cf:Nat→List Blk→AV × List Blk} {n0 id:Nat} (hdst:∀ o ∈ ops,dOk c.fn.ntmps o.dst=true) (i:Nat) (o:Oper) (RR:List (List Nat)) (e:Env) (s:List Blk) (a:Act) (w:World) (Kc:Act→World→Prop) (ho:ops[i]? = some o) (hne:RR ≠ [])
  (x:∀ r ∈ RR,ChV c ops.toArray im lk cv cf n0 id (fun e s=>AWp c k e s) (i :: r) e s) (hs:Sim c e s a w) (hK:∀ e' s' a w,(∀ r ∈ RR,ChV c ops.toArray im lk cv cf n0 id (fun e s=>AWp c k e s) r e' s')→Sim c e' s' a w→Kc a w) :
  if Region.wanted o (yielded ops.toArray a.tmps) then o.wp c.P a w Kc (WQ c k) else Kc (a.put o.dst undef) w:=by
 have ho':ops.toArray[i]? = some o:=by simpa using ho
 have hd:=hdst o (List.mem_of_getElem? ho)
 obtain ⟨r0,hr0⟩:=List.exists_mem_of_ne_nil _ hne
 have x0:=x r0 hr0
 simp only [ChV,ho'] at x x0
 cases hm:im.contains i with
 | false =>
  rw [hm] at x x0
  obtain ⟨_,v,s',h2,h3⟩:=x0
  refine does_wp hs hd h2 fun a w hs'=>hK _ _ a w (fun r hr=>?_) hs'
  obtain ⟨_,v2,s2,h4,h5⟩:=x r hr
  obtain ⟨rfl,rfl⟩:=does_fun h2 h4
  exact h5
 | true =>
  rw [hm] at x x0
  simp only [cond_true] at x x0
  obtain ⟨hg,v,s',_,_,h4⟩:=x0
  have hall:∀ r ∈ RR,ChV c ops.toArray im lk cv cf n0 id (fun e s=>AWp c k e s) r (put e o.dst v) s':=fun r hr=>by
   obtain ⟨_,v2,s2,_,h5,h6⟩:=x r hr
   rcases h4 with ⟨f,args,hx,_,he⟩ | ⟨hx,hd1⟩ <;> rcases h6 with ⟨f',args',hx',_,he'⟩ | ⟨hx',hd2⟩
   ·have:=he.trans he'.symm
    simp only [Prod.mk.injEq] at this
    obtain ⟨rfl,rfl⟩:=this
    exact h5
   ·exact (hx' _ _ hx).elim
   ·exact (hx _ _ hx').elim
   ·obtain ⟨rfl,rfl⟩:=doesOp_fun hd1 hd2
    exact h5
  rcases h4 with ⟨f,args,hx,⟨post,h4,_,h6⟩,_⟩ | ⟨_,h5⟩
  ·rw [if_pos (gOn_wanted hs hg)]
   obtain ⟨hh,ρ,hmm,hl,he,hdf,hsz,hX⟩:=hs
   have hsnd:=xop_sound (P:=c.P) (wr:=false) (frz:=true) (o:=o) hmm he
   rw [hx] at hsnd
   obtain ⟨vs,hv,hr⟩:=hsnd
   unfold Oper.wp
   rw [hr h4.1]
   refine (h4.2 hh ρ w vs hmm hl hv).mono ?_
   rintro en w' ⟨u,r',b,h',ρ',rfl,hp,hm',hlt,rv⟩
   have he':EnvOk h' ρ' b e a:=fun t=>(he t).mono hlt.hle hlt.keep
   obtain ⟨rfl,rfl⟩:=(h6 r' b hp).2
   exact hK _ _ _ _ hall ⟨h',ρ',hm',hl.trans hlt,he'.put (by rw [hsz]; exact hd) rv,by rw [put_defers']; exact hdf,by rw [put_size]; exact hsz,c.hx.later hmm hlt hX⟩
  ·exact does_wp hs hd (does_of_gOn hg h5) fun a w hs'=>hK _ _ a w hall hs'
def pix (π:List Nat) (r:List Oper):Nat:=π.getD (π.length - r.length) 0
mutual
def dxv (c:Cx) (all:List Oper) (π im lk:List Nat) (cv:Nat→AV) (cf:Nat→List Blk→AV × List Blk) (n0 id:Nat) (k:List It):Nat→List Oper→Env→List Blk→Prop
 | _,[],e,s=>AWp c k e s
 | 0,_ :: _,_,_=>False
 | n+1,o :: r,e,s=>bif im.contains (pix π (o :: r)) then
   (match gOnB all.toArray e o,xop false true c.P e s o.op with
    | true,.call f args=>ICallC c n0 f args id s (fun v s'=>(v,s')=cf (pix π (o :: r)) s∧dxv c all π im lk cv cf n0 id k n r (put e o.dst v) s')
    | true,.sto p v s'=>(calm o.op=false∧p)∧Agr n0 id s s'∧dxv c all π im lk cv cf n0 id k n r (put e o.dst v) s'
    | _,_=>False)
  else dck (reader o.op && !blind o.op && !lk.contains (pix π (o :: r))) n0 id e o.op∧dxvc c all π im lk cv cf n0 id k n (dgrd c all s o r [cv (pix π (o :: r))] e o.guard)
def dxvc (c:Cx) (all:List Oper) (π im lk:List Nat) (cv:Nat→AV) (cf:Nat→List Blk→AV × List Blk) (n0 id:Nat) (k:List It):Nat→Dn→Prop
 | n,.go r _ e s=>dxv c all π im lk cv cf n0 id k n r e s
 | n,.two b r _ e r' _ e' s=>dbrv c all π im lk cv cf n0 id k n b r e r' e' s
 | n,.side p r _ e s=>p∧dxv c all π im lk cv cf n0 id k n r e s
 | _,.fail=>False
def dbrv (c:Cx) (all:List Oper) (π im lk:List Nat) (cv:Nat→AV) (cf:Nat→List Blk→AV × List Blk) (n0 id:Nat) (k:List It):Nat→Bool→List Oper→Env→List Oper→Env→List Blk→Prop
 | 0,_,_,_,_,_,_=>False
 | n+1,b,r,e,r',e',s=>(b=true→dxv c all π im lk cv cf n0 id k n r e s)∧(b=false→dxv c all π im lk cv cf n0 id k n r' e' s)
end
section
variable {all:List Oper} {π im lk:List Nat} {cv:Nat→AV} {cf:Nat→List Blk→AV × List Blk} {n0 id n:Nat}
theorem dbrv_true {r e r' e' s}:dbrv c all π im lk cv cf n0 id k (n+1) true r e r' e' s=dxv c all π im lk cv cf n0 id k n r e s:=by rw [dbrv]; simp
theorem dbrv_false {r e r' e' s}:dbrv c all π im lk cv cf n0 id k (n+1) false r e r' e' s=dxv c all π im lk cv cf n0 id k n r' e' s:=by rw [dbrv]; simp
theorem dxv_op {o:Oper} {r:List Oper} (hm:im.contains (pix π (o :: r))=false) (hg:o.guard=none) (h:dxv c all π im lk cv cf n0 id k n (o :: r) e s) :
  dck (reader o.op && !blind o.op && !lk.contains (pix π (o :: r))) n0 id e o.op∧∃ v n' s',DoesOp c s o (cv (pix π (o :: r))) e v s'∧dxv c all π im lk cv cf n0 id k n' r (put e o.dst v) s':=by
 cases n with
 | zero=>rw [dxv] at h; exact h.elim
 | succ n =>
  rw [dxv,hm] at h
  simp only [cond_false] at h
  refine ⟨h.1,?_⟩
  replace h:=h.2
  rw [hg] at h
  unfold dgrd at h
  unfold DoesOp
  revert h
  cases xop false true c.P e s o.op with
  | ok u=>intro h; simp only [dres,dxvc] at h; exact ⟨u,n,s,⟨rfl,rfl⟩,h⟩
  | side p u=>intro h; simp only [dres,dxvc] at h; exact ⟨u,n,s,⟨h.1,rfl,rfl⟩,h.2⟩
  | sto p u s'=>intro h; simp only [dres,dxvc] at h; exact ⟨u,n,s',⟨h.1.1,h.1.2,rfl,rfl⟩,h.2⟩
  | pick b x y =>
   intro h; simp only [dres,dxvc] at h
   cases n with
   | zero=>rw [dbrv] at h; exact h.elim
   | succ n =>
   rw [dbrv] at h
   refine ⟨_,n,s,⟨rfl,rfl⟩,?_⟩
   cases b with
   | true=>exact h.1 rfl
   | false=>exact h.2 rfl
  | call f args =>
   intro h; simp only [dres,dcall,dxvc] at h
   exact ⟨_,n,s,⟨h.1.1,h.1.2,rfl,rfl⟩,h.2⟩
  | anyb p=>intro h; simp only [dres,dxvc] at h
  | stuck=>intro h; simp only [dres,dxvc] at h
theorem dxv_step {o:Oper} {r:List Oper} (hm:im.contains (pix π (o :: r))=false) (h:dxv c all π im lk cv cf n0 id k n (o :: r) e s) :
  dck (reader o.op && !blind o.op && !lk.contains (pix π (o :: r))) n0 id e o.op∧∃ v n' s',Does c all.toArray s o (cv (pix π (o :: r))) e v s'∧dxv c all π im lk cv cf n0 id k n' r (put e o.dst v) s':=by
 cases hg:o.guard with
 | none =>
  obtain ⟨h0,v,n',s',h1,h2⟩:=dxv_op hm hg h
  exact ⟨h0,v,n',s',by unfold Does; rw [hg]; exact h1,h2⟩
 | some jw =>
  obtain ⟨j,want⟩:=jw
  cases n with
  | zero=>rw [dxv] at h; exact h.elim
  | succ n =>
   rw [dxv,hm] at h
   simp only [cond_false] at h
   refine ⟨h.1,?_⟩
   replace h:=h.2
   rw [hg] at h
   unfold dgrd dyld at h
   cases hy:yldD want e all[j]? with
   | none=>simp only [hy,dxvc] at h
   | some b =>
    simp only [hy] at h
    have key:(b=want→∃ n',dxv c all π im lk cv cf n0 id k n' ({ o with guard:=none } :: r) e s)∧(b ≠ want→∃ n',dxv c all π im lk cv cf n0 id k n' r (put e o.dst (.raw undef)) s):=by
     cases n with
     | zero=>cases want <;> simp only [cond_true,cond_false,dxvc,dbrv] at h
     | succ n =>
      cases want <;> simp only [cond_true,cond_false,dxvc,dbrv] at h <;> cases b <;>
       first
       | exact ⟨fun _=>⟨n,h.1 rfl⟩,fun hh=>(hh rfl).elim⟩
       | exact ⟨fun _=>⟨n,h.2 rfl⟩,fun hh=>(hh rfl).elim⟩
       | exact ⟨fun hh=>(by cases hh),fun _=>⟨n,h.1 rfl⟩⟩
       | exact ⟨fun hh=>(by cases hh),fun _=>⟨n,h.2 rfl⟩⟩
    have hy':yldD want e all.toArray[j]? = some b:=by simpa using hy
    by_cases hb:b=want
    ·obtain ⟨n1,h1⟩:=key.1 hb
     obtain ⟨_,v,n',s',h1,h2⟩:=dxv_op (o:={ o with guard:=none }) (by exact hm) rfl h1
     refine ⟨v,n',s',?_,h2⟩
     unfold Does
     rw [hg]
     simp only [hy']
     exact .inl ⟨hb,h1⟩
    ·obtain ⟨n1,h1⟩:=key.2 hb
     refine ⟨.raw undef,n1,s,?_,h1⟩
     unfold Does
     rw [hg]
     simp only [hy']
     exact .inr ⟨hb,trivial,trivial⟩
theorem chV_of_dxv:∀ {l:List Nat} {m n:Nat} {e:Env} {s:List Blk},(∀ (j:Nat),l[j]? = π[m+j]?)→π.length=m+l.length→(∀ i ∈ l,i < all.length)→dxv c all π im lk cv cf n0 id k n (l.filterMap (all[·]?)) e s→ChV c all.toArray im lk cv cf n0 id (fun e s=>AWp c k e s) l e s
 | [],m,n,e,s,_,_,_,h=>by
  rw [List.filterMap_nil,dxv] at h
  exact h
 | i :: l,m,n,e,s,hr,hlen,hlt,h=>by
  have hi:i < all.length:=hlt i (by simp)
  have h0:all[i]? = some all[i]:=by simp [hi]
  have h0':all.toArray[i]? = some all[i]:=by simp [hi]
  rw [List.filterMap_cons_some h0] at h
  have hln:(l.filterMap (all[·]?)).length=l.length:=by
   have hh:∀ l:List Nat,(∀ i ∈ l,i < all.length)→(l.filterMap (all[·]?)).length=l.length:=by
    intro l
    induction l with
    | nil=>intro _; rfl
    | cons j l ih =>
     intro hl
     have hjl:j < all.length:=hl j (by simp)
     have hj:all[j]? = some all[j]:=by simp [hjl]
     rw [List.filterMap_cons_some hj,List.length_cons,List.length_cons,ih fun k hk=>hl k (by simp [hk])]
   exact hh l fun k hk=>hlt k (by simp [hk])
  have hix:∀ o:Oper,pix π (o :: l.filterMap (all[·]?))=i:=fun o=>by
   unfold pix
   rw [List.length_cons,hln]
   have h2:=hr 0
   have h3:π.length - (l.length+1)=m:=by simp at hlen; omega
   rw [h3,List.getD_eq_getElem?_getD]
   simp only [List.getElem?_cons_zero,Nat.add_zero] at h2
   rw [← h2]
   rfl
  have hr':∀ j,l[j]? = π[m+1+j]?:=fun j=>by have:=hr (j+1); simpa [Nat.add_assoc,Nat.add_comm 1 j] using this
  have hlen':π.length=m+1+l.length:=by simp at hlen; omega
  have hlt':∀ k ∈ l,k < all.length:=fun k hk=>hlt k (by simp [hk])
  simp only [ChV,h0']
  cases hm:im.contains i with
  | true =>
   simp only [cond_true]
   cases n with
   | zero=>rw [dxv] at h; exact h.elim
   | succ n =>
    rw [dxv,hix,hm] at h
    simp only [cond_true] at h
    split at h
    ·rename_i f args hg hx
     obtain ⟨post,h4,⟨r0,b0,h5⟩,h6⟩:=h
     obtain ⟨ag,h7,h8⟩:=h6 r0 b0 h5
     refine ⟨hg,r0,b0,ag,chV_of_dxv hr' hlen' hlt' h8,.inl ⟨f,args,hx,⟨post,h4,⟨r0,b0,h5⟩,fun u b hp=>⟨(h6 u b hp).1,?_⟩⟩,h7⟩⟩
     have:=(h6 u b hp).2.1.trans h7.symm
     simpa using this
    ·rename_i p v s' hg hx
     refine ⟨hg,v,s',h.2.1,chV_of_dxv hr' hlen' hlt' h.2.2,.inr ⟨(by rw [hx]; intro _ _ hh; cases hh),?_⟩⟩
     unfold DoesOp
     rw [hx]
     exact ⟨h.1.1,h.1.2,rfl,rfl⟩
    ·exact h.elim
  | false =>
   simp only [cond_false]
   obtain ⟨hd,v,n',s',h1,h2⟩:=dxv_step (by rw [hix]; exact hm) h
   rw [hix] at hd h1
   refine ⟨fun hr hb hk=>?_,v,s',h1,chV_of_dxv hr' hlen' hlt' h2⟩
   unfold dck at hd
   rw [hr,hb,hk] at hd
   exact hd
theorem adrawV (im lk:List Nat) (bid:Nat) (LL:List (List Nat)) (cv:Nat→AV) (cf:Nat→List Blk→AV × List Blk) {id:Nat} {ops:List Oper} (hm:c.P.follows .mixedOrders=true) (hcv:covers ops (okV ops im lk) ops.length [] LL=true)
  (hwt:((List.range ops.length).all fun i=>(waits ops i).all fun j=>decide (j < ops.length))=true) (hin:(LL.all fun l=>l.all fun i=>decide (i < ops.length))=true) {N:Nat} (hN:c.fn.ntmps=N) (hdst:ops.all (fun o=>dOk N o.dst)=true) (n:Nat)
  (h:∀ π ∈ LL,dxv c ops π im lk cv cf s.length bid k n (π.filterMap (ops[·]?)) e s):AWp c (.code (.region id ops.toArray true) :: k) e s:=by
 intro a w hsim
 obtain ⟨n1,hn1⟩:∃ n1,n1=s.length:=⟨_,rfl⟩
 rw [← hn1] at h
 refine wp_region_any hm ?_
 have hsim':Sim c e s a { w with drawn:=w.drawn+1 }:=by
  obtain ⟨hh,ρ,hmm,hl,he,hdf,hsz,hX⟩:=hsim
  have sm:Same w { w with drawn:=w.drawn+1 }:=Same.drew w
  exact ⟨hh,ρ,hmm.same sm,hl.trans (Later.same sm),he,hdf,hsz,c.hx.later hmm (Later.same sm) hX⟩
 have hd:∀ o ∈ ops,dOk c.fn.ntmps o.dst=true:=fun o ho=>by rw [hN]; exact (List.all_eq_true.1 hdst) o ho
 refine any_of_cov (okp:=okV ops im lk) (ChV c ops.toArray im lk cv cf n1 bid (fun e s=>AWp c k e s)) (fun e s x=>x) (fun l i r e s hj x=>ChV.front rfl AWp.K l i r e s hj x)
  (fun i o RR e s a w Kc ho hne x hs hK=>chV_step hd i o RR e s a w Kc ho hne x hs hK) (fun i hi j hj=>?_) ops.length (Array.replicate ops.length false) [] LL e s a _ (by simp) (fun i hi=>by simp [hi]) ?_ hcv (fun l hl=>?_) hsim'
 ·have:=(List.all_eq_true.1 hwt) i (by simpa using hi)
  simpa using (List.all_eq_true.1 this) j hj
 ·rw [List.filter_eq_self.2]
  ·simp
  ·intro i hi
   simp at hi
   simp [hi]
 ·exact chV_of_dxv (π:=l) (m:=0) (by intro j; simp) (by simp) (fun i hi=>by simpa using (List.all_eq_true.1 ((List.all_eq_true.1 hin) l hl)) i hi) (h l hl)
end
end
end Go.Av
namespace Go.Av
open Go Go.RowKit
variable [Tr]
theorem lowC_succ {n:Nat} {v:AV} (h:lowC n v=true):lowC (n+1) v=true:=by
 cases v <;> simp only [lowC,decide_eq_true_eq] at h ⊢ <;> first | omega | exact h
theorem lowV_succ {n:Nat} {v:AV} (h:lowV n v=true):lowV (n+1) v=true:=by
 cases v with
 | agg r=>simp only [lowV,List.all_eq_true] at h ⊢; exact fun x hx=>lowC_succ (h x hx)
 | fn f r=>simp only [lowV,List.all_eq_true] at h ⊢; exact fun x hx=>lowC_succ (h x hx)
 | _=>simp only [lowV] at h ⊢; exact lowC_succ h
theorem lowB_succ {n:Nat} {b:Blk} (h:lowB n b=true):lowB (n+1) b=true:=by
 cases b with
 | arr e l=>simp only [lowB,List.all_eq_true] at h ⊢; exact fun x hx=>lowC_succ (h x hx)
 | mp es=>simp only [lowB,List.all_eq_true] at h ⊢; exact fun x hx=>lowV_succ (h x hx)
 | it m n' s=>simp only [lowB,decide_eq_true_eq] at h ⊢; omega
 | dead=>rfl
theorem gd_of {T:List Blk} {k:Nat} {b:Blk} (h:T[k]? = some b):T.getD k .dead=b:=by
 rw [List.getD_eq_getElem?_getD,h]; rfl
theorem gt_at {T U:List Blk} {c:Nat} {d:Blk}:(T++U).getD (T.length+c) d=U.getD c d:=by
 rw [List.getD_eq_getElem?_getD,List.getD_eq_getElem?_getD,List.getElem?_append_right (by omega),Nat.add_sub_cancel_left]
theorem gt_at0 {T U:List Blk} {d:Blk}:(T++U).getD T.length d=U.getD 0 d:=gt_at (c:=0)
theorem st_at {T U:List Blk} {c:Nat} {b:Blk}:(T++U).set (T.length+c) b=T++U.set c b:=by
 rw [List.set_append,if_neg (by omega),Nat.add_sub_cancel_left]
theorem st_at0 {T U:List Blk} {b:Blk}:(T++U).set T.length b=T++U.set 0 b:=st_at (c:=0)
theorem gt_old {T:List Blk} {k:Nat} {b:Blk} (h:T[k]? = some b) (U:List Blk):(T++U).getD k .dead=b:=by
 rw [List.getD_eq_getElem?_getD,List.getElem?_append_left (List.getElem?_eq_some_iff.1 h).1,h]; rfl
theorem lowC_mono {n m:Nat} (h:n ≤ m) {b:AV} (hb:lowC n b=true):lowC m b=true:=by
 induction h with
 | refl=>exact hb
 | step _ ih=>exact lowC_succ ih
theorem lowCs_mono {n m:Nat} (h:n ≤ m) {l:List AV} (hb:l.all (lowC n)=true):l.all (lowC m)=true:=List.all_eq_true.2 fun x hx=>lowC_mono h (List.all_eq_true.1 hb x hx)
theorem low_mono {n m:Nat} (h:n ≤ m) {b:Blk} (hb:lowB n b=true):lowB m b=true:=by
 induction h with
 | refl=>exact hb
 | step _ ih=>exact lowB_succ ih
theorem low_app {T U:List Blk} (h:T.all (lowB T.length)=true) (hU:U.all (lowB (T.length+U.length))=true):(T++U).all (lowB (T++U).length)=true:=by
 rw [List.length_append,List.all_append,hU,Bool.and_true,List.all_eq_true]
 rw [List.all_eq_true] at h
 exact fun b hb=>low_mono (by omega) (h b hb)
theorem shift_lowE {c:Cx} {e e':Env} {s:List Blk} (T U V:List Blk) (hs:s=T++(U++V)) (hc:c.sto.length ≤ T.length) (hT:T.all (lowB T.length)=true) (hU:U.all (lowB (T.length+U.length))=true) (hw:wkl (T.length+U.length) e e'):Shift c e s e' (T++U):=by
 subst hs
 rw [← List.append_assoc]
 have h:=Shift.low (c:=c) (e:=e) (e':=e') (s:=(T++U)++V) (T.length+U.length) (by omega) (by simp) (by rw [← List.length_append,List.take_left]; exact low_app hT hU) hw
 rw [← List.length_append,List.take_left] at h
 exact h
theorem shift_lowF {c:Cx} {e e':Env} {s:List Blk} (T U V:List Blk) (hs:s=T++(U++V)) (hc:c.sto.length ≤ T.length+U.length) (hT:T.all (lowB T.length)=true) (hU:U.all (lowB (T.length+U.length))=true) (hw:wkl (T.length+U.length) e e'):Shift c e s e' (T++U):=by
 subst hs
 rw [← List.append_assoc]
 have h:=Shift.low (c:=c) (e:=e) (e':=e') (s:=(T++U)++V) (T.length+U.length) hc (by simp) (by rw [← List.length_append,List.take_left]; exact low_app hT hU) hw
 rw [← List.length_append,List.take_left] at h
 exact h
end Go.Av
