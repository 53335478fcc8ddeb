/- Contracts over the empty table, over every table, with standing cells. Own work of this seat. -/
import Derived.Test.YtnfkjpihaficbaaGreatDoorH42
set_option linter.unusedSimpArgs false
set_option linter.unusedVariables false
set_option linter.unusedSectionVars false
namespace Go.Av
open Go Go.RowKit
variable [Tr]
theorem CtH.liftN {P:Program} {g:Std} {f:FuncId} {args:List AV} {post:AV→List Blk→Prop} (hc:CtH P g f args [] post) (ha:args.all nr1=true) (hmp:∀ r s',post r s'→s'.all mpOk=true)
  (s:List Blk):CtH P g f args s (fun r2 s2=>∃ r s',post r s'∧r2=shV s.length r∧s2=s++s'.map (shB s.length)):=by
 refine ⟨hc.1,fun h ρ w vs hg m r=>?_⟩
 have hm0:Mine h (fun _=>none) [] w:=⟨m.mem,fun id blk e=>by simp at e,fun _ _=>rfl,fun i j g t t' e=>by simp at e,fun i g t e=>by simp at e⟩
 refine (hc.2 h (fun _=>none) w vs (fun k o e=>⟨(hg k o e).1,fun i t x=>by cases x⟩) hm0 ((nofrzL (Lf':=Lf0) r ha).thaw (fun _ _ _ x=>x))).mono ?_
 rintro en w' ⟨v,r,s1,h',ρ1,rfl,hpost,m',lt,rv⟩
 have hgood:∀ i g t,ρ1 i=some (g,t)→w.heap.size ≤ g:=fun i g t e=>by
  rcases lt.newown i g t e with ⟨j,t',hj⟩ | h
  ·cases hj
  ·exact h
 have hblk:∀ k,k < w.heap.size→w'.heap[k]? = w.heap[k]?:=fun k hk=>lt.block k hk (fun i t e=>by cases e)
 have hnew:∀ b o,h b o=none→h' b o ≠ none→w.heap.size ≤ b:=fun b o e n=>by
  rcases lt.hnew b o e n with ⟨j,t',hj⟩ | h
  ·cases hj
  ·exact h
 obtain ⟨ρ2,hρ2⟩:∃ ρ2:Own,ρ2=fun k=>if k < s.length then ρ k else ρ1 (k - s.length):=⟨_,rfl⟩
 have hlo:∀ i,i < s.length→ρ2 i=ρ i:=fun i hi=>by rw [hρ2]; simp [hi]
 have hhi:∀ i,ρ2 (i+s.length)=ρ1 i:=fun i=>by
  rw [hρ2]
  show (if i+s.length < s.length then ρ (i+s.length) else ρ1 (i+s.length - s.length))=_
  rw [if_neg (by omega),Nat.add_sub_cancel]
 have hkeep:∀ v a,Lf ρ s v a→Lf ρ2 (s++s1.map (shB s.length)) v a:=fun v a x=>Lf_app hlo x
 have hst:∀ id,(s++s1.map (shB s.length))[id+s.length]? = (s1[id]?).map (shB s.length):=fun id=>by
  rw [List.getElem?_append_right (by omega),Nat.add_sub_cancel,List.getElem?_map]
 have hown:∀ i g t,ρ2 i=some (g,t)→(i < s.length∧ρ i=some (g,t)∧g < w.heap.size)∨(s.length ≤ i∧ρ1 (i - s.length)=some (g,t)∧w.heap.size ≤ g):=fun i g t e=>by
  by_cases hi:i < s.length
  ·rw [hlo i hi] at e
   exact .inl ⟨hi,e,m.lt e⟩
  ·have e2:ρ2 i=ρ1 (i - s.length):=by rw [← hhi]; congr 1; omega
   rw [e2] at e
   exact .inr ⟨by omega,e,hgood _ g t e⟩
 refine ⟨v,_,_,h',ρ2,rfl,⟨r,s1,hpost,rfl,rfl⟩,⟨m'.mem,?_,?_,?_,?_⟩,⟨lt.hle,fun b o e n=>.inr (hnew b o e n),hkeep,lt.os,lt.tape,lt.output,lt.size,fun k hk _=>hblk k hk,?_⟩,sh_val hst hhi rv⟩
 ·intro i blk e
  by_cases hi:i < s.length
  ·rw [List.getElem?_append_left hi] at e
   exact (m.own i blk e).mono lt.hle hkeep (hlo i hi) (fun g t hg=>hblk g (m.lt hg))
  ·obtain ⟨j,rfl⟩:∃ j,i=j+s.length:=⟨i - s.length,by omega⟩
   rw [hst] at e
   cases hb:s1[j]? with
   | none=>rw [hb] at e; cases e
   | some b =>
    rw [hb] at e
    simp only [Option.map_some,Option.some.injEq] at e
    subst e
    have o:=m'.own j b hb
    have hmb:=List.all_eq_true.1 (hmp _ _ hpost) b (List.mem_of_getElem? hb)
    cases b with
    | arr es l =>
     rcases o with ⟨h1,h2⟩ | ⟨g,tot,cur,t,h1,h2,h3,h4,h5,h6,h7,h8,h9⟩
     ·exact .inl ⟨by simp [h1],(hhi j).trans h2⟩
     ·refine .inr ⟨g,tot,cur,t,(hhi j).trans h1,h2,h3,by simpa using h4,h5,h6,?_,h8,?_⟩
      ·intro x hx
       obtain ⟨y,hy,rfl⟩:=List.mem_map.1 hx
       rw [shC_cells,List.length_map]
       exact h7 y hy
      ·rw [shC_flat,List.length_map]
       exact sh_list hst hhi h9
    | mp es =>
     obtain ⟨g,en,cl,h1,h2,h3,h4,h5⟩:=o
     refine ⟨g,en,cl,(hhi j).trans h1,h2,by rw [lvs_map]; simpa using h3,fun k x y hx hy=>?_,h5.map _⟩
     rw [lvs_map,List.getElem?_map] at hx
     obtain ⟨x',hx',rfl⟩:=Option.map_eq_some_iff.1 hx
     obtain ⟨p,q⟩:=h4 k x' y hx' hy
     exact ⟨p.thaw (fun _ _ _ x=>x),sh_cell hst hhi q⟩
    | it mid n seen=>cases hmb
    | dead=>exact (hhi j).trans o
 ·intro i hi
  simp at hi
  have e2:ρ2 i=ρ1 (i - s.length):=by rw [← hhi]; congr 1; omega
  rw [e2]
  exact m'.out _ (by omega)
 ·intro i j g t t' hi hj
  rcases hown i g t hi with ⟨a1,a2,a3⟩ | ⟨a1,a2,a3⟩ <;> rcases hown j g t' hj with ⟨b1,b2,b3⟩ | ⟨b1,b2,b3⟩
  ·exact m.inj i j g t t' a2 b2
  ·omega
  ·omega
  ·have:=m'.inj _ _ g t t' a2 b2
   omega
 ·intro i g t e o
  rcases hown i g t e with ⟨a1,a2,a3⟩ | ⟨a1,a2,a3⟩
  ·cases hq:h' g o with
   | none=>rfl
   | some z =>
    have:=hnew g o (m.disj i g t a2 o) (by rw [hq]; simp)
    omega
  ·exact m'.disj _ g t a2 o
 ·intro i g t e
  rcases hown i g t e with ⟨a1,a2,a3⟩ | ⟨a1,a2,a3⟩
  ·exact .inl ⟨i,t,a2⟩
  ·exact .inr a3
end Go.Av
set_option maxRecDepth 100000
namespace Go.Proofs.YtnfkjpihaficbaaGreatDoor
open Go Go.Av Go.RowKit
def kfN (x:Sr) (f:Fa):Nat:=(sceneIx x f.scene).toNat
end Go.Proofs.YtnfkjpihaficbaaGreatDoor
namespace Go.Av
open Go Go.RowKit
variable [Tr]
inductive Ord3 where
 | leaf
 | step (i:Nat) (t:Ord3)
 | both (a b:Ord3)
def rdy (ops:List Oper) (done:List Nat):List Nat:=(List.range ops.length).filter fun i=>!done.contains i && (waits ops i).all done.contains
def Ord3.kids:Ord3→List Nat
 | .leaf=>[]
 | .step i _=>[i]
 | .both a b=>a.kids++b.kids
def Ord3.okC (ops:List Oper):List Nat→Ord3→Bool
 | _,.leaf=>true
 | done,.step i t=>(rdy ops (i :: done) == t.kids) && t.okC ops (i :: done)
 | done,.both a b=>a.okC ops done && b.okC ops done
section
variable {c:Cx} {ops:List Oper} {k:List It}
end
end Go.Av
namespace Go.Av
open Go Go.RowKit
variable [Tr]
def frontOf (okp:Nat→Nat→Bool) (i:Nat):List Nat→Option (List Nat)
 | []=>none
 | j :: r=>bif j == i then some r else bif okp j i then (frontOf okp i r).map (j :: ·) else none
def covers (ops:List Oper) (okp:Nat→Nat→Bool):Nat→List Nat→List (List Nat)→Bool
 | 0,_,LL=>LL.contains []
 | n+1,done,LL=>match rdy ops done with
  | []=>LL.contains []
  | is=>is.all fun i=>!(LL.filterMap (frontOf okp i)).isEmpty && covers ops okp n (i :: done) (LL.filterMap (frontOf okp i))
section
variable {c:Cx} {ops:List Oper} {k:List It}
end
end Go.Av
namespace Go.Av
open Go Go.RowKit
variable [Tr]
def ImpV (c:Cx) (ops:Array Oper) (n:Nat) (id:Nat) (cf:List Blk→AV × List Blk) (o:Oper) (e:Env) (s:List Blk) (K:AV→List Blk→Prop):Prop :=
 gOnB ops e o=true∧∃ v s',Agr n id s s'∧K v s' ∧
  ((∃ f args,xop false true c.P e s o.op=.call f args∧ICallC c n f args id s (fun r b=>r=v∧b=s')∧(v,s')=cf s)∨((∀ f args,xop false true c.P e s o.op ≠ .call f args)∧DoesOp c s o .any e v s'))
def ChV (c:Cx) (ops:Array Oper) (im lk:List Nat) (cv:Nat→AV) (cf:Nat→List Blk→AV × List Blk) (n0 id:Nat) (K:Env→List Blk→Prop):List Nat→Env→List Blk→Prop
 | [],e,s=>K e s
 | i :: r,e,s=>match ops[i]? with
  | none=>False
  | some o=>bif im.contains i then ImpV c ops n0 id (cf i) o e s (fun v s'=>ChV c ops im lk cv cf n0 id K r (put e o.dst v) s')
   else (reader o.op=true→blind o.op=false→lk.contains i=false→opOk n0 id e o.op=true)∧∃ v s',Does c ops s o (cv i) e v s'∧ChV c ops im lk cv cf n0 id K r (put e o.dst v) s'
def okV (ops:List Oper) (im lk:List Nat) (j i:Nat):Bool:=!(im.contains i && lk.contains j) && !(im.contains j && lk.contains i) && match ops[j]?,ops[i]? with
 | some oj,some oi=>oj.apart ops.toArray oi && (bif im.contains i then !im.contains j && (reader oj.op || blind oj.op) else bif im.contains j then (reader oi.op || blind oi.op) else together oj oi)
 | _,_=>false
theorem does_rb {c:Cx} {ops:Array Oper} {n id:Nat} {s s' s1:List Blk} {o:Oper} {cv v:AV} {e:Env} (hr:(reader o.op || blind o.op)=true) (ho:reader o.op=true→blind o.op=false→opOk n id e o.op=true) (ha:Agr n id s s') (h:Does c ops s o cv e v s1):s1=s∧Does c ops s' o cv e v s':=by
 cases hb:blind o.op with
 | true=>exact ⟨h.calm (blind_calm hb),h.blind hb⟩
 | false =>
  rw [hb,Bool.or_false] at hr
  exact does_reader hr (fun _=>ho hr hb) ha h
section
variable {cx:Cx} {ops:Array Oper} {s:List Blk} {K:Env→List Blk→Prop} {im lk:List Nat} {cv:Nat→AV} {cf:Nat→List Blk→AV × List Blk} {n0 id:Nat}
theorem ImpV.agree {o:Oper} {e e':Env} {s:List Blk} {g:List Blk→AV × List Blk} {K K':AV→List Blk→Prop} (h:Agree ops o e e') (hK:∀ r s,K r s→K' r s) (x:ImpV cx ops n0 id g o e s K):ImpV cx ops n0 id g o e' s K':=by
 obtain ⟨h1,v,s',h2,h3,h4⟩:=x
 refine ⟨by rw [← gOn_agree h]; exact h1,v,s',h2,hK _ _ h3,?_⟩
 have hx:=xop_agree (wr:=false) (frz:=true) (P:=cx.P) (s:=s) (agree_ops h)
 rcases h4 with ⟨f,args,h4,h5,h6⟩ | ⟨h4,h5⟩
 ·exact .inl ⟨f,args,by rw [← hx]; exact h4,h5,h6⟩
 ·refine .inr ⟨by rw [← hx]; exact h4,?_⟩
  unfold DoesOp at h5 ⊢
  rw [← hx]
  exact h5
theorem ChV.congr (hK:∀ e e' s,Eqv e e'→K e s→K e' s):∀ {l:List Nat} {e e':Env} {s:List Blk},Eqv e e'→ChV cx ops im lk cv cf n0 id K l e s→ChV cx ops im lk cv cf n0 id K l e' s
 | [],e,e',s,h,x=>hK e e' s h x
 | i :: r,e,e',s,h,x=>by
  unfold ChV at x ⊢
  split at x
  ·exact x.elim
  ·rename_i o ho
   cases hi:im.contains i with
   | true =>
    rw [hi] at x
    exact ImpV.agree (fun t _=>h t) (fun r' s' z=>ChV.congr hK (h.put _ _) z) x
   | false =>
    rw [hi] at x
    obtain ⟨h1,v,s',h2,h3⟩:=x
    exact ⟨fun hr hb hk=>by rw [← opOk_agree (e:=e) (fun y _=>ev_agree fun t _=>h t)]; exact h1 hr hb hk,v,s',h2.agree fun t _=>h t,ChV.congr hK (h.put _ _) h3⟩
theorem ChV.swap {opl:List Oper} (hops:ops=opl.toArray) (hK:∀ e e' s,Eqv e e'→K e s→K e' s) {i j:Nat} {r:List Nat} (hok:okV opl im lk j i=true) {e:Env} {s:List Blk} (x:ChV cx ops im lk cv cf n0 id K (j :: i :: r) e s) :
  ChV cx ops im lk cv cf n0 id K (i :: j :: r) e s:=by
 unfold okV at hok
 rw [Bool.and_eq_true] at hok
 obtain ⟨hlk,hok⟩:=hok
 simp only [Bool.and_eq_true,Bool.not_eq_true',Bool.and_eq_false_iff] at hlk
 obtain ⟨hl1,hl2⟩:=hlk
 split at hok
 rotate_left
 ·cases hok
 rename_i oj oi hj' hi'
 have hj:ops[j]? = some oj:=by rw [hops]; simpa using hj'
 have hi:ops[i]? = some oi:=by rw [hops]; simpa using hi'
 rw [Bool.and_eq_true] at hok
 obtain ⟨ha,hok⟩:=hok
 rw [← hops] at ha
 obtain ⟨a1,a2,a3⟩:=Oper.apart_spec ha
 have gi:∀ (e:Env) (v:AV),Agree ops oi (put e oj.dst v) e:=fun e v t ht=>by
  rw [get_put,if_neg]; intro h; exact a1 t h ht
 have gi':∀ (e:Env) (v:AV),Agree ops oi e (put e oj.dst v):=fun e v t ht=>(gi e v t ht).symm
 have gj:∀ (e:Env) (v:AV),Agree ops oj e (put e oi.dst v):=fun e v t ht=>by
  rw [get_put,if_neg]; intro h; exact a3 t h ht
 have sw:∀ (e:Env) (v u:AV),Eqv (put (put e oj.dst v) oi.dst u) (put (put e oi.dst u) oj.dst v):=fun e v u=>put_swap a2
 simp only [ChV,hi,hj] at x ⊢
 cases mi:im.contains i with
 | true =>
  rw [mi] at hok x
  simp only [cond_true] at hok
  rw [Bool.and_eq_true,Bool.not_eq_true'] at hok
  obtain ⟨mj,rj⟩:=hok
  rw [mj] at x ⊢
  simp only [cond_true,cond_false] at x ⊢
  obtain ⟨o1',v,s',d1,y⟩:=x
  have ljf:lk.contains j=false:=hl1.resolve_left (by rw [mi]; simp)
  have o1:reader oj.op=true→blind oj.op=false→opOk n0 id e oj.op=true:=fun hr hb=>o1' hr hb ljf
  obtain ⟨rfl,_⟩:=does_rb rj o1 (Agr.rfl' (n:=n0) (id:=id)) d1
  obtain ⟨h1,u,b,ag,hy,h4⟩:=ImpV.agree (K':=fun u b=>ChV cx ops im lk cv cf n0 id K r (put (put e oj.dst v) oi.dst u) b) (gi e v) (fun _ _ z=>z) y
  refine ⟨h1,u,b,ag,?_,h4⟩
  have hs:=(does_rb rj o1 ag d1).2
  refine ⟨fun hr hb _=>?_,v,_,hs.agree (gj e u),ChV.congr hK (sw e v u) hy⟩
  rw [← opOk_agree (e:=e) (agree_ops (gj e u))]
  exact o1 hr hb
 | false =>
  rw [mi] at hok x
  simp only [cond_false] at hok x ⊢
  cases mj:im.contains j with
  | true =>
   rw [mj] at hok x
   simp only [cond_true] at hok x ⊢
   obtain ⟨h1,u,b,ag,⟨o0,v,s0,d0,z0⟩,h4⟩:=x
   have ok0:reader oi.op=true→blind oi.op=false→opOk n0 id e oi.op=true:=fun hr hb=>by
    have:=o0 hr hb (hl2.resolve_left (by rw [mj]; simp))
    rw [opOk_agree (agree_ops (gi e u))] at this
    exact this
   have d0':Does cx ops b oi (cv i) e v s0:=d0.agree (gi e u)
   obtain ⟨rfl,d0s⟩:=does_rb hok ok0 ag.symm d0'
   refine ⟨fun hr hb _=>ok0 hr hb,v,s,d0s,ImpV.agree (gj e v) (fun _ _ z=>z) ⟨h1,u,_,ag,?_,h4⟩⟩
   exact ChV.congr hK (sw e u v) z0
  | false =>
   rw [mj] at hok x
   simp only [cond_false] at hok x ⊢
   obtain ⟨o1,v,s1,h1,o2,u,s2,h2,h3⟩:=x
   have h2':Does cx ops s1 oi (cv i) e u s2:=h2.agree (gi e v)
   have h1':∀ {z z'},Does cx ops z oj (cv j) e v z'→Does cx ops z oj (cv j) (put e oi.dst u) v z':=fun hd=>hd.agree (gj e u)
   have h3':=ChV.congr hK (sw e v u) h3
   have oi':∀ {n},reader oi.op=true→opOk n id (put e oj.dst v) oi.op=opOk n id e oi.op:=fun _=>opOk_agree (agree_ops (gi e v))
   have oj':∀ {n},opOk n id e oj.op=opOk n id (put e oi.dst u) oj.op:=opOk_agree (agree_ops (gj e u))
   simp only [Bool.or_eq_true,Bool.and_eq_true,together] at hok
   rcases hok with (⟨c1,c2⟩ | c1) | c1
   ·have e1:=h1.calm c1
    subst e1
    have e2:=h2.calm c2
    subst e2
    exact ⟨fun hr hb hk=>by rw [← oi' hr]; exact o2 hr hb hk,u,_,h2',fun hr hb hk=>by rw [← oj']; exact o1 hr hb hk,v,_,h1' h1,h3'⟩
   ·have e1:=h1.calm (blind_calm c1)
    subst e1
    exact ⟨fun hr hb hk=>by rw [← oi' hr]; exact o2 hr hb hk,u,_,h2',fun hr hb _=>(by rw [c1] at hb; cases hb),v,_,h1' (h1.blind c1),h3'⟩
   ·have e2:=h2.calm (blind_calm c1)
    subst e2
    exact ⟨fun hr hb _=>(by rw [c1] at hb; cases hb),u,_,h2'.blind c1,fun hr hb hk=>by rw [← oj']; exact o1 hr hb hk,v,_,h1' h1,h3'⟩
theorem ChV.front {opl:List Oper} (hops:ops=opl.toArray) (hK:∀ e e' s,Eqv e e'→K e s→K e' s):∀ (l:List Nat) (i:Nat) (r:List Nat) (e:Env) (s:List Blk),(∀ j ∈ l,okV opl im lk j i=true) →
  ChV cx ops im lk cv cf n0 id K (l++i :: r) e s→ChV cx ops im lk cv cf n0 id K (i :: (l++r)) e s
 | [],_,_,_,_,_,x=>x
 | j :: l,i,r,e,s,h,x=>by
  refine ChV.swap hops hK (h j (by simp)) ?_
  have ih:=fun e s=>ChV.front hops hK l i r e s fun k hk=>h k (by simp [hk])
  simp only [List.cons_append,ChV] at x ⊢
  split at x
  ·exact x.elim
  ·rename_i o ho
   cases hm:im.contains j with
   | true =>
    rw [hm] at x
    exact ImpV.agree (fun _ _=>rfl) (fun r' s' z=>ih _ _ z) x
   | false =>
    rw [hm] at x
    obtain ⟨h1,v,s',h2,h3⟩:=x
    exact ⟨h1,v,s',h2,ih _ _ h3⟩
end
section
variable {c:Cx} {k:List It} {e:Env} {s:List Blk}
def pix (π:List Nat) (r:List Oper):Nat:=π.getD (π.length - r.length) 0
mutual
def dxv (c:Cx) (all:List Oper) (π im lk:List Nat) (cv:Nat→AV) (cf:Nat→List Blk→AV × List Blk) (n0 id:Nat) (k:List It):Nat→List Oper→Env→List Blk→Prop
 | _,[],e,s=>AWp c k e s
 | 0,_ :: _,_,_=>False
 | n+1,o :: r,e,s=>bif im.contains (pix π (o :: r)) then
   (match gOnB all.toArray e o,xop false true c.P e s o.op with
    | true,.call f args=>ICallC c n0 f args id s (fun v s'=>(v,s')=cf (pix π (o :: r)) s∧dxv c all π im lk cv cf n0 id k n r (put e o.dst v) s')
    | true,.sto p v s'=>(calm o.op=false∧p)∧Agr n0 id s s'∧dxv c all π im lk cv cf n0 id k n r (put e o.dst v) s'
    | _,_=>False)
  else dck (reader o.op && !blind o.op && !lk.contains (pix π (o :: r))) n0 id e o.op∧dxvc c all π im lk cv cf n0 id k n (dgrd c all s o r [cv (pix π (o :: r))] e o.guard)
def dxvc (c:Cx) (all:List Oper) (π im lk:List Nat) (cv:Nat→AV) (cf:Nat→List Blk→AV × List Blk) (n0 id:Nat) (k:List It):Nat→Dn→Prop
 | n,.go r _ e s=>dxv c all π im lk cv cf n0 id k n r e s
 | n,.two b r _ e r' _ e' s=>dbrv c all π im lk cv cf n0 id k n b r e r' e' s
 | n,.side p r _ e s=>p∧dxv c all π im lk cv cf n0 id k n r e s
 | _,.fail=>False
def dbrv (c:Cx) (all:List Oper) (π im lk:List Nat) (cv:Nat→AV) (cf:Nat→List Blk→AV × List Blk) (n0 id:Nat) (k:List It):Nat→Bool→List Oper→Env→List Oper→Env→List Blk→Prop
 | 0,_,_,_,_,_,_=>False
 | n+1,b,r,e,r',e',s=>(b=true→dxv c all π im lk cv cf n0 id k n r e s)∧(b=false→dxv c all π im lk cv cf n0 id k n r' e' s)
end
section
variable {all:List Oper} {π im lk:List Nat} {cv:Nat→AV} {cf:Nat→List Blk→AV × List Blk} {n0 id n:Nat}
end
end
end Go.Av
namespace Go.Av
open Go Go.RowKit
variable [Tr]
theorem lowC_succ {n:Nat} {v:AV} (h:lowC n v=true):lowC (n+1) v=true:=by
 cases v <;> simp only [lowC,decide_eq_true_eq] at h ⊢ <;> first | omega | exact h
theorem lowV_succ {n:Nat} {v:AV} (h:lowV n v=true):lowV (n+1) v=true:=by
 cases v with
 | agg r=>simp only [lowV,List.all_eq_true] at h ⊢; exact fun x hx=>lowC_succ (h x hx)
 | fn f r=>simp only [lowV,List.all_eq_true] at h ⊢; exact fun x hx=>lowC_succ (h x hx)
 | _=>simp only [lowV] at h ⊢; exact lowC_succ h
theorem lowB_succ {n:Nat} {b:Blk} (h:lowB n b=true):lowB (n+1) b=true:=by
 cases b with
 | arr e l=>simp only [lowB,List.all_eq_true] at h ⊢; exact fun x hx=>lowC_succ (h x hx)
 | mp es=>simp only [lowB,List.all_eq_true] at h ⊢; exact fun x hx=>lowV_succ (h x hx)
 | it m n' s=>simp only [lowB,decide_eq_true_eq] at h ⊢; omega
 | dead=>rfl
theorem low_more {T:List Blk} {y:Blk} (h:T.all (lowB T.length)=true) (hy:lowB (T.length+1) y=true):(T++[y]).all (lowB (T++[y]).length)=true:=by
 rw [List.length_append,List.length_singleton,List.all_append,List.all_cons,List.all_nil,hy,Bool.and_true,Bool.and_true]
 rw [List.all_eq_true] at h ⊢
 exact fun b hb=>lowB_succ (h b hb)
theorem low_set {T:List Blk} {i:Nat} {y:Blk} (h:T.all (lowB T.length)=true) (hy:lowB T.length y=true):(T.set i y).all (lowB (T.set i y).length)=true:=by
 rw [List.length_set]
 rw [List.all_eq_true] at h ⊢
 intro b hb
 rcases List.mem_or_eq_of_mem_set hb with hb | rfl
 ·exact h b hb
 ·exact hy
theorem gd_of {T:List Blk} {k:Nat} {b:Blk} (h:T[k]? = some b):T.getD k .dead=b:=by
 rw [List.getD_eq_getElem?_getD,h]; rfl
theorem gt_at {T U:List Blk} {c:Nat} {d:Blk}:(T++U).getD (T.length+c) d=U.getD c d:=by
 rw [List.getD_eq_getElem?_getD,List.getD_eq_getElem?_getD,List.getElem?_append_right (by omega),Nat.add_sub_cancel_left]
theorem gt_at0 {T U:List Blk} {d:Blk}:(T++U).getD T.length d=U.getD 0 d:=gt_at (c:=0)
theorem st_at {T U:List Blk} {c:Nat} {b:Blk}:(T++U).set (T.length+c) b=T++U.set c b:=by
 rw [List.set_append,if_neg (by omega),Nat.add_sub_cancel_left]
theorem st_at0 {T U:List Blk} {b:Blk}:(T++U).set T.length b=T++U.set 0 b:=st_at (c:=0)
theorem gt_old {T:List Blk} {k:Nat} {b:Blk} (h:T[k]? = some b) (U:List Blk):(T++U).getD k .dead=b:=by
 rw [List.getD_eq_getElem?_getD,List.getElem?_append_left (List.getElem?_eq_some_iff.1 h).1,h]; rfl
theorem low_mono {n m:Nat} (h:n ≤ m) {b:Blk} (hb:lowB n b=true):lowB m b=true:=by
 induction h with
 | refl=>exact hb
 | step _ ih=>exact lowB_succ ih
theorem low_app {T U:List Blk} (h:T.all (lowB T.length)=true) (hU:U.all (lowB (T.length+U.length))=true):(T++U).all (lowB (T++U).length)=true:=by
 rw [List.length_append,List.all_append,hU,Bool.and_true,List.all_eq_true]
 rw [List.all_eq_true] at h
 exact fun b hb=>low_mono (by omega) (h b hb)
theorem shift_lowE {c:Cx} {e e':Env} {s:List Blk} (T U V:List Blk) (hs:s=T++(U++V)) (hc:c.sto.length ≤ T.length) (hT:T.all (lowB T.length)=true) (hU:U.all (lowB (T.length+U.length))=true) (hw:wkl (T.length+U.length) e e'):Shift c e s e' (T++U):=by
 subst hs
 rw [← List.append_assoc]
 have h:=Shift.low (c:=c) (e:=e) (e':=e') (s:=(T++U)++V) (T.length+U.length) (by omega) (by simp) (by rw [← List.length_append,List.take_left]; exact low_app hT hU) hw
 rw [← List.length_append,List.take_left] at h
 exact h
theorem shift_lowF {c:Cx} {e e':Env} {s:List Blk} (T U V:List Blk) (hs:s=T++(U++V)) (hc:c.sto.length ≤ T.length+U.length) (hT:T.all (lowB T.length)=true) (hU:U.all (lowB (T.length+U.length))=true) (hw:wkl (T.length+U.length) e e'):Shift c e s e' (T++U):=by
 subst hs
 rw [← List.append_assoc]
 have h:=Shift.low (c:=c) (e:=e) (e':=e') (s:=(T++U)++V) (T.length+U.length) hc (by simp) (by rw [← List.length_append,List.take_left]; exact low_app hT hU) hw
 rw [← List.length_append,List.take_left] at h
 exact h
end Go.Av
namespace Go.Proofs.YtnfkjpihaficbaaGreatDoor
open Go Go.Av Go.RowKit
theorem sh_scMF (n:Nat):∀ (xs:List Sc) (k:Nat),shB n (.mp (scMF k xs))=.mp (scMF k xs)
 | [],_=>rfl
 | y :: r,k=>by
  have:=sh_scMF n r (k+1)
  simp only [shB,Blk.mp.injEq] at this ⊢
  rw [scMF,List.map_cons,this]
  rfl
theorem Ct.imp {P:Program} {f:FuncId} {args:List AV} {s:List Blk} {p q:AV→List Blk→Prop} (h:Ct P f args s p) (hpq:∀ r s',p r s'→q r s'):Ct P f args s q :=
 ⟨h.1,fun hh ρ w vs m r=>(h.2 hh ρ w vs m r).mono fun en w' ⟨v,r,s1,h',ρ',e,hp,rest⟩=>⟨v,r,s1,h',ρ',e,hpq _ _ hp,rest⟩⟩
theorem CtH.imp {P:Program} {g:Std} {f:FuncId} {args:List AV} {s:List Blk} {p q:AV→List Blk→Prop} (h:CtH P g f args s p) (hpq:∀ r s',p r s'→q r s'):CtH P g f args s q :=
 ⟨h.1,fun hh ρ w vs hg m r=>(h.2 hh ρ w vs hg m r).mono fun en w' ⟨v,r,s1,h',ρ',e,hp,rest⟩=>⟨v,r,s1,h',ρ',e,hpq _ _ hp,rest⟩⟩
theorem places_ct (x:Sr) (hx:StoryOk x) (s:List Blk):Ct Tryz.prog 51 [srA x] s (fun r s'=>r=.mp s.length∧s'=s++[.mp (scMF 0 x.scenes)]) :=
 Ct.imp ((places_ct0 x hx).liftN rfl (by rintro _ _ ⟨_,rfl⟩; rfl) s) (by
  rintro _ _ ⟨_,_,⟨rfl,rfl⟩,rfl,rfl⟩
  refine ⟨?_,by rw [List.map_cons,sh_scMF]; rfl⟩
  show AV.mp (0+s.length)=_
  rw [Nat.zero_add])
end Go.Proofs.YtnfkjpihaficbaaGreatDoor
namespace Go.Av
open Go Go.RowKit
variable [Tr]
section
variable {h:Mem} {ρ:Own} {sto:List Blk} {w:World} {P:Program}
theorem leftOf_mem {en:Array MapEntry} {clock:Nat} {es:List (AV × AV)} {seen:List Nat} (ho:EnOk en clock es) {e:MapEntry} (he:e ∈ (leftOf en seen.toArray).toList):∃ p:Nat,en.toList[p]? = some e∧(ixs 0 es)[p]? = some e.born∧e.born ∉ seen:=by
 simp only [leftOf,Array.toList_filter,List.mem_filter] at he
 obtain ⟨h1,h2⟩:=he
 obtain ⟨j,hj,e1⟩:=List.getElem_of_mem h1
 have hg:en.toList[j]? = some e:=by rw [List.getElem?_eq_getElem hj,e1]
 exact ⟨j,hg,ho.2.1 j e hg,by simpa using h2⟩
theorem leftOf_none {en:Array MapEntry} {clock:Nat} {es:List (AV × AV)} {seen:List Nat} (ho:EnOk en clock es) (hl:en.toList.length=(lvs es).length) (he:(leftOf en seen.toArray).size=0):∀ (j:Nat) (z:AV × AV),es[j]? = some z→liveK z.1=true→j ∈ seen:=by
 intro j z hj hz
 obtain ⟨p,h1,h2⟩:=ix_has (i:=0) hj hz
 rw [Nat.zero_add] at h1
 have hpl:p < en.toList.length:=by
  have:=(List.getElem?_eq_some_iff.1 h2).1
  omega
 have hb:=ho.2.1 p _ (List.getElem?_eq_getElem hpl)
 rw [h1] at hb
 have hb:=Option.some.inj hb
 have:(leftOf en seen.toArray).toList=[]:=List.eq_nil_of_length_eq_zero (by simpa using he)
 simp only [leftOf,Array.toList_filter,List.filter_eq_nil_iff] at this
 have:=this _ (List.getElem_mem hpl)
 rw [← hb] at this
 simpa using this
theorem next_ok {x:Operand} {o:Oper} {e:Env} {a:Act} (ho:o.op=.next x false) (m:Mine h ρ sto w) (he:EnvOk h ρ sto e a) {id mid n:Nat} {seen:List Nat} {es:List (AV × AV)} (hx:ev e x=.mp id)
  (hb:sto[id]? = some (.it mid n seen)) (hb2:sto[mid]? = some (.mp es)) (hn:es.length=n) :
  ((∀ (j:Nat) (z:AV × AV),es[j]? = some z→liveK z.1=true→j ∈ seen)∧Okv h ρ sto w ((execOp a.eval o).run P w) (.tup [.bool false]) sto) ∨
  ∃ j z,j ∉ seen∧es[j]? = some z∧liveK z.1=true∧Okv h ρ sto w ((execOp a.eval o).run P w) (.tup [.bool true,z.1,z.2]) (sto.set id (.it mid n (seen++[j]))):=by
 have hv:=ev_ok he x
 rw [hx] at hv
 obtain ⟨r',g,en,clock,hu,hr,i2,i4,i5,hg,o2,o3,o4,o5⟩:=it_own m hb hb2 hv
 have hcl:clock=n:=by rw [o5.1,hn]
 obtain ⟨ty,hrun⟩:∃ ty,(execOp a.eval o).run P w=((Instr.next (a.eval x) false ty).run P w).andThen fun v w'=>.ok (.value v) w':=⟨o.type,by simp [execOp,ho]⟩
 rw [hrun,hu]
 rcases run_next_at (P:=P) w ty r' g n n seen.toArray en clock i2 o2 (fun y hy=>by
   obtain ⟨j,hj,e1⟩:=List.getElem_of_mem hy
   have hg:=List.getElem?_eq_getElem hj
   have:=ix_lt (o5.2.1 j _ hg)
   rw [e1] at this
   omega) (Nat.le_refl _) with ⟨h1,h2⟩ | ⟨y,hy,w1,hw1,h2⟩
 ·refine .inl ⟨leftOf_none o5 o3 h1,okv_pure m (u:=.tuple #[.bool false]) (by rw [h2]; rfl) (.tup [_] [_] (.cons (.bool _) .nil))⟩
 ·obtain ⟨p,hj,hborn,hns⟩:=leftOf_mem o5 hy
  obtain ⟨_,z,q1,q2,q3⟩:=ix_get hborn
  rw [Nat.sub_zero] at q1
  obtain ⟨z1,z2⟩:=o4 p z y q2 hj
  have hjs:y.born < es.length:=(List.getElem?_eq_some_iff.1 q1).1
  refine .inr ⟨y.born,z,hns,q1,q3,?_⟩
  have sm:Same w w1:=by
   rcases hw1 with rfl | rfl
   ·exact Same.refl _
   ·exact Same.drew _
  have m1:=m.same sm
  have L1:Later h ρ sto w h ρ sto w1:=Later.same sm
  have hr1:w1.heap[r']? = some (.mapIter (some g) n seen.toArray n):=by
   rcases hw1 with rfl | rfl <;> exact i2
  have hlt:r' < w1.heap.size:=(Array.getElem?_eq_some_iff.1 hr1).1
  obtain ⟨m2,L2⟩:=m1.write (w':=ChangeMaps.setBlock w1 r' (.mapIter (some g) n (seen.toArray.push y.born) clock)) hb (b':=.it mid n (seen++[y.born])) hr trivial rfl rfl ⟨rfl,Tr.same rfl⟩ (by simp [ChangeMaps.setBlock]) (fun k hk=>by
    simp [ChangeMaps.setBlock,Array.getElem?_setIfInBounds_ne (Ne.symm hk)]) (by
    refine ⟨r',g,hr,by simp [ChangeMaps.setBlock,hlt,hcl],?_,?_,?_⟩
    ·have hne:mid ≠ id:=fun e=>by rw [e,hb] at hb2; cases hb2
     refine ⟨rfl,?_⟩
     simp only [LfC,List.getElem?_set_ne (Ne.symm hne),hb2]
     exact ⟨g,hg,rfl⟩
    ·rw [List.nodup_append]
     exact ⟨i4,by simp,fun a ha b hb=>by simp at hb; subst hb; exact fun e=>hns (e ▸ ha)⟩
    ·intro i hi
     rcases List.mem_append.1 hi with hi | hi
     ·exact i5 i hi
     ·simp at hi; omega)
  have L:=L1.trans L2
  exact ⟨_,_,_,_,.inl (by rw [h2]; rfl),m2,L,.tup [_,_,_] [_,_,_] (.cons (.bool _) (.cons ((z1.thaw (fun _ _ _ x=>x)).mono L.hle L.keep) (.cons (z2.mono L.hle L.keep) .nil)))⟩
end
end Go.Av
