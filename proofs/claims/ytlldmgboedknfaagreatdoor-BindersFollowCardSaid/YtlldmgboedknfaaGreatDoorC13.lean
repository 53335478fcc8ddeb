/- Statements whose order is open and in which calls change a block of one's own. -/
import Derived.Test.YtlldmgboedknfaaGreatDoorC12
set_option linter.unusedSimpArgs false
set_option linter.unusedVariables false
set_option linter.unusedSectionVars false
namespace Go.Av
open Go Go.RowKit
variable [Tr]
def refOk(n id:Nat):AV->Bool
 | .sl i _ _ _=>decide (i<n)&&!(i==id)
 | .ptr i _ _ _=>decide (i<n)&&!(i==id)
 | .mp i=>decide (i<n)&&!(i==id)
 | _=>true
def opOk(n id:Nat)(e:Env)(op:Op):Bool:=op.operands.toList.all fun x=>refOk n id (ev e x)
def reader:Op->Bool
 | .call c=>match c.callee with
  | .builtin .len|.builtin .max|.builtin .min=>true
  | _=>false
 | .makeFunc ..|.convert ..|.entry _=>false
 | .slice _ _ _ _ (some _)=>false
 | op=>calm op
def AeA:Op->Bool
 | .alloc _=>true
 | _=>false
def isVal:Op->Bool
 | .call c=>match c.callee with
  | .value _=>true
  | _=>false
 | _=>false
theorem BbG{P:Program}{e:Env}{s s':List Blk}{op:Op}(h:isVal op=true):xop false true P e s op=xop false true P e s' op:=by
 cases op with
 | call c =>
  cases hc:c.callee with
  | value f=>simp only[xop,hc]
  | _=>simp[isVal,hc]at h
 | _=>simp[isVal]at h
def Agr(n id:Nat)(s s':List Blk):Prop:=∀ i,i<n->i≠id->s.getD i .dead=s'.getD i .dead
theorem Agr.set{s:List Blk}{id:Nat}(b:Blk):Agr s.length id s (s.set id b):=fun i hi hne=>by
 simp only[List.getD,List.getElem?_set_ne (Ne.symm hne)]
theorem Agr.symm{n id:Nat}{s s':List Blk}(a:Agr n id s s'):Agr n id s' s:=fun i h1 h2=>(a i h1 h2).symm
theorem Agr.push{s:List Blk}{id:Nat}(b:Blk):Agr s.length id s (s++[b]):=fun i hi hne=>by
 simp only[List.getD,List.getElem?_append_left hi]
theorem AmJ{n id i off len cap:Nat}(h:refOk n id (.sl i off len cap)=true):i<n/\i≠id:=by simpa[refOk]using h
theorem AnT{n id i m j off:Nat}(h:refOk n id (.ptr i m j off)=true):i<n/\i≠id:=by simpa[refOk]using h
theorem AmK{n id i:Nat}(h:refOk n id (.mp i)=true):i<n/\i≠id:=by simpa[refOk]using h
section
variable {n id:Nat}{s s':List Blk}(ha:Agr n id s s')
include ha
theorem BbH{d:Option TypeDesc}{sz:Nat}{y:AV}(h:refOk n id y=true):xload d sz s y=xload d sz s' y:=by
 cases y <;> try rfl
 obtain⟨h1,h2⟩:=AnT h;simp only[xload,ha _ h1 h2]
theorem A3Z{p:Prop}{m:Nat}{y:AV}(h:refOk n id y=true):xptrAddIf p s y m=xptrAddIf p s' y m:=by
 cases y <;> try rfl
 obtain⟨h1,h2⟩:=AnT h;simp only[xptrAddIf,ha _ h1 h2]
theorem AqS{d:Option TypeDesc}{sz:Nat}{x i:AV}(h:refOk n id x=true):AbZ d sz s x i=AbZ d sz s' x i:=by
 unfold AbZ
 split
 .exact A3Z ha h
 .cases x <;> try rfl
  obtain⟨h1,h2⟩:=AmJ h;simp only[ha _ h1 h2]
 .rfl
theorem BhX{d:Option TypeDesc}{x:AV}(h:refOk n id x=true):xlen s x d=xlen s' x d:=by
 unfold xlen
 split <;> first|rfl|skip
 .obtain ⟨h1,h2⟩:=AmJ h
  rw[ha _ h1 h2]
 .obtain ⟨h1,h2⟩:=AmK h
  rw[ha _ h1 h2]
theorem BhY{x:AV}(h:refOk n id x=true):xnil s x=xnil s' x:=by
 cases x <;> try rfl
 obtain⟨h1,h2⟩:=AnT h;simp only[xnil,ha _ h1 h2]
theorem BbI{P:Program}{x k:AV}{b:Bool}{d:Option TypeDesc}(h:refOk n id x=true):AvV P s x k b d=AvV P s' x k b d:=by
 unfold AvV
 split
 .split
  .obtain ⟨h1,h2⟩:=AmK h
   rw[ha _ h1 h2]
  .obtain ⟨h1,h2⟩:=AmK h
   rw[ha _ h1 h2]
  .rfl
 .rfl
theorem BhZ{P:Program}{x:AV}{lo hi:Option AV}{d:Option TypeDesc}(h:refOk n id x=true):xcut P s x lo hi none d=xcut P s' x lo hi none d:=by
 unfold xcut
 split
 .rfl
 .split <;> first|rfl|skip
  obtain⟨h1,h2⟩:=AmJ h;rw[ha _ h1 h2]
 .rename_i h0; cases h0
 .rfl
 .rfl
theorem ArK{b:Bool}{x:AV}(h:refOk n id x=true):AhR s b x=AhR s' b x:=by
 unfold AhR
 split <;> first|rfl|skip
 obtain⟨h1,h2⟩:=AmJ h;rw[ha _ h1 h2]
theorem AnU{b:Bool}{x:AV}(h:refOk n id x=true):AeN s b x=AeN s' b x:=by
 unfold AeN
 split <;> first|rfl|skip
 obtain⟨h1,h2⟩:=AmK h;rw[ha _ h1 h2]
theorem BbJ{P:Program}{t:TypeId}{wr:Bool}{op:BinOp}{x y:AV}(h:refOk n id x=true):AqQ P t wr s op x y=AqQ P t wr s' op x y:=by
 have h2:∀ d,AsS wr s d op x y=AsS wr s' d op x y:=fun d=>by
  unfold AsS
  split
  .split
   .exact ArK ha h
   .exact ArK ha h
   .rfl
  .split
   .exact AnU ha h
   .exact AnU ha h
   .rfl
  .rfl
 unfold AqQ
 split
 .rfl
 .exact h2 _
theorem A7D{P:Program}{e:Env}{op:Op}(hr:reader op=true)(ho:opOk n id e op=true):xop false true P e s op=xop false true P e s' op:=by
 have hx:∀ x∈op.operands.toList,refOk n id (ev e x)=true:=List.all_eq_true.1 ho
 cases op <;> first|rfl|(exfalso; revert hr; simp[reader,calm]; done)|skip
 case binOp op t x y yt=>exact BbJ ha (hx x (by simp[Op.operands]))
 case load t x=>exact BbH ha (hx x (by simp[Op.operands]))
 case fieldAddr t x f =>
  simp only[xop];unfold AcU
  split
  .exact A3Z ha (hx x (by simp[Op.operands]))
  .rfl
 case indexAddr t x i=>exact AqS ha (hx x (by simp[Op.operands]))
 case nilCheck x=>exact BhY ha (hx x (by simp[Op.operands]))
 case lookup t m k b=>exact BbI ha (hx m (by simp[Op.operands]))
 case slice t x lo hi mx =>
  cases mx with
  | some y=>simp[reader]at hr
  | none=>exact BhZ ha (hx x (by simp[Op.operands]))
 case unOp op t x=>cases op <;> rfl
 case call cl =>
  simp only[xop]
  split <;> try rfl
  .rename_i hc
   unfold A0D
   split
   .rename_i x r t r' h1 h2
    exact BhX ha (hx x (by simp[Op.operands,Call.operands,h1]))
   .rfl
  all_goals(rename_i hc; simp[reader,hc]at hr)
end
def McC(c:Cx)(f:FuncId)(args:List AV)(id:Nat)(blk:Blk)(post:AV->Blk->Prop):Prop :=
 AaB c.P f=true/\∀ h ρ s w vs,s[id]? = some blk->Mine h ρ s w->Later c.h c.ρ c.sto c.w h ρ s w->RL h (Lf ρ s) false vs args->Calls c.P f vs.toArray w fun en w' =>
  ∃ v r b h' ρ',en=.returned v/\post r b/\Mine h' ρ' (s.set id b) w'/\Later h ρ s w h' ρ' (s.set id b) w'/\RV h' (Lf ρ' (s.set id b)) false v r
def BbK(c:Cx)(f:FuncId)(args:List AV)(id:Nat)(s:List Blk)(K:AV->List Blk->Prop):Prop :=
 ∃ blk post,s[id]? = some blk/\McC c f args id blk post/\(∃ r b,post r b)/\∀ r b,post r b->K r (s.set id b)
def Imp(c:Cx)(id:Nat)(o:Oper)(e:Env)(s:List Blk)(K:AV->List Blk->Prop):Prop :=
 o.guard=none/\∃ f args,xop false true c.P e s o.op=.call f args/\BbK c f args id s K
def ChI(c:Cx)(ops:Array Oper)(im:List Nat)(id:Nat)(K:Env->List Blk->Prop):List Nat->Env->List Blk->Prop
 | [],e,s=>K e s
 | i::r,e,s=>match ops[i]? with
  | none=>False
  | some o=>bif im.contains i then Imp c id o e s (fun v s'=>ChI c ops im id K r (put e o.dst v) s')
   else(reader o.op=true->blind o.op=false->opOk s.length id e o.op=true)/\∃ cv v s',Does c ops s o cv e v s'/\ChI c ops im id K r (put e o.dst v) s'
def okI(ops:List Oper)(im:List Nat)(j i:Nat):Bool:=match ops[j]?,ops[i]? with
 | some oj,some oi=>oj.apart ops.toArray oi&&(bif im.contains i then !im.contains j&&reader oj.op else bif im.contains j then reader oi.op||(AeA oi.op&&isVal oj.op) else together oj oi||((reader oj.op||isVal oj.op)&&AeA oi.op))
 | _,_=>false
section
variable {cx:Cx}{ops:Array Oper}{s:List Blk}{K:Env->List Blk->Prop}{im:List Nat}{id:Nat}
theorem A0Z{op:Op}(hr:reader op=true):calm op=true:=by
 cases op <;> first|rfl|(exfalso; revert hr; simp[reader,calm]; done)|skip
 case slice t x lo hi mx =>
  cases mx with
  | none=>rfl
  | some y=>simp[reader]at hr
 case call cl =>
  cases hc:cl.callee with
  | builtin b=>cases b <;> simp[reader,hc]at hr <;> simp[calm,hc]
  | _=>simp[reader,hc]at hr
theorem AjB{n:Nat}{s s' s1:List Blk}{o:Oper}{cv v:AV}{e:Env}(hr:reader o.op=true)(ho:opOk n id e o.op=true)(ha:Agr n id s s')(h:DoesOp cx s o cv e v s1):s1=s/\DoesOp cx s' o cv e v s':=by
 have hx:=A7D (P:=cx.P) ha hr ho;have hc:calm o.op=true:=A0Z hr;have hs:=h.calm hc;refine⟨hs,?_⟩;subst hs;unfold DoesOp at h |-;rw[<- hx]
 split at h <;> rename_i hq
 .exact ⟨h.1,rfl⟩
 .exact ⟨h.1,h.2.1,rfl⟩
 .rw [hc]at h; cases h.1
 .exact ⟨h.1,rfl⟩
 .exact ⟨h.1,h.2.1,h.2.2.1,rfl⟩
 .exact h.elim
theorem AbK{n:Nat}{s s' s1:List Blk}{o:Oper}{cv v:AV}{e:Env}(hr:reader o.op=true)(ho:blind o.op=false->opOk n id e o.op=true)(ha:Agr n id s s')(h:Does cx ops s o cv e v s1):s1=s/\Does cx ops s' o cv e v s':=by
 cases hb:blind o.op with
 | true =>
  have:=h.calm (AcI hb);exact⟨this,h.blind hb⟩
 | false =>
 replace ho:=ho hb
 unfold Does at h |-
 split at h
 .exact AjB hr ho ha h
 .split at h
  .rcases h with⟨h1,h⟩|⟨h1,h2,h⟩
   .obtain ⟨x,y⟩:=AjB hr ho ha h
    exact⟨x,.inl ⟨h1,y⟩⟩
   .exact ⟨h,.inr ⟨h1,h2,rfl⟩⟩
  .exact h.elim
def Res.isCall:Res->Bool
 | .call ..=>true
 | _=>false
theorem BoO{op:BinOp}{k:IntKind}{a b:Int}:(xint false op k a b).isCall=false:=by cases op <;> rfl
theorem BoP{d:Option TypeDesc}{op:BinOp}{x y:AV}:(xbin false d op x y).isCall=false:=by
 unfold xbin
 split
 .split
  .exact BoO
  .rfl
 .cases op <;> rfl
 .unfold BgT; split <;> rfl
 .rfl
theorem BiA{P:Program}{t:TypeId}{op:BinOp}{x y:AV}:(AqQ P t false s op x y).isCall=false:=by
 unfold AqQ
 split
 .split
  .unfold xeqs
   split
   .split <;> (unfold A0B; split <;> first|rfl|(split <;> rfl))
   .rfl
  .rfl
 .unfold AsS
  split
  .split
   .unfold AhR; split <;> first|rfl|(split <;> rfl)
   .unfold AhR; split <;> first|rfl|(split <;> rfl)
   .rfl
  .split
   .unfold AeN; split <;> first|rfl|(split <;> rfl)
   .unfold AeN; split <;> first|rfl|(split <;> rfl)
   .rfl
  .exact BoP
theorem BbL{p:Prop}{x:AV}{n:Nat}:(xptrAddIf p s x n).isCall=false:=by
 unfold xptrAddIf
 split <;> first|rfl|(split <;> rfl)
theorem A7E{P:Program}{e:Env}{op:Op}(hr:reader op=true):(xop false true P e s op).isCall=false:=by
 cases op <;> first|rfl|(exfalso; revert hr; simp[reader,calm]; done)|skip
 case binOp op t x y yt=>exact BiA
 case unOp op t x =>
  cases op <;> first|rfl|skip
  .simp only [xop]; unfold xneg; split <;> rfl
  .simp only [xop]; unfold xnot; split <;> rfl
 case pick cc x y=>simp only[xop]; unfold A9R; split <;> rfl
 case extract x i=>simp only[xop]; unfold AiS; split <;> rfl
 case index t x i=>simp only[xop]; unfold AvR; split <;> rfl
 case field t x f =>
  simp only[xop]; unfold AmY
  split
  .split <;> rfl
  .rfl
 case fieldAddr t x f =>
  simp only[xop]; unfold AcU
  split
  .exact BbL
  .rfl
 case indexAddr t x i =>
  simp only[xop]; unfold AbZ
  split
  .exact BbL
  .split <;> first|rfl|(split <;> rfl)
  .rfl
 case load t x =>
  simp only[xop]; unfold xload
  split <;> first|rfl|(split <;> rfl)
 case build t parts =>
  simp only[xop]; unfold AvS
  split <;> first|rfl|(split <;> rfl)
 case nilCheck x =>
  simp only[xop]; unfold xnil
  split <;> first|rfl|(split <;> rfl)
 case buildSlice t len parts =>
  simp only[xop]; unfold AdC
  split
  .split
   .rfl
   .unfold AdV; split <;> rfl
  .rfl
 case lookup t m k b =>
  simp only[xop]; unfold AvV
  split
  .split
   .rename_i kt _ _ _ _ _
    cases AaX P _ with
    | true =>
     simp only[cond_true];unfold A3J
     split
     .cases AdL _ _ _ with
      | false=>rfl
      | true=>simp only[cond_true]; split <;> rfl
     .rfl
    | false =>
     simp only[cond_false];unfold A3L
     split
     .cases AdK _ _ _ with
      | false=>rfl
      | true=>simp only[cond_true]; split <;> rfl
     .rfl
   .unfold A3K
    split
    .cases AfX _ _ with
     | false=>rfl
     | true=>simp only[cond_true]; unfold A3I; split <;> rfl
    .rfl
   .rfl
  .rfl
 case slice t x lo hi mx =>
  cases mx with
  | some y=>simp[reader]at hr
  | none =>
   simp only[xop,evo]; unfold xcut
   split
   .split
    .unfold BgW; split <;> rfl
    .rfl
   .split
    .unfold BgX; split <;> rfl
    .unfold BgY; split <;> rfl
    .unfold BgZ; split <;> rfl
    .rfl
   .rename_i a b; first|(cases a; done)|(cases b; done)
   .unfold BhA; split <;> first|rfl|(split <;> rfl)
   .rfl
 case call cl =>
  simp only[xop]
  split
  .unfold A0D
   split
   .unfold xlen; split <;> first|rfl|(split <;> rfl)
   .rfl
  .rename_i hc; simp[reader,hc]at hr
  .rename_i hc; simp[reader,hc]at hr
  .rename_i hc; simp[reader,hc]at hr
  .rename_i hc; simp[reader,hc]at hr
  .rename_i hc; simp[reader,hc]at hr
  .unfold xmax; split
   .rename_i k a k' b _; cases decide (k=k') <;> rfl
   .rfl
  .unfold xmax; split
   .rename_i k a k' b _; cases decide (k=k') <;> rfl
   .rfl
  .rename_i hc; simp[reader,hc]at hr
  .rfl
theorem A4A{s s1 s2:List Blk}{o:Oper}{cv cv2 v v2:AV}{e:Env}(hr:reader o.op=true)(h:Does cx ops s o cv e v s1)(h2:Does cx ops s o cv2 e v2 s2):v=v2:=by
 have key:∀ {s1 s2},DoesOp cx s o cv e v s1->DoesOp cx s o cv2 e v2 s2->v=v2:=by
  intro s1 s2 h h2;unfold DoesOp at h h2;have hn:=A7E (P:=cx.P) (e:=e) (s:=s) hr
  revert h h2 hn
  cases xop false true cx.P e s o.op with
  | ok u=>intro h h2 _; rw[h.1,h2.1]
  | side p u=>intro h h2 _; rw[h.2.1,h2.2.1]
  | sto p u s'=>intro h h2 _; rw[h.2.2.1,h2.2.2.1]
  | pick b x y=>intro h h2 _; rw[h.1,h2.1]
  | call f args=>intro _ _ hn; cases hn
  | anyb p=>intro h _ _; exact h.elim
  | stuck=>intro h _ _; exact h.elim
 unfold Does at h h2
 split at h
 .rename_i hg; rw[hg]at h2; exact key h h2
 .rename_i j want hg
  rw[hg]at h2;simp only at h2
  split at h
  .rename_i b hb
   rw[hb]at h2;simp only at h2
   rcases h with⟨h1,h⟩|⟨h1,h,_⟩ <;> rcases h2 with⟨h3,h4⟩|⟨h3,h4,_⟩
   .exact key h h4
   .exact (h3 h1).elim
   .exact (h1 h3).elim
   .rw [h,h4]
  .exact h.elim
theorem AbR{n:Nat}{e e':Env}{op:Op}(h:∀ x∈op.operands,ev e x=ev e' x):opOk n id e op=opOk n id e' op:=by
 unfold opOk;rw[Bool.eq_iff_iff,List.all_eq_true,List.all_eq_true]
 constructor
 .intro a x hx; rw[<- h x (by simpa using hx)]; exact a x hx
 .intro a x hx; rw[h x (by simpa using hx)]; exact a x hx
theorem A7F{n m:Nat}(h:n<=m){a:AV}(x:refOk n id a=true):refOk m id a=true:=by
 cases a <;> simp only[refOk,Bool.and_eq_true,decide_eq_true_eq]at x |- <;> exact⟨by omega,x.2⟩
theorem BbM{n m:Nat}(h:n<=m){e:Env}{op:Op}(x:opOk n id e op=true):opOk m id e op=true:=by
 unfold opOk at x |-;rw[List.all_eq_true]at x |-;exact fun y hy=>A7F h (x y hy)
theorem Imp.agree{o:Oper}{e e':Env}{s:List Blk}{K K':AV->List Blk->Prop}(h:∀ x∈o.op.operands,ev e x=ev e' x)(hK:∀ r s,K r s->K' r s)(x:Imp cx id o e s K):Imp cx id o e' s K':=by
 obtain⟨h1,f,args,h2,blk,post,h3,h4,h5,h6⟩:=x;exact⟨h1,f,args,by rw[<- AdD h]; exact h2,blk,post,h3,h4,h5,fun r b hp=>hK _ _ (h6 r b hp)⟩
theorem ChI.congr(hK:∀ e e' s,Eqv e e'->K e s->K e' s):∀ {l:List Nat}{e e':Env}{s:List Blk},Eqv e e'->ChI cx ops im id K l e s->ChI cx ops im id K l e' s
 | [],e,e',s,h,x=>hK e e' s h x
 | i::r,e,e',s,h,x=>by
  unfold ChI at x |-
  split at x
  .exact x.elim
  .rename_i o ho
   cases hi:im.contains i with
   | true =>
    rw[hi]at x;exact Imp.agree (fun y _=>AiZ fun t _=>h t) (fun r' s' z=>ChI.congr hK (h.put _ _) z) x
   | false =>
    rw[hi]at x;obtain⟨h1,cv,v,s',h2,h3⟩:=x;exact⟨fun hr hb=>by rw[<- AbR (e:=e) (fun y _=>AiZ fun t _=>h t)]; exact h1 hr hb,cv,v,s',h2.agree fun t _=>h t,ChI.congr hK (h.put _ _) h3⟩
theorem AtK{e:Env}{d d':Option Tmp}{v v':AV}(h:∀ t,d=some t->d'≠some t):Eqv (put (put e d v) d' v') (put (put e d' v') d v):=fun t=>by
 rw[get_put,get_put,get_put,get_put]
 by_cases h1:d=some t
 .simp [h1,h t h1]
 .simp [h1]
theorem A7G{s s1:List Blk}{o:Oper}{cv v:AV}{e:Env}(ha:AeA o.op=true)(h:Does cx ops s o cv e v s1):s1=s\/∃ b,s1=s++[b]:=by
 have key:DoesOp cx s o cv e v s1->s1=s\/∃ b,s1=s++[b]:=by
  intro h
  cases ho:o.op <;> rw[ho]at ha <;> simp[AeA]at ha
  rename_i t;unfold DoesOp at h;rw[ho]at h;simp only[xop]at h;unfold xalloc at h
  cases hr:isRow (cx.P.underlying t)with
  | true =>
   rw[hr]at h;simp only[cond_true,xnew]at h;exact .inr ⟨_,h.2.2.2⟩
  | false =>
   rw[hr]at h;simp only[cond_false]at h
   split at h
   .rename_i z hz
    split at hz
    .simp [xnew]at hz
    .cases hz
   .rename_i z hz
    split at hz
    .simp [xnew]at hz
    .cases hz
   .rename_i p u s2 hz
    split at hz
    .simp only [xnew,Res.sto.injEq]at hz
     obtain⟨_,_,rfl⟩:=hz;exact .inr ⟨_,h.2.2.2⟩
    .cases hz
   .rename_i hz
    split at hz <;> simp[xnew]at hz
   .rename_i hz
    split at hz <;> simp[xnew]at hz
   .exact h.elim
 unfold Does at h
 split at h
 .exact key h
 .split at h
  .rcases h with⟨_,h⟩|⟨_,_,h⟩
   .exact key h
   .exact .inl h
  .exact h.elim
theorem AwO{s s1:List Blk}{o:Oper}{cv v:AV}{e:Env}(ha:AeA o.op=true)(h:Does cx ops s o cv e v s1) :
  ∃ t,s1=s++t/\∀ s2 cv2,s2.length=s.length->Does cx ops s2 o cv2 e v (s2++t):=by
 have key:DoesOp cx s o cv e v s1->∃ t,s1=s++t/\∀ s2 cv2,s2.length=s.length->DoesOp cx s2 o cv2 e v (s2++t):=by
  intro h
  cases ho:o.op <;> rw[ho]at ha <;> simp[AeA]at ha
  rename_i t;unfold DoesOp at h;rw[ho]at h;simp only[xop]at h;unfold xalloc at h
  cases hr:isRow (cx.P.underlying t)with
  | true =>
   rw[hr]at h;simp only[cond_true,xnew]at h;obtain⟨h1,h2,h3,h4⟩:=h;refine⟨_,h4,fun s2 cv2 hl=>?_⟩;unfold DoesOp;rw[ho];simp only[xop,xalloc,hr,cond_true,xnew];exact⟨h1,h2,by rw[hl]; exact h3,trivial⟩
  | false =>
   rw[hr]at h;simp only[cond_false]at h
   split at h
   .rename_i z hz
    split at hz
    .simp [xnew]at hz
    .cases hz
   .rename_i z hz
    split at hz
    .simp [xnew]at hz
    .cases hz
   .rename_i p u s2 hz
    split at hz
    .rename_i x hq
     simp only[xnew,Res.sto.injEq]at hz;obtain⟨rfl,rfl,rfl⟩:=hz;obtain⟨h1,h2,h3,h4⟩:=h;refine⟨_,h4,fun s3 cv2 hl=>?_⟩;unfold DoesOp;rw[ho];simp only[xop,xalloc,hr,cond_false,hq,xnew];exact⟨h1,h2,by rw[hl]; exact h3,trivial⟩
    .cases hz
   .rename_i hz
    split at hz <;> simp[xnew]at hz
   .rename_i hz
    split at hz <;> simp[xnew]at hz
   .exact h.elim
 unfold Does at h
 split at h
 .rename_i hg
  obtain⟨t,h1,h2⟩:=key h;exact⟨t,h1,fun s2 cv2 hl=>by unfold Does; rw[hg]; exact h2 s2 cv2 hl⟩
 .rename_i j want hg
  split at h
  .rename_i b hb
   rcases h with⟨hw,h⟩|⟨hw,hv,hs⟩
   .obtain ⟨t,h1,h2⟩:=key h
    exact⟨t,h1,fun s2 cv2 hl=>by unfold Does; rw[hg]; simp only[hb]; exact .inl ⟨hw,h2 s2 cv2 hl⟩⟩
   .exact ⟨[],by simp[hs],fun s2 cv2 hl=>by unfold Does; rw[hg]; simp only[hb]; exact .inr ⟨hw,hv,by simp⟩⟩
  .exact h.elim
theorem BbN{s s1 s2:List Blk}{o:Oper}{cv cv2 v v2:AV}{e:Env}(ha:AeA o.op=true)(h:Does cx ops s o cv e v s1)(h2:Does cx ops s o cv2 e v2 s2):v=v2/\s1=s2:=by
 have key:DoesOp cx s o cv e v s1->DoesOp cx s o cv2 e v2 s2->v=v2/\s1=s2:=by
  intro h h2
  cases ho:o.op <;> rw[ho]at ha <;> simp[AeA]at ha
  rename_i t;unfold DoesOp at h h2;rw[ho]at h h2
  revert h h2
  have hn:∀ f args,xop false true cx.P e s (.alloc t)≠.call f args:=by
   intro f args;simp only[xop];unfold xalloc
   cases isRow (cx.P.underlying t)with
   | true=>simp[xnew]
   | false =>
    simp only[cond_false]
    split <;> simp[xnew]
  cases hx:xop false true cx.P e s (.alloc t)with
  | ok u=>intro h h2; exact⟨by rw[h.1,h2.1],by rw[h.2,h2.2]⟩
  | side p u=>intro h h2; exact⟨by rw[h.2.1,h2.2.1],by rw[h.2.2,h2.2.2]⟩
  | sto p u s'=>intro h h2; exact⟨by rw[h.2.2.1,h2.2.2.1],by rw[h.2.2.2,h2.2.2.2]⟩
  | pick b x y=>intro h h2; exact⟨by rw[h.1,h2.1],by rw[h.2,h2.2]⟩
  | call f args=>exact(hn _ _ hx).elim
  | anyb p=>intro h _; exact h.elim
  | stuck=>intro h _; exact h.elim
 unfold Does at h h2
 split at h
 .rename_i hg; rw[hg]at h2; exact key h h2
 .rename_i j want hg
  rw[hg]at h2;simp only at h2
  split at h
  .rename_i b hb
   rw[hb]at h2;simp only at h2
   rcases h with⟨h1,h⟩|⟨h1,h,h'⟩ <;> rcases h2 with⟨h3,h4⟩|⟨h3,h4,h4'⟩
   .exact key h h4
   .exact (h3 h1).elim
   .exact (h1 h3).elim
   .exact ⟨by rw[h,h4],by rw[h',h4']⟩
  .exact h.elim
theorem BiB{s s1:List Blk}{o:Oper}{cv v:AV}{e:Env}(ha:isVal o.op=true)(h:Does cx ops s o cv e v s1):s1=s/\∀ s2,Does cx ops s2 o cv e v s2:=by
 have key:DoesOp cx s o cv e v s1->s1=s/\∀ s2,DoesOp cx s2 o cv e v s2:=by
  intro h;have hx:∀ s2,xop false true cx.P e s2 o.op=xop false true cx.P e s o.op:=fun s2=>BbG ha
  have hr:∀ p u s',xop false true cx.P e s o.op≠.sto p u s':=by
   intro p u s'
   cases ho:o.op with
   | call c =>
    rw[ho]at ha
    cases hc:c.callee with
    | value f =>
     simp only[xop,hc];unfold A9V
     split <;> simp
    | _=>simp[isVal,hc]at ha
   | _=>rw[ho]at ha; simp[isVal]at ha
  unfold DoesOp at h |-
  revert h
  cases hq:xop false true cx.P e s o.op with
  | ok u=>intro h; exact⟨h.2,fun s2=>by rw[hx,hq]; exact⟨h.1,rfl⟩⟩
  | side p u=>intro h; exact⟨h.2.2,fun s2=>by rw[hx,hq]; exact⟨h.1,h.2.1,rfl⟩⟩
  | sto p u s'=>exact(hr _ _ _ hq).elim
  | pick b x y=>intro h; exact⟨h.2,fun s2=>by rw[hx,hq]; exact⟨h.1,rfl⟩⟩
  | call f args=>intro h; exact⟨h.2.2.2,fun s2=>by rw[hx,hq]; exact⟨h.1,h.2.1,h.2.2.1,rfl⟩⟩
  | anyb p=>intro h; exact h.elim
  | stuck=>intro h; exact h.elim
 unfold Does at h |-
 split at h
 .exact key h
 .rename_i j want hg
  split at h
  .rename_i b hb
   rcases h with⟨hw,h⟩|⟨hw,hv,hs⟩
   .exact ⟨(key h).1,fun s2=>.inl ⟨hw,(key h).2 s2⟩⟩
   .exact ⟨hs,fun s2=>.inr ⟨hw,hv,rfl⟩⟩
  .exact h.elim
theorem ChI.swap{opl:List Oper}(hops:ops=opl.toArray)(hK:∀ e e' s,Eqv e e'->K e s->K e' s){i j:Nat}{r:List Nat}(hok:okI opl im j i=true){e:Env}{s:List Blk}(x:ChI cx ops im id K (j::i::r) e s) :
  ChI cx ops im id K (i::j::r) e s:=by
 unfold okI at hok
 split at hok
 rotate_left
 .cases hok
 rename_i oj oi hj' hi';have hj:ops[j]? = some oj:=by rw[hops]; simpa using hj'
 have hi:ops[i]? = some oi:=by rw[hops]; simpa using hi'
 simp only[Bool.and_eq_true]at hok;obtain⟨ha,hok⟩:=hok;rw[<- hops]at ha;obtain⟨a1,a2,a3⟩:=Oper.apart_spec ha;have gi:∀ (e:Env) (v:AV),A0X ops oi (put e oj.dst v) e:=fun e v t ht=>by
  rw[get_put,if_neg]; intro h; exact a1 t h ht
 have gj:∀ (e:Env) (v:AV),A0X ops oj e (put e oi.dst v):=fun e v t ht=>by
  rw[get_put,if_neg]; intro h; exact a3 t h ht
 have sw:∀ (e:Env) (v u:AV),Eqv (put (put e oj.dst v) oi.dst u) (put (put e oi.dst u) oj.dst v):=fun e v u=>AtK a2
 simp only[ChI,hi,hj]at x |-
 cases mi:im.contains i with
 | true =>
  rw[mi]at hok x;simp only[cond_true,Bool.and_eq_true,Bool.not_eq_true']at hok;obtain⟨mj,rj⟩:=hok;rw[mj]at x |-;simp only[cond_true,cond_false]at x |-;obtain⟨o1,cv,v,s',d1,y⟩:=x;obtain⟨rfl,_⟩:=AbK rj (o1 rj) (Agr.set (id:=id) .dead) d1;obtain⟨h1,f,args,h2,blk,post,h3,h4,h5,h6⟩:=y;refine⟨h1,f,args,by rw[<- AdD (AbG (gi e v))]; exact h2,blk,post,h3,h4,h5,fun u b hp=>?_⟩;have hs:=(AbK rj (o1 rj) (Agr.set b) d1).2;refine⟨fun _ hb=>?_,cv,v,_,hs.agree (gj e u),ChI.congr hK (sw e v u) (h6 u b hp)⟩;rw[<- AbR (e:=e) (AbG (gj e u)),List.length_set];exact o1 rj hb
 | false =>
  rw[mi]at hok x;simp only[cond_false]at hok x |-
  cases mj:im.contains j with
  | true =>
   rw[mj]at hok x;simp only[cond_true]at hok x |-;obtain⟨h1,f,args,h2,blk,post,h3,h4,⟨u0,b0,h5⟩,h6⟩:=x;obtain⟨o0,cv0,v0,s0,d0,z0⟩:=h6 u0 b0 h5;simp only[Bool.or_eq_true,Bool.and_eq_true]at hok
   rcases hok with hok|⟨hok,hval⟩
   rotate_left
   .have hni:reader oi.op=false:=by
     cases ho:oi.op <;> rw[ho]at hok <;> simp[AeA]at hok
     rfl
    have hid:=(List.getElem?_eq_some_iff.1 h3).1;obtain⟨t,e1,d1⟩:=AwO hok (d0.agree (gi e u0));have d0s:=d1 s cv0 (by simp);refine⟨fun hr=>(by rw[hni]at hr; cases hr),cv0,v0,s++t,d0s,h1,f,args,?_,blk,post,?_,h4,⟨u0,b0,h5⟩,fun u b hp=>?_⟩
    .rw [<- AdD (AbG (gj e v0)),BbG (s':=s) hval]; exact h2
    .rw [List.getElem?_append_left hid]; exact h3
    .obtain ⟨_,cv,v,s',d,y⟩:=h6 u b hp
     obtain⟨t',e2,d2⟩:=AwO hok (d.agree (gi e u));obtain⟨e3,e4⟩:=BbN hok (d2 s cv (by simp)) d0s;subst e3;have e5:t'=t:=List.append_cancel_left e4;subst e5;rw[List.set_append_left _ _ hid,<- e2];exact ChI.congr hK (sw e u v) y
   have ok0:blind oi.op=false->opOk s.length id e oi.op=true:=fun hb=>by
    have:=o0 hok hb;rw[AbR (AbG (gi e u0)),List.length_set]at this;exact this
   have d0':Does cx ops (s.set id b0) oi cv0 e v0 s0:=d0.agree (gi e u0);have d0s:=(AbK hok ok0 ((Agr.set (s:=s) (id:=id) b0).symm) d0').2;refine⟨fun _=>ok0,cv0,v0,s,d0s,h1,f,args,?_,blk,post,h3,h4,⟨u0,b0,h5⟩,fun u b hp=>?_⟩
   .rw [<- AdD (AbG (gj e v0))]; exact h2
   .obtain ⟨_,cv,v,s',d,y⟩:=h6 u b hp
    have d':Does cx ops (s.set id b) oi cv e v s':=d.agree (gi e u);obtain⟨e1,ds⟩:=AbK hok ok0 ((Agr.set (s:=s) (id:=id) b).symm) d';subst e1;have:=A4A hok d0s ds;subst this;exact ChI.congr hK (sw e u v0) y
  | false =>
   rw[mj]at hok x;simp only[cond_false]at hok x |-;obtain⟨o1,cv,v,s1,h1,o2,cu,u,s2,h2,h3⟩:=x;have h2':Does cx ops s1 oi cu e u s2:=h2.agree (gi e v);have h1':∀ {z z'},Does cx ops z oj cv e v z'->Does cx ops z oj cv (put e oi.dst u) v z':=fun hd=>hd.agree (gj e u)
   have h3':=ChI.congr hK (sw e v u) h3;have oi':∀ {n},reader oi.op=true->opOk n id (put e oj.dst v) oi.op=opOk n id e oi.op:=fun _=>AbR (AbG (gi e v))
   have oj':∀ {n},opOk n id e oj.op=opOk n id (put e oi.dst u) oj.op:=AbR (AbG (gj e u));simp only[Bool.or_eq_true,Bool.and_eq_true,together]at hok
   rcases hok with((⟨c1,c2⟩|c1)|c1)|⟨c1,c2⟩
   .have e1:=h1.calm c1
    subst e1;have e2:=h2.calm c2;subst e2;exact⟨fun hr hb=>by rw[<- oi' hr]; exact o2 hr hb,cu,u,_,h2',fun hr hb=>by rw[<- oj']; exact o1 hr hb,cv,v,_,h1' h1,h3'⟩
   .have e1:=h1.calm (AcI c1)
    subst e1;exact⟨fun hr hb=>by rw[<- oi' hr]; exact o2 hr hb,cu,u,_,h2',fun hr hb=>(by rw[c1]at hb; cases hb),cv,v,_,h1' (h1.blind c1),h3'⟩
   .have e2:=h2.calm (AcI c1)
    subst e2;exact⟨fun hr hb=>(by rw[c1]at hb; cases hb),cu,u,_,h2'.blind c1,fun hr hb=>by rw[<- oj']; exact o1 hr hb,cv,v,_,h1' h1,h3'⟩
   .rcases c1 with c1|c1
    rotate_left
    .obtain ⟨rfl,dv⟩:=BiB c1 h1
     have hni:reader oi.op=false:=by
      cases ho:oi.op <;> rw[ho]at c2 <;> simp[AeA]at c2
      rfl
     have hnj:reader oj.op=false:=by
      cases ho:oj.op <;> rw[ho]at c1 <;> simp[isVal]at c1
      rename_i c;simp only[reader]
      split <;> first|rfl|(rename_i hc; simp[hc]at c1)
     exact⟨fun hr=>(by rw[hni]at hr; cases hr),cu,u,_,h2',fun hr=>(by rw[hnj]at hr; cases hr),cv,v,_,h1' (dv _),h3'⟩
    have ok1:=o1 c1;obtain⟨rfl,_⟩:=AbK c1 ok1 (Agr.set (id:=id) .dead) h1;have hni:reader oi.op=false:=by
     cases ho:oi.op <;> rw[ho]at c2 <;> simp[AeA]at c2
     rfl
    rcases A7G c2 h2' with e1|⟨b,e1⟩
    .subst e1
     exact⟨fun hr=>(by rw[hni]at hr; cases hr),cu,u,_,h2',fun hr hb=>by rw[<- oj']; exact ok1 hb,cv,v,_,h1' h1,h3'⟩
    .subst e1
     exact⟨fun hr=>(by rw[hni]at hr; cases hr),cu,u,_,h2',fun hr hb=>by rw[<- oj']; exact BbM (by simp) (ok1 hb),cv,v,_,h1' (AbK c1 ok1 (Agr.push b) h1).2,h3'⟩
theorem ChI.front{opl:List Oper}(hops:ops=opl.toArray)(hK:∀ e e' s,Eqv e e'->K e s->K e' s):∀ (l:List Nat)(i:Nat)(r:List Nat)(e:Env)(s:List Blk),(∀ j∈l,okI opl im j i=true) ->
  ChI cx ops im id K (l++i::r) e s->ChI cx ops im id K (i::(l++r)) e s
 | [],_,_,_,_,_,x=>x
 | j::l,i,r,e,s,h,x=>by
  refine ChI.swap hops hK (h j (by simp)) ?_;have ih:=fun e s=>ChI.front hops hK l i r e s fun k hk=>h k (by simp[hk])
  simp only[List.cons_append,ChI]at x |-
  split at x
  .exact x.elim
  .rename_i o ho
   cases hm:im.contains j with
   | true =>
    rw[hm]at x;exact Imp.agree (fun _ _=>rfl) (fun r' s' z=>ih _ _ z) x
   | false =>
    rw[hm]at x;obtain⟨h1,cv,v,s',h2,h3⟩:=x;exact⟨h1,cv,v,s',h2,ih _ _ h3⟩
end
section
variable {c:Cx}{k:List It}{e:Env}{s:List Blk}
theorem AkM{ops:List Oper}{okp:Nat->Nat->Bool}(Ch:List Nat->Env->List Blk->Prop)(hok:AiH okp ops=true)(hnil:∀ e s,Ch [] e s->AWp c k e s)
  (hfr:∀ l i r e s,(∀ j∈l,okp j i=true)->Ch (l++i::r) e s->Ch (i::(l++r)) e s)
  (hst:∀ i o r e s a w (Kc:Act->World->Prop),ops[i]? = some o->Ch (i::r) e s->Sim c e s a w->(∀ e' s' a w,Ch r e' s'->Sim c e' s' a w->Kc a w) ->
   if Region.wanted o (yielded ops.toArray a.tmps) then o.wp c.P a w Kc (WQ c k) else Kc (a.put o.dst undef) w):∀ (fuel:Nat) (listed:Array Bool) (l:List Nat) (e:Env) (s:List Blk) (a:Act) (w:World),listed.size=ops.length ->
  l=(List.range ops.length).filter (fun i=>!listed.getD i true)->l.length=fuel->(∀ i,listed.getD i true=true->∀ j∈AdN ops i,listed.getD j true=true) ->
  Ch l e s->Sim c e s a w->wpAny c.P .any ops.toArray (WQ c k) fuel listed a w :=
 fun fuel listed l e s a w hsz hl hlen hcl hch hsim =>
  AkL (fun l a w=>∃ e s,Ch l e s/\Sim c e s a w) hok (fun a w ⟨e,s,h1,h2⟩=>hnil e s h1 a w h2) (fun l i r a w hj ⟨e,s,h1,h2⟩=>⟨e,s,hfr l i r e s hj h1,h2⟩)
   (fun i o r a w Kc ho ⟨e,s,h1,h2⟩ hK=>hst i o r e s a w Kc ho h1 h2 fun e' s' a w h3 h4=>hK a w ⟨e',s',h3,h4⟩) fuel listed l a w hsz hl hlen hcl ⟨e,s,hch,hsim⟩
theorem BiC{ops:List Oper}{im:List Nat}{id:Nat}(hdst:∀ o∈ops,dOk c.fn.ntmps o.dst=true)(i:Nat)(o:Oper)(r:List Nat)(e:Env)(s:List Blk)(a:Act)(w:World)(Kc:Act->World->Prop)(ho:ops[i]? = some o)
  (x:ChI c ops.toArray im id (fun e s=>AWp c k e s) (i::r) e s) (hs:Sim c e s a w) (hK:∀ e' s' a w,ChI c ops.toArray im id (fun e s=>AWp c k e s) r e' s'->Sim c e' s' a w->Kc a w) :
  if Region.wanted o (yielded ops.toArray a.tmps) then o.wp c.P a w Kc (WQ c k) else Kc (a.put o.dst undef) w:=by
 have ho':ops.toArray[i]? = some o:=by simpa using ho
 have hd:=hdst o (List.mem_of_getElem? ho);simp only[ChI,ho']at x
 cases hm:im.contains i with
 | false =>
  rw[hm]at x;obtain⟨_,cv,v,s',h2,h3⟩:=x;exact AnR hs hd h2 fun a w hs'=>hK _ _ a w h3 hs'
 | true =>
  rw[hm]at x;obtain⟨hg,f,args,hx,blk,post,h3,h4,_,h6⟩:=x;rw[if_pos (by simp[Region.wanted,hg])];obtain⟨hh,ρ,hmm,hl,he,hdf,hsz,hX⟩:=hs;have hsnd:=AeY (P:=c.P) (wr:=false) (frz:=true) (o:=o) hmm he;rw[hx]at hsnd;obtain⟨vs,hv,hr⟩:=hsnd;unfold Oper.wp;rw[hr h4.1];refine(h4.2 hh ρ s w vs h3 hmm hl hv).mono ?_;rintro en w' ⟨u,r',b,h',ρ',rfl,hp,hm',hlt,rv⟩;have he':EnvOk h' ρ' (s.set id b) e a:=fun t=>(he t).mono hlt.hle hlt.keep
  exact hK _ _ _ _ (h6 r' b hp) ⟨h',ρ',hm',hl.trans hlt,he'.put (by rw[hsz]; exact hd) rv,by rw[AaE]; exact hdf,by rw[AaP]; exact hsz,c.hx.later hmm hlt hX⟩
def rix(all r:List Oper):Nat:=all.length-r.length
def dck(b:Bool)(n id:Nat)(e:Env)(op:Op):Prop:=bif b then opOk n id e op=true else True
mutual
def dxi(c:Cx)(all:List Oper)(im:List Nat)(id:Nat)(k:List It):Nat->List Oper->List AV->Env->List Blk->Prop
 | _,[],_,e,s=>AWp c k e s
 | 0,_::_,_,_,_=>False
 | n+1,o::r,cs,e,s=>bif im.contains (rix all (o::r)) then
   (match o.guard,xop false true c.P e s o.op with
    | none,.call f args=>BbK c f args id s (fun v s'=>dxi c all im id k n r cs (put e o.dst v) s')
    | _,_=>False)
  else dck (reader o.op&&!blind o.op) s.length id e o.op/\dxic c all im id k n (dgrd c all s o r cs e o.guard)
def dxic(c:Cx)(all:List Oper)(im:List Nat)(id:Nat)(k:List It):Nat->Dn->Prop
 | n,.go r cs e s=>dxi c all im id k n r cs e s
 | n,.two b r cs e r' cs' e' s=>dbri c all im id k n b r cs e r' cs' e' s
 | n,.side p r cs e s=>p/\dxi c all im id k n r cs e s
 | _,.fail=>False
def dbri(c:Cx)(all:List Oper)(im:List Nat)(id:Nat)(k:List It):Nat->Bool->List Oper->List AV->Env->List Oper->List AV->Env->List Blk->Prop
 | 0,_,_,_,_,_,_,_,_=>False
 | n+1,b,r,cs,e,r',cs',e',s=>(b=true->dxi c all im id k n r cs e s)/\(b=false->dxi c all im id k n r' cs' e' s)
end
theorem BbO{all:List Oper}{im:List Nat}{id n:Nat} {r cs e r' cs' e' s}:dbri c all im id k (n+1) true r cs e r' cs' e' s=dxi c all im id k n r cs e s:=by rw[dbri]; simp
theorem A7H{all:List Oper}{im:List Nat}{id n:Nat} {r cs e r' cs' e' s}:dbri c all im id k (n+1) false r cs e r' cs' e' s=dxi c all im id k n r' cs' e' s:=by rw[dbri]; simp
theorem BmD{all:List Oper}{im:List Nat}{id n:Nat}{o:Oper}{r:List Oper}{cs:List AV}(hm:im.contains (rix all (o::r))=false)(hg:o.guard=none)(h:dxi c all im id k n (o::r) cs e s) :
  dck (reader o.op&&!blind o.op) s.length id e o.op/\∃ cv v n' cs' s',DoesOp c s o cv e v s'/\dxi c all im id k n' r cs' (put e o.dst v) s':=by
 cases n with
 | zero=>rw[dxi]at h; exact h.elim
 | succ n =>
  rw[dxi,hm]at h;simp only[cond_false]at h;refine⟨h.1,?_⟩
  replace h:=h.2
  rw[hg]at h;unfold dgrd at h;unfold DoesOp
  revert h
  cases xop false true c.P e s o.op with
  | ok u=>intro h; simp only[dres,dxic]at h; exact⟨.any,u,n,cs,s,⟨rfl,rfl⟩,h⟩
  | side p u=>intro h; simp only[dres,dxic]at h; exact⟨.any,u,n,cs,s,⟨h.1,rfl,rfl⟩,h.2⟩
  | sto p u s'=>intro h; simp only[dres,dxic]at h; exact⟨.any,u,n,cs,s',⟨h.1.1,h.1.2,rfl,rfl⟩,h.2⟩
  | pick b x y =>
   intro h; simp only[dres,dxic]at h
   cases n with
   | zero=>rw[dbri]at h; exact h.elim
   | succ n =>
   rw[dbri]at h;refine⟨.any,_,n,cs,s,⟨rfl,rfl⟩,?_⟩
   cases b with
   | true=>exact h.1 rfl
   | false=>exact h.2 rfl
  | call f args =>
   intro h; simp only[dres]at h
   cases cs with
   | nil=>simp only[dcall,dxic]at h
   | cons cv cs=>simp only[dcall,dxic]at h; exact⟨cv,cv,n,cs,s,⟨h.1.1,h.1.2,rfl,rfl⟩,h.2⟩
  | anyb p=>intro h; simp only[dres,dxic]at h
  | stuck=>intro h; simp only[dres,dxic]at h
theorem BiD{all:List Oper}{im:List Nat}{id n:Nat}{o:Oper}{r:List Oper}{cs:List AV}(hm:im.contains (rix all (o::r))=false)(h:dxi c all im id k n (o::r) cs e s) :
  dck (reader o.op&&!blind o.op) s.length id e o.op/\∃ cv v n' cs' s',Does c all.toArray s o cv e v s'/\dxi c all im id k n' r cs' (put e o.dst v) s':=by
 cases hg:o.guard with
 | none =>
  obtain⟨h0,cv,v,n',cs',s',h1,h2⟩:=BmD hm hg h;exact⟨h0,cv,v,n',cs',s',by unfold Does; rw[hg]; exact h1,h2⟩
 | some jw =>
  obtain⟨j,want⟩:=jw
  cases n with
  | zero=>rw[dxi]at h; exact h.elim
  | succ n =>
   rw[dxi,hm]at h;simp only[cond_false]at h;refine⟨h.1,?_⟩
   replace h:=h.2
   rw[hg]at h;unfold dgrd dyld at h
   cases hy:yldD want e all[j]? with
   | none=>simp only[hy,dxic]at h
   | some b =>
    simp only[hy]at h;have key:(b=want->∃ n',dxi c all im id k n' ({ o with guard:=none }::r) cs e s)/\(b≠want->∃ n',dxi c all im id k n' r cs (put e o.dst (.raw undef)) s):=by
     cases n with
     | zero=>cases want <;> simp only[cond_true,cond_false,dxic,dbri]at h
     | succ n =>
      cases want <;> simp only[cond_true,cond_false,dxic,dbri]at h <;> cases b <;>
       first
       | exact⟨fun _=>⟨n,h.1 rfl⟩,fun hh=>(hh rfl).elim⟩
       | exact⟨fun _=>⟨n,h.2 rfl⟩,fun hh=>(hh rfl).elim⟩
       | exact⟨fun hh=>(by cases hh),fun _=>⟨n,h.1 rfl⟩⟩
       | exact⟨fun hh=>(by cases hh),fun _=>⟨n,h.2 rfl⟩⟩
    have hy':yldD want e all.toArray[j]? = some b:=by simpa using hy
    by_cases hb:b=want
    .obtain ⟨n1,h1⟩:=key.1 hb
     obtain⟨_,cv,v,n',cs',s',h1,h2⟩:=BmD (o:={ o with guard:=none }) (by exact hm) rfl h1;refine⟨cv,v,n',cs',s',?_,h2⟩;unfold Does;rw[hg];simp only[hy'];exact .inl ⟨hb,h1⟩
    .obtain ⟨n1,h1⟩:=key.2 hb
     refine⟨.any,.raw undef,n1,cs,s,?_,h1⟩;unfold Does;rw[hg];simp only[hy'];exact .inr ⟨hb,trivial,trivial⟩
theorem AkN{all:List Oper}{im:List Nat}{id:Nat}:∀ {r:List Oper}{m n:Nat}{cs:List AV}{e:Env}{s:List Blk},(∀ (j:Nat),r[j]? = all[m+j]?)->all.length=m+r.length->dxi c all im id k n r cs e s->ChI c all.toArray im id (fun e s=>AWp c k e s) (List.range' m r.length) e s
 | [],m,n,cs,e,s,_,_,h=>by
  rw[dxi]at h;exact h
 | o::r,m,n,cs,e,s,hr,hlen,h=>by
  have h0:all.toArray[m]? = some o:=by have:=hr 0; simpa using this.symm
  have hix:rix all (o::r)=m:=by unfold rix; omega
  have hr':∀ j,r[j]? = all[m+1+j]?:=fun j=>by have:=hr (j+1); simpa[Nat.add_assoc,Nat.add_comm 1 j]using this
  simp only[List.length_cons,List.range'_succ,ChI,h0]
  cases hm:im.contains m with
  | true =>
   simp only[cond_true]
   cases n with
   | zero=>rw[dxi]at h; exact h.elim
   | succ n =>
    rw[dxi,hix,hm]at h;simp only[cond_true]at h
    split at h
    .rename_i f args hg hx
     obtain⟨blk,post,h3,h4,h5,h6⟩:=h;exact⟨hg,f,args,hx,blk,post,h3,h4,h5,fun u b hp=>AkN hr' (by simp at hlen; omega) (h6 u b hp)⟩
    .exact h.elim
  | false =>
   simp only[cond_false];obtain⟨hd,cv,v,n',cs',s',h1,h2⟩:=BiD (by rw[hix]; exact hm) h;refine⟨fun hr hb=>?_,cv,v,s',h1,AkN hr' (by simp at hlen; omega) h2⟩;unfold dck at hd
   simpa[hr,hb]using hd
theorem AnV(im:List Nat)(bid:Nat)(cs:List AV){id:Nat}{ops:List Oper}(hm:c.P.follows .mixedOrders=true)(hok:AiH (okI ops im) ops=true){N:Nat}(hN:c.fn.ntmps=N)(hdst:ops.all (fun o=>dOk N o.dst)=true)(n:Nat)
  (h:dxi c ops im bid k n ops cs e s):AWp c (.code (.region id ops.toArray true)::k) e s:=by
 intro a w hsim;have hch:=AkN (m:=0) (by intro j; simp) (by simp) h;rw[<- List.range_eq_range']at hch;refine wp_region_any hm ?_;have hsim':Sim c e s a { w with drawn:=w.drawn+1 }:=by
  obtain⟨hh,ρ,hmm,hl,he,hdf,hsz,hX⟩:=hsim;have sm:Same w { w with drawn:=w.drawn+1 }:=Same.drew w;exact⟨hh,ρ,hmm.same sm,hl.trans (Later.same sm),he,hdf,hsz,c.hx.later hmm (Later.same sm) hX⟩
 have hd:∀ o∈ops,dOk c.fn.ntmps o.dst=true:=fun o ho=>by rw[hN]; exact(List.all_eq_true.1 hdst) o ho
 refine AkM (okp:=okI ops im) (ChI c ops.toArray im bid (fun e s=>AWp c k e s)) hok (fun e s x=>x) (fun l i r e s hj x=>ChI.front rfl AWp.K l i r e s hj x) (fun i o r e s a w Kc ho x hs hK=>BiC hd i o r e s a w Kc ho x hs hK)
  ops.length (Array.replicate ops.length false) (List.range ops.length) e s a _ (by simp) ?_ (by simp) ?_ hch hsim'
 .symm
  rw[List.filter_eq_self];intro i hi
  simp at hi
  simp[hi]
 .intro i hi j hj
  exfalso
  by_cases h1:i<ops.length
  .simp [h1]at hi
  .unfold AdN at hj
   have:ops[i]? = none:=by simp; omega
   simp[this]at hj
theorem BbP{f:FuncId}{es:Nat}{agg:AV}{args:List AV}{post:AV->AV->Prop}{K:AV->List Blk->Prop}(hc:Mc c.P f es agg args post)(ha:args.all nr1=true)(hg:nr1 agg=true){id:Nat}(hid:s[id]? = some (.arr es [agg]))
  (hin:∃ r agg',post r agg') (hk:∀ r agg',post r agg'->K r (s.set id (.arr es [agg']))):BbK c f (.ptr id 1 0 0::args) id s K:=by
 refine⟨_,fun r b=>∃ agg',b=.arr es [agg']/\post r agg',hid,⟨hc.1,fun h ρ s w vs hs m l r=>?_⟩,?_,?_⟩
 .refine ((hc.ct ha hg hs).2 h ρ w vs m r).mono ?_
  rintro en w' ⟨v,r,s',h',ρ',rfl,⟨agg',hp,_,rfl⟩,m',l',rv⟩;exact⟨v,r,_,h',ρ',rfl,⟨agg',rfl,hp⟩,m',l',rv⟩
 .obtain ⟨r,agg',hp⟩:=hin
  exact⟨r,_,agg',rfl,hp⟩
 .rintro r b ⟨agg',rfl,hp⟩
  exact hk r agg' hp
end
end Go.Av
namespace Go.Av
open Go Go.RowKit
variable [Tr]
section
variable {cx:Cx}{ops:Array Oper}{K:Env->List Blk->Prop}{ids:List (Nat×Nat)}
end
section
variable {c:Cx}{k:List It}{e:Env}{s:List Blk}
mutual
def dxg(c:Cx)(all:List Oper)(ck:Nat->Env->List Blk->Oper->Prop)(k:List It):Nat->List Oper->List AV->Env->List Blk->Prop
 | _,[],_,e,s=>AWp c k e s
 | 0,_::_,_,_,_=>False
 | n+1,o::r,cs,e,s=>ck (rix all (o::r)) e s o/\dxgc c all ck k n (dgrd c all s o r cs e o.guard)
def dxgc(c:Cx)(all:List Oper)(ck:Nat->Env->List Blk->Oper->Prop)(k:List It):Nat->Dn->Prop
 | n,.go r cs e s=>dxg c all ck k n r cs e s
 | n,.two b r cs e r' cs' e' s=>dbrg c all ck k n b r cs e r' cs' e' s
 | n,.side p r cs e s=>p/\dxg c all ck k n r cs e s
 | _,.fail=>False
def dbrg(c:Cx)(all:List Oper)(ck:Nat->Env->List Blk->Oper->Prop)(k:List It):Nat->Bool->List Oper->List AV->Env->List Oper->List AV->Env->List Blk->Prop
 | 0,_,_,_,_,_,_,_,_=>False
 | n+1,b,r,cs,e,r',cs',e',s=>(b=true->dxg c all ck k n r cs e s)/\(b=false->dxg c all ck k n r' cs' e' s)
end
theorem BbQ{all:List Oper}{ck:Nat->Env->List Blk->Oper->Prop}{n:Nat} {r cs e r' cs' e' s}:dbrg c all ck k (n+1) true r cs e r' cs' e' s=dxg c all ck k n r cs e s:=by rw[dbrg]; simp
theorem A7I{all:List Oper}{ck:Nat->Env->List Blk->Oper->Prop}{n:Nat} {r cs e r' cs' e' s}:dbrg c all ck k (n+1) false r cs e r' cs' e' s=dxg c all ck k n r' cs' e' s:=by rw[dbrg]; simp
end
