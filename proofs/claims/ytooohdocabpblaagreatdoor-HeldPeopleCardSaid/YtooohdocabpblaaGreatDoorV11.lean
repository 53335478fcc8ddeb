/- Statements whose order is open and in which calls change a block of one's own. -/
import Derived.Test.YtooohdocabpblaaGreatDoorV10
set_option linter.all false
namespace Go.Av
open RowKit
variable [Tr]
def refOk(n id:Nat):AV->Bool
 | .sl i _ _ _=>decide (i<n)&&!(i==id)
 | .ptr i _ _ _=>decide (i<n)&&!(i==id)
 | .mp i=>decide (i<n)&&!(i==id)
 | _=>true
def opOk(n id:Nat)(e:Env)(op:Op):Bool:=op.operands.toList.all fun x=>refOk n id (ev e x)
def reader:Op->Bool
 | .call c=>match c.callee with
  | .builtin .len|.builtin .max|.builtin .min=>true
  | _=>false
 | .makeFunc ..|.convert ..|.entry _=>false
 | .slice _ _ _ _ (some _)=>false
 | op=>calm op
def AcN:Op->Bool
 | .alloc _=>true
 | _=>false
def isVal:Op->Bool
 | .call c=>match c.callee with
  | .value _=>true
  | _=>false
 | _=>false
theorem AwG{P:Program}{e:Env}{s s':LB}{op:Op}(h:isVal op=true):xop false true P e s op=xop false true P e s' op:=by
 cases op with
 | call c =>
  grind[xop,isVal]
 | _=>grind[isVal]
def Agr(n id:Nat)(s s':LB):Prop:=∀ i,i<n->i≠id->s.getD i .dead=s'.getD i .dead
theorem Agr.set{s:LB}{id:Nat}(b:Blk):Agr s.length id s (s.set id b):=fun i hi hne=>by
 grind
theorem Agr.symm{n id:Nat}{s s':LB}(a:Agr n id s s'):Agr n id s' s:=fun i h1 h2=>(a i h1 h2).symm
theorem Agr.push{s:LB}{id:Nat}(b:Blk):Agr s.length id s (s++[b]):=fun i hi hne=>by
 grind
theorem AhI{n id i off len cap:Nat}(h:refOk n id (.sl i off len cap)=true):i<n/\i≠id:=by grind[refOk]
theorem AiW{n id i m j off:Nat}(h:refOk n id (.ptr i m j off)=true):i<n/\i≠id:=by grind[refOk]
theorem AhJ{n id i:Nat}(h:refOk n id (.mp i)=true):i<n/\i≠id:=by grind[refOk]
section
variable {n id:Nat}{s s':LB}(ha:Agr n id s s')
include ha
theorem AwH{d:Option TypeDesc}{sz:Nat}{y:AV}(h:refOk n id y=true):xload d sz s y=xload d sz s' y:=by
 cases y <;> try rfl
 obtain⟨h1,h2⟩:=AiW h;simp only[xload,ha _ h1 h2]
theorem ArU{p:Prop}{m:Nat}{y:AV}(h:refOk n id y=true):xptrAddIf p s y m=xptrAddIf p s' y m:=by
 cases y <;> try rfl
 obtain⟨h1,h2⟩:=AiW h;simp only[xptrAddIf,ha _ h1 h2]
theorem AjQ{d:Option TypeDesc}{sz:Nat}{x i:AV}(h:refOk n id x=true):AaV d sz s x i=AaV d sz s' x i:=by
 unfold AaV
 split
 .grind[ArU]
 .cases x <;> try rfl
  obtain⟨h1,h2⟩:=AhI h;simp only[ha _ h1 h2]
 .rfl
theorem AzO{d:Option TypeDesc}{x:AV}(h:refOk n id x=true):xlen s x d=xlen s' x d:=by
 unfold xlen
 split <;> first|rfl|skip
 .obtain ⟨h1,h2⟩:=AhI h
  rw[ha _ h1 h2]
 .obtain ⟨h1,h2⟩:=AhJ h
  rw[ha _ h1 h2]
theorem AzP{x:AV}(h:refOk n id x=true):xnil s x=xnil s' x:=by
 cases x <;> try rfl
 obtain⟨h1,h2⟩:=AiW h;simp only[xnil,ha _ h1 h2]
theorem AwI{P:Program}{x k:AV}{b:Bool}{d:Option TypeDesc}(h:refOk n id x=true):AjO P s x k b d=AjO P s' x k b d:=by
 unfold AjO
 split
 .split
  .obtain ⟨h1,h2⟩:=AhJ h
   rw[ha _ h1 h2]
  .obtain ⟨h1,h2⟩:=AhJ h
   rw[ha _ h1 h2]
  .rfl
 .rfl
theorem AzQ{P:Program}{x:AV}{lo hi:Option AV}{d:Option TypeDesc}(h:refOk n id x=true):xcut P s x lo hi none d=xcut P s' x lo hi none d:=by
 unfold xcut
 split
 .rfl
 .split <;> first|rfl|skip
  obtain⟨h1,h2⟩:=AhI h;rw[ha _ h1 h2]
 .rename_i h0; cases h0
 .rfl
 .rfl
theorem AkL{b:Bool}{x:AV}(h:refOk n id x=true):AdL s b x=AdL s' b x:=by
 unfold AdL
 split <;> first|rfl|skip
 obtain⟨h1,h2⟩:=AhI h;rw[ha _ h1 h2]
theorem AiX{b:Bool}{x:AV}(h:refOk n id x=true):AcC s b x=AcC s' b x:=by
 unfold AcC
 split <;> first|rfl|skip
 obtain⟨h1,h2⟩:=AhJ h;rw[ha _ h1 h2]
theorem AwJ{P:Program}{t:TypeId}{wr:Bool}{op:BinOp}{x y:AV}(h:refOk n id x=true):AgZ P t wr s op x y=AgZ P t wr s' op x y:=by
 have h2:∀ d,AhU wr s d op x y=AhU wr s' d op x y:=fun d=>by
  unfold AhU
  split
  .split
   .exact AkL ha h
   .exact AkL ha h
   .rfl
  .split
   .exact AiX ha h
   .exact AiX ha h
   .rfl
  .rfl
 unfold AgZ
 split
 .rfl
 .exact h2 _
theorem xop_reader{P:Program}{e:Env}{op:Op}(hr:reader op=true)(ho:opOk n id e op=true):xop false true P e s op=xop false true P e s' op:=by
 have hx:∀ x∈op.operands.toList,refOk n id (ev e x)=true:=List.all_eq_true.1 ho
 cases op <;> first|rfl|(exfalso; revert hr; simp[reader,calm]; done)|skip
 case binOp op t x y yt=>exact AwJ ha (hx x (by simp[Op.operands]))
 case load t x=>exact AwH ha (hx x (by simp[Op.operands]))
 case fieldAddr t x f =>
  simp only[xop];unfold AbH
  split
  .exact ArU ha (hx x (by simp[Op.operands]))
  .rfl
 case indexAddr t x i=>exact AjQ ha (hx x (by simp[Op.operands]))
 case nilCheck x=>exact AzP ha (hx x (by simp[Op.operands]))
 case lookup t m k b=>exact AwI ha (hx m (by simp[Op.operands]))
 case slice t x lo hi mx =>
  cases mx with
  | some y=>simp[reader]at hr
  | none=>exact AzQ ha (hx x (by simp[Op.operands]))
 case unOp op t x=>cases op <;> rfl
 case call cl =>
  simp only[xop]
  split <;> try rfl
  .rename_i hc
   unfold AlF
   split
   .rename_i x r t r' h1 h2
    exact AzO ha (hx x (by simp[Op.operands,Call.operands,h1]))
   .rfl
  all_goals(rename_i hc; simp[reader,hc]at hr)
end
def McC(c:Cx)(f:FuncId)(args:LA)(id:Nat)(blk:Blk)(post:AV->Blk->Prop):Prop :=
 AaD c.P f=true/\∀ h ρ s w vs,s[id]? = some blk->Mine h ρ s w->Later c.h c.ρ c.sto c.w h ρ s w->RL h (Lf ρ s) false vs args->Calls c.P f vs.toArray w fun en w' =>
  ∃ v r b h' ρ',en=.returned v/\post r b/\Mine h' ρ' (s.set id b) w'/\Later h ρ s w h' ρ' (s.set id b) w'/\RV h' (Lf ρ' (s.set id b)) false v r
def AzR(c:Cx)(f:FuncId)(args:LA)(id:Nat)(s:LB)(K:AV->LB->Prop):Prop :=
 ∃ blk post,s[id]? = some blk/\McC c f args id blk post/\(∃ r b,post r b)/\∀ r b,post r b->K r (s.set id b)
def Imp(c:Cx)(id:Nat)(o:Oper)(e:Env)(s:LB)(K:AV->LB->Prop):Prop :=
 o.guard=none/\∃ f args,xop false true c.P e s o.op=.call f args/\AzR c f args id s K
def ChI(c:Cx)(ops:Array Oper)(im:List Nat)(id:Nat)(K:Env->LB->Prop):List Nat->Env->LB->Prop
 | [],e,s=>K e s
 | i::r,e,s=>match ops[i]? with
  | none=>False
  | some o=>bif im.contains i then Imp c id o e s (fun v s'=>ChI c ops im id K r (put e o.dst v) s')
   else(reader o.op=true->blind o.op=false->opOk s.length id e o.op=true)/\∃ cv v s',Does c ops s o cv e v s'/\ChI c ops im id K r (put e o.dst v) s'
def okI(ops:List Oper)(im:List Nat)(j i:Nat):Bool:=match ops[j]?,ops[i]? with
 | some oj,some oi=>oj.apart ops.toArray oi&&(bif im.contains i then !im.contains j&&reader oj.op else bif im.contains j then reader oi.op||(AcN oi.op&&isVal oj.op) else together oj oi||((reader oj.op||isVal oj.op)&&AcN oi.op))
 | _,_=>false
section
variable {cx:Cx}{ops:Array Oper}{s:LB}{K:Env->LB->Prop}{im:List Nat}{id:Nat}
theorem reader_calm{op:Op}(hr:reader op=true):calm op=true:=by
 cases op <;> first|rfl|grind[reader]|skip
 case slice t x lo hi mx =>
  cases mx<;>grind[reader]
 grind[reader,calm]
theorem AlT{n:Nat}{s s' s1:LB}{o:Oper}{cv v:AV}{e:Env}(hr:reader o.op=true)(ho:opOk n id e o.op=true)(ha:Agr n id s s')(h:DoesOp cx s o cv e v s1):s1=s/\DoesOp cx s' o cv e v s':=by
 grind[xop_reader,reader_calm,DoesOp]
theorem AaH{n:Nat}{s s' s1:LB}{o:Oper}{cv v:AV}{e:Env}(hr:reader o.op=true)(ho:blind o.op=false->opOk n id e o.op=true)(ha:Agr n id s s')(h:Does cx ops s o cv e v s1):s1=s/\Does cx ops s' o cv e v s':=by
 cases hb:blind o.op with
 | true =>
  have:=h.calm (blind_calm hb);exact⟨this,h.blind hb⟩
 | false =>
 grind[Does,AlT]
def Res.isCall:Res->Bool
 | .call ..=>true
 | _=>false
theorem A4D{op:BinOp}{k:IntKind}{a b:Int}:(xint false op k a b).isCall=false:=by cases op <;> rfl
theorem A4E{d:Option TypeDesc}{op:BinOp}{x y:AV}:(xbin false d op x y).isCall=false:=by
 unfold xbin
 split
 .split
  .exact A4D
  .rfl
 .cases op <;> rfl
 .unfold AtA; split <;> rfl
 .rfl
theorem AzS{P:Program}{t:TypeId}{op:BinOp}{x y:AV}:(AgZ P t false s op x y).isCall=false:=by
 unfold AgZ
 split
 .split
  .unfold xeqs
   split
   .split <;> (unfold AlE; split <;> first|rfl|(split <;> rfl))
   .rfl
  .rfl
 .unfold AhU
  split
  .split
   .unfold AdL; split <;> first|rfl|(split <;> rfl)
   .unfold AdL; split <;> first|rfl|(split <;> rfl)
   .rfl
  .split
   .unfold AcC; split <;> first|rfl|(split <;> rfl)
   .unfold AcC; split <;> first|rfl|(split <;> rfl)
   .rfl
  .exact A4E
theorem AwK{p:Prop}{x:AV}{n:Nat}:(xptrAddIf p s x n).isCall=false:=by
 unfold xptrAddIf
 split <;> first|rfl|(split <;> rfl)
theorem AtU{P:Program}{e:Env}{op:Op}(hr:reader op=true):(xop false true P e s op).isCall=false:=by
 cases op <;> first|rfl|(exfalso; revert hr; simp[reader,calm]; done)|skip
 case binOp op t x y yt=>exact AzS
 case unOp op t x =>
  cases op <;> first|rfl|skip
  .simp only [xop]; unfold xneg; split <;> rfl
  .simp only [xop]; unfold xnot; split <;> rfl
 case pick cc x y=>simp only[xop]; unfold xpick; split <;> rfl
 case extract x i=>simp only[xop]; unfold xextract; split <;> rfl
 case index t x i=>simp only[xop]; unfold AhV; split <;> rfl
 case field t x f =>
  simp only[xop]; unfold AeU
  split
  .split <;> rfl
  .rfl
 case fieldAddr t x f =>
  simp only[xop]; unfold AbH
  split
  .exact AwK
  .rfl
 case indexAddr t x i =>
  simp only[xop]; unfold AaV
  split
  .exact AwK
  .split <;> first|rfl|(split <;> rfl)
  .rfl
 case load t x =>
  simp only[xop]; unfold xload
  split <;> first|rfl|(split <;> rfl)
 case build t parts =>
  simp only[xop]; unfold AgS
  split <;> first|rfl|(split <;> rfl)
 case nilCheck x =>
  simp only[xop]; unfold xnil
  split <;> first|rfl|(split <;> rfl)
 case buildSlice t len parts =>
  simp only[xop]; unfold AbE
  split
  .split
   .rfl
   .unfold AbO; split <;> rfl
  .rfl
 case lookup t m k b =>
  simp only[xop]; unfold AjO
  split
  .split
   .rename_i kt _ _ _ _ _
    cases AaB P _ with
    | true =>
     simp only[lai];unfold AkC
     split
     .cases isKeyS _ _ _ with
      | false=>rfl
      | true=>simp only[lai]; split <;> rfl
     .rfl
    | false =>
     simp only[lap];unfold AkE
     split
     .cases isKeyT _ _ _ with
      | false=>rfl
      | true=>simp only[lai]; split <;> rfl
     .rfl
   .unfold AkD
    split
    .cases AdA _ _ with
     | false=>rfl
     | true=>simp only[lai]; unfold AkB; split <;> rfl
    .rfl
   .rfl
  .rfl
 case slice t x lo hi mx =>
  cases mx with
  | some y=>simp[reader]at hr
  | none =>
   simp only[xop,evo]; unfold xcut
   split
   .split
    .unfold AtD; split <;> rfl
    .rfl
   .split
    .unfold AtE; split <;> rfl
    .unfold AtF; split <;> rfl
    .unfold AtG; split <;> rfl
    .rfl
   .rename_i a b; first|(cases a; done)|(cases b; done)
   .unfold AtH; split <;> first|rfl|(split <;> rfl)
   .rfl
 case call cl =>
  simp only[xop]
  split
  .unfold AlF
   split
   .unfold xlen; split <;> first|rfl|(split <;> rfl)
   .rfl
  .rename_i hc; simp[reader,hc]at hr
  .rename_i hc; simp[reader,hc]at hr
  .rename_i hc; simp[reader,hc]at hr
  .rename_i hc; simp[reader,hc]at hr
  .rename_i hc; simp[reader,hc]at hr
  .unfold xmax; split
   .rename_i k a k' b _; cases decide (k=k') <;> rfl
   .rename_i k a k1 b k2 c k3 d _; cases(decide (k=k1)&&(decide (k=k2)&&decide (k=k3))) <;> rfl
   .rfl
   .rfl
  .unfold xmax; split
   .rename_i k a k' b _; cases decide (k=k') <;> rfl
   .rename_i k a k1 b k2 c k3 d _; cases(decide (k=k1)&&(decide (k=k2)&&decide (k=k3))) <;> rfl
   .rfl
   .rfl
  .rename_i hc; simp[reader,hc]at hr
  .rfl
theorem does_det{s s1 s2:LB}{o:Oper}{cv cv2 v v2:AV}{e:Env}(hr:reader o.op=true)(h:Does cx ops s o cv e v s1)(h2:Does cx ops s o cv2 e v2 s2):v=v2:=by
 have key:∀ {s1 s2},DoesOp cx s o cv e v s1->DoesOp cx s o cv2 e v2 s2->v=v2:=by
  intro s1 s2 h h2;unfold DoesOp at h h2;have hn:=AtU (P:=cx.P) (e:=e) (s:=s) hr
  revert h h2 hn
  cases xop false true cx.P e s o.op with
  | ok u=>grind
  | side p u=>grind
  | sto p u s'=>grind
  | pick b x y=>grind
  | call f args=>intro _ _ hn; cases hn
  | anyb p=>grind
  | stuck=>grind
 unfold Does at h h2
 split at h<;>grind
theorem opOk_agree{n:Nat}{e e':Env}{op:Op}(h:∀ x∈op.operands,ev e x=ev e' x):opOk n id e op=opOk n id e' op:=by
 grind[opOk]
theorem AtV{n m:Nat}(h:n<=m){a:AV}(x:refOk n id a=true):refOk m id a=true:=by
 cases a <;> simp only[refOk,lac,lar]at x |- <;> exact⟨by omega,x.2⟩
theorem AwL{n m:Nat}(h:n<=m){e:Env}{op:Op}(x:opOk n id e op=true):opOk m id e op=true:=by
 grind[opOk,AtV]
theorem Imp.agree{o:Oper}{e e':Env}{s:LB}{K K':AV->LB->Prop}(h:∀ x∈o.op.operands,ev e x=ev e' x)(hK:∀ r s,K r s->K' r s)(x:Imp cx id o e s K):Imp cx id o e' s K':=by
 obtain⟨h1,f,args,h2,blk,post,h3,h4,h5,h6⟩:=x;exact⟨h1,f,args,by grind[xop_agree],blk,post,h3,h4,h5,fun r b hp=>hK _ _ (h6 r b hp)⟩
theorem ChI.congr(hK:∀ e e' s,Eqv e e'->K e s->K e' s):∀ {l:List Nat}{e e':Env}{s:LB},Eqv e e'->ChI cx ops im id K l e s->ChI cx ops im id K l e' s
 | [],e,e',s,h,x=>hK e e' s h x
 | i::r,e,e',s,h,x=>by
  unfold ChI at x |-
  split at x
  .exact x.elim
  .cases hi:im.contains i with
   | true =>
    rw[hi]at x;exact Imp.agree (fun y _=>AdG fun t _=>h t) (fun r' s' z=>ChI.congr hK (h.put _ _) z) x
   | false =>
    rw[hi]at x;obtain⟨h1,cv,v,s',h2,h3⟩:=x;exact⟨fun hr hb=>by rw[<- opOk_agree (fun y _=>AdG fun t _=>h t)]; exact h1 hr hb,cv,v,s',h2.agree fun t _=>h t,ChI.congr hK (h.put _ _) h3⟩
theorem AeC{e:Env}{d d':Option Tmp}{v v':AV}(h:∀ t,d=some t->d'≠some t):Eqv (put (put e d v) d' v') (put (put e d' v') d v):=fun t=>by
 grind[get_put]
theorem AtW{s s1:LB}{o:Oper}{cv v:AV}{e:Env}(ha:AcN o.op=true)(h:Does cx ops s o cv e v s1):s1=s\/∃ b,s1=s++[b]:=by
 have key:DoesOp cx s o cv e v s1->s1=s\/∃ b,s1=s++[b]:=by
  intro h
  cases ho:o.op <;> rw[ho]at ha <;> simp[AcN]at ha
  unfold DoesOp at h;simp only[xop]at h;unfold AdN at h
  grind[xnew]
 grind[Does]
theorem AoC{s s1:LB}{o:Oper}{cv v:AV}{e:Env}(ha:AcN o.op=true)(h:Does cx ops s o cv e v s1) :
  ∃ t,s1=s++t/\∀ s2 cv2,s2.length=s.length->Does cx ops s2 o cv2 e v (s2++t):=by
 have key:DoesOp cx s o cv e v s1->∃ t,s1=s++t/\∀ s2 cv2,s2.length=s.length->DoesOp cx s2 o cv2 e v (s2++t):=by
  intro h
  cases ho:o.op <;> rw[ho]at ha <;> simp[AcN]at ha
  rename_i t;unfold DoesOp at h;rw[ho]at h;simp only[xop]at h;unfold AdN at h
  cases hr:isRow (cx.P.underlying t)with
  | true =>
   simp_all[xnew,DoesOp,xop,AdN]
  | false =>
   rw[hr]at h
   split at h<;>grind[xnew,DoesOp,xop,AdN]
 unfold Does at h
 split at h
 .grind[Does]
 .split at h
  .rcases h with⟨hw,h⟩|⟨hw,hv,hs⟩<;>simp_all[Does]
  grind
theorem AwM{s s1 s2:LB}{o:Oper}{cv cv2 v v2:AV}{e:Env}(ha:AcN o.op=true)(h:Does cx ops s o cv e v s1)(h2:Does cx ops s o cv2 e v2 s2):v=v2/\s1=s2:=by
 have key:DoesOp cx s o cv e v s1->DoesOp cx s o cv2 e v2 s2->v=v2/\s1=s2:=by
  intro h h2
  cases ho:o.op <;> rw[ho]at ha <;> simp[AcN]at ha
  rename_i t;unfold DoesOp at h h2;have hn:∀ f args,xop false true cx.P e s (.alloc t)≠.call f args:=by
   simp only[xop];unfold AdN
   grind[xnew]
  cases hx:xop false true cx.P e s (.alloc t)<;>grind
 grind[Does]
theorem AzT{s s1:LB}{o:Oper}{cv v:AV}{e:Env}(ha:isVal o.op=true)(h:Does cx ops s o cv e v s1):s1=s/\∀ s2,Does cx ops s2 o cv e v s2:=by
 have key:DoesOp cx s o cv e v s1->s1=s/\∀ s2,DoesOp cx s2 o cv e v s2:=by
  have hx:∀ s2,xop false true cx.P e s2 o.op=xop false true cx.P e s o.op:=fun s2=>AwG ha
  have hr:∀ p u s',xop false true cx.P e s o.op≠.sto p u s':=by
   cases ho:o.op with
   | call c =>
    cases hc:c.callee with
    | value f =>
     simp only[xop,hc];unfold ApQ
     grind
    | _=>grind[isVal]
   | _=>grind[isVal]
  grind[DoesOp]
 grind[Does]
theorem ChI.swap{opl:List Oper}(hops:ops=opl.toArray)(hK:∀ e e' s,Eqv e e'->K e s->K e' s){i j:Nat}{r:List Nat}(hok:okI opl im j i=true){e:Env}{s:LB}(x:ChI cx ops im id K (j::i::r) e s) :
  ChI cx ops im id K (i::j::r) e s:=by
 unfold okI at hok
 split at hok
 rotate_left
 .grind
 rename_i oj oi hj' hi';have hj:ops[j]? = some oj:=by grind
 have hi:ops[i]? = some oi:=by grind
 simp only[lac]at hok;obtain⟨ha,hok⟩:=hok;obtain⟨a1,a2,a3⟩:=Oper.apart_spec ha;have gi:∀ (e:Env) (v:AV),AdM ops oi (put e oj.dst v) e:=fun e v t ht=>by
  grind[get_put]
 have gj:∀ (e:Env) (v:AV),AdM ops oj e (put e oi.dst v):=fun e v t ht=>by
  grind[get_put]
 have sw:∀ (e:Env) (v u:AV),Eqv (put (put e oj.dst v) oi.dst u) (put (put e oi.dst u) oj.dst v):=fun e v u=>AeC a2
 simp only[ChI,hi,hj]at x |-
 cases mi:im.contains i with
 | true =>
  rw[mi]at hok x;simp only[lai,lac,laz]at hok;obtain⟨mj,rj⟩:=hok;rw[mj]at x |-
  simp at x |-
  obtain⟨o1,cv,v,s',d1,y⟩:=x;obtain⟨rfl,_⟩:=AaH rj (o1 rj) (Agr.set .dead) d1;obtain⟨h1,f,args,h2,blk,post,h3,h4,h5,h6⟩:=y;refine⟨h1,f,args,by grind[xop_agree,AaG],blk,post,h3,h4,h5,fun u b hp=>?_⟩;have hs:=(AaH rj (o1 rj) (Agr.set b) d1).2;refine⟨fun _ hb=>?_,cv,v,_,hs.agree (gj e u),ChI.congr hK (sw e v u) (h6 u b hp)⟩<;>grind[opOk_agree,AaG]
 | false =>
  rw[mi]at hok x;simp only[lap]at hok x |-
  cases mj:im.contains j with
  | true =>
   rw[mj]at hok x;simp only[lai]at hok x |-;obtain⟨h1,f,args,h2,blk,post,h3,h4,⟨u0,b0,h5⟩,h6⟩:=x;obtain⟨o0,cv0,v0,s0,d0,z0⟩:=h6 u0 b0 h5
   simp at hok
   rcases hok with hok|⟨hok,hval⟩
   rotate_left
   .have hni:reader oi.op=false:=by
     cases ho:oi.op <;> rw[ho]at hok <;> simp[AcN]at hok
     rfl
    have hid:=(List.getElem?_eq_some_iff.1 h3).1;obtain⟨t,e1,d1⟩:=AoC hok (d0.agree (gi e u0));have d0s:=d1 s cv0 (by simp);refine⟨fun hr=>(by grind),cv0,v0,s++t,d0s,h1,f,args,?_,blk,post,?_,h4,⟨u0,b0,h5⟩,fun u b hp=>?_⟩
    .rw [<- xop_agree (AaG (gj e v0)),AwG hval]; omega
    .grind
    .obtain ⟨_,cv,v,s',d,y⟩:=h6 u b hp
     obtain⟨t',e2,d2⟩:=AoC hok (d.agree (gi e u));obtain⟨e3,e4⟩:=AwM hok (d2 s cv (by simp)) d0s
     grind[ChI.congr]
   have ok0:blind oi.op=false->opOk s.length id e oi.op=true:=fun hb=>by
    grind[opOk_agree,AaG]
   have d0':Does cx ops (s.set id b0) oi cv0 e v0 s0:=d0.agree (gi e u0);have d0s:=(AaH hok ok0 ((Agr.set b0).symm) d0').2;refine⟨fun _=>ok0,cv0,v0,s,d0s,h1,f,args,?_,blk,post,h3,h4,⟨u0,b0,h5⟩,fun u b hp=>?_⟩
   .grind[xop_agree,AaG]
   .obtain ⟨_,cv,v,s',d,y⟩:=h6 u b hp
    have d':Does cx ops (s.set id b) oi cv e v s':=d.agree (gi e u);obtain⟨e1,ds⟩:=AaH hok ok0 ((Agr.set b).symm) d'
    grind[does_det,ChI.congr]
  | false =>
   rw[mj]at hok x
   simp at hok x |-
   obtain⟨o1,cv,v,s1,h1,o2,cu,u,s2,h2,h3⟩:=x;have h2':Does cx ops s1 oi cu e u s2:=h2.agree (gi e v);have h1':∀ {z z'},Does cx ops z oj cv e v z'->Does cx ops z oj cv (put e oi.dst u) v z':=fun hd=>hd.agree (gj e u)
   have h3':=ChI.congr hK (sw e v u) h3;have oi':∀ {n},reader oi.op=true->opOk n id (put e oj.dst v) oi.op=opOk n id e oi.op:=fun _=>opOk_agree (AaG (gi e v))
   have oj':∀ {n},opOk n id e oj.op=opOk n id (put e oi.dst u) oj.op:=opOk_agree (AaG (gj e u));simp only[Bool.or_eq_true,lac,together]at hok
   rcases hok with((⟨c1,c2⟩|c1)|c1)|⟨c1,c2⟩
   .have e1:=h1.calm c1
    subst e1;have e2:=h2.calm c2
    grind
   .have e1:=h1.calm (blind_calm c1)
    subst e1;exact⟨fun hr hb=>by grind,cu,u,_,h2',fun hr hb=>(by grind),cv,v,_,h1' (h1.blind c1),h3'⟩
   .have e2:=h2.calm (blind_calm c1)
    subst e2;exact⟨fun hr hb=>(by grind),cu,u,_,h2'.blind c1,fun hr hb=>by grind,cv,v,_,h1' h1,h3'⟩
   .rcases c1 with c1|c1
    rotate_left
    .obtain ⟨rfl,dv⟩:=AzT c1 h1
     have hni:reader oi.op=false:=by
      cases ho:oi.op <;> rw[ho]at c2 <;> simp[AcN]at c2
      rfl
     have hnj:reader oj.op=false:=by
      cases ho:oj.op <;> rw[ho]at c1 <;> simp[isVal]at c1
      grind[reader]
     exact⟨fun hr=>(by grind),cu,u,_,h2',fun hr=>(by grind),cv,v,_,h1' (dv _),h3'⟩
    have ok1:=o1 c1;obtain⟨rfl,_⟩:=AaH c1 ok1 (Agr.set .dead) h1;have hni:reader oi.op=false:=by
     cases ho:oi.op <;> rw[ho]at c2 <;> simp[AcN]at c2
     rfl
    rcases AtW c2 h2' with e1|⟨b,e1⟩
    .grind
    .subst e1
     exact⟨fun hr=>(by grind),cu,u,_,h2',fun hr hb=>by rw[<- oj']; exact AwL (by simp) (ok1 hb),cv,v,_,h1' (AaH c1 ok1 (Agr.push b) h1).2,h3'⟩
theorem ChI.front{opl:List Oper}(hops:ops=opl.toArray)(hK:∀ e e' s,Eqv e e'->K e s->K e' s):∀ (l:List Nat)(i:Nat)(r:List Nat)(e:Env)(s:LB),(∀ j∈l,okI opl im j i=true) ->
  ChI cx ops im id K (l++i::r) e s->ChI cx ops im id K (i::(l++r)) e s
 | [],_,_,_,_,_,x=>x
 | j::l,i,r,e,s,h,x=>by
  refine ChI.swap hops hK (h j (by simp)) ?_;have ih:=fun e s=>ChI.front hops hK l i r e s fun k hk=>h k (by simp[hk])
  simp only[lah,ChI]at x |-
  split at x
  .exact x.elim
  .cases hm:im.contains j with
   | true =>
    rw[hm]at x;exact Imp.agree (fun _ _=>rfl) (fun r' s' z=>ih _ _ z) x
   | false =>
    rw[hm]at x;obtain⟨h1,cv,v,s',h2,h3⟩:=x;exact⟨h1,cv,v,s',h2,ih _ _ h3⟩
end
section
variable {c:Cx}{k:List It}{e:Env}{s:LB}
theorem AeD{ops:List Oper}{okp:Nat->Nat->Bool}(Ch:List Nat->Env->LB->Prop)(hok:AfA okp ops=true)(hnil:∀ e s,Ch [] e s->AWp c k e s)
  (hfr:∀ l i r e s,(∀ j∈l,okp j i=true)->Ch (l++i::r) e s->Ch (i::(l++r)) e s)
  (hst:∀ i o r e s a w (Kc:Act->World->Prop),ops[i]? = some o->Ch (i::r) e s->Sim c e s a w->(∀ e' s' a w,Ch r e' s'->Sim c e' s' a w->Kc a w) ->
   if Region.wanted o (yielded ops.toArray a.tmps) then o.wp c.P a w Kc (WQ c k) else Kc (a.put o.dst undef) w):∀ (fuel:Nat) (listed:Array Bool) (l:List Nat) (e:Env) (s:LB) (a:Act) (w:World),listed.size=ops.length ->
  l=(List.range ops.length).filter (fun i=>!listed.getD i true)->l.length=fuel->(∀ i,listed.getD i true=true->∀ j∈waits ops i,listed.getD j true=true) ->
  Ch l e s->Sim c e s a w->wpAny c.P .any ops.toArray (WQ c k) fuel listed a w :=
 fun fuel listed l e s a w hsz hl hlen hcl hch hsim =>
  AgI (fun l a w=>∃ e s,Ch l e s/\Sim c e s a w) hok (fun a w ⟨e,s,h1,h2⟩=>hnil e s h1 a w h2) (fun l i r a w hj ⟨e,s,h1,h2⟩=>⟨e,s,hfr l i r e s hj h1,h2⟩)
   (fun i o r a w Kc ho ⟨e,s,h1,h2⟩ hK=>hst i o r e s a w Kc ho h1 h2 fun e' s' a w h3 h4=>hK a w ⟨e',s',h3,h4⟩) fuel listed l a w hsz hl hlen hcl ⟨e,s,hch,hsim⟩
theorem AzU{ops:List Oper}{im:List Nat}{id:Nat}(hdst:∀ o∈ops,dOk c.fn.ntmps o.dst=true)(i:Nat)(o:Oper)(r:List Nat)(e:Env)(s:LB)(a:Act)(w:World)(Kc:Act->World->Prop)(ho:ops[i]? = some o)
  (x:ChI c ops.toArray im id (fun e s=>AWp c k e s) (i::r) e s) (hs:Sim c e s a w) (hK:∀ e' s' a w,ChI c ops.toArray im id (fun e s=>AWp c k e s) r e' s'->Sim c e' s' a w->Kc a w) :
  if Region.wanted o (yielded ops.toArray a.tmps) then o.wp c.P a w Kc (WQ c k) else Kc (a.put o.dst undef) w:=by
 have ho':ops.toArray[i]? = some o:=by grind
 have hd:=hdst o (laj ho);simp only[ChI,ho']at x
 cases hm:im.contains i with
 | false =>
  rw[hm]at x;obtain⟨_,cv,v,s',h2,h3⟩:=x;exact AgH hs hd h2 fun a w hs'=>hK _ _ a w h3 hs'
 | true =>
  rw[hm]at x;obtain⟨hg,f,args,hx,blk,post,h3,h4,_,h6⟩:=x;rw[if_pos (by grind[Region.wanted])];obtain⟨hh,ρ,hmm,hl,he,hdf,hsz,hX⟩:=hs;have hsnd:=AcM (P:=c.P) (wr:=false) (frz:=true) (o:=o) hmm he;rw[hx]at hsnd;obtain⟨vs,hv,hr⟩:=hsnd;unfold Oper.wp;rw[hr h4.1];refine(h4.2 hh ρ s w vs h3 hmm hl hv).mono ?_;rintro en w' ⟨u,r',b,h',ρ',rfl,hp,hm',hlt,rv⟩;have he':EnvOk h' ρ' (s.set id b) e a:=fun t=>(he t).mono hlt.hle hlt.keep
  exact hK _ _ _ _ (h6 r' b hp) ⟨h',ρ',hm',hl.trans hlt,he'.put (by grind) rv,by grind[AaJ],by grind[AbJ],c.hx.later hmm hlt hX⟩
def rix(all r:List Oper):Nat:=all.length-r.length
def dck(b:Bool)(n id:Nat)(e:Env)(op:Op):Prop:=bif b then opOk n id e op=true else True
mutual
def dxi(c:Cx)(all:List Oper)(im:List Nat)(id:Nat)(k:List It):Nat->List Oper->LA->Env->LB->Prop
 | _,[],_,e,s=>AWp c k e s
 | 0,_::_,_,_,_=>False
 | n+1,o::r,cs,e,s=>bif im.contains (rix all (o::r)) then
   (match o.guard,xop false true c.P e s o.op with
    | none,.call f args=>AzR c f args id s (fun v s'=>dxi c all im id k n r cs (put e o.dst v) s')
    | _,_=>False)
  else dck (reader o.op&&!blind o.op) s.length id e o.op/\dxic c all im id k n (dgrd c all s o r cs e o.guard)
def dxic(c:Cx)(all:List Oper)(im:List Nat)(id:Nat)(k:List It):Nat->Dn->Prop
 | n,.go r cs e s=>dxi c all im id k n r cs e s
 | n,.two b r cs e r' cs' e' s=>dbri c all im id k n b r cs e r' cs' e' s
 | n,.side p r cs e s=>p/\dxi c all im id k n r cs e s
 | _,.fail=>False
def dbri(c:Cx)(all:List Oper)(im:List Nat)(id:Nat)(k:List It):Nat->Bool->List Oper->LA->Env->List Oper->LA->Env->LB->Prop
 | 0,_,_,_,_,_,_,_,_=>False
 | n+1,b,r,cs,e,r',cs',e',s=>(b=true->dxi c all im id k n r cs e s)/\(b=false->dxi c all im id k n r' cs' e' s)
end
theorem AwN{all:List Oper}{im:List Nat}{id n:Nat} {r cs e r' cs' e' s}:dbri c all im id k (n+1) true r cs e r' cs' e' s=dxi c all im id k n r cs e s:=by grind[dbri]
theorem AtX{all:List Oper}{im:List Nat}{id n:Nat} {r cs e r' cs' e' s}:dbri c all im id k (n+1) false r cs e r' cs' e' s=dxi c all im id k n r' cs' e' s:=by grind[dbri]
theorem A2I{all:List Oper}{im:List Nat}{id n:Nat}{o:Oper}{r:List Oper}{cs:LA}(hm:im.contains (rix all (o::r))=false)(hg:o.guard=none)(h:dxi c all im id k n (o::r) cs e s) :
  dck (reader o.op&&!blind o.op) s.length id e o.op/\∃ cv v n' cs' s',DoesOp c s o cv e v s'/\dxi c all im id k n' r cs' (put e o.dst v) s':=by
 cases n with
 | zero=>grind[dxi]
 | succ n =>
  rw[dxi,hm]at h;refine⟨h.1,?_⟩
  replace h:=h.2
  rw[hg]at h;unfold dgrd at h;unfold DoesOp
  revert h
  cases xop false true c.P e s o.op with
  | ok u=>intro h; simp only[dres,dxic]at h; exact⟨.any,u,n,cs,s,⟨rfl,rfl⟩,h⟩
  | side p u=>intro h; simp only[dres,dxic]at h; exact⟨.any,u,n,cs,s,⟨h.1,rfl,rfl⟩,h.2⟩
  | sto p u s'=>intro h; simp only[dres,dxic]at h; exact⟨.any,u,n,cs,s',⟨h.1.1,h.1.2,rfl,rfl⟩,h.2⟩
  | pick b x y =>
   intro h; simp only[dres,dxic]at h
   cases n with
   | zero=>grind[dbri]
   | succ n =>
   rw[dbri]at h;refine⟨.any,_,n,cs,s,⟨rfl,rfl⟩,?_⟩<;>grind
  | call f args =>
   intro h; simp only[dres]at h
   cases cs<;>grind[dcall,dxic]
  | anyb p=>grind[dres,dxic]
  | stuck=>grind[dres,dxic]
theorem AzV{all:List Oper}{im:List Nat}{id n:Nat}{o:Oper}{r:List Oper}{cs:LA}(hm:im.contains (rix all (o::r))=false)(h:dxi c all im id k n (o::r) cs e s) :
  dck (reader o.op&&!blind o.op) s.length id e o.op/\∃ cv v n' cs' s',Does c all.toArray s o cv e v s'/\dxi c all im id k n' r cs' (put e o.dst v) s':=by
 cases hg:o.guard with
 | none =>
  obtain⟨h0,cv,v,n',cs',s',h1,h2⟩:=A2I hm hg h;exact⟨h0,cv,v,n',cs',s',by grind[Does],h2⟩
 | some jw =>
  obtain⟨j,want⟩:=jw
  cases n with
  | zero=>grind[dxi]
  | succ n =>
   rw[dxi,hm]at h;refine⟨h.1,?_⟩;rw[hg]at h;unfold dgrd dyld at h
   cases hy:yldD want e all[j]? with
   | none=>grind[dxic]
   | some b =>
    have key:(b=want->∃ n',dxi c all im id k n' ({ o with guard:=none }::r) cs e s)/\(b≠want->∃ n',dxi c all im id k n' r cs (put e o.dst (.raw undef)) s):=by
     cases n<;>grind[dxic,dbri]
    have hy':yldD want e all.toArray[j]? = some b:=by grind
    by_cases hb:b=want
    .obtain ⟨n1,h1⟩:=key.1 hb
     obtain⟨_,cv,v,n',cs',s',h1,h2⟩:=A2I (by exact hm) rfl h1;refine⟨cv,v,n',cs',s',?_,h2⟩;unfold Does;rw[hg];simp only[hy'];exact .inl ⟨hb,h1⟩
    .obtain ⟨n1,h1⟩:=key.2 hb
     refine⟨.any,.raw undef,n1,cs,s,?_,h1⟩<;>grind[Does]
theorem AgJ{all:List Oper}{im:List Nat}{id:Nat}:∀ {r:List Oper}{m n:Nat}{cs:LA}{e:Env}{s:LB},(∀ (j:Nat),r[j]? = all[m+j]?)->all.length=m+r.length->dxi c all im id k n r cs e s->ChI c all.toArray im id (fun e s=>AWp c k e s) (List.range' m r.length) e s
 | [],m,n,cs,e,s,_,_,h=>by
  rw[dxi]at h;exact h
 | o::r,m,n,cs,e,s,hr,hlen,h=>by
  have h0:all.toArray[m]? = some o:=by have:=hr 0; simpa using this.symm
  have hix:rix all (o::r)=m:=by unfold rix; omega
  have hr':∀ j,r[j]? = all[m+1+j]?:=fun j=>by have:=hr (j+1); simpa[Nat.add_assoc,Nat.add_comm 1 j]using this
  simp only[lan,List.range'_succ,ChI,h0]
  cases hm:im.contains m with
  | true =>
   cases n with
   | zero=>rw[dxi]at h; exact h.elim
   | succ n =>
    rw[dxi,hix,hm]at h
    split at h
    .rename_i f args hg hx
     obtain⟨blk,post,h3,h4,h5,h6⟩:=h;exact⟨hg,f,args,hx,blk,post,h3,h4,h5,fun u b hp=>AgJ hr' (by simp at hlen; omega) (h6 u b hp)⟩
    .exact h.elim
  | false =>
   obtain⟨hd,cv,v,n',cs',s',h1,h2⟩:=AzV (by rw[hix]; exact hm) h;refine⟨fun hr hb=>?_,cv,v,s',h1,AgJ hr' (by simp at hlen; omega) h2⟩;unfold dck at hd
   simpa[hr,hb]using hd
theorem AkM(im:List Nat)(bid:Nat)(cs:LA){id:Nat}{ops:List Oper}(hm:c.P.follows .mixedOrders=true)(hok:AfA (okI ops im) ops=true){N:Nat}(hN:c.fn.ntmps=N)(hdst:ops.all (fun o=>dOk N o.dst)=true)(n:Nat)
  (h:dxi c ops im bid k n ops cs e s):AWp c (.code (.region id ops.toArray true)::k) e s:=by
 intro a w hsim;have hch:=AgJ (m:=0) (by grind) (by simp) h;rw[<- List.range_eq_range']at hch;refine wp_region_any hm ?_;have hsim':Sim c e s a { w with drawn:=w.drawn+1 }:=by
  obtain⟨hh,ρ,hmm,hl,he,hdf,hsz,hX⟩:=hsim;have sm:Same w { w with drawn:=w.drawn+1 }:=Same.drew w;exact⟨hh,ρ,hmm.same sm,hl.trans (Later.same sm),he,hdf,hsz,c.hx.later hmm (Later.same sm) hX⟩
 have hd:∀ o∈ops,dOk c.fn.ntmps o.dst=true:=fun o ho=>by grind
 refine AeD (ChI c ops.toArray im bid (fun e s=>AWp c k e s)) hok (fun e s x=>x) (fun l i r e s hj x=>ChI.front rfl AWp.K l i r e s hj x) (fun i o r e s a w Kc ho x hs hK=>AzU hd i o r e s a w Kc ho x hs hK)
  ops.length (Array.replicate ops.length false) (List.range ops.length) e s a _ (by simp) ?_ (by simp) ?_ hch hsim'
 .symm
  simp_all
 .intro i hi j hj
  by_cases h1:i<ops.length
  all_goals simp_all[waits]
theorem AgK{f:FuncId}{es:Nat}{agg:AV}{args:LA}{post:AV->AV->Prop}{K:AV->LB->Prop}(hc:Mc c.P f es agg args post)(ha:args.all nr1=true)(hg:nr1 agg=true){id:Nat}(hid:s[id]? = some (.arr es [agg]))
  (hin:∃ r agg',post r agg') (hk:∀ r agg',post r agg'->K r (s.set id (.arr es [agg']))):AzR c f (.ptr id 1 0 0::args) id s K:=by
 refine⟨_,fun r b=>∃ agg',b=.arr es [agg']/\post r agg',hid,⟨hc.1,fun h ρ s w vs hs m l r=>?_⟩,?_,?_⟩
 .refine ((hc.ct ha hg hs).2 h ρ w vs m r).mono ?_<;>grind
 all_goals grind
theorem A7D{g:Std}(hle:Le g c.w c.ρ){f:FuncId}{es:Nat}{agg:AV}{args:LA}{post:AV->AV->Prop}{K:AV->LB->Prop}(hc:McH c.P g f es agg args post)(ha:args.all nr1=true)(hg:nr1 agg=true){id:Nat}(hid:s[id]? = some (.arr es [agg]))
  (hin:∃ r agg',post r agg') (hk:∀ r agg',post r agg'->K r (s.set id (.arr es [agg']))):AzR c f (.ptr id 1 0 0::args) id s K:=by
 refine⟨_,fun r b=>∃ agg',b=.arr es [agg']/\post r agg',hid,⟨hc.1,fun h ρ s w vs hs m l r=>?_⟩,?_,?_⟩
 .refine ((hc.ct ha hg hs).2 h ρ w vs (hle.later l) m r).mono ?_
  rintro en w' ⟨v,r,s',h',ρ',rfl,⟨agg',hp,_,rfl⟩,m',l',rv⟩;exact⟨v,r,_,h',ρ',rfl,⟨agg',rfl,hp⟩,m',l',rv⟩
 .obtain ⟨r,agg',hp⟩:=hin
  exact⟨r,_,agg',rfl,hp⟩
 .rintro r b ⟨agg',rfl,hp⟩
  exact hk r agg' hp
end
