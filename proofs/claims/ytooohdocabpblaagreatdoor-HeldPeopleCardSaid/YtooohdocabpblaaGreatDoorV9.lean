/- Functions that leave memory as it was: one contract for every table of blocks; what is. -/
import Derived.Test.YtooohdocabpblaaGreatDoorV8
set_option linter.all false
namespace Go.Av
open RowKit
variable [Tr]
def Lf0:Value->AV->Prop:=fun _ _=>False
def nr1:AV->Bool
 | .agg l=>l.all frozen
 | a=>frozen a
def nr2:AV->Bool
 | .tup l=>l.all nr1
 | a=>nr1 a
def Pc(P:Program)(f:FuncId)(args:LA)(post:AV->Prop):Prop :=
 AaD P f=true/\∀ h w vs,(∀ b o v,h b o=some v->w.cell? ⟨b,o,none⟩=some v/\v.oneCell'=true)->RL h Lf0 true vs args->Calls P f vs.toArray w fun en w' =>
  ∃ v r h',en=.returned v/\post r/\(∀ b o v,h' b o=some v->w'.cell? ⟨b,o,none⟩=some v/\v.oneCell'=true)/\(∀ b o v,h b o=some v->h' b o=some v) /\
   (∀ b o,h b o=none->h' b o≠none->w.heap.size<=b)/\Same w w'/\RV h' Lf0 true v r
section
variable {h:Mem}{ρ:Own}{sto:LB}{w:World}{P:Program}{Lf':Value->AV->Prop}
theorem A6Y{fl u a}(r:RV h (Lf ρ sto) fl u a)(hf:nr1 a=true):RV h Lf' true u a:=by
 cases a with
 | agg l =>
  obtain⟨vs,rfl,rl⟩:=inv_agg r;exact .agg _ _ ((AbT rl hf).thaw (fun _ _ _ x=>x))
 | _=>exact(AgC r hf).thaw (fun _ _ _ x=>x)
theorem AeO{fl:Bool}:∀ {l:LA}{vs:List Value},RL h (Lf ρ sto) fl vs l->l.all nr1=true->RL h Lf' true vs l
 | [],_,r,_=>by cases r; exact .nil
 | a::l,_,r,hf=>by
  cases r with
  | cons r1 r2 =>
   simp at hf
   exact .cons (A6Y r1 hf.1) (AeO r2 (by simpa using hf.2))
theorem AnV{fl u a}(r:RV h (Lf ρ sto) fl u a)(hf:nr2 a=true):RV h Lf' true u a:=by
 cases a with
 | tup l =>
  obtain⟨vs,rfl,rl⟩:=AiE r;exact .tup _ _ (AeO rl hf)
 | _=>exact A6Y r hf
theorem AhH{f:FuncId}{args:LA}{post:AV->Prop}(hc:Ct P f args [] (fun r _=>post r/\nr2 r=true)):Pc P f args post:=by
 refine⟨hc.1,fun h w vs hm hv=>?_⟩;have hmine:Mine h (fun _=>none) [] w:=⟨hm,fun id blk e=>by grind,fun _ _=>rfl,fun i j g t t' e=>by grind,fun i g t e=>by grind⟩;refine(hc.2 h (fun _=>none) w vs hmine (hv.thaw (fun _ _ _ x=>x))).mono ?_;rintro en w' ⟨v,r,s,h',ρ',rfl,⟨hp,hn⟩,hm',hl,rv⟩;exact⟨v,r,h',rfl,hp,hm'.mem,hl.hle,fun b o e n=>by
  rcases hl.hnew b o e n with⟨j,t,hj⟩|hs<;>grind,⟨hl.os,hl.tape,hl.output,hl.size,fun k hk=>hl.block k hk (fun i t e=>by grind)⟩,AnV rv hn⟩
theorem Pc.ct{f:FuncId}{args:LA}{post:AV->Prop}(hc:Pc P f args post)(ha:args.all nr1=true)(sto:LB):Ct P f args sto (fun r s=>post r/\s=sto):=by
 refine⟨hc.1,fun h ρ w vs hm hv=>?_⟩;refine(hc.2 h w vs hm.mem (AeO hv ha)).mono ?_;rintro en w' ⟨v,r,h',rfl,hp,hm',hle,hnew,hs,rv⟩;refine⟨v,r,sto,h',ρ,rfl,⟨hp,rfl⟩,⟨hm',?_,hm.out,hm.inj,?_⟩,⟨hle,fun b o e n=>.inr (hnew b o e n),fun _ _ x=>x,hs.os,hs.tape,hs.output,hs.size,fun k hk _=>hs.block k hk,fun i _ t x=>.inl ⟨i,t,x⟩⟩,rv.thaw (fun _ _ _ x=>x)⟩
 .exact fun id blk e=>(hm.own id blk e).mono hle (fun _ _ x=>x) rfl (fun g t hg=>hs.block g (hm.lt hg))
 .intro i g t e o
  have hlt:=hm.lt e;have hd:=hm.disj i g t e o
  grind
theorem A6Z{c:Cx}{k:List It}{e:Env}{s:LB}{f:FuncId}{args:LA}{d:Option Tmp}{all os:List Oper}{post:AV->Prop}(hc:Pc c.P f args post)(ha:args.all nr1=true){N:Nat}(hN:c.fn.ntmps=N)(hd:dOk N d=true)
  (hk:∀ r,post r->AWp c (.ops all os::k) (put e d r) s):AdF c f args d all os k e s :=
 A3Y (hc.ct ha s) hN hd fun r s' ⟨hp,hs⟩=>by subst hs; exact hk r hp
theorem AiT{c:Cx}{k:List It}{e:Env}{s:LB}{f:FuncId}{args:LA}{d:Option Tmp}{all os:List Oper}{r:AV}(hc:Pc c.P f args (· = r))(ha:args.all nr1=true){N:Nat}(hN:c.fn.ntmps=N)(hd:dOk N d=true)
  (hk:AWp c (.ops all os::k) (put e d r) s):AdF c f args d all os k e s :=
 by grind[A6Z]
theorem Pc.mono{f:FuncId}{args:LA}{post post':AV->Prop}(hc:Pc P f args post)(hp:∀ r,post r->post' r):Pc P f args post' :=
 ⟨hc.1,fun h w vs hm hv=>(hc.2 h w vs hm hv).mono fun _ _ ⟨v,r,h',a,b,rest⟩=>⟨v,r,h',a,hp r b,rest⟩⟩
theorem Pc.calls{f:FuncId}{args:LA}{r:AV}(hc:Pc P f args (· = r)){w:World}{vs:List Value}(hv:∀ h,RL h Lf0 true vs args):Calls P f vs.toArray w fun en w'=>(∃ v h',en=.returned v/\RV h' Lf0 true v r)/\Same w w' :=
 (hc.2 (fun _ _=>none) w vs (fun b o v e=>by grind) (hv _)).mono fun _ _ ⟨v,_,h',e1,e2,_,_,_,hs,rv⟩=>⟨⟨v,h',e1,e2▸rv⟩,hs⟩
end
end Go.Av
namespace Go.Av
open RowKit
variable [Tr]
def Eqv(e e':Env):Prop:=∀ t,get e t=get e' t
theorem Eqv.refl(e:Env):Eqv e e:=fun _=>rfl
theorem get_put(e:Env)(d:Option Tmp)(v:AV)(t:Nat):get (put e d v) t=if d=some t then v else get e t:=by
 cases d<;>grind[put,get]
theorem Eqv.put{e e':Env}(h:Eqv e e')(d:Option Tmp)(v:AV):Eqv (put e d v) (put e' d v):=fun t=>by rw[get_put,get_put,h t]
def AdM(ops:Array Oper)(o:Oper)(e e':Env):Prop:=∀ t∈o.looksAt ops,get e t=get e' t
theorem AdG{e e':Env}{x:Operand}(h:∀ t,x=.tmp t->get e t=get e' t):ev e x=ev e' x:=by
 cases x with
 | tmp t=>exact h t rfl
 | _=>rfl
theorem AdT{e e':Env}:∀ {l:List Operand},(∀ x∈l,ev e x=ev e' x)->evs e l=evs e' l
 | [],_=>rfl
 | x::l,h=>by simp only[evs]; rw[h x (by simp),AdT fun y hy=>h y (by simp[hy])]
theorem AiU{e e':Env}:∀ {l:List (Nat×Operand)},(∀ x∈l.map (·.2),ev e x=ev e' x)->evp e l=evp e' l
 | [],_=>rfl
 | (i,x)::l,h=>by simp only[evp]; rw[h x (by simp),AiU fun y hy=>h y (by simp at hy |-; exact .inr hy)]
theorem xop_agree{wr frz:Bool}{P:Program}{e e':Env}{s:LB}{op:Op}(h:∀ x∈op.operands,ev e x=ev e' x):xop wr frz P e s op=xop wr frz P e' s op:=by
 cases op with
 | build t parts =>
  simp only[xop];rw[AiU (e:=e) (e':=e') fun x hx=>h x (by simpa[Op.operands]using hx)]
 | buildSlice t len parts =>
  simp only[xop];rw[AiU (e:=e) (e':=e') fun x hx=>h x (by simpa[Op.operands]using hx)]
 | makeFunc f first cap =>
  simp only[xop];rw[AdT (e:=e) (e':=e') fun x hx=>h x (by simp[Op.operands]at hx |-; exact .inr hx)]
 | call c =>
  simp only[xop];have ha:∀ x∈c.args.toList,ev e x=ev e' x:=fun x hx=>h x (by simp[Op.operands,Call.operands]at hx |-; exact .inr hx)
  split
  .unfold AlF
   cases hq:c.args.toList with
   | nil=>rfl
   | cons x xs =>
    rw[hq]at ha
    cases c.argTypes.toList with
    | nil=>rfl
    | cons t ts=>simp only; rw[ha x (by simp)]
  .unfold ApP
   cases hq:c.args.toList with
   | nil=>rfl
   | cons x xs =>
    rw[hq]at ha
    cases c.argTypes.toList with
    | nil=>rfl
    | cons t ts=>simp only; rw[ha x (by simp)]
  .unfold ApS
   split
   .rename_i x y t u h1 h2
    rw[h1]at ha;rw[ha x (by simp),ha y (by simp)]
   .rfl
  .unfold AhZ
   split
   .rename_i x y t u h1 h2
    rw[h1]at ha;rw[ha x (by simp),ha y (by simp)]
   .rfl
  .unfold AeW
   split
   .rename_i x t h1 h2
    rw[h1]at ha;rw[ha x (by simp)]
   .rfl
  .unfold ApU
   split
   .rename_i x y t u h1 h2
    rw[h1]at ha;rw[ha x (by simp),ha y (by simp)]
   .rfl
  .rw [AdT ha]
  .rw [AdT ha]
  .rename_i f hc
   rw[AdT ha,h f (by simp[Op.operands,Call.operands,hc])]
  .rfl
 | unOp op t x =>
  have hx:=h x (by simp[Op.operands])
  cases op <;> simp only[xop,hx]
 | move x=>simp only[xop,h x (by simp[Op.operands])]
 | assign x=>simp only[xop,h x (by simp[Op.operands])]
 | pick c x y=>simp only[xop,h c (by simp[Op.operands]),h x (by simp[Op.operands]),h y (by simp[Op.operands])]
 | binOp op t x y yt=>simp only[xop,h x (by simp[Op.operands]),h y (by simp[Op.operands])]
 | extract x i=>simp only[xop,h x (by simp[Op.operands])]
 | index t x i=>simp only[xop,h x (by simp[Op.operands]),h i (by simp[Op.operands])]
 | field t x f=>simp only[xop,h x (by simp[Op.operands])]
 | nilCheck x=>simp only[xop,h x (by simp[Op.operands])]
 | makeSlice t n c=>simp only[xop,h n (by simp[Op.operands]),h c (by simp[Op.operands])]
 | slice t x lo hi mx =>
  simp only[xop];have e0:∀ z:Option Operand,(∀ y,z=some y->ev e y=ev e' y)->evo e z=evo e' z:=fun z hz=>by
   cases z with
   | none=>rfl
   | some y=>simp only[evo,hz y rfl]
  rw[h x (by simp[Op.operands]),e0 lo fun y hy=>h y (by subst hy; simp[Op.operands]),e0 hi fun y hy=>h y (by subst hy; simp[Op.operands]),e0 mx fun y hy=>h y (by subst hy; simp[Op.operands])]
 | box t x=>simp only[xop,h x (by simp[Op.operands])]
 | fieldAddr t x f=>simp only[xop,h x (by simp[Op.operands])]
 | indexAddr t x i=>simp only[xop,h x (by simp[Op.operands]),h i (by simp[Op.operands])]
 | load t x=>simp only[xop,h x (by simp[Op.operands])]
 | store t x v=>simp only[xop,h x (by simp[Op.operands]),h v (by simp[Op.operands])]
 | convert a b x=>simp only[xop,h x (by simp[Op.operands])]
 | mapUpdate t m k v=>simp only[xop,h m (by simp[Op.operands]),h k (by simp[Op.operands]),h v (by simp[Op.operands])]
 | lookup t m k c=>simp only[xop,h m (by simp[Op.operands]),h k (by simp[Op.operands])]
 | mapEntry t m k=>simp only[xop,h m (by simp[Op.operands]),h k (by simp[Op.operands])]
 | entryStore t m k v=>simp only[xop,h m (by simp[Op.operands]),h k (by simp[Op.operands]),h v (by simp[Op.operands])]
 | range t x=>simp only[xop,h x (by simp[Op.operands])]
 | entry x=>simp only[xop,h x (by simp[Op.operands])]
 | makeMap t r=>cases r <;> rfl
 | _=>rfl
theorem AaG{ops:Array Oper}{o:Oper}{e e':Env}(h:AdM ops o e e'):∀ x∈o.op.operands,ev e x=ev e' x:=fun x hx=>AdG fun t ht=>h t (by
 refine List.mem_append.2 (.inl (List.mem_filterMap.2 ⟨.tmp t,by grind,rfl⟩)))
theorem AiV{ops:Array Oper}{o:Oper}{e e':Env}(h:AdM ops o e e'){j:Nat}{want:Bool}(hg:o.guard=some (j,want)):yldD want e ops[j]? = yldD want e' ops[j]?:=by
 cases hq:ops[j]? with
 | none=>rfl
 | some oj =>
  simp only[yldD]
  cases hd:oj.dst with
  | none=>rfl
  | some d =>
   simp only;rw[h d]
   grind[Oper.looksAt]
def calm:Op->Bool
 | .store ..|.alloc ..|.makeSlice ..|.box ..|.makeMap ..|.mapUpdate ..|.mapEntry ..|.entryStore ..|.range ..=>false
 | .slice _ _ _ _ (some _)=>false
 | .call c=>match c.callee with
  | .builtin .append|.builtin .copy|.builtin .clear|.builtin .delete=>false
  | _=>true
 | _=>true
def blind:Op->Bool
 | .move _|.assign _|.pick ..|.extract ..|.build ..=>true
 | .call c=>match c.callee with
  | .value _=>true
  | _=>false
 | _=>false
theorem blind_calm{op:Op}(h:blind op=true):calm op=true:=by
 cases op <;> first|rfl|grind[blind]|skip
 grind[blind,calm]
theorem AnW{wr frz:Bool}{P:Program}{e:Env}{s s':LB}{op:Op}(h:blind op=true):xop wr frz P e s op=xop wr frz P e s' op:=by
 cases op <;> first|rfl|grind[blind]|skip
 grind[blind,xop]
def PcAt(c:Cx)(f:FuncId)(args:LA)(cv:AV):Prop :=
 AaD c.P f=true/\∀ h w vs,(∀ k,k<c.w.heap.size->(∀ i t,c.ρ i≠some (k,t))->w.heap[k]? = c.w.heap[k]?)->(∀ b o v,h b o=some v->w.cell? ⟨b,o,none⟩=some v/\v.oneCell'=true)->RL h Lf0 true vs args->Calls c.P f vs.toArray w fun en w' =>
  ∃ v r h',en=.returned v/\r=cv/\(∀ b o v,h' b o=some v->w'.cell? ⟨b,o,none⟩=some v/\v.oneCell'=true)/\(∀ b o v,h b o=some v->h' b o=some v) /\
   (∀ b o,h b o=none->h' b o≠none->w.heap.size<=b)/\Same w w'/\RV h' Lf0 true v r
theorem Pc.at{c:Cx}{f:FuncId}{args:LA}{cv:AV}(hc:Pc c.P f args (· = cv)):PcAt c f args cv:=⟨hc.1,fun h w vs _ m r=>hc.2 h w vs m r⟩
theorem PcAt.calls{c:Cx}{f:FuncId}{args:LA}{cv:AV}(hc:PcAt c f args cv)(ha:args.all nr1=true){h:Mem}{ρ:Own}{sto:LB}{w:World}{vs:List Value}(hm:Mine h ρ sto w)(hl:Later c.h c.ρ c.sto c.w h ρ sto w)(hv:RL h (Lf ρ sto) false vs args) :
  Calls c.P f vs.toArray w fun en w'=>∃ v r s h' ρ',en=.returned v/\(r=cv/\s=sto)/\Mine h' ρ' s w'/\Later h ρ sto w h' ρ' s w'/\RV h' (Lf ρ' s) false v r:=by
 refine(hc.2 h w vs (fun k hk hn=>hl.block k hk hn) hm.mem (AeO hv ha)).mono ?_;rintro en w' ⟨v,r,h',rfl,hp,hm',hle,hnew,hs,rv⟩;refine⟨v,r,sto,h',ρ,rfl,⟨hp,rfl⟩,⟨hm',?_,hm.out,hm.inj,?_⟩,⟨hle,fun b o e n=>.inr (hnew b o e n),fun _ _ x=>x,hs.os,hs.tape,hs.output,hs.size,fun k hk _=>hs.block k hk,fun i _ t x=>.inl ⟨i,t,x⟩⟩,rv.thaw (fun _ _ _ x=>x)⟩
 .exact fun id blk e=>(hm.own id blk e).mono hle (fun _ _ x=>x) rfl (fun g t hg=>hs.block g (hm.lt hg))
 .intro i g t e o
  have hlt:=hm.lt e;have hd:=hm.disj i g t e o
  grind
def DoesOp(c:Cx)(s:LB)(o:Oper)(cv:AV)(e:Env)(v:AV)(s':LB):Prop :=
 match xop false true c.P e s o.op with
 | .ok u=>v=u/\s'=s
 | .side p u=>p/\v=u/\s'=s
 | .sto p u s1=>calm o.op=false/\p/\v=u/\s'=s1
 | .pick b x y=>v=(if b then x else y)/\s'=s
 | .call f args=>PcAt c f args cv/\args.all nr1=true/\v=cv/\s'=s
 | _=>False
def Does(c:Cx)(ops:Array Oper)(s:LB)(o:Oper)(cv:AV)(e:Env)(v:AV)(s':LB):Prop :=
 match o.guard with
 | none=>DoesOp c s o cv e v s'
 | some (j,want)=>match yldD want e ops[j]? with
  | some b=>(b=want/\DoesOp c s o cv e v s')\/(b≠want/\v=.raw undef/\s'=s)
  | none=>False
theorem DoesOp.calm{c:Cx}{s s':LB}{o:Oper}{cv v:AV}{e:Env}(hc:Av.calm o.op=true)(h:DoesOp c s o cv e v s'):s'=s:=by
 grind[DoesOp]
theorem Does.calm{c:Cx}{ops:Array Oper}{s s':LB}{o:Oper}{cv v:AV}{e:Env}(hc:Av.calm o.op=true)(h:Does c ops s o cv e v s'):s'=s:=by
 unfold Does at h
 split at h
 .exact h.calm hc
 .split at h
  .rcases h with⟨_,h⟩|⟨_,_,h⟩
   .exact h.calm hc
   omega
  grind
theorem DoesOp.blind{c:Cx}{s s' s2:LB}{o:Oper}{cv v:AV}{e:Env}(hc:Av.blind o.op=true)(h:DoesOp c s o cv e v s'):DoesOp c s2 o cv e v s2:=by
 grind[blind_calm,DoesOp,AnW]
theorem Does.blind{c:Cx}{ops:Array Oper}{s s' s2:LB}{o:Oper}{cv v:AV}{e:Env}(hc:Av.blind o.op=true)(h:Does c ops s o cv e v s'):Does c ops s2 o cv e v s2:=by
 unfold Does at h |-
 split at h
 .exact h.blind hc
 .split at h
  .rcases h with⟨h1,h⟩|⟨h1,h2,h⟩
   .exact .inl ⟨h1,h.blind hc⟩
   grind
  omega
theorem Does.agree{c:Cx}{ops:Array Oper}{s s':LB}{o:Oper}{cv v:AV}{e e':Env}(h:AdM ops o e e')(d:Does c ops s o cv e v s'):Does c ops s o cv e' v s':=by
 have hop:xop false true c.P e s o.op=xop false true c.P e' s o.op:=xop_agree (AaG h)
 grind[DoesOp,Does,AiV]
def Chain(c:Cx)(ops:Array Oper)(K:Env->LB->Prop):List Nat->Env->LB->Prop
 | [],e,s=>K e s
 | i::r,e,s=>match ops[i]? with
  | some o=>∃ cv v s',Does c ops s o cv e v s'/\Chain c ops K r (put e o.dst v) s'
  | none=>False
def together(x y:Oper):Bool:=calm x.op&&calm y.op||blind x.op||blind y.op
section
variable {cx:Cx}{ops:Array Oper}{s:LB}{K:Env->LB->Prop}
theorem Chain.congr(hK:∀ e e' s,Eqv e e'->K e s->K e' s):∀ {l:List Nat}{e e':Env}{s:LB},Eqv e e'->Chain cx ops K l e s->Chain cx ops K l e' s
 | [],e,e',s,h,c=>hK e e' s h c
 | i::r,e,e',s,h,c=>by
  unfold Chain at c |-
  split at c
  .obtain ⟨cv,v,s',h1,h2⟩:=c
   exact⟨cv,v,s',h1.agree fun t _=>h t,Chain.congr hK (h.put _ _) h2⟩
  .exact c.elim
theorem Chain.swap(hK:∀ e e' s,Eqv e e'->K e s->K e' s){i j:Nat}{r:List Nat}{oi oj:Oper}(hi:ops[i]? = some oi)(hj:ops[j]? = some oj)(ha:oi.apart ops oj=true)(ht:together oi oj=true){e:Env}{s:LB}(c:Chain cx ops K (i::j::r) e s) :
  Chain cx ops K (j::i::r) e s:=by
 obtain⟨a1,a2,a3⟩:=Oper.apart_spec ha;simp only[Chain,hi,hj]at c |-;obtain⟨cv,v,s1,h1,cu,u,s2,h2,h3⟩:=c;have h2':Does cx ops s1 oj cu e u s2:=h2.agree fun t ht=>by
  grind[get_put]
 have h1':∀ {z z'},Does cx ops z oi cv e v z'->Does cx ops z oi cv (put e oj.dst u) v z':=fun hd=>hd.agree fun t ht=>by
  grind[get_put]
 have h3':=Chain.congr hK (e':=put (put e oj.dst u) oi.dst v) (fun t=>by
  grind[get_put]) h3
 simp only[together,Bool.or_eq_true,lac]at ht
 rcases ht with(⟨c1,c2⟩|c1)|c1
 .have e1:=h1.calm c1
  have e2:=h2.calm c2
  grind
 .have e1:=h1.calm (blind_calm c1)
  subst e1;exact⟨cu,u,_,h2',cv,v,_,h1' (h1.blind c1),h3'⟩
 .have e2:=h2.calm (blind_calm c1)
  subst e2;exact⟨cu,u,_,h2'.blind c1,cv,v,_,h1' h1,h3'⟩
theorem Chain.front(hK:∀ e e' s,Eqv e e'->K e s->K e' s){i:Nat}{oi:Oper}(hi:ops[i]? = some oi){r:List Nat}:∀ {l:List Nat}{e:Env}{s:LB},(∀ j∈l,∃ oj,ops[j]? = some oj/\oj.apart ops oi=true/\together oj oi=true) ->
  Chain cx ops K (l++i::r) e s->Chain cx ops K (i::(l++r)) e s
 | [],_,_,_,c=>c
 | j::l,e,s,h,c=>by
  obtain⟨oj,hj,ha,hb⟩:=h j (by simp);refine Chain.swap hK hj hi ha hb ?_;simp only[lah,Chain,hj]at c |-;obtain⟨cv,v,s',h1,h2⟩:=c;exact⟨cv,v,s',h1,Chain.front hK hi (fun k hk=>h k (by simp[hk])) h2⟩
end
def waits(ops:List Oper)(i:Nat):List Nat:=match ops[i]? with
 | some o=>(o.after.toList.filter (Region.binds .any)).map (·.on)
 | none=>[]
def anc(ops:List Oper):Nat->Nat->List Nat
 | 0,_=>[]
 | n+1,i=>waits ops i++(waits ops i).flatMap (anc ops n)
def AvZ(ops:List Oper):Bool :=
 (List.range ops.length).all fun i =>
  (waits ops i).all (fun j=>decide (j<i)) &&
  (List.range i).all fun j=>(match ops[i]?,ops[j]? with|some oi,some oj=>oj.apart ops.toArray oi&&together oj oi|_,_=>false)||(anc ops ops.length i).contains j
def AfA(okp:Nat->Nat->Bool)(ops:List Oper):Bool :=
 (List.range ops.length).all fun i=>(waits ops i).all (fun j=>decide (j<i))&&(List.range i).all fun j=>okp j i||(anc ops ops.length i).contains j
section
variable {ops:List Oper}
theorem AgG{L:Nat->Prop}(hc:∀ i,L i->∀ j∈waits ops i,L j):∀ (n i:Nat),(∀ j∈waits ops i,L j)->∀ j∈anc ops n i,L j
 | 0,_,_,j,hj=>by grind[anc]
 | n+1,i,hi,j,hj=>by
  simp only[anc,List.mem_append,List.mem_flatMap]at hj
  rcases hj with hj|⟨k,hk,hj⟩
  .grind
  .exact AgG hc n k (hc k (hi k hk)) j hj
end
section
variable {c:Cx}{k:List It}{e:Env}{s:LB}
theorem Sim.eqv{e':Env}{a:Act}{w:World}(h:Eqv e e')(hs:Sim c e s a w):Sim c e' s a w:=by
 obtain⟨hh,ρ,hm,hl,he,hdf,hsz,hX⟩:=hs;exact⟨hh,ρ,hm,hl,fun t=>by rw[<- h t]; exact he t,hdf,hsz,hX⟩
theorem AWp.eqv{e':Env}(h:Eqv e e')(x:AWp c k e s):AWp c k e' s:=fun a w hs=>x a w (hs.eqv fun t=>(h t).symm)
theorem AgH{o:Oper}{ops:Array Oper}{cv v:AV}{s1:LB}{a:Act}{w:World}{K:Act->World->Prop}{Q:Exit->Act->World->Prop}(hs:Sim c e s a w)(hd:dOk c.fn.ntmps o.dst=true)(h:Does c ops s o cv e v s1)
  (hK:∀ a w,Sim c (put e o.dst v) s1 a w->K a w):if Region.wanted o (yielded ops a.tmps) then o.wp c.P a w K Q else K (a.put o.dst undef) w:=by
 obtain⟨hh,ρ,hm,hl,he,hdf,hsz,hX⟩:=hs;have hop:DoesOp c s o cv e v s1->o.wp c.P a w K Q:=by
  intro hd1;have hsnd:=AcM (P:=c.P) (wr:=false) (frz:=true) (o:=o) hm he;have fin:Okv hh ρ s w ((execOp a.eval o).run c.P w) v s1->o.wp c.P a w K Q:=by
   rintro⟨u,w',h',ρ',hr,hm',hlt,rv⟩;have he':EnvOk h' ρ' s1 e a:=fun t=>(he t).mono hlt.hle hlt.keep
   have:=hK (a.put o.dst u) w' ⟨h',ρ',hm',hl.trans hlt,he'.put (by grind) rv,by grind[AaJ],by grind[AbJ],c.hx.later hm hlt hX⟩;unfold Oper.wp
   rcases hr with hr|⟨hr,hu⟩
   .rw [hr]; exact this
   .rw [hr]; subst hu; exact this
  unfold DoesOp at hd1
  revert hd1 hsnd
  cases xop false true c.P e s o.op with
  | ok u=>intro h2 h1; obtain⟨h2,h3⟩:=h2; subst h2; subst h3; exact fin h1
  | side p u=>intro h2 h1; obtain⟨hp,h2,h3⟩:=h2; subst h2; subst h3; exact fin (h1 hp)
  | sto p u s'=>intro h2 h1; obtain⟨_,hp,h2,h3⟩:=h2; subst h2; subst h3; exact fin (h1 hp)
  | pick b x y=>intro h2 h1; obtain⟨h2,h3⟩:=h2; subst h2; subst h3; exact fin h1
  | call f args =>
   intro h2 h1;obtain⟨hp,hn,h2,h3⟩:=h2;subst h2; subst h3;obtain⟨vs,hv,hr⟩:=h1;unfold Oper.wp;rw[hr hp.1];refine(hp.calls hn hm hl hv).mono ?_;rintro en w' ⟨u,r,s',h',ρ',rfl,⟨hrv,hss⟩,hm',hlt,rv⟩;subst hss; subst hrv;have he':EnvOk h' ρ' s' e a:=fun t=>(he t).mono hlt.hle hlt.keep
   exact hK _ _ ⟨h',ρ',hm',hl.trans hlt,he'.put (by grind) rv,by grind[AaJ],by grind[AbJ],c.hx.later hm hlt hX⟩
  | anyb p=>grind
  | stuck=>grind
 unfold Does at h
 split at h
 .grind[Region.wanted]
 .rename_i j want hg
  split at h
  .rename_i b hb
   have hy:=AeB (all:=ops.toList) he (by simpa using hb)
   simp at hy
   rcases h with⟨h1,h2⟩|⟨h1,h2,h3⟩
   .grind[Region.wanted]
   .rw [if_neg (by grind[Region.wanted])]
    subst h2; subst h3;exact hK _ _ ⟨hh,ρ,hm,hl,he.put (by grind) (.raw _),by grind[AaJ],by grind[AbJ],hX⟩
  grind
inductive Dn where
 | go (r:List Oper) (cs:LA) (e:Env) (s:LB)
 | two (b:Bool) (r:List Oper) (cs:LA) (e:Env) (r':List Oper) (cs':LA) (e':Env) (s:LB)
 | side (p:Prop) (r:List Oper) (cs:LA) (e:Env) (s:LB)
 | fail
def dcall(c:Cx)(f:FuncId)(args:LA)(d:Option Tmp)(r:List Oper)(e:Env)(s:LB):LA->Dn
 | cv::cs=>.side (PcAt c f args cv/\args.all nr1=true) r cs (put e d cv) s
 | []=>.fail
def dres(c:Cx)(op:Op)(d:Option Tmp)(r:List Oper)(cs:LA)(e:Env)(s:LB):Res->Dn
 | .ok v=>.go r cs (put e d v) s
 | .side p v=>.side p r cs (put e d v) s
 | .sto p v s'=>.side (calm op=false/\p) r cs (put e d v) s'
 | .pick b x y=>.two b r cs (put e d x) r cs (put e d y) s
 | .call f args=>dcall c f args d r e s cs
 | _=>.fail
def dyld(want:Bool)(o:Oper)(r:List Oper)(cs:LA)(e:Env)(s:LB):Option Bool->Dn
 | some b=>bif want then .two b ({ o with guard:=none }::r) cs e r cs (put e o.dst (.raw undef)) s
  else .two b r cs (put e o.dst (.raw undef)) ({ o with guard:=none }::r) cs e s
 | none=>.fail
def dgrd(c:Cx)(all:List Oper)(s:LB)(o:Oper)(r:List Oper)(cs:LA)(e:Env):Option (Nat×Bool)->Dn
 | none=>dres c o.op o.dst r cs e s (xop false true c.P e s o.op)
 | some (j,want)=>dyld want o r cs e s (yldD want e all[j]?)
mutual
def dx(c:Cx)(all:List Oper)(k:List It):Nat->List Oper->LA->Env->LB->Prop
 | _,[],_,e,s=>AWp c k e s
 | 0,_::_,_,_,_=>False
 | n+1,o::r,cs,e,s=>dxc c all k n (dgrd c all s o r cs e o.guard)
def dxc(c:Cx)(all:List Oper)(k:List It):Nat->Dn->Prop
 | n,.go r cs e s=>dx c all k n r cs e s
 | n,.two b r cs e r' cs' e' s=>dbr c all k n b r cs e r' cs' e' s
 | n,.side p r cs e s=>p/\dx c all k n r cs e s
 | _,.fail=>False
def dbr(c:Cx)(all:List Oper)(k:List It):Nat->Bool->List Oper->LA->Env->List Oper->LA->Env->LB->Prop
 | 0,_,_,_,_,_,_,_,_=>False
 | n+1,b,r,cs,e,r',cs',e',s=>(b=true->dx c all k n r cs e s)/\(b=false->dx c all k n r' cs' e' s)
end
theorem AzN{all:List Oper}{n:Nat} {r cs e r' cs' e' s}:dbr c all k (n+1) true r cs e r' cs' e' s=dx c all k n r cs e s:=by grind[dbr]
theorem AwA{all:List Oper}{n:Nat} {r cs e r' cs' e' s}:dbr c all k (n+1) false r cs e r' cs' e' s=dx c all k n r' cs' e' s:=by grind[dbr]
theorem A7A{all:List Oper}{n:Nat}{o:Oper}{r:List Oper}{cs:LA}(hg:o.guard=none)(h:dx c all k n (o::r) cs e s) :
  ∃ cv v n' cs' s',DoesOp c s o cv e v s'/\dx c all k n' r cs' (put e o.dst v) s':=by
 cases n with
 | zero=>grind[dx]
 | succ n =>
  rw[dx,hg]at h;unfold dgrd at h;unfold DoesOp
  revert h
  cases xop false true c.P e s o.op with
  | ok u=>intro h; simp only[dres,dxc]at h; exact⟨.any,u,n,cs,s,⟨rfl,rfl⟩,h⟩
  | side p u=>intro h; simp only[dres,dxc]at h; exact⟨.any,u,n,cs,s,⟨h.1,rfl,rfl⟩,h.2⟩
  | sto p u s'=>intro h; simp only[dres,dxc]at h; exact⟨.any,u,n,cs,s',⟨h.1.1,h.1.2,rfl,rfl⟩,h.2⟩
  | pick b x y =>
   intro h; simp only[dres,dxc]at h
   cases n with
   | zero=>grind[dbr]
   | succ n =>
   rw[dbr]at h;refine⟨.any,_,n,cs,s,⟨rfl,rfl⟩,?_⟩<;>grind
  | call f args =>
   intro h; simp only[dres]at h
   cases cs<;>grind[dcall,dxc]
  | anyb p=>grind[dres,dxc]
  | stuck=>grind[dres,dxc]
theorem A4A{all:List Oper}{n:Nat}{o:Oper}{r:List Oper}{cs:LA}(h:dx c all k n (o::r) cs e s) :
  ∃ cv v n' cs' s',Does c all.toArray s o cv e v s'/\dx c all k n' r cs' (put e o.dst v) s':=by
 cases hg:o.guard with
 | none =>
  obtain⟨cv,v,n',cs',s',h1,h2⟩:=A7A hg h;exact⟨cv,v,n',cs',s',by grind[Does],h2⟩
 | some jw =>
  obtain⟨j,want⟩:=jw
  cases n with
  | zero=>grind[dx]
  | succ n =>
   rw[dx,hg]at h;unfold dgrd dyld at h
   cases hy:yldD want e all[j]? with
   | none=>grind[dxc]
   | some b =>
    have key:(b=want->∃ n',dx c all k n' ({ o with guard:=none }::r) cs e s)/\(b≠want->∃ n',dx c all k n' r cs (put e o.dst (.raw undef)) s):=by
     cases n<;>grind[dxc,dbr]
    have hy':yldD want e all.toArray[j]? = some b:=by grind
    by_cases hb:b=want
    .obtain ⟨n1,h1⟩:=key.1 hb
     obtain⟨cv,v,n',cs',s',h1,h2⟩:=A7A rfl h1;refine⟨cv,v,n',cs',s',?_,h2⟩;unfold Does;rw[hg];simp only[hy'];exact .inl ⟨hb,h1⟩
    .obtain ⟨n1,h1⟩:=key.2 hb
     refine⟨.any,.raw undef,n1,cs,s,?_,h1⟩<;>grind[Does]
theorem AfB{all:List Oper}:∀ {r:List Oper}{m n:Nat}{cs:LA}{e:Env}{s:LB},(∀ (j:Nat),r[j]? = all[m+j]?)->dx c all k n r cs e s->Chain c all.toArray (fun e s=>AWp c k e s) (List.range' m r.length) e s
 | [],m,n,cs,e,s,_,h=>by
  rw[dx]at h;exact h
 | o::r,m,n,cs,e,s,hr,h=>by
  obtain⟨cv,v,n',cs',s',h1,h2⟩:=A4A h;have h0:all.toArray[m]? = some o:=by have:=hr 0; simpa using this.symm
  simp only[lan,List.range'_succ,Chain,h0];exact⟨cv,v,s',h1,AfB (fun j=>by have:=hr (j+1); simpa[Nat.add_assoc,Nat.add_comm 1 j]using this) h2⟩
theorem AWp.K:∀ e e' s,Eqv e e'->AWp c k e s->AWp c k e' s:=fun _ _ _ h x=>x.eqv h
theorem AgI{ops:List Oper}{okp:Nat->Nat->Bool}(Ch:List Nat->Act->World->Prop)(hok:AfA okp ops=true)(hnil:∀ a w,Ch [] a w->WQ c k .normal a w)
  (hfr:∀ l i r a w,(∀ j∈l,okp j i=true)->Ch (l++i::r) a w->Ch (i::(l++r)) a w)
  (hst:∀ i o r a w (Kc:Act->World->Prop),ops[i]? = some o->Ch (i::r) a w->(∀ a w,Ch r a w->Kc a w) ->
   if Region.wanted o (yielded ops.toArray a.tmps) then o.wp c.P a w Kc (WQ c k) else Kc (a.put o.dst undef) w):∀ (fuel:Nat) (listed:Array Bool) (l:List Nat) (a:Act) (w:World),listed.size=ops.length ->
  l=(List.range ops.length).filter (fun i=>!listed.getD i true)->l.length=fuel->(∀ i,listed.getD i true=true->∀ j∈waits ops i,listed.getD j true=true) ->
  Ch l a w->wpAny c.P .any ops.toArray (WQ c k) fuel listed a w:=by
 have hready:∀ (listed:Array Bool) (i:Nat),i∈Region.ready .any ops.toArray listed ↔ i<ops.length/\listed.getD i true=false/\∀ j∈waits ops i,listed.getD j false=true:=by
  intro listed i;unfold Region.ready
  simp
  grind[waits,Array.all_eq_true_iff_forall_mem]
 have hback:∀ i,i<ops.length->∀ j∈waits ops i,j<i:=by
  intro i hi j hj;have:=(List.all_eq_true.1 hok) i (by grind)
  grind
 intro fuel
 induction fuel with
 | zero =>
  intro listed l a w hsz hl hlen hcl hch;have hnil:l=[]:=lbe hlen;subst hnil;refine⟨?_,hnil a w hch⟩;apply List.eq_nil_iff_forall_not_mem.2
  simp_all
 | succ fuel ih =>
  intro listed l a w hsz hl hlen hcl hch;have hmem:∀ i,i∈l ↔ i<ops.length/\listed.getD i true=false:=by
   grind
  refine⟨fun hr=>?_,fun i hi=>?_⟩
  .exfalso
   cases hq:l with
   | nil=>grind
   | cons i r =>
    have hil:i∈l:=by grind
    obtain⟨h1,h2⟩:=(hmem i).1 hil;have:i∈Region.ready .any ops.toArray listed:=by
     refine(hready listed i).2 ⟨h1,h2,fun j hj=>?_⟩;have hlt:=hback i h1 j hj;have hjn:j ∉ l:=by
      intro hjl;have hs:l.Pairwise (·<·):=by grind[List.pairwise_lt_range]
      grind[List.pairwise_cons]
     grind
    grind
  .obtain ⟨h1,h2,h3⟩:=(hready listed i).1 hi
   have hil:i∈l:=(hmem i).2 ⟨h1,h2⟩;obtain⟨l1,l2,hsplit⟩:=List.append_of_mem hil;have ho:ops.toArray[i]? = some ops[i]:=by grind
   have hs:l.Pairwise (·<·):=by grind[List.pairwise_lt_range]
   have hapart:∀ j∈l1,okp j i=true:=by
    intro j hj;have hjl:j∈l:=by grind
    obtain⟨hj1,hj2⟩:=(hmem j).1 hjl;have hji:j<i:=by
     grind
    have:=(List.all_eq_true.1 hok) i (by grind);simp only[lac]at this;have:=(List.all_eq_true.1 this.2) j (by grind);simp only[Bool.or_eq_true]at this
    rcases this with h4|h4
    .omega
    .exfalso
     have hm:j∈anc ops ops.length i:=by grind
     have hw3:∀ j∈waits ops i,listed.getD j true=true:=by
      grind
     have:=AgG hcl ops.length i hw3 j hm
     grind
   rw[hsplit]at hch;have hfront:=hfr l1 i l2 a w hapart hch;have hlist:∀ j,(listed.setIfInBounds i true).getD j true=if j=i then true else listed.getD j true:=by
    intro j
    by_cases hj:j=i
    .simp_all
    simp_all[Ne.symm]
   have hnext:l1++l2=(List.range ops.length).filter (fun j=>!(listed.setIfInBounds i true).getD j true):=by
    have e1:(fun j=>!(listed.setIfInBounds i true).getD j true)=fun j=>(!listed.getD j true)&&decide (j≠i):=by
     funext j
     rw[hlist]
     by_cases hj:j=i <;> simp[hj]
    have e2:(List.range ops.length).filter (fun j=>(!listed.getD j true)&&decide (j≠i))=l.filter (fun j=>decide (j≠i)):=by
     rw[hl,List.filter_filter]
     congr 1
     funext j
     rw[Bool.and_comm]
    rw[e1,e2,hsplit];have hn:l.Nodup:=hs.imp (fun h=>Nat.ne_of_lt h);rw[hsplit]at hn;have hn1:i ∉ l1:=fun hh=>(List.nodup_append.1 hn).2.2 i hh i (by simp) rfl
    have hn2:i ∉ l2:=(List.nodup_cons.1 (List.nodup_append.1 hn).2.1).1;simp only[List.filter_append,List.filter_cons];have f1:∀ x:List Nat,i ∉ x->x.filter (fun j=>decide (j≠i))=x:=by
     grind[List.filter_eq_self]
    grind
   have hgo:∀ a w,Ch (l1++l2) a w->wpAny c.P .any ops.toArray (WQ c k) fuel (listed.setIfInBounds i true) a w:=fun a' w' hrest =>
    ih (listed.setIfInBounds i true) (l1++l2) a' w' (by grind) hnext (by grind) (fun j hj m hm=>by
     rw[hlist]at hj |-
     by_cases hmi:m=i
     .grind
     .rw [if_neg hmi]
      by_cases hji:j=i
      .subst hji
       have h5:=h3 m hm;have hmlt:m<listed.size:=by have:=hback j h1 m hm; omega
       simpa[Array.getD,hmlt]using h5
      .rw [if_neg hji]at hj
       exact hcl j hj m hm) hrest
   have hw:=hst i ops[i] (l1++l2) a w _ (by simp[h1]) hfront hgo
   grind[wpOp]
theorem AnX{ops:List Oper}(hok:AvZ ops=true)(hdst:∀ o∈ops,dOk c.fn.ntmps o.dst=true):∀ (fuel:Nat)(listed:Array Bool)(l:List Nat)(e:Env)(s:LB)(a:Act)(w:World),listed.size=ops.length ->
  l=(List.range ops.length).filter (fun i=>!listed.getD i true)->l.length=fuel->(∀ i,listed.getD i true=true->∀ j∈waits ops i,listed.getD j true=true) ->
  Chain c ops.toArray (fun e s=>AWp c k e s) l e s->Sim c e s a w->wpAny c.P .any ops.toArray (WQ c k) fuel listed a w :=
 fun fuel listed l e s a w hsz hl hlen hcl hch hsim =>
  AgI (fun l a w=>∃ e s,Chain c ops.toArray (fun e s=>AWp c k e s) l e s/\Sim c e s a w) hok (fun a w ⟨e,s,h1,h2⟩=>h1 a w h2)
   (fun l i r a w hj ⟨e,s,h1,h2⟩=>by
    cases ho:ops[i]? with
    | none =>
     cases l with
     | nil=>grind
     | cons j l=>have:=hj j (by simp); grind
    | some oi =>
     grind[Chain.front,AWp.K])
   (fun i o r a w Kc ho ⟨e,s,h1,h2⟩ hK=>by
    have ho':ops.toArray[i]? = some o:=by grind
    simp only[Chain,ho']at h1;obtain⟨cv,v,s1,hd,hrest⟩:=h1;exact AgH h2 (hdst o (laj ho)) hd fun a w hs=>hK a w ⟨_,_,hrest,hs⟩) fuel listed l a w hsz hl hlen hcl ⟨e,s,hch,hsim⟩
theorem adraw(cs:LA){id:Nat}{ops:List Oper}(hm:c.P.follows .mixedOrders=true)(hok:AvZ ops=true){N:Nat}(hN:c.fn.ntmps=N)(hdst:ops.all (fun o=>dOk N o.dst)=true)(n:Nat)
  (h:dx c ops k n ops cs e s):AWp c (.code (.region id ops.toArray true)::k) e s:=by
 intro a w hsim;have hch:=AfB (m:=0) (by grind) h;rw[<- List.range_eq_range']at hch;refine wp_region_any hm ?_;have hsim':Sim c e s a { w with drawn:=w.drawn+1 }:=by
  obtain⟨hh,ρ,hmm,hl,he,hdf,hsz,hX⟩:=hsim;have sm:Same w { w with drawn:=w.drawn+1 }:=Same.drew w;exact⟨hh,ρ,hmm.same sm,hl.trans (Later.same sm),he,hdf,hsz,c.hx.later hmm (Later.same sm) hX⟩
 refine AnX hok (fun o ho=>by grind) ops.length (Array.replicate ops.length false) (List.range ops.length) e s a _ (by simp) ?_ (by simp) ?_ hch hsim'
 .symm
  simp_all
 .intro i hi j hj
  by_cases h1:i<ops.length
  all_goals simp_all[waits]
end
end Go.Av
namespace Go.Av
open RowKit
variable [Tr]
section
variable {h:Mem}{ρ:Own}{sto:LB}{w:World}{P:Program}
def Mc(P:Program)(f:FuncId)(e:Nat)(agg:AV)(args:LA)(post:AV->AV->Prop):Prop :=
 Ct P f (.ptr 0 1 0 0::args) [.arr e [agg]] (fun r s=>∃ agg' junk,s=.arr e [agg']::junk/\post r agg'/\nr2 r=true/\nr1 agg'=true)
theorem AfK{fl:Bool}{a:AV}{vs:List Value}(ha:nr1 a=true)(r:RL h (Lf ρ sto) fl vs (cellsOf a)){Lf':Value->AV->Prop}:RL h Lf' true vs (cellsOf a):=by
 cases a with
 | agg l=>exact(AbT r ha).thaw (fun _ _ _ x=>x)
 | _=>exact(AbT r (by grind[cellsOf,nr1])).thaw (fun _ _ _ x=>x)
theorem Mc.ct{f:FuncId}{e:Nat}{agg:AV}{args:LA}{post:AV->AV->Prop}(hc:Mc P f e agg args post)(ha:args.all nr1=true)(hg:nr1 agg=true){id:Nat}(hid:sto[id]? = some (.arr e [agg])) :
  Ct P f (.ptr id 1 0 0::args) sto (fun r s=>∃ agg',post r agg'/\nr1 agg'=true/\s=sto.set id (.arr e [agg'])):=by
 refine⟨hc.1,fun h ρ w vs m hv=>?_⟩
 cases hv with
 | @cons _ v0 _ vs _ r0 rs =>
  have hl:=(AcK r0).2;simp only[LfC,hid]at hl;obtain⟨_,g,tot,h1,h2⟩:=hl.2 rfl;have hown:=m.own id _ hid
  rcases hown with⟨hn,_⟩|⟨g',tot',cur,tt,i3,i4,i5,i6,i7,i8,i9,i10,i11⟩
  .grind
  rw[h1]at i3;obtain⟨rfl,rfl⟩:=i3
  let ρ0:=fun i=>if i=0 then some (g,tot) else none
  have hρ0:∀ i b t,ρ0 i=some (b,t)->i=0/\b=g/\t=tot:=by
   grind
  have m0:Mine h ρ0 [.arr e [agg]] w:=by
   refine⟨m.mem,?_,?_,?_,?_⟩
   .intro i blk hb
    match i,hb with
    | 0,hb =>
     simp at hb; subst hb
     refine .inr ⟨g,tot,cur,tt,rfl,i4,i5,i6,i7,i8,i9,i10,?_⟩;simp only[flat,lbn]at i11 |-;exact(AfK hg i11 (Lf':=Lf ρ0 [.arr e [agg]])).thaw (fun _ _ _ x=>x)
    | i+1,hb=>grind
   .grind
   .grind
   .intro i b t hi o
    obtain⟨_,rfl,_⟩:=hρ0 i b t hi;exact m.disj id _ _ h1 o
  have hp0:RV h (Lf ρ0 [.arr e [agg]]) false v0 (.ptr 0 1 0 0):=by
   refine .leaf ⟨(AcK r0).1,?_⟩<;>grind[LfC]
  refine(hc.2 h ρ0 w (v0::vs) m0 (.cons hp0 ((AeO rs ha (Lf':=Lf ρ0 [.arr e [agg]])).thaw (fun _ _ _ x=>x)))).mono ?_;rintro en w' ⟨v,r,s',h',ρ',rfl,⟨agg',junk,rfl,hp,hnr,hna⟩,m',l',rv⟩;have hk1:=l'.keep (.slice (some ⟨g,0*e,none⟩) 1 (tot-0)) (.sl 0 0 1 1) ⟨rfl,by grind[LfC]⟩;have hρ':ρ' 0=some (g,tot):=by
   have hk:=hk1.2
   grind[LfC]
  have hset:∀ v a,Lf ρ sto v a->Lf ρ (sto.set id (.arr e [agg'])) v a:=fun v a lf=>⟨lf.1,AbL hid (fun _ _=>rfl) (Or.inl ⟨rfl,rfl,rfl⟩) lf.2⟩
  have hlt:=(List.getElem?_eq_some_iff.1 hid).1;refine⟨v,r,_,h',ρ,rfl,⟨agg',hp,hna,rfl⟩,⟨m'.mem,?_,?_,m.inj,?_⟩,⟨l'.hle,?_,hset,l'.os,l'.tape,l'.output,l'.size,?_,fun i _ t x=>.inl ⟨i,t,x⟩⟩,(AnV rv hnr (Lf':=Lf0)).thaw (fun _ _ _ x=>x)⟩
  .intro j blk hb
   by_cases hj:j=id
   .subst hj
    simp[hlt]at hb
    subst hb
    rcases m'.own 0 _ rfl with⟨hn,_⟩|⟨g2,tot2,cur2,tt2,k3,k4,k5,k6,k7,k8,k9,k10,k11⟩
    .grind
    rw[hρ']at k3
    simp at k3
    obtain⟨rfl,rfl⟩:=k3;refine .inr ⟨g,tot,cur2,tt2,h1,k4,k5,k6,k7,k8,k9,k10,?_⟩;simp only[flat,lbn]at k11 |-;exact(AfK hna k11 (Lf':=Lf0)).thaw (fun _ _ _ x=>x)
   .rw [lba (Ne.symm hj)]at hb
    refine(m.own j blk hb).mono l'.hle hset rfl (fun gj t hgj=>l'.block gj (m.lt hgj) fun i t' hi=>?_);obtain⟨_,rfl,_⟩:=hρ0 i gj t' hi;exact hj (m.inj j id _ _ _ hgj h1)
  .intro i hi
   simp at hi
   exact m.out i hi
  .intro i gi t hi o
   by_cases hj:i=id
   .subst hj
    rw[h1]at hi
    simp at hi
    obtain⟨rfl,rfl⟩:=hi;exact m'.disj 0 _ _ hρ' o
   .have hd:=m.disj i gi t hi o
    cases hq:h' gi o with
    | none=>rfl
    | some u =>
     rcases l'.hnew gi o hd (by grind)with⟨j,t',hj'⟩|hs
     .obtain ⟨_,rfl,_⟩:=hρ0 j gi t' hj'
      exact(hj (m.inj i id _ _ _ hi h1)).elim
     .have:=m.lt hi; omega
  .intro b o hb hb'
   rcases l'.hnew b o hb hb' with⟨j,t',hj'⟩|hs<;>grind
  .intro k hk hno
   exact l'.block k hk fun i t hi=>by
    grind
theorem mcall{c:Cx}{k:List It}{e:Env}{s:LB}{f:FuncId}{es:Nat}{agg:AV}{args:LA}{d:Option Tmp}{all os:List Oper}{post:AV->AV->Prop}(hc:Mc c.P f es agg args post)(ha:args.all nr1=true)(hg:nr1 agg=true){id:Nat}(hid:s[id]? = some (.arr es [agg])){N:Nat}(hN:c.fn.ntmps=N)(hd:dOk N d=true)
  (hk:∀ r agg',post r agg'->AWp c (.ops all os::k) (put e d r) (s.set id (.arr es [agg']))):AdF c f (.ptr id 1 0 0::args) d all os k e s :=
 A3Y (hc.ct ha hg hid) hN hd fun r s' ⟨agg',hp,_,hs⟩=>by subst hs; exact hk r agg' hp
end
end Go.Av
namespace Go.Av
open RowKit
variable [Tr]
section
variable {h:Mem}{ρ:Own}{sto:LB}{w:World}{P:Program}
theorem Mine.freeze(m:Mine h ρ sto w){id e:Nat}{l:LA}(hb:sto[id]? = some (.arr e l))(hf:(flat l).all frozen=true) :
  ∃ h' ρ',Mine h' ρ' (sto.set id .dead) w/\Later h ρ sto w h' ρ' (sto.set id .dead) w /\
   ∀ v off len cap,LfC ρ sto v (.sl id off len cap)->off+cap=l.length->len<=cap->RV h' (Lf ρ' (sto.set id .dead)) false v (.fz e ((l.drop off).take len)):=by
 have hid:=(List.getElem?_eq_some_iff.1 hb).1
 rcases m.own id _ hb with⟨rfl,hn⟩|⟨g,tot,cur,t,h3,h4,h5,h6,h7,h8,h9,h10,h11⟩
 .have hk:∀ v a,Lf ρ sto v a->Lf ρ (sto.set id .dead) v a:=fun v a l=>⟨l.1,AbL hb (fun _ _=>rfl) trivial l.2⟩
  refine⟨h,ρ,⟨m.mem,?_,fun i hi=>m.out i (by grind),m.inj,m.disj⟩,⟨fun _ _ _ x=>x,fun _ _ a b=>(b a).elim,hk,rfl,rfl,⟨rfl,Tr.same rfl⟩,lal _,fun _ _ _=>rfl,fun i _ t x=>.inl ⟨i,t,x⟩⟩,?_⟩
  .intro i blk e1
   by_cases hi:i=id
   .subst hi
    simp[hid]at e1
    subst e1;exact hn
   .rw [lba (Ne.symm hi)]at e1
    exact(m.own i blk e1).mono (fun _ _ _ x=>x) hk rfl (fun _ _ _=>rfl)
  .intro v off len cap hl hc hlc
   simp only[LfC,hb]at hl
   rcases hl.2 hc with⟨rfl,rfl,a,rfl⟩|⟨g,tot,h1,_⟩
   .cases a with
    | none=>simpa[at0]using RV.fznil e
    | some a=>simpa[at0]using RV.fz a.1 a.2 0 e [] [] .nil (by simp) (by simp) (lal _)
   grind
 .let h':=fun b o=>if b=g then cur.toList[o]? else h b o
  have hle:∀ b o v,h b o=some v->h' b o=some v:=by
   intro b o v e1;have:b≠g:=fun hq=>by subst hq; simp[m.disj id b tot h3 o]at e1
   grind
  have hk:∀ v a,Lf ρ sto v a->Lf (upd ρ id none) (sto.set id .dead) v a:=fun v a l=>⟨l.1,AbL hb (fun i hi=>by grind[upd]) trivial l.2⟩
  have hown:∀ i b t,upd ρ id none i=some (b,t)->i≠id/\ρ i=some (b,t):=by
   grind[upd]
  refine⟨h',upd ρ id none,⟨?_,?_,?_,?_,?_⟩,⟨hle,?_,hk,rfl,rfl,⟨rfl,Tr.same rfl⟩,lal _,fun _ _ _=>rfl,fun i b t x=>.inl ⟨i,t,(hown i b t x).2⟩⟩,?_⟩
  .intro b o v e1
   by_cases hq:b=g
   .subst hq
    simp only[h',if_true]at e1;refine⟨?_,h10 v (laj e1)⟩;rw[h4.cell]
    grind
   .simp only [h',hq,if_false]at e1
    exact m.mem b o v e1
  .intro i blk e1
   by_cases hi:i=id
   .grind[OwnB,upd]
   .rw [lba (Ne.symm hi)]at e1
    exact(m.own i blk e1).mono hle hk (by grind[upd]) (fun _ _ _=>rfl)
  .intro i hi
   simp at hi
   simp[upd,m.out i hi]
  .intro i j b t t' hi hj
   exact m.inj i j b t t' (hown i b t hi).2 (hown j b t' hj).2
  .intro i b t hi o
   obtain⟨h1,h2⟩:=hown i b t hi;have:b≠g:=fun hq=>by subst hq; exact h1 (m.inj i id _ _ _ h2 h3)
   simp[h',this,m.disj i b t h2 o]
  .grind
  .intro v off len cap hl hc hlc
   simp only[LfC,hb]at hl;have hfl:=AaN h9;have hcurl:cur.toList.length=tot*e:=by omega
   rcases hl.2 hc with⟨rfl,rfl,a,rfl⟩|⟨g',tot',h1,rfl,_⟩
   .cases a with
    | none=>simpa[at0]using RV.fznil e
    | some a=>simpa[at0]using RV.fz a.1 a.2 0 e [] [] .nil (by simp) (by simp) (lal _)
   .rw [h3]at h1
    simp at h1
    obtain⟨rfl,rfl⟩:=h1;have hlen:((l.drop off).take len).length=len:=by grind
    have hr:RL h' (Lf (upd ρ id none) (sto.set id .dead)) true (((cur.toList.take (l.length*e)).drop (off*e)).take (len*e)) (flat ((l.drop off).take len)):=by
     rw[<- AbD (fun x hx=>h9 x (lbi hx)) len,<- AaP h9 off];exact(((AbT h11 hf).thaw (fun _ _ _ x=>x)).mono hle (fun _ _ x=>x) |>.drop _).take _
    have:=RV.fz (fl:=false) g (off*e) (tot-off) e ((l.drop off).take len) _ hr (fun x hx=>h9 x (lbi (lbb hx))) (fun k v hk=>by
     grind) (by omega)
    grind
variable {c:Cx}{e:Env}{s:LB}
theorem Shift.freeze(t:Tmp){id off len cap es:Nat}{l:LA}(hv:get e t=.sl id off len cap)(hb:s.getD id .dead=.arr es l)(hc:off+cap=l.length)(hl:len<=cap)(hf:(flat l).all frozen=true) :
  Shift c e s (put e (some t) (.fz es ((l.drop off).take len))) (s.set id .dead):=by
 rintro a w ⟨hh,ρ,hm,hlt,he,hdf,hsz,hX⟩;obtain⟨h',ρ',m',l',key⟩:=hm.freeze (AbS hb) hf;refine⟨h',ρ',m',hlt.trans l',fun t'=>?_,hdf,hsz,c.hx.later hm l' hX⟩;rw[get_put]
 split
 .rename_i ht
  simp at ht
  subst ht;have:=he t;rw[hv]at this;exact key _ _ _ _ (AbN this).2 hc hl
 .exact (he t').mono l'.hle l'.keep
theorem Shift.nilfz(t:Tmp)(es:Nat)(hv:get e t=.raw (.slice none 0 0)):Shift c e s (put e (some t) (.fz es [])) s:=by
 rintro a w ⟨hh,ρ,hm,hlt,he,hdf,hsz,hX⟩;refine⟨hh,ρ,hm,hlt,fun t'=>?_,hdf,hsz,hX⟩;rw[get_put]
 split
 .rename_i ht
  simp at ht
  subst ht;have:=he t;rw[hv]at this;rw[AaU this];exact .fznil es
 .exact he t'
theorem Shift.nilsl(t:Tmp)(es:Nat)(hv:get e t=.raw (.slice none 0 0)):Shift c e s (put e (some t) (.sl s.length 0 0 0)) (s++[.arr es []]):=by
 rintro a w ⟨hh,ρ,hm,hlt,he,hdf,hsz,hX⟩;obtain⟨m',l'⟩:=hm.pushNil es;refine⟨hh,ρ,m',hlt.trans l',fun t'=>?_,hdf,hsz,c.hx.later hm l' hX⟩;rw[get_put]
 split
 .rename_i ht
  simp at ht
  subst ht;have:=he t;rw[hv]at this;rw[AaU this];exact .leaf ⟨rfl,by simp only[LfC,List.getElem?_concat_length]; exact⟨by simp,fun _=>.inl ⟨trivial,trivial,none,rfl⟩⟩⟩
 .exact (he t').mono l'.hle l'.keep
end
