/- Functions that leave memory as it was: one contract for every table of blocks; what is. -/
import Derived.Test.YtlldmgboedknfaaGreatDoorC9
set_option linter.unusedSimpArgs false
set_option linter.unusedVariables false
set_option linter.unusedSectionVars false
namespace Go.Av
open Go Go.RowKit
variable [Tr]
def Lf0:Value->AV->Prop:=fun _ _=>False
def nr1:AV->Bool
 | .agg l=>l.all frozen
 | a=>frozen a
def nr2:AV->Bool
 | .tup l=>l.all nr1
 | a=>nr1 a
def Pc(P:Program)(f:FuncId)(args:List AV)(post:AV->Prop):Prop :=
 AaB P f=true/\∀ h w vs,(∀ b o v,h b o=some v->w.cell? ⟨b,o,none⟩=some v/\v.oneCell'=true)->RL h Lf0 true vs args->Calls P f vs.toArray w fun en w' =>
  ∃ v r h',en=.returned v/\post r/\(∀ b o v,h' b o=some v->w'.cell? ⟨b,o,none⟩=some v/\v.oneCell'=true)/\(∀ b o v,h b o=some v->h' b o=some v) /\
   (∀ b o,h b o=none->h' b o≠none->w.heap.size<=b)/\Same w w'/\RV h' Lf0 true v r
section
variable {h:Mem}{ρ:Own}{sto:List Blk}{w:World}{P:Program}{Lf':Value->AV->Prop}
theorem BsE{fl u a}(r:RV h (Lf ρ sto) fl u a)(hf:nr1 a=true):RV h Lf' true u a:=by
 cases a with
 | agg l =>
  obtain⟨vs,rfl,rl⟩:=AaN r;exact .agg _ _ ((AcW rl hf).thaw (fun _ _ _ x=>x))
 | _=>exact(AkG r hf).thaw (fun _ _ _ x=>x)
theorem AiY{fl:Bool}:∀ {l:List AV}{vs:List Value},RL h (Lf ρ sto) fl vs l->l.all nr1=true->RL h Lf' true vs l
 | [],_,r,_=>by cases r; exact .nil
 | a::l,_,r,hf=>by
  cases r with
  | cons r1 r2 =>
   simp at hf
   exact .cons (BsE r1 hf.1) (AiY r2 (by simpa using hf.2))
theorem A3U{fl u a}(r:RV h (Lf ρ sto) fl u a)(hf:nr2 a=true):RV h Lf' true u a:=by
 cases a with
 | tup l =>
  obtain⟨vs,rfl,rl⟩:=A0I r;exact .tup _ _ (AiY rl hf)
 | _=>exact BsE r hf
theorem AbM{f:FuncId}{args:List AV}{post:AV->Prop}(hc:Ct P f args [] (fun r _=>post r/\nr2 r=true)):Pc P f args post:=by
 refine⟨hc.1,fun h w vs hm hv=>?_⟩;have hmine:Mine h (fun _=>none) [] w:=⟨hm,fun id blk e=>by simp at e,fun _ _=>rfl,fun i j g t t' e=>by simp at e,fun i g t e=>by simp at e⟩;refine(hc.2 h (fun _=>none) w vs hmine (hv.thaw (fun _ _ _ x=>x))).mono ?_;rintro en w' ⟨v,r,s,h',ρ',rfl,⟨hp,hn⟩,hm',hl,rv⟩;exact⟨v,r,h',rfl,hp,hm'.mem,hl.hle,fun b o e n=>by
  rcases hl.hnew b o e n with⟨j,t,hj⟩|hs
  .simp at hj
  .exact hs,⟨hl.os,hl.tape,hl.output,hl.size,fun k hk=>hl.block k hk (fun i t e=>by simp at e)⟩,A3U rv hn⟩
theorem Pc.ct{f:FuncId}{args:List AV}{post:AV->Prop}(hc:Pc P f args post)(ha:args.all nr1=true)(sto:List Blk):Ct P f args sto (fun r s=>post r/\s=sto):=by
 refine⟨hc.1,fun h ρ w vs hm hv=>?_⟩;refine(hc.2 h w vs hm.mem (AiY hv ha)).mono ?_;rintro en w' ⟨v,r,h',rfl,hp,hm',hle,hnew,hs,rv⟩;refine⟨v,r,sto,h',ρ,rfl,⟨hp,rfl⟩,⟨hm',?_,hm.out,hm.inj,?_⟩,⟨hle,fun b o e n=>.inr (hnew b o e n),fun _ _ x=>x,hs.os,hs.tape,hs.output,hs.size,fun k hk _=>hs.block k hk,fun i _ t x=>.inl ⟨i,t,x⟩⟩,rv.thaw (fun _ _ _ x=>x)⟩
 .exact fun id blk e=>(hm.own id blk e).mono hle (fun _ _ x=>x) rfl (fun g t hg=>hs.block g (hm.lt hg))
 .intro i g t e o
  have hlt:=hm.lt e;have hd:=hm.disj i g t e o
  cases hq:h' g o with
  | none=>rfl
  | some v=>have:=hnew g o hd (by simp[hq]); omega
theorem A7B{c:Cx}{k:List It}{e:Env}{s:List Blk}{f:FuncId}{args:List AV}{d:Option Tmp}{all os:List Oper}{post:AV->Prop}(hc:Pc c.P f args post)(ha:args.all nr1=true){N:Nat}(hN:c.fn.ntmps=N)(hd:dOk N d=true)
  (hk:∀ r,post r->AWp c (.ops all os::k) (put e d r) s):AdY c f args d all os k e s :=
 A7A (hc.ct ha s) hN hd fun r s' ⟨hp,hs⟩=>by subst hs; exact hk r hp
theorem AcS{c:Cx}{k:List It}{e:Env}{s:List Blk}{f:FuncId}{args:List AV}{d:Option Tmp}{all os:List Oper}{r:AV}(hc:Pc c.P f args (· = r))(ha:args.all nr1=true){N:Nat}(hN:c.fn.ntmps=N)(hd:dOk N d=true)
  (hk:AWp c (.ops all os::k) (put e d r) s):AdY c f args d all os k e s :=
 A7B hc ha hN hd fun r' hr=>by subst hr; exact hk
theorem Pc.mono{f:FuncId}{args:List AV}{post post':AV->Prop}(hc:Pc P f args post)(hp:∀ r,post r->post' r):Pc P f args post' :=
 ⟨hc.1,fun h w vs hm hv=>(hc.2 h w vs hm hv).mono fun _ _ ⟨v,r,h',a,b,rest⟩=>⟨v,r,h',a,hp r b,rest⟩⟩
theorem Pc.calls{f:FuncId}{args:List AV}{r:AV}(hc:Pc P f args (· = r)){w:World}{vs:List Value}(hv:∀ h,RL h Lf0 true vs args):Calls P f vs.toArray w fun en w'=>(∃ v h',en=.returned v/\RV h' Lf0 true v r)/\Same w w' :=
 (hc.2 (fun _ _=>none) w vs (fun b o v e=>by simp at e) (hv _)).mono fun _ _ ⟨v,_,h',e1,e2,_,_,_,hs,rv⟩=>⟨⟨v,h',e1,e2▸rv⟩,hs⟩
end
end Go.Av
namespace Go.Av
open Go Go.RowKit
variable [Tr]
def Eqv(e e':Env):Prop:=∀ t,get e t=get e' t
theorem Eqv.refl(e:Env):Eqv e e:=fun _=>rfl
theorem get_put(e:Env)(d:Option Tmp)(v:AV)(t:Nat):get (put e d v) t=if d=some t then v else get e t:=by
 cases d with
 | none=>simp[put]
 | some d =>
  simp only[put,get]
  by_cases h:d=t
  .subst h; simp
  .have:(d==t)=false:=by simpa using h
   simp[this,h]
theorem Eqv.put{e e':Env}(h:Eqv e e')(d:Option Tmp)(v:AV):Eqv (put e d v) (put e' d v):=fun t=>by rw[get_put,get_put,h t]
def A0X(ops:Array Oper)(o:Oper)(e e':Env):Prop:=∀ t∈o.looksAt ops,get e t=get e' t
theorem AiZ{e e':Env}{x:Operand}(h:∀ t,x=.tmp t->get e t=get e' t):ev e x=ev e' x:=by
 cases x with
 | tmp t=>exact h t rfl
 | _=>rfl
theorem AgB{e e':Env}:∀ {l:List Operand},(∀ x∈l,ev e x=ev e' x)->evs e l=evs e' l
 | [],_=>rfl
 | x::l,h=>by simp only[evs]; rw[h x (by simp),AgB fun y hy=>h y (by simp[hy])]
theorem AnQ{e e':Env}:∀ {l:List (Nat×Operand)},(∀ x∈l.map (·.2),ev e x=ev e' x)->evp e l=evp e' l
 | [],_=>rfl
 | (i,x)::l,h=>by simp only[evp]; rw[h x (by simp),AnQ fun y hy=>h y (by simp at hy |-; exact .inr hy)]
theorem AdD{wr frz:Bool}{P:Program}{e e':Env}{s:List Blk}{op:Op}(h:∀ x∈op.operands,ev e x=ev e' x):xop wr frz P e s op=xop wr frz P e' s op:=by
 cases op with
 | build t parts =>
  simp only[xop];rw[AnQ (e:=e) (e':=e') fun x hx=>h x (by simpa[Op.operands]using hx)]
 | buildSlice t len parts =>
  simp only[xop];rw[AnQ (e:=e) (e':=e') fun x hx=>h x (by simpa[Op.operands]using hx)]
 | makeFunc f first cap =>
  simp only[xop];rw[AgB (e:=e) (e':=e') fun x hx=>h x (by simp[Op.operands]at hx |-; exact .inr hx)]
 | call c =>
  simp only[xop];have ha:∀ x∈c.args.toList,ev e x=ev e' x:=fun x hx=>h x (by simp[Op.operands,Call.operands]at hx |-; exact .inr hx)
  split
  .unfold A0D
   cases hq:c.args.toList with
   | nil=>rfl
   | cons x xs =>
    rw[hq]at ha
    cases c.argTypes.toList with
    | nil=>rfl
    | cons t ts=>simp only; rw[ha x (by simp)]
  .unfold A9U
   cases hq:c.args.toList with
   | nil=>rfl
   | cons x xs =>
    rw[hq]at ha
    cases c.argTypes.toList with
    | nil=>rfl
    | cons t ts=>simp only; rw[ha x (by simp)]
  .unfold A9Y
   split
   .rename_i x y t u h1 h2
    rw[h1]at ha;rw[ha x (by simp),ha y (by simp)]
   .rfl
  .unfold AvU
   split
   .rename_i x y t u h1 h2
    rw[h1]at ha;rw[ha x (by simp),ha y (by simp)]
   .rfl
  .unfold AnB
   split
   .rename_i x t h1 h2
    rw[h1]at ha;rw[ha x (by simp)]
   .rfl
  .unfold BaG
   split
   .rename_i x y t u h1 h2
    rw[h1]at ha;rw[ha x (by simp),ha y (by simp)]
   .rfl
  .rw [AgB ha]
  .rw [AgB ha]
  .rename_i f hc
   rw[AgB ha,h f (by simp[Op.operands,Call.operands,hc])]
  .rfl
 | unOp op t x =>
  have hx:=h x (by simp[Op.operands])
  cases op <;> simp only[xop,hx]
 | move x=>simp only[xop,h x (by simp[Op.operands])]
 | assign x=>simp only[xop,h x (by simp[Op.operands])]
 | pick c x y=>simp only[xop,h c (by simp[Op.operands]),h x (by simp[Op.operands]),h y (by simp[Op.operands])]
 | binOp op t x y yt=>simp only[xop,h x (by simp[Op.operands]),h y (by simp[Op.operands])]
 | extract x i=>simp only[xop,h x (by simp[Op.operands])]
 | index t x i=>simp only[xop,h x (by simp[Op.operands]),h i (by simp[Op.operands])]
 | field t x f=>simp only[xop,h x (by simp[Op.operands])]
 | nilCheck x=>simp only[xop,h x (by simp[Op.operands])]
 | makeSlice t n c=>simp only[xop,h n (by simp[Op.operands]),h c (by simp[Op.operands])]
 | slice t x lo hi mx =>
  simp only[xop];have e0:∀ z:Option Operand,(∀ y,z=some y->ev e y=ev e' y)->evo e z=evo e' z:=fun z hz=>by
   cases z with
   | none=>rfl
   | some y=>simp only[evo,hz y rfl]
  rw[h x (by simp[Op.operands]),e0 lo fun y hy=>h y (by subst hy; simp[Op.operands]),e0 hi fun y hy=>h y (by subst hy; simp[Op.operands]),e0 mx fun y hy=>h y (by subst hy; simp[Op.operands])]
 | box t x=>simp only[xop,h x (by simp[Op.operands])]
 | fieldAddr t x f=>simp only[xop,h x (by simp[Op.operands])]
 | indexAddr t x i=>simp only[xop,h x (by simp[Op.operands]),h i (by simp[Op.operands])]
 | load t x=>simp only[xop,h x (by simp[Op.operands])]
 | store t x v=>simp only[xop,h x (by simp[Op.operands]),h v (by simp[Op.operands])]
 | convert a b x=>simp only[xop,h x (by simp[Op.operands])]
 | mapUpdate t m k v=>simp only[xop,h m (by simp[Op.operands]),h k (by simp[Op.operands]),h v (by simp[Op.operands])]
 | lookup t m k c=>simp only[xop,h m (by simp[Op.operands]),h k (by simp[Op.operands])]
 | mapEntry t m k=>simp only[xop,h m (by simp[Op.operands]),h k (by simp[Op.operands])]
 | entryStore t m k v=>simp only[xop,h m (by simp[Op.operands]),h k (by simp[Op.operands]),h v (by simp[Op.operands])]
 | range t x=>simp only[xop,h x (by simp[Op.operands])]
 | entry x=>simp only[xop,h x (by simp[Op.operands])]
 | makeMap t r=>cases r <;> rfl
 | _=>rfl
theorem AbG{ops:Array Oper}{o:Oper}{e e':Env}(h:A0X ops o e e'):∀ x∈o.op.operands,ev e x=ev e' x:=fun x hx=>AiZ fun t ht=>h t (by
 subst ht;unfold Oper.looksAt;refine List.mem_append.2 (.inl (List.mem_filterMap.2 ⟨.tmp t,by simpa using hx,rfl⟩)))
theorem BaZ{ops:Array Oper}{o:Oper}{e e':Env}(h:A0X ops o e e'){j:Nat}{want:Bool}(hg:o.guard=some (j,want)):yldD want e ops[j]? = yldD want e' ops[j]?:=by
 cases hq:ops[j]? with
 | none=>rfl
 | some oj =>
  simp only[yldD]
  cases hd:oj.dst with
  | none=>rfl
  | some d =>
   simp only;rw[h d];unfold Oper.looksAt;refine List.mem_append.2 (.inr ?_)
   simp[hg,hq,hd]
def calm:Op->Bool
 | .store ..|.alloc ..|.makeSlice ..|.box ..|.makeMap ..|.mapUpdate ..|.mapEntry ..|.entryStore ..|.range ..=>false
 | .slice _ _ _ _ (some _)=>false
 | .call c=>match c.callee with
  | .builtin .append|.builtin .copy|.builtin .clear|.builtin .delete=>false
  | _=>true
 | _=>true
def blind:Op->Bool
 | .move _|.assign _|.pick ..|.extract ..|.build ..=>true
 | .call c=>match c.callee with
  | .value _=>true
  | _=>false
 | _=>false
theorem AcI{op:Op}(h:blind op=true):calm op=true:=by
 cases op <;> first|rfl|(exfalso; revert h; simp[blind]; done)|skip
 rename_i c
 cases hc:c.callee <;> simp[blind,calm,hc]at h |-
theorem BbA{wr frz:Bool}{P:Program}{e:Env}{s s':List Blk}{op:Op}(h:blind op=true):xop wr frz P e s op=xop wr frz P e s' op:=by
 cases op <;> first|rfl|(exfalso; revert h; simp[blind]; done)|skip
 rename_i c
 cases hc:c.callee <;> simp[blind,hc]at h
 simp only[xop,hc]
def PcAt(c:Cx)(f:FuncId)(args:List AV)(cv:AV):Prop :=
 AaB c.P f=true/\∀ h w vs,(∀ k,k<c.w.heap.size->(∀ i t,c.ρ i≠some (k,t))->w.heap[k]? = c.w.heap[k]?)->(∀ b o v,h b o=some v->w.cell? ⟨b,o,none⟩=some v/\v.oneCell'=true)->RL h Lf0 true vs args->Calls c.P f vs.toArray w fun en w' =>
  ∃ v r h',en=.returned v/\r=cv/\(∀ b o v,h' b o=some v->w'.cell? ⟨b,o,none⟩=some v/\v.oneCell'=true)/\(∀ b o v,h b o=some v->h' b o=some v) /\
   (∀ b o,h b o=none->h' b o≠none->w.heap.size<=b)/\Same w w'/\RV h' Lf0 true v r
theorem Pc.at{c:Cx}{f:FuncId}{args:List AV}{cv:AV}(hc:Pc c.P f args (· = cv)):PcAt c f args cv:=⟨hc.1,fun h w vs _ m r=>hc.2 h w vs m r⟩
theorem PcAt.calls{c:Cx}{f:FuncId}{args:List AV}{cv:AV}(hc:PcAt c f args cv)(ha:args.all nr1=true){h:Mem}{ρ:Own}{sto:List Blk}{w:World}{vs:List Value}(hm:Mine h ρ sto w)(hl:Later c.h c.ρ c.sto c.w h ρ sto w)(hv:RL h (Lf ρ sto) false vs args) :
  Calls c.P f vs.toArray w fun en w'=>∃ v r s h' ρ',en=.returned v/\(r=cv/\s=sto)/\Mine h' ρ' s w'/\Later h ρ sto w h' ρ' s w'/\RV h' (Lf ρ' s) false v r:=by
 refine(hc.2 h w vs (fun k hk hn=>hl.block k hk hn) hm.mem (AiY hv ha)).mono ?_;rintro en w' ⟨v,r,h',rfl,hp,hm',hle,hnew,hs,rv⟩;refine⟨v,r,sto,h',ρ,rfl,⟨hp,rfl⟩,⟨hm',?_,hm.out,hm.inj,?_⟩,⟨hle,fun b o e n=>.inr (hnew b o e n),fun _ _ x=>x,hs.os,hs.tape,hs.output,hs.size,fun k hk _=>hs.block k hk,fun i _ t x=>.inl ⟨i,t,x⟩⟩,rv.thaw (fun _ _ _ x=>x)⟩
 .exact fun id blk e=>(hm.own id blk e).mono hle (fun _ _ x=>x) rfl (fun g t hg=>hs.block g (hm.lt hg))
 .intro i g t e o
  have hlt:=hm.lt e;have hd:=hm.disj i g t e o
  cases hq:h' g o with
  | none=>rfl
  | some v=>have:=hnew g o hd (by simp[hq]); omega
def DoesOp(c:Cx)(s:List Blk)(o:Oper)(cv:AV)(e:Env)(v:AV)(s':List Blk):Prop :=
 match xop false true c.P e s o.op with
 | .ok u=>v=u/\s'=s
 | .side p u=>p/\v=u/\s'=s
 | .sto p u s1=>calm o.op=false/\p/\v=u/\s'=s1
 | .pick b x y=>v=(if b then x else y)/\s'=s
 | .call f args=>PcAt c f args cv/\args.all nr1=true/\v=cv/\s'=s
 | _=>False
def Does(c:Cx)(ops:Array Oper)(s:List Blk)(o:Oper)(cv:AV)(e:Env)(v:AV)(s':List Blk):Prop :=
 match o.guard with
 | none=>DoesOp c s o cv e v s'
 | some (j,want)=>match yldD want e ops[j]? with
  | some b=>(b=want/\DoesOp c s o cv e v s')\/(b≠want/\v=.raw undef/\s'=s)
  | none=>False
theorem DoesOp.calm{c:Cx}{s s':List Blk}{o:Oper}{cv v:AV}{e:Env}(hc:Av.calm o.op=true)(h:DoesOp c s o cv e v s'):s'=s:=by
 unfold DoesOp at h
 split at h
 .exact h.2
 .exact h.2.2
 .rw [hc]at h; cases h.1
 .exact h.2
 .exact h.2.2.2
 .exact h.elim
theorem Does.calm{c:Cx}{ops:Array Oper}{s s':List Blk}{o:Oper}{cv v:AV}{e:Env}(hc:Av.calm o.op=true)(h:Does c ops s o cv e v s'):s'=s:=by
 unfold Does at h
 split at h
 .exact h.calm hc
 .split at h
  .rcases h with⟨_,h⟩|⟨_,_,h⟩
   .exact h.calm hc
   .exact h
  .exact h.elim
theorem DoesOp.blind{c:Cx}{s s' s2:List Blk}{o:Oper}{cv v:AV}{e:Env}(hc:Av.blind o.op=true)(h:DoesOp c s o cv e v s'):DoesOp c s2 o cv e v s2:=by
 have hcc:=AcI hc;unfold DoesOp at h |-;rw[BbA (s':=s2) hc]at h
 split at h <;> rename_i hq
 .exact ⟨h.1,rfl⟩
 .exact ⟨h.1,h.2.1,rfl⟩
 .rw [hcc]at h; cases h.1
 .exact ⟨h.1,rfl⟩
 .exact ⟨h.1,h.2.1,h.2.2.1,rfl⟩
 .exact h.elim
theorem Does.blind{c:Cx}{ops:Array Oper}{s s' s2:List Blk}{o:Oper}{cv v:AV}{e:Env}(hc:Av.blind o.op=true)(h:Does c ops s o cv e v s'):Does c ops s2 o cv e v s2:=by
 unfold Does at h |-
 split at h
 .exact h.blind hc
 .split at h
  .rcases h with⟨h1,h⟩|⟨h1,h2,h⟩
   .exact .inl ⟨h1,h.blind hc⟩
   .exact .inr ⟨h1,h2,rfl⟩
  .exact h.elim
theorem Does.agree{c:Cx}{ops:Array Oper}{s s':List Blk}{o:Oper}{cv v:AV}{e e':Env}(h:A0X ops o e e')(d:Does c ops s o cv e v s'):Does c ops s o cv e' v s':=by
 have hop:xop false true c.P e s o.op=xop false true c.P e' s o.op:=AdD (AbG h);have hd:DoesOp c s o cv e v s'->DoesOp c s o cv e' v s':=by unfold DoesOp; rw[hop]; exact id
 unfold Does at d |-
 split at d
 .exact hd d
 .rename_i j want hg
  rw[<- BaZ h hg]
  split at d
  .rename_i b hb
   rcases d with⟨h1,h2⟩|h1
   .exact .inl ⟨h1,hd h2⟩
   .exact .inr h1
  .exact d.elim
def Chain(c:Cx)(ops:Array Oper)(K:Env->List Blk->Prop):List Nat->Env->List Blk->Prop
 | [],e,s=>K e s
 | i::r,e,s=>match ops[i]? with
  | some o=>∃ cv v s',Does c ops s o cv e v s'/\Chain c ops K r (put e o.dst v) s'
  | none=>False
def together(x y:Oper):Bool:=calm x.op&&calm y.op||blind x.op||blind y.op
section
variable {cx:Cx}{ops:Array Oper}{s:List Blk}{K:Env->List Blk->Prop}
theorem Chain.congr(hK:∀ e e' s,Eqv e e'->K e s->K e' s):∀ {l:List Nat}{e e':Env}{s:List Blk},Eqv e e'->Chain cx ops K l e s->Chain cx ops K l e' s
 | [],e,e',s,h,c=>hK e e' s h c
 | i::r,e,e',s,h,c=>by
  unfold Chain at c |-
  split at c
  .rename_i o ho
   obtain⟨cv,v,s',h1,h2⟩:=c;exact⟨cv,v,s',h1.agree fun t _=>h t,Chain.congr hK (h.put _ _) h2⟩
  .exact c.elim
theorem Chain.swap(hK:∀ e e' s,Eqv e e'->K e s->K e' s){i j:Nat}{r:List Nat}{oi oj:Oper}(hi:ops[i]? = some oi)(hj:ops[j]? = some oj)(ha:oi.apart ops oj=true)(ht:together oi oj=true){e:Env}{s:List Blk}(c:Chain cx ops K (i::j::r) e s) :
  Chain cx ops K (j::i::r) e s:=by
 obtain⟨a1,a2,a3⟩:=Oper.apart_spec ha;simp only[Chain,hi,hj]at c |-;obtain⟨cv,v,s1,h1,cu,u,s2,h2,h3⟩:=c;have h2':Does cx ops s1 oj cu e u s2:=h2.agree fun t ht=>by
  rw[get_put,if_neg]; intro h; exact a1 t h ht
 have h1':∀ {z z'},Does cx ops z oi cv e v z'->Does cx ops z oi cv (put e oj.dst u) v z':=fun hd=>hd.agree fun t ht=>by
  rw[get_put,if_neg]; intro h; exact a3 t h ht
 have h3':=Chain.congr hK (e':=put (put e oj.dst u) oi.dst v) (fun t=>by
  rw[get_put,get_put,get_put,get_put]
  by_cases h1:oi.dst=some t
  .have h2:oj.dst≠some t:=a2 t h1
   simp[h1,h2]
  .simp [h1]) h3
 simp only[together,Bool.or_eq_true,Bool.and_eq_true]at ht
 rcases ht with(⟨c1,c2⟩|c1)|c1
 .have e1:=h1.calm c1
  subst e1;have e2:=h2.calm c2;subst e2;exact⟨cu,u,_,h2',cv,v,_,h1' h1,h3'⟩
 .have e1:=h1.calm (AcI c1)
  subst e1;exact⟨cu,u,_,h2',cv,v,_,h1' (h1.blind c1),h3'⟩
 .have e2:=h2.calm (AcI c1)
  subst e2;exact⟨cu,u,_,h2'.blind c1,cv,v,_,h1' h1,h3'⟩
theorem Chain.front(hK:∀ e e' s,Eqv e e'->K e s->K e' s){i:Nat}{oi:Oper}(hi:ops[i]? = some oi){r:List Nat}:∀ {l:List Nat}{e:Env}{s:List Blk},(∀ j∈l,∃ oj,ops[j]? = some oj/\oj.apart ops oi=true/\together oj oi=true) ->
  Chain cx ops K (l++i::r) e s->Chain cx ops K (i::(l++r)) e s
 | [],_,_,_,c=>c
 | j::l,e,s,h,c=>by
  obtain⟨oj,hj,ha,hb⟩:=h j (by simp);refine Chain.swap hK hj hi ha hb ?_;simp only[List.cons_append,Chain,hj]at c |-;obtain⟨cv,v,s',h1,h2⟩:=c;exact⟨cv,v,s',h1,Chain.front hK hi (fun k hk=>h k (by simp[hk])) h2⟩
end
def AdN(ops:List Oper)(i:Nat):List Nat:=match ops[i]? with
 | some o=>(o.after.toList.filter (Region.binds .any)).map (·.on)
 | none=>[]
def anc(ops:List Oper):Nat->Nat->List Nat
 | 0,_=>[]
 | n+1,i=>AdN ops i++(AdN ops i).flatMap (anc ops n)
def A3V(ops:List Oper):Bool :=
 (List.range ops.length).all fun i =>
  (AdN ops i).all (fun j=>decide (j<i)) &&
  (List.range i).all fun j=>(match ops[i]?,ops[j]? with|some oi,some oj=>oj.apart ops.toArray oi&&together oj oi|_,_=>false)||(anc ops ops.length i).contains j
def AiH(okp:Nat->Nat->Bool)(ops:List Oper):Bool :=
 (List.range ops.length).all fun i=>(AdN ops i).all (fun j=>decide (j<i))&&(List.range i).all fun j=>okp j i||(anc ops ops.length i).contains j
section
variable {ops:List Oper}
theorem AkK{L:Nat->Prop}(hc:∀ i,L i->∀ j∈AdN ops i,L j):∀ (n i:Nat),(∀ j∈AdN ops i,L j)->∀ j∈anc ops n i,L j
 | 0,_,_,j,hj=>by simp[anc]at hj
 | n+1,i,hi,j,hj=>by
  simp only[anc,List.mem_append,List.mem_flatMap]at hj
  rcases hj with hj|⟨k,hk,hj⟩
  .exact hi j hj
  .exact AkK hc n k (hc k (hi k hk)) j hj
end
section
variable {c:Cx}{k:List It}{e:Env}{s:List Blk}
theorem Sim.eqv{e':Env}{a:Act}{w:World}(h:Eqv e e')(hs:Sim c e s a w):Sim c e' s a w:=by
 obtain⟨hh,ρ,hm,hl,he,hdf,hsz,hX⟩:=hs;exact⟨hh,ρ,hm,hl,fun t=>by rw[<- h t]; exact he t,hdf,hsz,hX⟩
theorem AWp.eqv{e':Env}(h:Eqv e e')(x:AWp c k e s):AWp c k e' s:=fun a w hs=>x a w (hs.eqv fun t=>(h t).symm)
theorem AnR{o:Oper}{ops:Array Oper}{cv v:AV}{s1:List Blk}{a:Act}{w:World}{K:Act->World->Prop}{Q:Exit->Act->World->Prop}(hs:Sim c e s a w)(hd:dOk c.fn.ntmps o.dst=true)(h:Does c ops s o cv e v s1)
  (hK:∀ a w,Sim c (put e o.dst v) s1 a w->K a w):if Region.wanted o (yielded ops a.tmps) then o.wp c.P a w K Q else K (a.put o.dst undef) w:=by
 obtain⟨hh,ρ,hm,hl,he,hdf,hsz,hX⟩:=hs;have hop:DoesOp c s o cv e v s1->o.wp c.P a w K Q:=by
  intro hd1;have hsnd:=AeY (P:=c.P) (wr:=false) (frz:=true) (o:=o) hm he;have fin:Okv hh ρ s w ((execOp a.eval o).run c.P w) v s1->o.wp c.P a w K Q:=by
   rintro⟨u,w',h',ρ',hr,hm',hlt,rv⟩;have he':EnvOk h' ρ' s1 e a:=fun t=>(he t).mono hlt.hle hlt.keep
   have:=hK (a.put o.dst u) w' ⟨h',ρ',hm',hl.trans hlt,he'.put (by rw[hsz]; exact hd) rv,by rw[AaE]; exact hdf,by rw[AaP]; exact hsz,c.hx.later hm hlt hX⟩;unfold Oper.wp
   rcases hr with hr|⟨hr,hu⟩
   .rw [hr]; exact this
   .rw [hr]; subst hu; exact this
  unfold DoesOp at hd1
  revert hd1 hsnd
  cases xop false true c.P e s o.op with
  | ok u=>intro h2 h1; obtain⟨h2,h3⟩:=h2; subst h2; subst h3; exact fin h1
  | side p u=>intro h2 h1; obtain⟨hp,h2,h3⟩:=h2; subst h2; subst h3; exact fin (h1 hp)
  | sto p u s'=>intro h2 h1; obtain⟨_,hp,h2,h3⟩:=h2; subst h2; subst h3; exact fin (h1 hp)
  | pick b x y=>intro h2 h1; obtain⟨h2,h3⟩:=h2; subst h2; subst h3; exact fin h1
  | call f args =>
   intro h2 h1;obtain⟨hp,hn,h2,h3⟩:=h2;subst h2; subst h3;obtain⟨vs,hv,hr⟩:=h1;unfold Oper.wp;rw[hr hp.1];refine(hp.calls hn hm hl hv).mono ?_;rintro en w' ⟨u,r,s',h',ρ',rfl,⟨hrv,hss⟩,hm',hlt,rv⟩;subst hss; subst hrv;have he':EnvOk h' ρ' s' e a:=fun t=>(he t).mono hlt.hle hlt.keep
   exact hK _ _ ⟨h',ρ',hm',hl.trans hlt,he'.put (by rw[hsz]; exact hd) rv,by rw[AaE]; exact hdf,by rw[AaP]; exact hsz,c.hx.later hm hlt hX⟩
  | anyb p=>intro h2 _; exact h2.elim
  | stuck=>intro h2 _; exact h2.elim
 unfold Does at h
 split at h
 .rename_i hg
  rw[if_pos (by simp[Region.wanted,hg])];exact hop h
 .rename_i j want hg
  split at h
  .rename_i b hb
   have hy:=AhA (all:=ops.toList) he (by simpa using hb);simp only[Array.toArray_toList]at hy
   rcases h with⟨h1,h2⟩|⟨h1,h2,h3⟩
   .rw [if_pos (by simp[Region.wanted,hg,hy.1 h1])]
    exact hop h2
   .rw [if_neg (by simpa[Region.wanted,hg]using hy.2 h1)]
    subst h2; subst h3;exact hK _ _ ⟨hh,ρ,hm,hl,he.put (by rw[hsz]; exact hd) (.raw _),by rw[AaE]; exact hdf,by rw[AaP]; exact hsz,hX⟩
  .exact h.elim
inductive Dn where
 | go (r:List Oper) (cs:List AV) (e:Env) (s:List Blk)
 | two (b:Bool) (r:List Oper) (cs:List AV) (e:Env) (r':List Oper) (cs':List AV) (e':Env) (s:List Blk)
 | side (p:Prop) (r:List Oper) (cs:List AV) (e:Env) (s:List Blk)
 | fail
def dcall(c:Cx)(f:FuncId)(args:List AV)(d:Option Tmp)(r:List Oper)(e:Env)(s:List Blk):List AV->Dn
 | cv::cs=>.side (PcAt c f args cv/\args.all nr1=true) r cs (put e d cv) s
 | []=>.fail
def dres(c:Cx)(op:Op)(d:Option Tmp)(r:List Oper)(cs:List AV)(e:Env)(s:List Blk):Res->Dn
 | .ok v=>.go r cs (put e d v) s
 | .side p v=>.side p r cs (put e d v) s
 | .sto p v s'=>.side (calm op=false/\p) r cs (put e d v) s'
 | .pick b x y=>.two b r cs (put e d x) r cs (put e d y) s
 | .call f args=>dcall c f args d r e s cs
 | _=>.fail
def dyld(want:Bool)(o:Oper)(r:List Oper)(cs:List AV)(e:Env)(s:List Blk):Option Bool->Dn
 | some b=>bif want then .two b ({ o with guard:=none }::r) cs e r cs (put e o.dst (.raw undef)) s
  else .two b r cs (put e o.dst (.raw undef)) ({ o with guard:=none }::r) cs e s
 | none=>.fail
def dgrd(c:Cx)(all:List Oper)(s:List Blk)(o:Oper)(r:List Oper)(cs:List AV)(e:Env):Option (Nat×Bool)->Dn
 | none=>dres c o.op o.dst r cs e s (xop false true c.P e s o.op)
 | some (j,want)=>dyld want o r cs e s (yldD want e all[j]?)
mutual
def dx(c:Cx)(all:List Oper)(k:List It):Nat->List Oper->List AV->Env->List Blk->Prop
 | _,[],_,e,s=>AWp c k e s
 | 0,_::_,_,_,_=>False
 | n+1,o::r,cs,e,s=>dxc c all k n (dgrd c all s o r cs e o.guard)
def dxc(c:Cx)(all:List Oper)(k:List It):Nat->Dn->Prop
 | n,.go r cs e s=>dx c all k n r cs e s
 | n,.two b r cs e r' cs' e' s=>dbr c all k n b r cs e r' cs' e' s
 | n,.side p r cs e s=>p/\dx c all k n r cs e s
 | _,.fail=>False
def dbr(c:Cx)(all:List Oper)(k:List It):Nat->Bool->List Oper->List AV->Env->List Oper->List AV->Env->List Blk->Prop
 | 0,_,_,_,_,_,_,_,_=>False
 | n+1,b,r,cs,e,r',cs',e',s=>(b=true->dx c all k n r cs e s)/\(b=false->dx c all k n r' cs' e' s)
end
theorem BhV{all:List Oper}{n:Nat} {r cs e r' cs' e' s}:dbr c all k (n+1) true r cs e r' cs' e' s=dx c all k n r cs e s:=by rw[dbr]; simp
theorem BbB{all:List Oper}{n:Nat} {r cs e r' cs' e' s}:dbr c all k (n+1) false r cs e r' cs' e' s=dx c all k n r' cs' e' s:=by rw[dbr]; simp
theorem BsF{all:List Oper}{n:Nat}{o:Oper}{r:List Oper}{cs:List AV}(hg:o.guard=none)(h:dx c all k n (o::r) cs e s) :
  ∃ cv v n' cs' s',DoesOp c s o cv e v s'/\dx c all k n' r cs' (put e o.dst v) s':=by
 cases n with
 | zero=>rw[dx]at h; exact h.elim
 | succ n =>
  rw[dx,hg]at h;unfold dgrd at h;unfold DoesOp
  revert h
  cases xop false true c.P e s o.op with
  | ok u=>intro h; simp only[dres,dxc]at h; exact⟨.any,u,n,cs,s,⟨rfl,rfl⟩,h⟩
  | side p u=>intro h; simp only[dres,dxc]at h; exact⟨.any,u,n,cs,s,⟨h.1,rfl,rfl⟩,h.2⟩
  | sto p u s'=>intro h; simp only[dres,dxc]at h; exact⟨.any,u,n,cs,s',⟨h.1.1,h.1.2,rfl,rfl⟩,h.2⟩
  | pick b x y =>
   intro h; simp only[dres,dxc]at h
   cases n with
   | zero=>rw[dbr]at h; exact h.elim
   | succ n =>
   rw[dbr]at h;refine⟨.any,_,n,cs,s,⟨rfl,rfl⟩,?_⟩
   cases b with
   | true=>exact h.1 rfl
   | false=>exact h.2 rfl
  | call f args =>
   intro h; simp only[dres]at h
   cases cs with
   | nil=>simp only[dcall,dxc]at h
   | cons cv cs=>simp only[dcall,dxc]at h; exact⟨cv,cv,n,cs,s,⟨h.1.1,h.1.2,rfl,rfl⟩,h.2⟩
  | anyb p=>intro h; simp only[dres,dxc]at h
  | stuck=>intro h; simp only[dres,dxc]at h
theorem BoK{all:List Oper}{n:Nat}{o:Oper}{r:List Oper}{cs:List AV}(h:dx c all k n (o::r) cs e s) :
  ∃ cv v n' cs' s',Does c all.toArray s o cv e v s'/\dx c all k n' r cs' (put e o.dst v) s':=by
 cases hg:o.guard with
 | none =>
  obtain⟨cv,v,n',cs',s',h1,h2⟩:=BsF hg h;exact⟨cv,v,n',cs',s',by unfold Does; rw[hg]; exact h1,h2⟩
 | some jw =>
  obtain⟨j,want⟩:=jw
  cases n with
  | zero=>rw[dx]at h; exact h.elim
  | succ n =>
   rw[dx,hg]at h;unfold dgrd dyld at h
   cases hy:yldD want e all[j]? with
   | none=>simp only[hy,dxc]at h
   | some b =>
    simp only[hy]at h;have key:(b=want->∃ n',dx c all k n' ({ o with guard:=none }::r) cs e s)/\(b≠want->∃ n',dx c all k n' r cs (put e o.dst (.raw undef)) s):=by
     cases n with
     | zero=>cases want <;> simp only[cond_true,cond_false,dxc,dbr]at h
     | succ n =>
      cases want <;> simp only[cond_true,cond_false,dxc,dbr]at h <;> cases b <;>
       first
       | exact⟨fun _=>⟨n,h.1 rfl⟩,fun hh=>(hh rfl).elim⟩
       | exact⟨fun _=>⟨n,h.2 rfl⟩,fun hh=>(hh rfl).elim⟩
       | exact⟨fun hh=>(by cases hh),fun _=>⟨n,h.1 rfl⟩⟩
       | exact⟨fun hh=>(by cases hh),fun _=>⟨n,h.2 rfl⟩⟩
    have hy':yldD want e all.toArray[j]? = some b:=by simpa using hy
    by_cases hb:b=want
    .obtain ⟨n1,h1⟩:=key.1 hb
     obtain⟨cv,v,n',cs',s',h1,h2⟩:=BsF rfl h1;refine⟨cv,v,n',cs',s',?_,h2⟩;unfold Does;rw[hg];simp only[hy'];exact .inl ⟨hb,h1⟩
    .obtain ⟨n1,h1⟩:=key.2 hb
     refine⟨.any,.raw undef,n1,cs,s,?_,h1⟩;unfold Does;rw[hg];simp only[hy'];exact .inr ⟨hb,trivial,trivial⟩
theorem AiI{all:List Oper}:∀ {r:List Oper}{m n:Nat}{cs:List AV}{e:Env}{s:List Blk},(∀ (j:Nat),r[j]? = all[m+j]?)->dx c all k n r cs e s->Chain c all.toArray (fun e s=>AWp c k e s) (List.range' m r.length) e s
 | [],m,n,cs,e,s,_,h=>by
  rw[dx]at h;exact h
 | o::r,m,n,cs,e,s,hr,h=>by
  obtain⟨cv,v,n',cs',s',h1,h2⟩:=BoK h;have h0:all.toArray[m]? = some o:=by have:=hr 0; simpa using this.symm
  simp only[List.length_cons,List.range'_succ,Chain,h0];exact⟨cv,v,s',h1,AiI (fun j=>by have:=hr (j+1); simpa[Nat.add_assoc,Nat.add_comm 1 j]using this) h2⟩
theorem AWp.K:∀ e e' s,Eqv e e'->AWp c k e s->AWp c k e' s:=fun _ _ _ h x=>x.eqv h
theorem AkL{ops:List Oper}{okp:Nat->Nat->Bool}(Ch:List Nat->Act->World->Prop)(hok:AiH okp ops=true)(hnil:∀ a w,Ch [] a w->WQ c k .normal a w)
  (hfr:∀ l i r a w,(∀ j∈l,okp j i=true)->Ch (l++i::r) a w->Ch (i::(l++r)) a w)
  (hst:∀ i o r a w (Kc:Act->World->Prop),ops[i]? = some o->Ch (i::r) a w->(∀ a w,Ch r a w->Kc a w) ->
   if Region.wanted o (yielded ops.toArray a.tmps) then o.wp c.P a w Kc (WQ c k) else Kc (a.put o.dst undef) w):∀ (fuel:Nat) (listed:Array Bool) (l:List Nat) (a:Act) (w:World),listed.size=ops.length ->
  l=(List.range ops.length).filter (fun i=>!listed.getD i true)->l.length=fuel->(∀ i,listed.getD i true=true->∀ j∈AdN ops i,listed.getD j true=true) ->
  Ch l a w->wpAny c.P .any ops.toArray (WQ c k) fuel listed a w:=by
 have hready:∀ (listed:Array Bool) (i:Nat),i∈Region.ready .any ops.toArray listed ↔ i<ops.length/\listed.getD i true=false/\∀ j∈AdN ops i,listed.getD j false=true:=by
  intro listed i;unfold Region.ready;simp only[List.mem_filter,List.mem_range,List.size_toArray,Bool.and_eq_true,Bool.not_eq_true'];refine and_congr_right fun hi=>and_congr_right fun _=>?_
  have:ops[i]? = some ops[i]:=by simp[hi]
  simp only[List.getElem?_toArray,this,Option.map_some,Option.getD_some,AdN];rw[Array.all_eq_true_iff_forall_mem]
  constructor
  .intro h j hj
   simp only[List.mem_map,List.mem_filter,Array.mem_toList_iff]at hj;obtain⟨ed,⟨h1,h2⟩,rfl⟩:=hj;have:=h ed h1
   simpa[h2]using this
  .intro h ed hed
   by_cases hb:Region.binds .any ed=true
   .have:=h ed.on (by simp only[List.mem_map,List.mem_filter,Array.mem_toList_iff]; exact⟨ed,⟨hed,hb⟩,rfl⟩)
    simp[this]
   .simp [hb]
 have hback:∀ i,i<ops.length->∀ j∈AdN ops i,j<i:=by
  intro i hi j hj;have:=(List.all_eq_true.1 hok) i (by simpa using hi);simp only[Bool.and_eq_true]at this
  simpa using(List.all_eq_true.1 this.1) j hj
 intro fuel
 induction fuel with
 | zero =>
  intro listed l a w hsz hl hlen hcl hch;have hnil:l=[]:=List.eq_nil_of_length_eq_zero hlen;subst hnil;refine⟨?_,hnil a w hch⟩;apply List.eq_nil_iff_forall_not_mem.2;intro i hi;obtain⟨h1,h2,_⟩:=(hready listed i).1 hi;have:i∈(List.range ops.length).filter (fun i=>!listed.getD i true):=List.mem_filter.2 ⟨by simpa using h1,by simp[h2]⟩;rw[<- hl]at this
  cases this
 | succ fuel ih =>
  intro listed l a w hsz hl hlen hcl hch;have hmem:∀ i,i∈l ↔ i<ops.length/\listed.getD i true=false:=by
   intro i; rw[hl]; simp[List.mem_filter]
  refine⟨fun hr=>?_,fun i hi=>?_⟩
  .exfalso
   cases hq:l with
   | nil=>rw[hq]at hlen; simp at hlen
   | cons i r =>
    have hil:i∈l:=by rw[hq]; simp
    obtain⟨h1,h2⟩:=(hmem i).1 hil;have:i∈Region.ready .any ops.toArray listed:=by
     refine(hready listed i).2 ⟨h1,h2,fun j hj=>?_⟩;have hlt:=hback i h1 j hj;have hjn:j ∉ l:=by
      intro hjl;have hs:l.Pairwise (·<·):=by rw[hl]; exact List.Pairwise.filter _ List.pairwise_lt_range
      rw[hq]at hs hjl
      rcases List.mem_cons.1 hjl with rfl|hjr
      .omega
      .have:=(List.pairwise_cons.1 hs).1 j hjr; omega
     have hjlt:j<listed.size:=by omega
     have:=fun hf=>hjn ((hmem j).2 ⟨by omega,hf⟩)
     cases hv:listed.getD j true with
     | true=>simpa[Array.getD,hjlt]using hv
     | false=>exact(this hv).elim
    rw[hr]at this
    cases this
  .obtain ⟨h1,h2,h3⟩:=(hready listed i).1 hi
   have hil:i∈l:=(hmem i).2 ⟨h1,h2⟩;obtain⟨l1,l2,hsplit⟩:=List.append_of_mem hil;have ho:ops.toArray[i]? = some ops[i]:=by simp[h1]
   have hs:l.Pairwise (·<·):=by rw[hl]; exact List.Pairwise.filter _ List.pairwise_lt_range
   have hapart:∀ j∈l1,okp j i=true:=by
    intro j hj;have hjl:j∈l:=by rw[hsplit]; simp[hj]
    obtain⟨hj1,hj2⟩:=(hmem j).1 hjl;have hji:j<i:=by
     rw[hsplit]at hs;exact(List.pairwise_append.1 hs).2.2 j hj i (by simp)
    have:=(List.all_eq_true.1 hok) i (by simpa using h1);simp only[Bool.and_eq_true]at this;have:=(List.all_eq_true.1 this.2) j (by simpa using hji);simp only[Bool.or_eq_true]at this
    rcases this with h4|h4
    .exact h4
    .exfalso
     have hm:j∈anc ops ops.length i:=by simpa using h4
     have hw3:∀ j∈AdN ops i,listed.getD j true=true:=by
      intro j hj;have h5:=h3 j hj;have hjlt:j<listed.size:=by have:=hback i h1 j hj; omega
      simpa[Array.getD,hjlt]using h5
     have:=AkK (L:=fun j=>listed.getD j true=true) hcl ops.length i hw3 j hm;rw[this]at hj2
     cases hj2
   rw[hsplit]at hch;have hfront:=hfr l1 i l2 a w hapart hch;have hlist:∀ j,(listed.setIfInBounds i true).getD j true=if j=i then true else listed.getD j true:=by
    intro j
    by_cases hj:j=i
    .subst hj
     have:j<listed.size:=by omega
     simp[this]
    .rw [if_neg hj]
     simp[Array.getElem?_setIfInBounds_ne (Ne.symm hj)]
   have hnext:l1++l2=(List.range ops.length).filter (fun j=>!(listed.setIfInBounds i true).getD j true):=by
    have e1:(fun j=>!(listed.setIfInBounds i true).getD j true)=fun j=>(!listed.getD j true)&&decide (j≠i):=by
     funext j
     rw[hlist]
     by_cases hj:j=i <;> simp[hj]
    have e2:(List.range ops.length).filter (fun j=>(!listed.getD j true)&&decide (j≠i))=l.filter (fun j=>decide (j≠i)):=by
     rw[hl,List.filter_filter]
     congr 1
     funext j
     rw[Bool.and_comm]
    rw[e1,e2,hsplit];have hn:l.Nodup:=hs.imp (fun h=>Nat.ne_of_lt h);rw[hsplit]at hn;have hn1:i ∉ l1:=fun hh=>(List.nodup_append.1 hn).2.2 i hh i (by simp) rfl
    have hn2:i ∉ l2:=(List.nodup_cons.1 (List.nodup_append.1 hn).2.1).1;simp only[List.filter_append,List.filter_cons];have f1:∀ x:List Nat,i ∉ x->x.filter (fun j=>decide (j≠i))=x:=by
     intro x hx;rw[List.filter_eq_self];intro y hy
     simp
     intro h; subst h; exact hx hy
    rw[f1 l1 hn1,f1 l2 hn2]
    simp
   have hgo:∀ a w,Ch (l1++l2) a w->wpAny c.P .any ops.toArray (WQ c k) fuel (listed.setIfInBounds i true) a w:=fun a' w' hrest =>
    ih (listed.setIfInBounds i true) (l1++l2) a' w' (by simpa using hsz) hnext (by rw[hsplit]at hlen; simp at hlen |-; omega) (fun j hj m hm=>by
     rw[hlist]at hj |-
     by_cases hmi:m=i
     .simp [hmi]
     .rw [if_neg hmi]
      by_cases hji:j=i
      .subst hji
       have h5:=h3 m hm;have hmlt:m<listed.size:=by have:=hback j h1 m hm; omega
       simpa[Array.getD,hmlt]using h5
      .rw [if_neg hji]at hj
       exact hcl j hj m hm) hrest
   have hw:=hst i ops[i] (l1++l2) a w _ (by simp[h1]) hfront hgo;unfold wpOp;rw[ho];simp only
   by_cases hwant:Region.wanted ops[i] (yielded ops.toArray a.tmps)=true
   .rw [if_pos hwant]at hw |-
    exact .inl hw
   .rw [if_neg hwant]at hw |-
    exact hw
theorem AwI{ops:List Oper}(hok:A3V ops=true)(hdst:∀ o∈ops,dOk c.fn.ntmps o.dst=true):∀ (fuel:Nat)(listed:Array Bool)(l:List Nat)(e:Env)(s:List Blk)(a:Act)(w:World),listed.size=ops.length ->
  l=(List.range ops.length).filter (fun i=>!listed.getD i true)->l.length=fuel->(∀ i,listed.getD i true=true->∀ j∈AdN ops i,listed.getD j true=true) ->
  Chain c ops.toArray (fun e s=>AWp c k e s) l e s->Sim c e s a w->wpAny c.P .any ops.toArray (WQ c k) fuel listed a w :=
 fun fuel listed l e s a w hsz hl hlen hcl hch hsim =>
  AkL (okp:=fun j i=>match ops[i]?,ops[j]? with|some oi,some oj=>oj.apart ops.toArray oi&&together oj oi|_,_=>false) (fun l a w=>∃ e s,Chain c ops.toArray (fun e s=>AWp c k e s) l e s/\Sim c e s a w) hok (fun a w ⟨e,s,h1,h2⟩=>h1 a w h2)
   (fun l i r a w hj ⟨e,s,h1,h2⟩=>by
    cases ho:ops[i]? with
    | none =>
     cases l with
     | nil=>exact⟨e,s,h1,h2⟩
     | cons j l=>have:=hj j (by simp); simp[ho]at this
    | some oi =>
     refine⟨e,s,Chain.front (K:=fun e s=>AWp c k e s) AWp.K (by simpa using ho) (fun j hjl=>?_) h1,h2⟩;have:=hj j hjl;simp only[ho]at this
     cases hoj:ops[j]? with
     | none=>simp[hoj]at this
     | some oj =>
      simp only[hoj,Bool.and_eq_true]at this;exact⟨oj,by simpa using hoj,this.1,this.2⟩)
   (fun i o r a w Kc ho ⟨e,s,h1,h2⟩ hK=>by
    have ho':ops.toArray[i]? = some o:=by simpa using ho
    simp only[Chain,ho']at h1;obtain⟨cv,v,s1,hd,hrest⟩:=h1;exact AnR (Q:=WQ c k) h2 (hdst o (List.mem_of_getElem? ho)) hd fun a w hs=>hK a w ⟨_,_,hrest,hs⟩) fuel listed l a w hsz hl hlen hcl ⟨e,s,hch,hsim⟩
theorem BsG(cs:List AV){id:Nat}{ops:List Oper}(hm:c.P.follows .mixedOrders=true)(hok:A3V ops=true){N:Nat}(hN:c.fn.ntmps=N)(hdst:ops.all (fun o=>dOk N o.dst)=true)(n:Nat)
  (h:dx c ops k n ops cs e s):AWp c (.code (.region id ops.toArray true)::k) e s:=by
 intro a w hsim;have hch:=AiI (m:=0) (by intro j; simp) h;rw[<- List.range_eq_range']at hch;refine wp_region_any hm ?_;have hsim':Sim c e s a { w with drawn:=w.drawn+1 }:=by
  obtain⟨hh,ρ,hmm,hl,he,hdf,hsz,hX⟩:=hsim;have sm:Same w { w with drawn:=w.drawn+1 }:=Same.drew w;exact⟨hh,ρ,hmm.same sm,hl.trans (Later.same sm),he,hdf,hsz,c.hx.later hmm (Later.same sm) hX⟩
 refine AwI hok (fun o ho=>by rw[hN]; exact(List.all_eq_true.1 hdst) o ho) ops.length (Array.replicate ops.length false) (List.range ops.length) e s a _ (by simp) ?_ (by simp) ?_ hch hsim'
 .symm
  rw[List.filter_eq_self];intro i hi
  simp at hi
  simp[hi]
 .intro i hi j hj
  exfalso
  by_cases h1:i<ops.length
  .simp [h1]at hi
  .unfold AdN at hj
   have:ops[i]? = none:=by simp; omega
   simp[this]at hj
end
