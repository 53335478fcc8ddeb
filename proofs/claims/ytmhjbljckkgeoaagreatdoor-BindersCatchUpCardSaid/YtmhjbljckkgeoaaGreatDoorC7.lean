/- The walk over a function's text in plain data: 'run' goes on by itself till a call, a. -/
import Derived.Test.YtmhjbljckkgeoaaGreatDoorC6
import Derived.Deep.LoopGhost
set_option linter.all false
namespace Go.Av
open RowKit
variable [Tr]
inductive It where
 | ops (all rest:List Oper)
 | op (all:List Oper) (o:Oper) (rest:List Oper)
 | code (c:Code)
 | blk (id:Nat)
 | inv (J:Act->World->Prop)
def dOk(N:Nat):Option Tmp->Bool
 | some d=>decide (d<N)
 | none=>true
structure Stb(x:Mem->Own->World->Prop):Prop where
 later:∀ {h ρ sto w h' ρ' sto' w'},Mine h ρ sto w->Later h ρ sto w h' ρ' sto' w'->x h ρ w->x h' ρ' w'
 fewer:∀ {h:Mem} {ρ ρ':Own} {w:World},(∀ i g t,ρ' i=some (g,t)->∃ j t',ρ j=some (g,t'))->x h ρ w->x h ρ' w
def X0:Mem->Own->World->Prop:=fun _ _ _=>True
theorem stb0:Stb X0:=⟨fun _ _ _=>trivial,fun _ _=>trivial⟩
structure Cx where
 P:Program
 fn:Func
 h:Mem
 ρ:Own
 sto:LB
 w:World
 post:AV->LB->Prop
 x:Mem->Own->World->Prop
 hx:Stb x
def Fin(c:Cx)(a:Act)(w:World):Prop :=
 a.defers=[]/\∃ v r s h' ρ',(results c.fn a.tmps).run c.P w=.ok v w/\c.post r s/\Mine h' ρ' s w/\Later c.h c.ρ c.sto c.w h' ρ' s w/\RV h' (Lf ρ' s) false v r
def WQ(c:Cx):List It->Exit->Act->World->Prop
 | [],e,a,w=>match e with
  | .normal=>Fin c a w
  | .ret=>Fin c a w
  | _=>False
 | x::k,e,a,w=>match e with
  | .normal=>match x with
   | .ops all rest=>wpList c.P all.toArray (WQ c k) rest a w
   | .op all o rest=>dOk c.fn.ntmps o.dst=true->o.wp c.P a w (wpList c.P all.toArray (WQ c k) rest) (WQ c k)
   | .code y=>y.wp c.P (WQ c k) a w
   | .blk _=>WQ c k .normal a w
   | .inv J=>J a w
  | .exit id=>match x with
   | .blk i=>if id=i then WQ c k .normal a w else WQ c k (.exit id) a w
   | _=>WQ c k (.exit id) a w
  | e=>WQ c k e a w
def Sim(c:Cx)(e:Env)(s:LB)(a:Act)(w:World):Prop :=
 ∃ h ρ,Mine h ρ s w/\Later c.h c.ρ c.sto c.w h ρ s w/\EnvOk h ρ s e a/\a.defers=[]/\a.tmps.size=c.fn.ntmps/\c.x h ρ w
def AWp(c:Cx)(k:List It)(e:Env)(s:LB):Prop:=∀ a w,Sim c e s a w->WQ c k .normal a w
def ARet(c:Cx)(e:Env)(s:LB):Prop:=∀ a w,Sim c e s a w->Fin c a w
def AdX(c:Cx)(f:FuncId)(args:LY)(d:Option Tmp)(all os:List Oper)(k:List It)(e:Env)(s:LB):Prop :=
 ∀ a w h ρ vs,Mine h ρ s w->Later c.h c.ρ c.sto c.w h ρ s w->EnvOk h ρ s e a->a.defers=[]->a.tmps.size=c.fn.ntmps->c.x h ρ w->RL h (Lf ρ s) false vs args ->
  AaA c.P f=true/\Calls c.P f vs.toArray w fun en w'=>match en with
   | .returned v=>WQ c (.ops all os::k) .normal (a.put d v) w'
   | _=>False
def BvK(_:Oper)(_:Env):Prop:=False
def AeX(id:Nat):List It->Option (List It)
 | []=>none
 | .blk i::k=>bif id==i then some k else AeX id k
 | _::k=>AeX id k
inductive Nx where
 | go (k:List It) (e:Env) (s:LB)
 | two (b:Bool) (k:List It) (e:Env) (s:LB) (k':List It) (e':Env) (s':LB)
 | side (p:Prop) (k:List It) (e:Env) (s:LB)
 | leaf (p:Prop)
def resN(c:Cx)(o:Oper)(all os:List Oper)(k:List It)(e:Env)(s:LB):Res->Nx
 | .ok v=>.go (.ops all os::k) (put e o.dst v) s
 | .side p v=>.side p (.ops all os::k) (put e o.dst v) s
 | .sto p v s'=>.side p (.ops all os::k) (put e o.dst v) s'
 | .pick b x y=>.two b (.ops all os::k) (put e o.dst x) s (.ops all os::k) (put e o.dst y) s
 | .call f args=>.leaf (AdX c f args o.dst all os k e s)
 | .anyb p=>.leaf (p/\∀ b,AWp c (.ops all os::k) (put e o.dst (.bool b)) s)
 | .stuck=>.leaf (BvK o e)
def AsH:Value->Bool
 | .bool _=>false
 | _=>true
theorem AsI:AsH undef=true:=rfl
def yldV(want:Bool):AV->Option Bool
 | .bool b=>some b
 | .raw v=>bif AsH v then some (!want) else none
 | _=>none
def yldD(want:Bool)(e:Env):Option Oper->Option Bool
 | some o=>match o.dst with
  | some d=>yldV want (get e d)
  | none=>none
 | none=>none
def grdN(want:Bool)(o:Oper)(all os:List Oper)(k:List It)(e:Env)(s:LB):Option Bool->Nx
 | some b=>bif want then .two b (.op all o os::k) e s (.ops all os::k) (put e o.dst (.raw undef)) s
  else .two b (.ops all os::k) (put e o.dst (.raw undef)) s (.op all o os::k) e s
 | none=>.leaf (BvK o e)
def opN(o:Oper)(all os:List Oper)(k:List It)(e:Env)(s:LB):Option (Nat×Bool)->Nx
 | none=>.go (.op all o os::k) e s
 | some (j,want)=>grdN want o all os k e s (yldD want e all[j]?)
def BaP(a b:Code)(k:List It)(e:Env)(s:LB):AV->Nx
 | .bool t=>.two t (.code a::k) e s (.code b::k) e s
 | _=>.leaf False
def BqS(e:Env)(s:LB):Option (List It)->Nx
 | some k=>.go k e s
 | none=>.leaf False
def BjH(c:Cx)(k:List It)(e:Env)(s:LB):Nx:=.leaf (AWp c k e s)
def step1(wr frz:Bool)(N:Nat)(c:Cx)(k:List It)(e:Env)(s:LB):Nx :=
 match k with
 | .ops _ []::k=>.go k e s
 | .ops all (o::os)::k=>bif dOk N o.dst then opN o all os k e s o.guard else .leaf False
 | .op all o os::k=>resN c o all os k e s (xop wr frz c.P e s o.op)
 | .code .skip::k=>.go k e s
 | .code (.region id ops draw)::k=>bif draw then BjH c (.code (.region id ops true)::k) e s else .go (.ops ops.toList ops.toList::k) e s
 | .code (.seq a b)::k=>.go (.code a::.code b::k) e s
 | .code (.cond x a b)::k=>BaP a b k e s (ev e x)
 | .code (.block id x)::k=>.go (.code x::.blk id::k) e s
 | .code (.exit id)::k=>BqS e s (AeX id k)
 | .code .ret::_=>.leaf (ARet c e s)
 | .code x::k=>BjH c (.code x::k) e s
 | .blk _::k=>.go k e s
 | .inv J::k=>BjH c (.inv J::k) e s
 | []=>.leaf (ARet c e s)
mutual
def run(wr frz:Bool)(N:Nat)(c:Cx):Nat->List It->Env->LB->Prop
 | 0,k,e,s=>AWp c k e s
 | n+1,k,e,s=>cont wr frz N c n (step1 wr frz N c k e s)
def cont(wr frz:Bool)(N:Nat)(c:Cx):Nat->Nx->Prop
 | n,.go k e s=>run wr frz N c n k e s
 | n,.two b k e s k' e' s'=>br wr frz N c n b k e s k' e' s'
 | n,.side p k e s=>p/\run wr frz N c n k e s
 | _,.leaf p=>p
def br(wr frz:Bool)(N:Nat)(c:Cx):Nat->Bool->List It->Env->LB->List It->Env->LB->Prop
 | 0,b,k,e,s,k',e',s'=>(b=true->AWp c k e s)/\(b=false->AWp c k' e' s')
 | n+1,b,k,e,s,k',e',s'=>(b=true->run wr frz N c n k e s)/\(b=false->run wr frz N c n k' e' s')
end
theorem BqT{wr frz:Bool}{N:Nat}{c:Cx}{n:Nat} {k e s k' e' s'}:br wr frz N c (n+1) true k e s k' e' s'=run wr frz N c n k e s:=by grind[br]
theorem BjI{wr frz:Bool}{N:Nat}{c:Cx}{n:Nat} {k e s k' e' s'}:br wr frz N c (n+1) false k e s k' e' s'=run wr frz N c n k' e' s':=by grind[br]
def Nx.sem(c:Cx):Nx->Prop
 | .go k e s=>AWp c k e s
 | .two b k e s k' e' s'=>(b=true->AWp c k e s)/\(b=false->AWp c k' e' s')
 | .side p k e s=>p/\AWp c k e s
 | .leaf p=>p
section
variable {c:Cx}{k:List It}{e:Env}{s:LB}
theorem AjX{id:Nat}:∀ {k k':List It},AeX id k=some k'->∀ a w,WQ c k' .normal a w->WQ c k (.exit id) a w
 | [],_,h,_,_,_=>by grind[AeX]
 | x::k,k',h,a,w,hw=>by
  cases x with
  | blk i =>
   simp only[AeX]at h;simp only[WQ]
   by_cases hi:id=i
   .subst hi
    simp at h; subst h
    simp; exact hw
   .have:(id==i)=false:=by simpa using hi
    simp only[this,cond_false]at h;rw[if_neg hi];exact AjX h a w hw
  | ops _ _=>exact AjX (k:=k) h a w hw
  | op _ _ _=>exact AjX (k:=k) h a w hw
  | code _=>exact AjX (k:=k) h a w hw
  | inv _=>exact AjX (k:=k) h a w hw
theorem BoO:∀ {k:List It} {a w},Fin c a w->WQ c k .ret a w
 | [],_,_,h=>h
 | _::k,_,_,h=>BoO (k:=k) h
theorem EnvOk.put{h:Mem}{ρ:Own}{a:Act}{d:Option Tmp}{v:Value}{x:AV}(he:EnvOk h ρ s e a)(hd:dOk a.tmps.size d=true)(hv:RV h (Lf ρ s) false v x):EnvOk h ρ s (put e d x) (a.put d v):=by
 cases d with
 | none=>exact he
 | some d =>
  intro t;have hlt:d<a.tmps.size:=by grind[dOk]
  simp only[Av.put,get,Act.put]
  by_cases ht:d=t
  .simp_all
  .have:(d==t)=false:=by grind
   simp only[this,cond_false];have e1:(a.tmps.setIfInBounds d v).getD t undef=a.tmps.getD t undef:=by
    simp_all
   rw[e1];exact he t
theorem AaO(a:Act)(d:Option Tmp)(v:Value):(a.put d v).tmps.size=a.tmps.size:=by cases d <;> simp[Act.put]
theorem AaE(a:Act)(d:Option Tmp)(v:Value):(a.put d v).defers=a.defers:=by cases d <;> rfl
theorem AmV{h:Mem}{ρ:Own}{w:World}{a:Act}{o:Oper}{v:AV}{s':LB}{all os:List Oper}(hl:Later c.h c.ρ c.sto c.w h ρ s w)(he:EnvOk h ρ s e a)(hdf:a.defers=[])(hsz:a.tmps.size=c.fn.ntmps)(hm0:Mine h ρ s w)(hX:c.x h ρ w)
  (hd:dOk c.fn.ntmps o.dst=true) (ok:Okv h ρ s w ((execOp a.eval o).run c.P w) v s') (hk:AWp c (.ops all os::k) (put e o.dst v) s'):WQ c (.op all o os::k) .normal a w:=by
 obtain⟨u,w',h',ρ',hr,hm,hlt,rv⟩:=ok;have he':EnvOk h' ρ' s' e a:=fun t=>(he t).mono hlt.hle hlt.keep
 have hsim:Sim c (put e o.dst v) s' (a.put o.dst u) w':=⟨h',ρ',hm,hl.trans hlt,he'.put (by grind) rv,by grind[AaE],by grind[AaO],c.hx.later hm0 hlt hX⟩;have:=hk _ _ hsim;intro _;unfold Oper.wp
 rcases hr with hr|⟨hr,hu⟩
 .rw [hr]; exact this
 .rw [hr]; subst hu; exact this
theorem AeY{h:Mem}{ρ:Own}{a:Act}{all:List Oper}{j:Nat}{b want:Bool}(he:EnvOk h ρ s e a)(hb:yldD want e all[j]? = some b):(b=want->yielded all.toArray a.tmps j=some want)/\(b≠want->yielded all.toArray a.tmps j≠some want):=by
 unfold yldD at hb
 split at hb
 .rename_i oj hoj
  split at hb
  .rename_i d hd
   have hv:=he d;unfold yldV at hb
   split at hb
   .rename_i b' hb'
    rw[hb']at hv;have h1:=AbY hv
    simp at hb; have h2:a.tmps[d]? = some (.bool b'):=by
     rw[Array.getD_eq_getD_getElem?]at h1
     grind[undef]
    grind[yielded]
   .rename_i v hb'
    rw[hb']at hv;have h1:=inv_raw hv
    cases hn:AsH v with
    | false=>grind
    | true =>
     have hy:yielded all.toArray a.tmps j=none:=by
      simp only[yielded,List.getElem?_toArray,hoj,hd,Option.bind_some];rw[Array.getD_eq_getD_getElem?]at h1
      grind[AsH]
     grind
   grind
  grind
 grind
theorem A0G{wr frz:Bool}(h:(step1 wr frz c.fn.ntmps c k e s).sem c):AWp c k e s:=by
 intro a w hsim;have hsim':=hsim;obtain⟨hh,ρ,hm,hl,he,hdf,hsz,hX⟩:=hsim';unfold step1 at h
 split at h
 .exact (h a w hsim:WQ c _ .normal a w)
 .-- an operation's guard
  rename_i all o os k
  cases hd:dOk c.fn.ntmps o.dst with
  | false=>grind[Nx.sem]
  | true =>
  simp only[hd,cond_true]at h;unfold opN at h
  split at h
  .have:=h a w hsim
   grind[wpList,WQ,Region.wanted]
  .rename_i j want hg
   unfold grdN at h
   split at h
   .rename_i b hb
    have hy:=AeY he hb
    show wpList c.P all.toArray (WQ c k) (o::os) a w
    unfold wpList;have h1:b=want->AWp c (.op all o os::k) e s:=fun hh=>by
     subst hh
     cases b with
     | true=>exact h.1 rfl
     | false=>exact h.2 rfl
    have h2:b≠want->AWp c (.ops all os::k) (put e o.dst (.raw undef)) s:=fun hh=>by
     cases b <;> cases want <;> first|exact(hh rfl).elim|exact h.1 rfl|exact h.2 rfl
    by_cases hbw:b=want
    .rw [if_pos (by grind[Region.wanted])]
     exact .inl (h1 hbw a w hsim hd)
    .rw [if_neg (by grind[Region.wanted])]
     exact h2 hbw _ w ⟨hh,ρ,hm,hl,he.put (by grind) (.raw _),by grind[AaE],by grind[AaO],hX⟩
   .exact h.elim
 .-- an operation
  rename_i all o os k
  show _->_
  intro hd;have hs:=AeW (P:=c.P) (wr:=wr) (frz:=frz) (o:=o) hm he
  revert h hs
  cases hx:xop wr frz c.P e s o.op with
  | ok v=>intro h hs; exact AmV hl he hdf hsz hm hX hd hs h hd
  | side p v=>intro h hs; exact AmV hl he hdf hsz hm hX hd (hs h.1) h.2 hd
  | sto p v s'=>intro h hs; exact AmV hl he hdf hsz hm hX hd (hs h.1) h.2 hd
  | pick b x y =>
    intro h hs
    cases b with
    | true=>exact AmV hl he hdf hsz hm hX hd hs (h.1 rfl) hd
    | false=>exact AmV hl he hdf hsz hm hX hd hs (h.2 rfl) hd
  | call f args =>
    intro h hs;obtain⟨vs,hv,hr⟩:=hs;have hb:=(h a w hh ρ vs hm hl he hdf hsz hX hv).1
    replace hr:=hr hb
    have hc:=(h a w hh ρ vs hm hl he hdf hsz hX hv).2
    show o.wp c.P a w (wpList c.P all.toArray (WQ c k) os) (WQ c k)
    unfold Oper.wp;rw[hr];exact hc.mono fun en w' hw=>by
     cases en with
     | returned v=>exact hw
     | panicked ch=>grind
     | outgrown=>grind
  | anyb p=>intro h hs; obtain⟨b,hb⟩:=hs h.1; exact AmV hl he hdf hsz hm hX hd hb (h.2 b) hd
  | stuck=>intro h; exact h.elim
 .exact (h a w hsim:WQ c _ .normal a w) |> fun x=>wp_skip x
 .rename_i id ops draw k
  cases draw with
  | true=>exact h a w hsim
  | false =>
   have:=h a w hsim
   simp_all[wp_region_list,WQ]
 .rename_i x y k
  refine wp_seq (Code.wp_mono ?_ (h a w hsim));intro en a' w' hq
  cases en <;> exact hq
 .rename_i x y z k
  unfold BaP at h
  split at h
  .rename_i t ht
   have hx:=AaS he x;rw[ht]at hx;have hb:=AbY hx;refine wp_cond hb ?_
   cases t with
   | true=>exact h.1 rfl a w hsim
   | false=>exact h.2 rfl a w hsim
  .exact h.elim
 .rename_i id x k
  refine wp_block (Code.wp_mono ?_ (h a w hsim));intro en a' w' hq
  cases en <;> exact hq
 .rename_i id k
  unfold BqS at h
  split at h
  .rename_i k' hk
   exact wp_exit (AjX hk a w (h a w hsim))
  .exact h.elim
 .exact wp_ret (BoO (h a w hsim))
 .exact h a w hsim
 .exact h a w hsim
 .exact h a w hsim
 .exact h a w hsim
theorem BjJ{wr frz:Bool}{n:Nat}(ih:∀ m,m<=n->∀ k e s,run wr frz c.fn.ntmps c m k e s->AWp c k e s):∀ {x:Nx},cont wr frz c.fn.ntmps c n x->x.sem c
 | .go k e s,h=>ih n (lab _) k e s (by rw[cont]at h; exact h)
 | .two b k e s k' e' s',h=>by
  rw[cont]at h
  cases n with
  | zero=>rw[br]at h; exact h
  | succ n =>
   rw[br]at h;exact⟨fun hb=>ih n (by omega) _ _ _ (h.1 hb),fun hb=>ih n (by omega) _ _ _ (h.2 hb)⟩
 | .side p k e s,h=>by
  rw[cont]at h;exact⟨h.1,ih n (lab _) _ _ _ h.2⟩
 | .leaf p,h=>by rw[cont]at h; exact h
theorem AiP{wr frz:Bool}(n:Nat):∀ (k:List It)(e:Env)(s:LB),run wr frz c.fn.ntmps c n k e s->AWp c k e s:=by
 induction n using Nat.strongRecOn with
 | _ n ih =>
  intro k e s h
  cases n with
  | zero=>rw[run]at h; exact h
  | succ n =>
   rw[run]at h;exact A0G (BjJ (fun m hm=>ih m (by omega)) h)
theorem go{N:Nat}(hN:c.fn.ntmps=N)(n:Nat)(h:run false false N c n k e s):AWp c k e s:=by grind[AiP]
theorem goW{N:Nat}(hN:c.fn.ntmps=N)(n:Nat)(h:run true false N c n k e s):AWp c k e s:=by grind[AiP]
theorem goB{N:Nat}(hN:c.fn.ntmps=N)(n:Nat)(h:run true true N c n k e s):AWp c k e s:=by grind[AiP]
theorem goF{N:Nat}(hN:c.fn.ntmps=N)(n:Nat)(h:run false true N c n k e s):AWp c k e s:=by grind[AiP]
def Shift(c:Cx)(e:Env)(s:LB)(e':Env)(s':LB):Prop:=∀ a w,Sim c e s a w->Sim c e' s' a w
theorem Shift.refl:Shift c e s e s:=fun _ _ h=>h
theorem Shift.trans{e1 e2:Env}{s1 s2:LB}(x:Shift c e s e1 s1)(y:Shift c e1 s1 e2 s2):Shift c e s e2 s2:=fun a w h=>y a w (x a w h)
theorem AWp.shift{e':Env}{s':LB}(x:Shift c e s e' s')(h:AWp c k e' s'):AWp c k e s:=fun a w hs=>h a w (x a w hs)
theorem ARet.shift{e':Env}{s':LB}(x:Shift c e s e' s')(h:ARet c e' s'):ARet c e s:=fun a w hs=>h a w (x a w hs)
def wk(e:Env):Env->Prop
 | []=>True
 | (t,v)::r=>get e t=v/\wk e r
theorem BvL{e e':Env}(h:wk e e')(t:Nat):get e' t=.any\/get e' t=get e t:=by
 induction e' with
 | nil=>exact .inl rfl
 | cons x r ih =>
  obtain⟨k,v⟩:=x;simp only[get]
  by_cases hk:k=t
  .subst hk; simp; exact .inr h.1.symm
  .have:(k==t)=false:=by grind
   simp only[this,cond_false];exact ih h.2
theorem Ls{e':Env}(h:wk e e'):Shift c e s e' s:=by
 rintro a w ⟨hh,ρ,hm,hl,he,hdf,hsz,hX⟩;refine⟨hh,ρ,hm,hl,fun t=>?_,hdf,hsz,hX⟩
 rcases BvL h t with h1|h1
 .rw [h1]; exact .any _
 .rw [h1]; exact he t
theorem AaC{ι:Type}{B:Code}(μ:ι->Nat)(E:ι->Env)(S:ι->LB)(H:ι->Prop)(x0:ι)(hH:H x0)(hs:Shift c e s (E x0) (S x0))
  (step:∀ x,H x->∀ J:Act->World->Prop,(∀ y,H y->μ y<μ x->∀ a w,Sim c (E y) (S y) a w->J a w)->AWp c (.code B::.inv J::k) (E x) (S x)) :
  AWp c (.code (.loop B)::k) e s:=by
 intro a w hsim;refine wp_loop_ghost (fun n a w=>∃ x,H x/\μ x=n/\Sim c (E x) (S x) a w) (μ x0) ⟨x0,hH,rfl,hs a w hsim⟩ ?_;rintro n a w ⟨x,hx,rfl,hsx⟩;have:=step x hx (fun a w=>∃ n',n'<μ x/\∃ y,H y/\μ y=n'/\Sim c (E y) (S y) a w) (fun y hy hlt a w hs=>⟨_,hlt,y,hy,rfl,hs⟩) a w hsx;refine Code.wp_mono ?_ this;intro en a' w' hq
 cases en <;> exact hq
theorem ainv{J:Act->World->Prop}{e':Env}{s':LB}(hJ:∀ a w,Sim c e' s' a w->J a w)(x:Shift c e s e' s'):AWp c (.inv J::k) e s:=fun a w h=>hJ a w (x a w h)
def Ct(P:Program)(f:FuncId)(args:LY)(sto:LB)(post:AV->LB->Prop):Prop :=
 AaA P f=true/\∀ h ρ w vs,Mine h ρ sto w->RL h (Lf ρ sto) false vs args->Calls P f vs.toArray w fun en w' =>
  ∃ v r s h' ρ',en=.returned v/\post r s/\Mine h' ρ' s w'/\Later h ρ sto w h' ρ' s w'/\RV h' (Lf ρ' s) false v r
theorem A0H{f:FuncId}{args:LY}{d:Option Tmp}{all os:List Oper}{post:AV->LB->Prop}(hc:Ct c.P f args s post){N:Nat}(hN:c.fn.ntmps=N)(hd:dOk N d=true)
  (hk:∀ r s',post r s'->AWp c (.ops all os::k) (put e d r) s'):AdX c f args d all os k e s:=by
 intro a w h ρ vs hm hl he hdf hsz hX hv;refine⟨hc.1,(hc.2 h ρ w vs hm hv).mono ?_⟩;rintro en w' ⟨v,r,s',h',ρ',rfl,hp,hm',hlt,rv⟩;have he':EnvOk h' ρ' s' e a:=fun t=>(he t).mono hlt.hle hlt.keep
 exact hk r s' hp _ _ ⟨h',ρ',hm',hl.trans hlt,he'.put (by grind) rv,by grind[AaE],by grind[AaO],c.hx.later hm hlt hX⟩
def resV(e:Env):List Tmp->AV
 | [t]=>get e t
 | ts=>.tup (ts.map (get e))
def resW(tmps:Array Value):List Tmp->Value
 | [t]=>tmps.getD t undef
 | ts=>.tuple (ts.map (fun t=>tmps.getD t undef)).toArray
theorem AhW{fn:Func}{P:Program}{ts:List Tmp}(hr:fn.results=(ts.map ResultVar.tmp).toArray)(tmps:Array Value)(w:World) :
  (results fn tmps).run P w=.ok (resW tmps ts) w:=by
 have h1:∀ l:List Tmp,((l.map ResultVar.tmp).mapM fun(x:ResultVar)=>(match x with
   | .tmp t=>pure (tmps.getD t undef)
   | .cell a t=>do loadVar t (<- asAddr (tmps.getD a undef)):Sem Value))=(pure (l.map fun t=>tmps.getD t undef):Sem (List Value)):=by
  intro l
  induction l<;>grind
 unfold results;rw[hr];simp only[List.mapM_toArray,h1]
 match ts with
 | []=>rfl
 | [t]=>rfl
 | t::u::r=>erw [h1]; simp[resW]
theorem BqU{h:Mem}{ρ:Own}{a:Act}{w:World}{ts:List Tmp}(hr:c.fn.results=(ts.map ResultVar.tmp).toArray)(he:EnvOk h ρ s e a) :
  ∃ v,(results c.fn a.tmps).run c.P w=.ok v w/\RV h (Lf ρ s) false v (resV e ts):=by
 refine⟨_,AhW hr _ _,?_⟩;have hl:∀ l:List Tmp,RL h (Lf ρ s) false (l.map fun t=>a.tmps.getD t undef) (l.map (get e)):=by
  intro l
  induction l with
  | nil=>exact .nil
  | cons t l ih=>exact .cons (he t) ih
 match ts with
 | []=>exact .tup _ _ (hl [])
 | [t]=>exact he t
 | t::u::r=>exact .tup _ _ (hl (t::u::r))
theorem aret(ts:List Tmp)(hr:c.fn.results=(ts.map ResultVar.tmp).toArray)(hp:c.post (resV e ts) s):ARet c e s:=by
 rintro a w ⟨hh,ρ,hm,hl,he,hdf,hsz,_⟩;obtain⟨v,hv,rv⟩:=BqU hr he;exact⟨hdf,v,_,s,hh,ρ,hv,hp,hm,hl,rv⟩
def args0:Nat->LY->Env
 | _,[]=>[]
 | n,x::r=>(n,x)::args0 (n+1) r
theorem AeZ:∀ (n:Nat)(l:LY)(t:Nat),get (args0 n l) t=if n<=t then l.getD (t-n) .any else .any
 | n,[],t=>by grind[args0,get]
 | n,x::r,t=>by
  simp only[args0,get]
  by_cases h:n=t
  .subst h; simp
  .have h1:(n==t)=false:=by simpa using h
   simp only[h1,cond_false];rw[AeZ (n+1) r t]
   by_cases h2:n<=t
   .rw [if_pos (by omega),if_pos h2,show t-n=(t-(n+1))+1 by omega]; rfl
   .rw [if_neg (by omega),if_neg h2]
theorem AaI{P:Program}{f:FuncId}{fn:Func}{body:Code}{N:Nat}{args:LY}{sto:LB}{post:AV->LB->Prop}(hf:P.funcs[f]? = some fn)(hb:fn.body=some body)(hn:fn.ntmps=N)(hx:AaA P f=true)
  (ha:args.length<=N) (h:∀ h ρ w,AWp ⟨P,fn,h,ρ,sto,w,post,X0,stb0⟩ [.code body] (args0 0 args) sto):Ct P f args sto post:=by
 refine⟨hx,fun hh ρ w vs hm hv=>?_⟩;refine calls_of_wp hf hb ?_;have hlen:=hv.length;have hsim:Sim ⟨P,fn,hh,ρ,sto,w,post,X0,stb0⟩ (args0 0 args) sto { tmps:=vs.toArray++Array.replicate (fn.ntmps-vs.toArray.size) undef,defers:=[] } w:=by
  refine⟨hh,ρ,hm,.refl ..,fun t=>?_,rfl,by grind,trivial⟩;rw[AeZ];simp only[Nat.zero_le,if_true,Nat.sub_zero];have h1:=hv.getD t undef
  by_cases ht:t<vs.length
  .have:(vs.toArray++Array.replicate (fn.ntmps-vs.toArray.size) undef).getD t undef=vs.getD t undef:=by
    simp_all[Array.getElem?_append]
   grind
  .have:args.getD t .any=.any:=by grind
   rw[this]; exact .any _
 have:=h hh ρ w _ w hsim;refine Code.wp_mono ?_ (show body.wp P (WQ ⟨P,fn,hh,ρ,sto,w,post,X0,stb0⟩ []) _ w from this);intro en a' w' hq
 cases en with
 | normal=>obtain⟨hd,v,r,s,h',ρ',h1,h2⟩:=hq; exact⟨hd,v,h1,v,r,s,h',ρ',rfl,h2⟩
 | ret=>obtain⟨hd,v,r,s,h',ρ',h1,h2⟩:=hq; exact⟨hd,v,h1,v,r,s,h',ρ',rfl,h2⟩
 | _=>exact hq.elim
end
attribute [go_sem] wk
end Go.Av
namespace Go.Av
open RowKit
variable [Tr]
def Lf0:Value->AV->Prop:=fun _ _=>False
def nr1:AV->Bool
 | .agg l=>l.all frozen
 | a=>frozen a
def nr2:AV->Bool
 | .tup l=>l.all nr1
 | a=>nr1 a
def Pc(P:Program)(f:FuncId)(args:LY)(post:AV->Prop):Prop :=
 AaA P f=true/\∀ h w vs,(∀ b o v,h b o=some v->w.cell? ⟨b,o,none⟩=some v/\v.oneCell'=true)->RL h Lf0 true vs args->Calls P f vs.toArray w fun en w' =>
  ∃ v r h',en=.returned v/\post r/\(∀ b o v,h' b o=some v->w'.cell? ⟨b,o,none⟩=some v/\v.oneCell'=true)/\(∀ b o v,h b o=some v->h' b o=some v) /\
   (∀ b o,h b o=none->h' b o≠none->w.heap.size<=b)/\Same w w'/\RV h' Lf0 true v r
section
variable {h:Mem}{ρ:Own}{sto:LB}{w:World}{P:Program}{Lf':Value->AV->Prop}
theorem BvM{fl u a}(r:RV h (Lf ρ sto) fl u a)(hf:nr1 a=true):RV h Lf' true u a:=by
 cases a with
 | agg l =>
  obtain⟨vs,rfl,rl⟩:=inv_agg r;exact .agg _ _ ((AdV rl hf).thaw (fun _ _ _ x=>x))
 | _=>exact(AhU r hf).thaw (fun _ _ _ x=>x)
theorem AiQ{fl:Bool}:∀ {l:LY}{vs:List Value},RL h (Lf ρ sto) fl vs l->l.all nr1=true->RL h Lf' true vs l
 | [],_,r,_=>by cases r; exact .nil
 | a::l,_,r,hf=>by
  cases r with
  | cons r1 r2 =>
   simp at hf
   exact .cons (BvM r1 hf.1) (AiQ r2 (by simpa using hf.2))
theorem A3R{fl u a}(r:RV h (Lf ρ sto) fl u a)(hf:nr2 a=true):RV h Lf' true u a:=by
 cases a with
 | tup l =>
  obtain⟨vs,rfl,rl⟩:=AsB r;exact .tup _ _ (AiQ rl hf)
 | _=>exact BvM r hf
theorem AaJ{f:FuncId}{args:LY}{post:AV->Prop}(hc:Ct P f args [] (fun r _=>post r/\nr2 r=true)):Pc P f args post:=by
 refine⟨hc.1,fun h w vs hm hv=>?_⟩;have hmine:Mine h (fun _=>none) [] w:=⟨hm,fun id blk e=>by grind,fun _ _=>rfl,fun i j g t t' e=>by grind,fun i g t e=>by grind⟩;refine(hc.2 h (fun _=>none) w vs hmine (hv.thaw (fun _ _ _ x=>x))).mono ?_;rintro en w' ⟨v,r,s,h',ρ',rfl,⟨hp,hn⟩,hm',hl,rv⟩;exact⟨v,r,h',rfl,hp,hm'.mem,hl.hle,fun b o e n=>by
  rcases hl.hnew b o e n with⟨j,t,hj⟩|hs<;>grind,⟨hl.os,hl.tape,hl.output,hl.size,fun k hk=>hl.block k hk (fun i t e=>by grind)⟩,A3R rv hn⟩
theorem Pc.ct{f:FuncId}{args:LY}{post:AV->Prop}(hc:Pc P f args post)(ha:args.all nr1=true)(sto:LB):Ct P f args sto (fun r s=>post r/\s=sto):=by
 refine⟨hc.1,fun h ρ w vs hm hv=>?_⟩;refine(hc.2 h w vs hm.mem (AiQ hv ha)).mono ?_;rintro en w' ⟨v,r,h',rfl,hp,hm',hle,hnew,hs,rv⟩;refine⟨v,r,sto,h',ρ,rfl,⟨hp,rfl⟩,⟨hm',?_,hm.out,hm.inj,?_⟩,⟨hle,fun b o e n=>.inr (hnew b o e n),fun _ _ x=>x,hs.os,hs.tape,hs.output,hs.size,fun k hk _=>hs.block k hk,fun i _ t x=>.inl ⟨i,t,x⟩⟩,rv.thaw (fun _ _ _ x=>x)⟩
 .exact fun id blk e=>(hm.own id blk e).mono hle (fun _ _ x=>x) rfl (fun g t hg=>hs.block g (hm.lt hg))
 .intro i g t e o
  have hlt:=hm.lt e;have hd:=hm.disj i g t e o
  grind
theorem ApU{c:Cx}{k:List It}{e:Env}{s:LB}{f:FuncId}{args:LY}{d:Option Tmp}{all os:List Oper}{post:AV->Prop}(hc:Pc c.P f args post)(ha:args.all nr1=true){N:Nat}(hN:c.fn.ntmps=N)(hd:dOk N d=true)
  (hk:∀ r,post r->AWp c (.ops all os::k) (put e d r) s):AdX c f args d all os k e s :=
 A0H (hc.ct ha s) hN hd fun r s' ⟨hp,hs⟩=>by subst hs; exact hk r hp
theorem AaL{c:Cx}{k:List It}{e:Env}{s:LB}{f:FuncId}{args:LY}{d:Option Tmp}{all os:List Oper}{r:AV}(hc:Pc c.P f args (· = r))(ha:args.all nr1=true){N:Nat}(hN:c.fn.ntmps=N)(hd:dOk N d=true)
  (hk:AWp c (.ops all os::k) (put e d r) s):AdX c f args d all os k e s :=
 by grind[ApU]
theorem Pc.mono{f:FuncId}{args:LY}{post post':AV->Prop}(hc:Pc P f args post)(hp:∀ r,post r->post' r):Pc P f args post' :=
 ⟨hc.1,fun h w vs hm hv=>(hc.2 h w vs hm hv).mono fun _ _ ⟨v,r,h',a,b,rest⟩=>⟨v,r,h',a,hp r b,rest⟩⟩
theorem Pc.calls{f:FuncId}{args:LY}{r:AV}(hc:Pc P f args (· = r)){w:World}{vs:List Value}(hv:∀ h,RL h Lf0 true vs args):Calls P f vs.toArray w fun en w'=>(∃ v h',en=.returned v/\RV h' Lf0 true v r)/\Same w w' :=
 (hc.2 (fun _ _=>none) w vs (fun b o v e=>by grind) (hv _)).mono fun _ _ ⟨v,_,h',e1,e2,_,_,_,hs,rv⟩=>⟨⟨v,h',e1,e2▸rv⟩,hs⟩
end
