/- The walk within a round of a range over a function, and behind such a range. -/
import Derived.Test.YtccfklnmolggiaaGreatDoorZ15
import Derived.RangeFuncRecord
import Derived.RangeFuncIn
import Derived.Sort.LoopGhostIn
import Derived.OrdersIn
import Derived.TacticsIn
set_option linter.all false
namespace Go.Av
open RowKit
variable [Tr]
structure Cr where
 c:Cx
 rd:Option Nat
 df:List Deferred
 out:Exit->Act->World->Prop
def Cr.F(r:Cr):Fence:={ fn:=fun _=>True,depth:=none,alive:=false,round:=r.rd }
theorem A5O{rd:Option Nat}{n:Nat}{P:Program}{f:FuncId}{args:Array Value}{w:World}{R:Ending->World->Prop}(h:Calls P f args w R):CallsIn { fn:=fun _=>True,depth:=none,alive:=false,round:=rd } n P f args w R:=(callsIn_wide (n:=n)).2 h
def WQg(F:Fence)(P:Program)(N:Nat)(out:Exit->Act->World->Prop):List It->Exit->Act->World->Prop
 | [],e,a,w=>out e a w
 | x::k,e,a,w=>match e with
  | .normal=>match x with
   | .ops all rest=>wpListIn F 0 P all.toArray (WQg F P N out k) rest a w
   | .op all o rest=>dOk N o.dst=true->o.wpIn F 0 P a w (wpListIn F 0 P all.toArray (WQg F P N out k) rest) (WQg F P N out k)
   | .code y=>y.wpIn F 0 P (WQg F P N out k) a w
   | .blk _=>WQg F P N out k .normal a w
   | .inv J=>J a w
  | .exit id=>match x with
   | .blk i=>if id=i then WQg F P N out k .normal a w else WQg F P N out k (.exit id) a w
   | _=>WQg F P N out k (.exit id) a w
  | e=>WQg F P N out k e a w
@[reducible] def WQr (r:Cr):List It->Exit->Act->World->Prop:=WQg r.F r.c.P r.c.fn.ntmps r.out
def SimR(r:Cr)(e:Env)(s:LB)(a:Act)(w:World):Prop :=
 ∃ h ρ,Mine h ρ s w/\Later r.c.h r.c.ρ r.c.sto r.c.w h ρ s w/\EnvOk h ρ s e a/\a.defers=r.df/\a.tmps.size=r.c.fn.ntmps/\r.c.x h ρ w
theorem SimR.sim{r:Cr}{e:Env}{s:LB}{a:Act}{w:World}(h:SimR r e s a w):Sim r.c e s { a with defers:=[] } w:=by
 obtain⟨h,ρ,a1,a2,a3,a4,a5,a6⟩:=h;exact⟨h,ρ,a1,a2,a3,rfl,a5,a6⟩
theorem Sim.simR{r:Cr}{e:Env}{s:LB}{a:Act}{w:World}(hd:a.defers=r.df)(h:Sim r.c e s { a with defers:=[] } w):SimR r e s a w:=by
 obtain⟨h,ρ,a1,a2,a3,a4,a5,a6⟩:=h;exact⟨h,ρ,a1,a2,a3,hd,a5,a6⟩
theorem Shift.r{r:Cr}{e e':Env}{s s':LB}(x:Shift r.c e s e' s'){a:Act}{w:World}(h:SimR r e s a w):SimR r e' s' a w:=by
 have hd:a.defers=r.df:=by obtain⟨_,_,_,_,_,hd,_⟩:=h; omega
 exact Sim.simR hd (x _ _ h.sim)
def AWpR(r:Cr)(k:List It)(e:Env)(s:LB):Prop:=∀ a w,SimR r e s a w->WQr r k .normal a w
def AOut(r:Cr)(x:Exit)(e:Env)(s:LB):Prop:=∀ a w,SimR r e s a w->r.out x a w
def AsO(r:Cr)(f:FuncId)(args:LY)(d:Option Tmp)(all os:List Oper)(k:List It)(e:Env)(s:LB):Prop :=
 ∀ a w h ρ vs,Mine h ρ s w->Later r.c.h r.c.ρ r.c.sto r.c.w h ρ s w->EnvOk h ρ s e a->a.defers=r.df->a.tmps.size=r.c.fn.ntmps->r.c.x h ρ w->RL h (Lf ρ s) false vs args ->
  AaB r.c.P f=true/\Calls r.c.P f vs.toArray w fun en w'=>match en with
   | .returned v=>WQr r (.ops all os::k) .normal (a.put d v) w'
   | _=>False
def BjN(r:Cr)(o:Oper)(all os:List Oper)(k:List It)(e:Env)(s:LB):Res->Nx
 | .ok v=>.go (.ops all os::k) (put e o.dst v) s
 | .side p v=>.side p (.ops all os::k) (put e o.dst v) s
 | .sto p v s'=>.side p (.ops all os::k) (put e o.dst v) s'
 | .pick b x y=>.two b (.ops all os::k) (put e o.dst x) s (.ops all os::k) (put e o.dst y) s
 | .call f args=>.leaf (AsO r f args o.dst all os k e s)
 | .anyb p=>.leaf (p/\∀ b,AWpR r (.ops all os::k) (put e o.dst (.bool b)) s)
 | .stuck=>.leaf (AWpR r (.op all o os::k) e s)
def AyV(r:Cr)(k:List It)(e:Env)(s:LB):Nx:=.leaf (AWpR r k e s)
def A5P(r:Cr)(id:Nat)(e:Env)(s:LB):Option (List It)->Nx
 | some k=>.go k e s
 | none=>.leaf (AOut r (.exit id) e s)
def AyW(wr frz:Bool)(N:Nat)(r:Cr)(k:List It)(e:Env)(s:LB):Nx :=
 match k with
 | .ops _ []::k=>.go k e s
 | .ops all (o::os)::k=>bif dOk N o.dst then opN o all os k e s o.guard else .leaf False
 | .op all o os::k=>BjN r o all os k e s (xop wr frz r.c.P e s o.op)
 | .code .skip::k=>.go k e s
 | .code (.region id ops draw)::k=>bif draw then AyV r (.code (.region id ops true)::k) e s else .go (.ops ops.toList ops.toList::k) e s
 | .code (.seq a b)::k=>.go (.code a::.code b::k) e s
 | .code (.cond x a b)::k=>A4C a b k e s (ev e x)
 | .code (.block id x)::k=>.go (.code x::.blk id::k) e s
 | .code (.exit id)::k=>A5P r id e s (AeD id k)
 | .code .ret::_=>.leaf (AOut r .ret e s)
 | .code x::k=>AyV r (.code x::k) e s
 | .blk _::k=>.go k e s
 | .inv J::k=>AyV r (.inv J::k) e s
 | []=>.leaf (AOut r .normal e s)
mutual
def runR(wr frz:Bool)(N:Nat)(c:Cr):Nat->List It->Env->LB->Prop
 | 0,k,e,s=>AWpR c k e s
 | n+1,k,e,s=>AwC wr frz N c n (AyW wr frz N c k e s)
def AwC(wr frz:Bool)(N:Nat)(c:Cr):Nat->Nx->Prop
 | n,.go k e s=>runR wr frz N c n k e s
 | n,.two b k e s k' e' s'=>brR wr frz N c n b k e s k' e' s'
 | n,.side p k e s=>p/\runR wr frz N c n k e s
 | _,.leaf p=>p
def brR(wr frz:Bool)(N:Nat)(c:Cr):Nat->Bool->List It->Env->LB->List It->Env->LB->Prop
 | 0,b,k,e,s,k',e',s'=>(b=true->AWpR c k e s)/\(b=false->AWpR c k' e' s')
 | n+1,b,k,e,s,k',e',s'=>(b=true->runR wr frz N c n k e s)/\(b=false->runR wr frz N c n k' e' s')
end
theorem BbS{wr frz:Bool}{N:Nat}{c:Cr}{n:Nat} {k e s k' e' s'}:brR wr frz N c (n+1) true k e s k' e' s'=runR wr frz N c n k e s:=by grind[brR]
theorem A5Q{wr frz:Bool}{N:Nat}{c:Cr}{n:Nat} {k e s k' e' s'}:brR wr frz N c (n+1) false k e s k' e' s'=runR wr frz N c n k' e' s':=by grind[brR]
def Nx.semR(c:Cr):Nx->Prop
 | .go k e s=>AWpR c k e s
 | .two b k e s k' e' s'=>(b=true->AWpR c k e s)/\(b=false->AWpR c k' e' s')
 | .side p k e s=>p/\AWpR c k e s
 | .leaf p=>p
section
variable {r:Cr}{k:List It}{e:Env}{s:LB}
theorem AgA{id:Nat}:∀ {k k':List It},AeD id k=some k'->∀ a w,WQr r k' .normal a w->WQr r k (.exit id) a w
 | [],_,h,_,_,_=>by grind[AeD]
 | x::k,k',h,a,w,hw=>by
  cases x with
  | blk i =>
   simp only[AeD]at h;simp only[WQr,WQg]
   by_cases hi:id=i
   .subst hi
    simp at h; subst h
    simp; exact hw
   .have:(id==i)=false:=by simpa using hi
    simp only[this,lba]at h;rw[if_neg hi];exact AgA h a w hw
  | ops _ _=>exact AgA (k:=k) h a w hw
  | op _ _ _=>exact AgA (k:=k) h a w hw
  | code _=>exact AgA (k:=k) h a w hw
  | inv _=>exact AgA (k:=k) h a w hw
theorem AeH{id:Nat}:∀ {k:List It},AeD id k=none->∀ a w,r.out (.exit id) a w->WQr r k (.exit id) a w
 | [],_,_,_,hw=>hw
 | x::k,h,a,w,hw=>by
  cases x with
  | blk i =>
   simp only[AeD]at h;simp only[WQr,WQg]
   by_cases hi:id=i
   .subst hi
    simp at h
   .have:(id==i)=false:=by simpa using hi
    simp only[this,lba]at h;rw[if_neg hi];exact AeH h a w hw
  | ops _ _=>exact AeH (k:=k) h a w hw
  | op _ _ _=>exact AeH (k:=k) h a w hw
  | code _=>exact AeH (k:=k) h a w hw
  | inv _=>exact AeH (k:=k) h a w hw
theorem A5R:∀ {k:List It} {a w},r.out .ret a w->WQr r k .ret a w
 | [],_,_,h=>h
 | _::k,_,_,h=>A5R (k:=k) h
theorem AsP{wr frz:Bool}{P:Program}{e:Env}{s:LB}{o:Op}(h:xop wr frz P e s o≠.stuck):∀ c,o≠.defer c:=fun c hc=>h (by rw[hc]; rfl)
theorem AiI{h:Mem}{ρ:Own}{w:World}{a:Act}{o:Oper}{v:AV}{s':LB}{all os:List Oper}(hl:Later r.c.h r.c.ρ r.c.sto r.c.w h ρ s w)(he:EnvOk h ρ s e a)(hdf:a.defers=r.df)(hsz:a.tmps.size=r.c.fn.ntmps)(hm0:Mine h ρ s w)(hX:r.c.x h ρ w)
  (hnd:∀ c,o.op≠.defer c) (hd:dOk r.c.fn.ntmps o.dst=true) (ok:Okv h ρ s w ((execOp a.eval o).run r.c.P w) v s') (hk:AWpR r (.ops all os::k) (put e o.dst v) s'):WQr r (.op all o os::k) .normal a w:=by
 obtain⟨u,w',h',ρ',hr,hm,hlt,rv⟩:=ok;have he':EnvOk h' ρ' s' e a:=fun t=>(he t).mono hlt.hle hlt.keep
 have hsim:SimR r (put e o.dst v) s' (a.put o.dst u) w':=⟨h',ρ',hm,hl.trans hlt,he'.put (by grind) rv,by grind[AaC],by grind[AaL],r.c.hx.later hm0 hlt hX⟩;have:=hk _ _ hsim;intro _;refine⟨fun _ _=>trivial,?_⟩;rw[Oper.semAt_eq _ _ _ hnd]
 rcases hr with hr|⟨hr,hu⟩
 .rw [hr]; exact this
 .rw [hr]; subst hu; exact this
theorem AsQ{wr frz:Bool}(h:(AyW wr frz r.c.fn.ntmps r k e s).semR r):AWpR r k e s:=by
 intro a w hsim;have hsim':=hsim;obtain⟨hh,ρ,hm,hl,he,hdf,hsz,hX⟩:=hsim';unfold AyW at h
 split at h
 .exact (h a w hsim:WQr r _ .normal a w)
 .rename_i all o os k
  cases hd:dOk r.c.fn.ntmps o.dst with
  | false=>grind[Nx.semR]
  | true =>
  simp only[hd,lav]at h;unfold opN at h
  split at h
  .have:=h a w hsim
   show wpListIn r.F 0 r.c.P all.toArray (WQr r k) (o::os) a w
   unfold wpListIn;rw[if_pos (by grind[Region.wanted])];exact this hd
  .rename_i j want hg
   unfold grdN at h
   split at h
   .rename_i b hb
    have hy:=AeE he hb
    show wpListIn r.F 0 r.c.P all.toArray (WQr r k) (o::os) a w
    unfold wpListIn;have h1:b=want->AWpR r (.op all o os::k) e s:=fun hh=>by
     subst hh
     cases b with
     | true=>exact h.1 rfl
     | false=>exact h.2 rfl
    have h2:b≠want->AWpR r (.ops all os::k) (put e o.dst (.raw undef)) s:=fun hh=>by
     cases b <;> cases want <;> first|exact(hh rfl).elim|exact h.1 rfl|exact h.2 rfl
    by_cases hbw:b=want
    .rw [if_pos (by grind[Region.wanted])]
     exact h1 hbw a w hsim hd
    .rw [if_neg (by grind[Region.wanted])]
     exact⟨fun _ _=>trivial,h2 hbw _ w ⟨hh,ρ,hm,hl,he.put (by grind) (.raw _),by grind[AaC],by grind[AaL],hX⟩⟩
   .exact h.elim
 .rename_i all o os k
  show _->_
  intro hd;have hs:=AeC (P:=r.c.P) (wr:=wr) (frz:=frz) (o:=o) hm he;have hnd:=AsP (wr:=wr) (frz:=frz) (P:=r.c.P) (e:=e) (s:=s) (o:=o.op)
  revert h hs hnd
  cases hx:xop wr frz r.c.P e s o.op with
  | ok v=>intro h hs hnd; exact AiI hl he hdf hsz hm hX (hnd (by simp)) hd hs h hd
  | side p v=>intro h hs hnd; exact AiI hl he hdf hsz hm hX (hnd (by simp)) hd (hs h.1) h.2 hd
  | sto p v s'=>intro h hs hnd; exact AiI hl he hdf hsz hm hX (hnd (by simp)) hd (hs h.1) h.2 hd
  | pick b x y =>
    intro h hs hnd
    cases b with
    | true=>exact AiI hl he hdf hsz hm hX (hnd (by simp)) hd hs (h.1 rfl) hd
    | false=>exact AiI hl he hdf hsz hm hX (hnd (by simp)) hd hs (h.2 rfl) hd
  | call f args =>
    intro h hs hnd;obtain⟨vs,hv,hr⟩:=hs;have hb:=(h a w hh ρ vs hm hl he hdf hsz hX hv).1
    replace hr:=hr hb
    have hc:=(h a w hh ρ vs hm hl he hdf hsz hX hv).2
    show o.wpIn r.F 0 r.c.P a w (wpListIn r.F 0 r.c.P all.toArray (WQr r k) os) (WQr r k)
    unfold Oper.wpIn;refine⟨fun _ _=>trivial,?_⟩;rw[Oper.semAt_eq _ _ _ (hnd (by simp)),hr];refine⟨fun hq=>(by cases hq),A5O (hc.mono fun en w' hw=>?_)⟩
    cases en with
    | returned v=>exact hw
    | panicked ch=>grind
    | outgrown=>grind
  | anyb p=>intro h hs hnd; obtain⟨b,hb⟩:=hs h.1; exact AiI hl he hdf hsz hm hX (hnd (by simp)) hd hb (h.2 b) hd
  | stuck=>intro h hs hnd; exact h a w hsim hd
 .exact (h a w hsim:WQr r _ .normal a w) |> fun x=>wpIn_skip x
 .rename_i id ops draw k
  cases draw with
  | true=>exact h a w hsim
  | false =>
   have:=h a w hsim
   simp_all[wpIn_region_list,WQg]
 .rename_i x y k
  refine wpIn_seq (Code.wpIn_mono ?_ (h a w hsim));intro en a' w' hq
  cases en <;> exact hq
 .rename_i x y z k
  unfold A4C at h
  split at h
  .rename_i t ht
   have hx:=AaF he x;rw[ht]at hx;have hb:=AaS hx;refine wpIn_cond hb ?_
   cases t with
   | true=>exact h.1 rfl a w hsim
   | false=>exact h.2 rfl a w hsim
  .exact h.elim
 .rename_i id x k
  refine wpIn_block (Code.wpIn_mono ?_ (h a w hsim));intro en a' w' hq
  cases en <;> exact hq
 .rename_i id k
  unfold A5P at h
  split at h
  .rename_i k' hk
   exact wpIn_exit (AgA hk a w (h a w hsim))
  .rename_i hk
   exact wpIn_exit (AeH hk a w (h a w hsim))
 .exact wpIn_ret (A5R (h a w hsim))
 .exact h a w hsim
 .exact h a w hsim
 .exact h a w hsim
 .exact h a w hsim
theorem A5S{wr frz:Bool}{n:Nat}(ih:∀ m,m<=n->∀ k e s,runR wr frz r.c.fn.ntmps r m k e s->AWpR r k e s):∀ {x:Nx},AwC wr frz r.c.fn.ntmps r n x->x.semR r
 | .go k e s,h=>ih n (lab _) k e s (by rw[AwC]at h; exact h)
 | .two b k e s k' e' s',h=>by
  rw[AwC]at h
  cases n with
  | zero=>rw[brR]at h; exact h
  | succ n =>
   rw[brR]at h;exact⟨fun hb=>ih n (by omega) _ _ _ (h.1 hb),fun hb=>ih n (by omega) _ _ _ (h.2 hb)⟩
 | .side p k e s,h=>by
  rw[AwC]at h;exact⟨h.1,ih n (lab _) _ _ _ h.2⟩
 | .leaf p,h=>by rw[AwC]at h; exact h
theorem AnP{wr frz:Bool}(n:Nat):∀ (k:List It)(e:Env)(s:LB),runR wr frz r.c.fn.ntmps r n k e s->AWpR r k e s:=by
 induction n using Nat.strongRecOn with
 | _ n ih =>
  intro k e s h
  cases n with
  | zero=>rw[runR]at h; exact h
  | succ n =>
   rw[runR]at h;exact AsQ (A5S (fun m hm=>ih m (by omega)) h)
theorem goR{N:Nat}(hN:r.c.fn.ntmps=N)(n:Nat)(h:runR false false N r n k e s):AWpR r k e s:=by grind[AnP]
theorem goFR{N:Nat}(hN:r.c.fn.ntmps=N)(n:Nat)(h:runR false true N r n k e s):AWpR r k e s:=by grind[AnP]
theorem AWpR.shift{e':Env}{s':LB}(x:Shift r.c e s e' s')(h:AWpR r k e' s'):AWpR r k e s:=fun a w hs=>h a w (x.r hs)
theorem AOut.shift{y:Exit}{e':Env}{s':LB}(x:Shift r.c e s e' s')(h:AOut r y e' s'):AOut r y e s:=fun a w hs=>h a w (x.r hs)
theorem A5T{ι:Type}{B:Code}(μ:ι->Nat)(E:ι->Env)(S:ι->LB)(H:ι->Prop)(x0:ι)(hH:H x0)(hs:Shift r.c e s (E x0) (S x0))
  (step:∀ x,H x->∀ J:Act->World->Prop,(∀ y,H y->μ y<μ x->∀ a w,SimR r (E y) (S y) a w->J a w)->AWpR r (.code B::.inv J::k) (E x) (S x)) :
  AWpR r (.code (.loop B)::k) e s:=by
 intro a w hsim;refine wpIn_loop_ghost (fun n a w=>∃ x,H x/\μ x=n/\SimR r (E x) (S x) a w) (μ x0) ⟨x0,hH,rfl,hs.r hsim⟩ ?_;rintro n a w ⟨x,hx,rfl,hsx⟩;have:=step x hx (fun a w=>∃ n',n'<μ x/\∃ y,H y/\μ y=n'/\SimR r (E y) (S y) a w) (fun y hy hlt a w hs=>⟨_,hlt,y,hy,rfl,hs⟩) a w hsx;refine Code.wpIn_mono ?_ this;intro en a' w' hq
 cases en <;> exact hq
theorem AsR{J:Act->World->Prop}{e':Env}{s':LB}(hJ:∀ a w,SimR r e' s' a w->J a w)(x:Shift r.c e s e' s'):AWpR r (.inv J::k) e s:=fun a w h=>hJ a w (x.r h)
theorem BjO{f:FuncId}{args:LY}{d:Option Tmp}{all os:List Oper}{post:AV->LB->Prop}(hc:Ct r.c.P f args s post){N:Nat}(hN:r.c.fn.ntmps=N)(hd:dOk N d=true)
  (hk:∀ v s',post v s'->AWpR r (.ops all os::k) (put e d v) s'):AsO r f args d all os k e s:=by
 intro a w h ρ vs hm hl he hdf hsz hX hv;refine⟨hc.1,(hc.2 h ρ w vs hm hv).mono ?_⟩;rintro en w' ⟨v,r',s',h',ρ',rfl,hp,hm',hlt,rv⟩;have he':EnvOk h' ρ' s' e a:=fun t=>(he t).mono hlt.hle hlt.keep
 exact hk r' s' hp _ _ ⟨h',ρ',hm',hl.trans hlt,he'.put (by grind) rv,by grind[AaC],by grind[AaL],r.c.hx.later hm hlt hX⟩
theorem BgW{g:Std}(hg:Le g r.c.w r.c.ρ){f:FuncId}{args:LY}{d:Option Tmp}{all os:List Oper}{post:AV->LB->Prop}(hc:CtH r.c.P g f args s post){N:Nat}(hN:r.c.fn.ntmps=N)(hd:dOk N d=true)
  (hk:∀ v s',post v s'->AWpR r (.ops all os::k) (put e d v) s'):AsO r f args d all os k e s:=by
 intro a w h ρ vs hm hl he hdf hsz hX hv;refine⟨hc.1,(hc.2 h ρ w vs (hg.later hl) hm hv).mono ?_⟩;rintro en w' ⟨v,r',s',h',ρ',rfl,hp,hm',hlt,rv⟩;have he':EnvOk h' ρ' s' e a:=fun t=>(he t).mono hlt.hle hlt.keep
 exact hk r' s' hp _ _ ⟨h',ρ',hm',hl.trans hlt,he'.put (by grind) rv,by grind[AaC],by grind[AaL],r.c.hx.later hm hlt hX⟩
theorem BgX{g:Std}(hg:Le g r.c.w r.c.ρ){f:FuncId}{args:LY}{d:Option Tmp}{all os:List Oper}{post:AV->Prop}(hc:PcH r.c.P g f args post)(ha:args.all nr1=true){N:Nat}(hN:r.c.fn.ntmps=N)(hd:dOk N d=true)
  (hk:∀ v,post v->AWpR r (.ops all os::k) (put e d v) s):AsO r f args d all os k e s :=
 BgW hg (hc.cth ha s) hN hd fun v s' ⟨hp,hs⟩=>by subst hs; exact hk v hp
theorem AyX{g:Std}(hg:Le g r.c.w r.c.ρ){f:FuncId}{args:LY}{d:Option Tmp}{all os:List Oper}{v:AV}(hc:PcH r.c.P g f args (· = v))(ha:args.all nr1=true){N:Nat}(hN:r.c.fn.ntmps=N)(hd:dOk N d=true)
  (hk:AWpR r (.ops all os::k) (put e d v) s):AsO r f args d all os k e s :=
 by grind[BgX]
end
section
variable {c:Cx}{e:Env}{s:LB}
mutual
def dxk(c:Cx)(all:List Oper)(K:Env->LB->Prop):Nat->List Oper->LY->Env->LB->Prop
 | _,[],_,e,s=>K e s
 | 0,_::_,_,_,_=>False
 | n+1,o::r,cs,e,s=>dxkc c all K n (dgrd c all s o r cs e o.guard)
def dxkc(c:Cx)(all:List Oper)(K:Env->LB->Prop):Nat->Dn->Prop
 | n,.go r cs e s=>dxk c all K n r cs e s
 | n,.two b r cs e r' cs' e' s=>dbrk c all K n b r cs e r' cs' e' s
 | n,.side p r cs e s=>p/\dxk c all K n r cs e s
 | _,.fail=>False
def dbrk(c:Cx)(all:List Oper)(K:Env->LB->Prop):Nat->Bool->List Oper->LY->Env->List Oper->LY->Env->LB->Prop
 | 0,_,_,_,_,_,_,_,_=>False
 | n+1,b,r,cs,e,r',cs',e',s=>(b=true->dxk c all K n r cs e s)/\(b=false->dxk c all K n r' cs' e' s)
end
theorem A5U{K:Env->LB->Prop}{all:List Oper}{n:Nat} {r cs e r' cs' e' s}:dbrk c all K (n+1) true r cs e r' cs' e' s=dxk c all K n r cs e s:=by grind[dbrk]
theorem A1I{K:Env->LB->Prop}{all:List Oper}{n:Nat} {r cs e r' cs' e' s}:dbrk c all K (n+1) false r cs e r' cs' e' s=dxk c all K n r' cs' e' s:=by grind[dbrk]
theorem BeI{K:Env->LB->Prop}{all:List Oper}{n:Nat}{o:Oper}{r:List Oper}{cs:LY}(hg:o.guard=none)(h:dxk c all K n (o::r) cs e s) :
  ∃ cv v n' cs' s',DoesOp c s o cv e v s'/\dxk c all K n' r cs' (put e o.dst v) s':=by
 cases n with
 | zero=>grind[dxk]
 | succ n =>
  rw[dxk,hg]at h;unfold dgrd at h;unfold DoesOp
  revert h
  cases xop false true c.P e s o.op with
  | ok u=>intro h; simp only[dres,dxkc]at h; exact⟨.any,u,n,cs,s,⟨rfl,rfl⟩,h⟩
  | side p u=>intro h; simp only[dres,dxkc]at h; exact⟨.any,u,n,cs,s,⟨h.1,rfl,rfl⟩,h.2⟩
  | sto p u s'=>intro h; simp only[dres,dxkc]at h; exact⟨.any,u,n,cs,s',⟨h.1.1,h.1.2,rfl,rfl⟩,h.2⟩
  | pick b x y =>
   intro h; simp only[dres,dxkc]at h
   cases n with
   | zero=>grind[dbrk]
   | succ n =>
   rw[dbrk]at h;refine⟨.any,_,n,cs,s,⟨rfl,rfl⟩,?_⟩<;>grind
  | call f args =>
   intro h; simp only[dres]at h
   cases cs<;>grind[dcall,dxkc]
  | anyb p=>grind[dres,dxkc]
  | stuck=>grind[dres,dxkc]
theorem AyY{K:Env->LB->Prop}{all:List Oper}{n:Nat}{o:Oper}{r:List Oper}{cs:LY}(h:dxk c all K n (o::r) cs e s) :
  ∃ cv v n' cs' s',Does c all.toArray s o cv e v s'/\dxk c all K n' r cs' (put e o.dst v) s':=by
 cases hg:o.guard with
 | none =>
  obtain⟨cv,v,n',cs',s',h1,h2⟩:=BeI hg h;exact⟨cv,v,n',cs',s',by grind[Does],h2⟩
 | some jw =>
  obtain⟨j,want⟩:=jw
  cases n with
  | zero=>grind[dxk]
  | succ n =>
   rw[dxk,hg]at h;unfold dgrd dyld at h
   cases hy:yldD want e all[j]? with
   | none=>grind[dxkc]
   | some b =>
    have key:(b=want->∃ n',dxk c all K n' ({ o with guard:=none }::r) cs e s)/\(b≠want->∃ n',dxk c all K n' r cs (put e o.dst (.raw undef)) s):=by
     cases n<;>grind[dxkc,dbrk]
    have hy':yldD want e all.toArray[j]? = some b:=by grind
    by_cases hb:b=want
    .obtain ⟨n1,h1⟩:=key.1 hb
     obtain⟨cv,v,n',cs',s',h1,h2⟩:=BeI rfl h1;refine⟨cv,v,n',cs',s',?_,h2⟩;unfold Does;rw[hg];simp only[hy'];exact .inl ⟨hb,h1⟩
    .obtain ⟨n1,h1⟩:=key.2 hb
     refine⟨.any,.raw undef,n1,cs,s,?_,h1⟩<;>grind[Does]
theorem AjD{K:Env->LB->Prop}{all:List Oper}:∀ {r:List Oper}{m n:Nat}{cs:LY}{e:Env}{s:LB},(∀ (j:Nat),r[j]? = all[m+j]?)->dxk c all K n r cs e s->Chain c all.toArray K (List.range' m r.length) e s
 | [],m,n,cs,e,s,_,h=>by
  rw[dxk]at h;exact h
 | o::r,m,n,cs,e,s,hr,h=>by
  obtain⟨cv,v,n',cs',s',h1,h2⟩:=AyY h;have h0:all.toArray[m]? = some o:=by have:=hr 0; simpa using this.symm
  simp only[laf,List.range'_succ,Chain,h0];exact⟨cv,v,s',h1,AjD (fun j=>by have:=hr (j+1); simpa[Nat.add_assoc,Nat.add_comm 1 j]using this) h2⟩
end
section
variable {r:Cr}{k:List It}{e:Env}{s:LB}
theorem SimR.eqv{e':Env}{a:Act}{w:World}(h:Eqv e e')(hs:SimR r e s a w):SimR r e' s a w:=by
 obtain⟨hh,ρ,hm,hl,he,hdf,hsz,hX⟩:=hs;exact⟨hh,ρ,hm,hl,fun t=>by rw[<- h t]; exact he t,hdf,hsz,hX⟩
theorem AWpR.eqv{e':Env}(h:Eqv e e')(x:AWpR r k e s):AWpR r k e' s:=fun a w hs=>x a w (hs.eqv fun t=>(h t).symm)
theorem AWpR.K:∀ e e' s,Eqv e e'->AWpR r k e s->AWpR r k e' s:=fun _ _ _ h x=>x.eqv h
theorem BbT{o:Oper}{ops:Array Oper}{cv v:AV}{s1:LB}{a:Act}{w:World}{K:Act->World->Prop}{Q:Exit->Act->World->Prop}(hs:SimR r e s a w)(hd:dOk r.c.fn.ntmps o.dst=true)(h:Does r.c ops s o cv e v s1)
  (hK:∀ a w,SimR r (put e o.dst v) s1 a w->K a w):if Region.wanted o (yielded ops a.tmps) then o.wpIn r.F 0 r.c.P a w K Q else(∀ f,o.about r.c.P w a.eval=some f->r.F.fn f)/\K (a.put o.dst undef) w:=by
 obtain⟨hh,ρ,hm,hl,he,hdf,hsz,hX⟩:=hs;have hop:DoesOp r.c s o cv e v s1->o.wpIn r.F 0 r.c.P a w K Q:=by
  intro hd1;have hsnd:=AeC (P:=r.c.P) (wr:=false) (frz:=true) (o:=o) hm he;have fin:(∀ c,o.op≠.defer c)->Okv hh ρ s w ((execOp a.eval o).run r.c.P w) v s1->o.wpIn r.F 0 r.c.P a w K Q:=by
   rintro hnd ⟨u,w',h',ρ',hr,hm',hlt,rv⟩;have he':EnvOk h' ρ' s1 e a:=fun t=>(he t).mono hlt.hle hlt.keep
   have:=hK (a.put o.dst u) w' ⟨h',ρ',hm',hl.trans hlt,he'.put (by grind) rv,by grind[AaC],by grind[AaL],r.c.hx.later hm hlt hX⟩;refine⟨fun _ _=>trivial,?_⟩;rw[Oper.semAt_eq _ _ _ hnd]
   rcases hr with hr|⟨hr,hu⟩
   .rw [hr]; exact this
   .rw [hr]; subst hu; exact this
  unfold DoesOp at hd1;have hnd:=AsP (wr:=false) (frz:=true) (P:=r.c.P) (e:=e) (s:=s) (o:=o.op)
  revert hd1 hsnd hnd
  cases xop false true r.c.P e s o.op with
  | ok u=>intro h2 h1 hnd; obtain⟨h2,h3⟩:=h2; subst h2; subst h3; exact fin (hnd (by simp)) h1
  | side p u=>intro h2 h1 hnd; obtain⟨hp,h2,h3⟩:=h2; subst h2; subst h3; exact fin (hnd (by simp)) (h1 hp)
  | sto p u s'=>intro h2 h1 hnd; obtain⟨_,hp,h2,h3⟩:=h2; subst h2; subst h3; exact fin (hnd (by simp)) (h1 hp)
  | pick b x y=>intro h2 h1 hnd; obtain⟨h2,h3⟩:=h2; subst h2; subst h3; exact fin (hnd (by simp)) h1
  | call f args =>
   intro h2 h1 hnd;obtain⟨hp,hn,h2,h3⟩:=h2;subst h2; subst h3;obtain⟨vs,hv,hr⟩:=h1;unfold Oper.wpIn;refine⟨fun _ _=>trivial,?_⟩;rw[Oper.semAt_eq _ _ _ (hnd (by simp)),hr hp.1];refine⟨fun hq=>(by cases hq),A5O ((hp.calls hn hm hl hv).mono ?_)⟩;rintro en w' ⟨u,rr,s',h',ρ',rfl,⟨hrv,hss⟩,hm',hlt,rv⟩;subst hss; subst hrv;have he':EnvOk h' ρ' s' e a:=fun t=>(he t).mono hlt.hle hlt.keep
   exact hK _ _ ⟨h',ρ',hm',hl.trans hlt,he'.put (by grind) rv,by grind[AaC],by grind[AaL],r.c.hx.later hm hlt hX⟩
  | anyb p=>grind
  | stuck=>grind
 unfold Does at h
 split at h
 .grind[Region.wanted]
 .rename_i j want hg
  split at h
  .rename_i b hb
   have hy:=AeE (all:=ops.toList) he (by simpa using hb)
   simp at hy
   rcases h with⟨h1,h2⟩|⟨h1,h2,h3⟩
   .grind[Region.wanted]
   .rw [if_neg (by grind[Region.wanted])]
    subst h2; subst h3;refine⟨fun _ _=>trivial,?_⟩;exact hK _ _ ⟨hh,ρ,hm,hl,he.put (by grind) (.raw _),by grind[AaC],by grind[AaL],hX⟩
  grind
theorem AwD{ops:List Oper}{okp:Nat->Nat->Bool}(Ch:List Nat->Env->LB->Prop)(hok:AgQ okp ops=true)(hnil:∀ e s,Ch [] e s->AWpR r k e s)
  (hfr:∀ l i r' e s,(∀ j∈l,okp j i=true)->Ch (l++i::r') e s->Ch (i::(l++r')) e s)
  (hst:∀ i o r' e s a w (Kc:Act->World->Prop),ops[i]? = some o->Ch (i::r') e s->SimR r e s a w->(∀ e' s' a w,Ch r' e' s'->SimR r e' s' a w->Kc a w) ->
   if Region.wanted o (yielded ops.toArray a.tmps) then o.wpIn r.F 0 r.c.P a w Kc (WQr r k) else(∀ f,o.about r.c.P w a.eval=some f->r.F.fn f)/\Kc (a.put o.dst undef) w):∀ (fuel:Nat) (listed:Array Bool) (l:List Nat) (e:Env) (s:LB) (a:Act) (w:World),listed.size=ops.length ->
  l=(List.range ops.length).filter (fun i=>!listed.getD i true)->l.length=fuel->(∀ i,listed.getD i true=true->∀ j∈waits ops i,listed.getD j true=true) ->
  Ch l e s->SimR r e s a w->wpAnyIn r.F 0 r.c.P .any ops.toArray (WQr r k) fuel listed a w:=by
 have hready:∀ (listed:Array Bool) (i:Nat),i∈Region.ready .any ops.toArray listed ↔ i<ops.length/\listed.getD i true=false/\∀ j∈waits ops i,listed.getD j false=true:=by
  unfold Region.ready
  simp
  grind[waits,Array.all_eq_true_iff_forall_mem]
 have hback:∀ i,i<ops.length->∀ j∈waits ops i,j<i:=by
  intro i hi j hj;have:=(List.all_eq_true.1 hok) i (by grind)
  grind
 intro fuel
 induction fuel with
 | zero =>
  intro listed l e s a w hsz hl hlen hcl hch hsim;have hnil:l=[]:=lbb hlen;subst hnil;refine⟨?_,hnil _ _ hch a w hsim⟩;apply List.eq_nil_iff_forall_not_mem.2
  simp_all
 | succ fuel ih =>
  intro listed l e s a w hsz hl hlen hcl hch hsim;have hmem:∀ i,i∈l ↔ i<ops.length/\listed.getD i true=false:=by
   grind
  refine⟨fun hr=>?_,fun i hi=>?_⟩
  .exfalso
   cases hq:l with
   | nil=>grind
   | cons i r' =>
    have hil:i∈l:=by grind
    obtain⟨h1,h2⟩:=(hmem i).1 hil;have:i∈Region.ready .any ops.toArray listed:=by
     refine(hready listed i).2 ⟨h1,h2,fun j hj=>?_⟩;have hlt:=hback i h1 j hj;have hjn:j ∉ l:=by
      intro hjl;have hs:l.Pairwise (·<·):=by grind[List.pairwise_lt_range]
      grind[List.pairwise_cons]
     grind
    grind
  .obtain ⟨h1,h2,h3⟩:=(hready listed i).1 hi
   have hil:i∈l:=(hmem i).2 ⟨h1,h2⟩;obtain⟨l1,l2,hsplit⟩:=List.append_of_mem hil;have ho:ops.toArray[i]? = some ops[i]:=by grind
   have hs:l.Pairwise (·<·):=by grind[List.pairwise_lt_range]
   have hapart:∀ j∈l1,okp j i=true:=by
    intro j hj;have hjl:j∈l:=by grind
    obtain⟨hj1,hj2⟩:=(hmem j).1 hjl;have hji:j<i:=by
     grind
    have:=(List.all_eq_true.1 hok) i (by grind);simp only[lac]at this;have:=(List.all_eq_true.1 this.2) j (by grind);simp only[lbj]at this
    rcases this with h4|h4
    .omega
    .exfalso
     have hm:j∈anc ops ops.length i:=by grind
     have hw3:∀ j∈waits ops i,listed.getD j true=true:=by
      grind
     have:=AiC hcl ops.length i hw3 j hm
     grind
   rw[hsplit]at hch;have hfront:=hfr l1 i l2 e s hapart hch;have hlist:∀ j,(listed.setIfInBounds i true).getD j true=if j=i then true else listed.getD j true:=by
    intro j
    by_cases hj:j=i
    .subst hj
     have:j<listed.size:=by omega
     simp[this]
    .rw [if_neg hj]
     simp[Array.getElem?_setIfInBounds_ne (Ne.symm hj)]
   have hnext:l1++l2=(List.range ops.length).filter (fun j=>!(listed.setIfInBounds i true).getD j true):=by
    have e1:(fun j=>!(listed.setIfInBounds i true).getD j true)=fun j=>(!listed.getD j true)&&decide (j≠i):=by
     funext j
     rw[hlist]
     by_cases hj:j=i <;> simp[hj]
    have e2:(List.range ops.length).filter (fun j=>(!listed.getD j true)&&decide (j≠i))=l.filter (fun j=>decide (j≠i)):=by
     rw[hl,List.filter_filter]
     congr 1
     funext j
     rw[Bool.and_comm]
    rw[e1,e2,hsplit];have hn:l.Nodup:=hs.imp (fun h=>Nat.ne_of_lt h);rw[hsplit]at hn;have hn1:i ∉ l1:=fun hh=>(List.nodup_append.1 hn).2.2 i hh i (by simp) rfl
    have hn2:i ∉ l2:=(List.nodup_cons.1 (List.nodup_append.1 hn).2.1).1;simp only[List.filter_append,List.filter_cons];have f1:∀ x:List Nat,i ∉ x->x.filter (fun j=>decide (j≠i))=x:=by
     grind[List.filter_eq_self]
    grind
   have hgo:∀ e' s' a w,Ch (l1++l2) e' s'->SimR r e' s' a w->wpAnyIn r.F 0 r.c.P .any ops.toArray (WQr r k) fuel (listed.setIfInBounds i true) a w:=fun e' s' a' w' hrest hs' =>
    ih (listed.setIfInBounds i true) (l1++l2) _ _ a' w' (by grind) hnext (by grind) (fun j hj m hm=>by
     rw[hlist]at hj |-
     by_cases hmi:m=i
     .grind
     .rw [if_neg hmi]
      by_cases hji:j=i
      all_goals grind) hrest hs'
   have hw:=hst i ops[i] (l1++l2) e s a w _ (by grind) hfront hsim hgo;unfold wpOpIn;rw[ho];omega
theorem BeJ(cs:LY){id:Nat}{ops:List Oper}(hm:r.c.P.follows .mixedOrders=true)(hok:AyF ops=true){N:Nat}(hN:r.c.fn.ntmps=N)(hdst:ops.all (fun o=>dOk N o.dst)=true)(n:Nat)
  (h:dxk r.c ops (fun e s=>AWpR r k e s) n ops cs e s):AWpR r (.code (.region id ops.toArray true)::k) e s:=by
 intro a w hsim;have hch:=AjD (m:=0) (by grind) h;rw[<- List.range_eq_range']at hch;refine wpIn_region_any hm ?_;have hsim':SimR r e s a { w with drawn:=w.drawn+1 }:=by
  obtain⟨hh,ρ,hmm,hl,he,hdf,hsz,hX⟩:=hsim;have sm:Same w { w with drawn:=w.drawn+1 }:=Same.drew w;exact⟨hh,ρ,hmm.same sm,hl.trans (Later.same sm),he,hdf,hsz,r.c.hx.later hmm (Later.same sm) hX⟩
 have hd:∀ o∈ops,dOk r.c.fn.ntmps o.dst=true:=fun o ho=>by grind
 refine AwD (fun l e s=>Chain r.c ops.toArray (fun e s=>AWpR r k e s) l e s) hok (fun e s x=>x) (fun l i r' e s hj x=>?_)
  (fun i o r' e s a w Kc ho x hs hK=>?_)
  ops.length (Array.replicate ops.length false) (List.range ops.length) e s a _ (by simp) ?_ (by simp) ?_ hch hsim'
 .cases hi:ops[i]? with
  | none =>
   cases l with
   | nil=>exact x
   | cons j l=>have:=hj j (by simp); grind
  | some oi =>
   grind[Chain.front,AWpR.K]
 .have ho':ops.toArray[i]? = some o:=by grind
  simp only[Chain,ho']at x;obtain⟨cv,v,s',h1,h2⟩:=x;exact BbT hs (hd o (laj ho)) h1 fun a w hs'=>hK _ _ a w h2 hs'
 .symm
  simp_all
 .intro i hi j hj
  by_cases h1:i<ops.length
  all_goals simp_all[waits]
end
attribute [go_sem] runR AwC brR AyW BjN AyV A5P dxk dxkc dbrk
attribute [go_sem ↓] BbS A5Q A5U A1I
