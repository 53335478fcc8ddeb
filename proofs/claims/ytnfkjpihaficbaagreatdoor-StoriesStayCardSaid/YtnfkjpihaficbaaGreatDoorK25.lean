/- The walk within a round of a range over a function, and behind such a range. -/
import Derived.Test.YtnfkjpihaficbaaGreatDoorK18
import Derived.RangeFuncRecord
import Derived.RangeFuncIn
import Derived.Sort.LoopGhostIn
import Derived.OrdersIn
import Derived.TacticsIn
import Derived.RangeFuncLeaves
import Derived.RangeFuncOwn
set_option linter.unusedSimpArgs false
set_option linter.unusedVariables false
set_option linter.unusedSectionVars false
namespace Go.Av
open Go Go.RowKit
variable [Tr]
structure Cr where
 c:Cx
 rd:Option Nat
 df:List Deferred
 out:Exit->Act->World->Prop
def Cr.F(r:Cr):Fence:={ fn:=fun _=>True,depth:=none,alive:=false,round:=r.rd }
theorem A7C{rd:Option Nat}{n:Nat}{P:Program}{f:FuncId}{args:Array Value}{w:World}{R:Ending->World->Prop}(h:Calls P f args w R):CallsIn { fn:=fun _=>True,depth:=none,alive:=false,round:=rd } n P f args w R:=(callsIn_wide (n:=n)).2 h
def WQg(F:Fence)(P:Program)(N:Nat)(out:Exit->Act->World->Prop):List It->Exit->Act->World->Prop
 | [],e,a,w=>out e a w
 | x::k,e,a,w=>match e with
  | .normal=>match x with
   | .ops all rest=>wpListIn F 0 P all.toArray (WQg F P N out k) rest a w
   | .op all o rest=>dOk N o.dst=true->o.wpIn F 0 P a w (wpListIn F 0 P all.toArray (WQg F P N out k) rest) (WQg F P N out k)
   | .code y=>y.wpIn F 0 P (WQg F P N out k) a w
   | .blk _=>WQg F P N out k .normal a w
   | .inv J=>J a w
  | .exit id=>match x with
   | .blk i=>if id=i then WQg F P N out k .normal a w else WQg F P N out k (.exit id) a w
   | _=>WQg F P N out k (.exit id) a w
  | e=>WQg F P N out k e a w
@[reducible] def WQr (r:Cr):List It->Exit->Act->World->Prop:=WQg r.F r.c.P r.c.fn.ntmps r.out
def SimR(r:Cr)(e:Env)(s:List Blk)(a:Act)(w:World):Prop :=
 ∃ h ρ,Mine h ρ s w/\Later r.c.h r.c.ρ r.c.sto r.c.w h ρ s w/\EnvOk h ρ s e a/\a.defers=r.df/\a.tmps.size=r.c.fn.ntmps/\r.c.x h ρ w
theorem SimR.sim{r:Cr}{e:Env}{s:List Blk}{a:Act}{w:World}(h:SimR r e s a w):Sim r.c e s { a with defers:=[] } w:=by
 obtain⟨h,ρ,a1,a2,a3,a4,a5,a6⟩:=h;exact⟨h,ρ,a1,a2,a3,rfl,a5,a6⟩
theorem Sim.simR{r:Cr}{e:Env}{s:List Blk}{a:Act}{w:World}(hd:a.defers=r.df)(h:Sim r.c e s { a with defers:=[] } w):SimR r e s a w:=by
 obtain⟨h,ρ,a1,a2,a3,a4,a5,a6⟩:=h;exact⟨h,ρ,a1,a2,a3,hd,a5,a6⟩
theorem Shift.r{r:Cr}{e e':Env}{s s':List Blk}(x:Shift r.c e s e' s'){a:Act}{w:World}(h:SimR r e s a w):SimR r e' s' a w:=by
 have hd:a.defers=r.df:=by obtain⟨_,_,_,_,_,hd,_⟩:=h; exact hd
 exact Sim.simR hd (x _ _ h.sim)
def AWpR(r:Cr)(k:List It)(e:Env)(s:List Blk):Prop:=∀ a w,SimR r e s a w->WQr r k .normal a w
def AOut(r:Cr)(x:Exit)(e:Env)(s:List Blk):Prop:=∀ a w,SimR r e s a w->r.out x a w
def AtY(r:Cr)(f:FuncId)(args:List AV)(d:Option Tmp)(all os:List Oper)(k:List It)(e:Env)(s:List Blk):Prop :=
 ∀ a w h ρ vs,Mine h ρ s w->Later r.c.h r.c.ρ r.c.sto r.c.w h ρ s w->EnvOk h ρ s e a->a.defers=r.df->a.tmps.size=r.c.fn.ntmps->r.c.x h ρ w->RL h (Lf ρ s) false vs args ->
  AaB r.c.P f=true/\Calls r.c.P f vs.toArray w fun en w'=>match en with
   | .returned v=>WQr r (.ops all os::k) .normal (a.put d v) w'
   | _=>False
def BlP(r:Cr)(o:Oper)(all os:List Oper)(k:List It)(e:Env)(s:List Blk):Res->Nx
 | .ok v=>.go (.ops all os::k) (put e o.dst v) s
 | .side p v=>.side p (.ops all os::k) (put e o.dst v) s
 | .sto p v s'=>.side p (.ops all os::k) (put e o.dst v) s'
 | .pick b x y=>.two b (.ops all os::k) (put e o.dst x) s (.ops all os::k) (put e o.dst y) s
 | .call f args=>.leaf (AtY r f args o.dst all os k e s)
 | .anyb p=>.leaf (p/\∀ b,AWpR r (.ops all os::k) (put e o.dst (.bool b)) s)
 | .stuck=>.leaf (AWpR r (.op all o os::k) e s)
def A0C(r:Cr)(k:List It)(e:Env)(s:List Blk):Nx:=.leaf (AWpR r k e s)
def A7D(r:Cr)(id:Nat)(e:Env)(s:List Blk):Option (List It)->Nx
 | some k=>.go k e s
 | none=>.leaf (AOut r (.exit id) e s)
def A0D(wr frz:Bool)(N:Nat)(r:Cr)(k:List It)(e:Env)(s:List Blk):Nx :=
 match k with
 | .ops _ []::k=>.go k e s
 | .ops all (o::os)::k=>bif dOk N o.dst then opN o all os k e s o.guard else .leaf False
 | .op all o os::k=>BlP r o all os k e s (xop wr frz r.c.P e s o.op)
 | .code .skip::k=>.go k e s
 | .code (.region id ops draw)::k=>bif draw then A0C r (.code (.region id ops true)::k) e s else .go (.ops ops.toList ops.toList::k) e s
 | .code (.seq a b)::k=>.go (.code a::.code b::k) e s
 | .code (.cond x a b)::k=>A5I a b k e s (ev e x)
 | .code (.block id x)::k=>.go (.code x::.blk id::k) e s
 | .code (.exit id)::k=>A7D r id e s (AeD id k)
 | .code .ret::_=>.leaf (AOut r .ret e s)
 | .code x::k=>A0C r (.code x::k) e s
 | .blk _::k=>.go k e s
 | .inv J::k=>A0C r (.inv J::k) e s
 | []=>.leaf (AOut r .normal e s)
mutual
def runR(wr frz:Bool)(N:Nat)(c:Cr):Nat->List It->Env->List Blk->Prop
 | 0,k,e,s=>AWpR c k e s
 | n+1,k,e,s=>AwW wr frz N c n (A0D wr frz N c k e s)
def AwW(wr frz:Bool)(N:Nat)(c:Cr):Nat->Nx->Prop
 | n,.go k e s=>runR wr frz N c n k e s
 | n,.two b k e s k' e' s'=>brR wr frz N c n b k e s k' e' s'
 | n,.side p k e s=>p/\runR wr frz N c n k e s
 | _,.leaf p=>p
def brR(wr frz:Bool)(N:Nat)(c:Cr):Nat->Bool->List It->Env->List Blk->List It->Env->List Blk->Prop
 | 0,b,k,e,s,k',e',s'=>(b=true->AWpR c k e s)/\(b=false->AWpR c k' e' s')
 | n+1,b,k,e,s,k',e',s'=>(b=true->runR wr frz N c n k e s)/\(b=false->runR wr frz N c n k' e' s')
end
theorem BdB{wr frz:Bool}{N:Nat}{c:Cr}{n:Nat} {k e s k' e' s'}:brR wr frz N c (n+1) true k e s k' e' s'=runR wr frz N c n k e s:=by rw[brR]; simp
theorem A7E{wr frz:Bool}{N:Nat}{c:Cr}{n:Nat} {k e s k' e' s'}:brR wr frz N c (n+1) false k e s k' e' s'=runR wr frz N c n k' e' s':=by rw[brR]; simp
def Nx.semR(c:Cr):Nx->Prop
 | .go k e s=>AWpR c k e s
 | .two b k e s k' e' s'=>(b=true->AWpR c k e s)/\(b=false->AWpR c k' e' s')
 | .side p k e s=>p/\AWpR c k e s
 | .leaf p=>p
section
variable {r:Cr}{k:List It}{e:Env}{s:List Blk}
theorem AgH{id:Nat}:∀ {k k':List It},AeD id k=some k'->∀ a w,WQr r k' .normal a w->WQr r k (.exit id) a w
 | [],_,h,_,_,_=>by simp[AeD]at h
 | x::k,k',h,a,w,hw=>by
  cases x with
  | blk i =>
   simp only[AeD]at h;simp only[WQr,WQg]
   by_cases hi:id=i
   .subst hi
    simp at h; subst h
    simp only[if_true]; exact hw
   .have:(id==i)=false:=by simpa using hi
    simp only[this,cond_false]at h;rw[if_neg hi];exact AgH h a w hw
  | ops _ _=>exact AgH (k:=k) h a w hw
  | op _ _ _=>exact AgH (k:=k) h a w hw
  | code _=>exact AgH (k:=k) h a w hw
  | inv _=>exact AgH (k:=k) h a w hw
theorem AeJ{id:Nat}:∀ {k:List It},AeD id k=none->∀ a w,r.out (.exit id) a w->WQr r k (.exit id) a w
 | [],_,_,_,hw=>hw
 | x::k,h,a,w,hw=>by
  cases x with
  | blk i =>
   simp only[AeD]at h;simp only[WQr,WQg]
   by_cases hi:id=i
   .subst hi
    simp at h
   .have:(id==i)=false:=by simpa using hi
    simp only[this,cond_false]at h;rw[if_neg hi];exact AeJ h a w hw
  | ops _ _=>exact AeJ (k:=k) h a w hw
  | op _ _ _=>exact AeJ (k:=k) h a w hw
  | code _=>exact AeJ (k:=k) h a w hw
  | inv _=>exact AeJ (k:=k) h a w hw
theorem AwX:∀ {k:List It} {a w},r.out .ret a w->WQr r k .ret a w
 | [],_,_,h=>h
 | _::k,_,_,h=>AwX (k:=k) h
theorem AtZ{wr frz:Bool}{P:Program}{e:Env}{s:List Blk}{o:Op}(h:xop wr frz P e s o≠.stuck):∀ c,o≠.defer c:=fun c hc=>h (by rw[hc]; rfl)
theorem AfL{h:Mem}{ρ:Own}{w:World}{a:Act}{o:Oper}{v:AV}{s':List Blk}{all os:List Oper}(hl:Later r.c.h r.c.ρ r.c.sto r.c.w h ρ s w)(he:EnvOk h ρ s e a)(hdf:a.defers=r.df)(hsz:a.tmps.size=r.c.fn.ntmps)(hm0:Mine h ρ s w)(hX:r.c.x h ρ w)
  (hnd:∀ c,o.op≠.defer c) (hd:dOk r.c.fn.ntmps o.dst=true) (ok:Okv h ρ s w ((execOp a.eval o).run r.c.P w) v s') (hk:AWpR r (.ops all os::k) (put e o.dst v) s'):WQr r (.op all o os::k) .normal a w:=by
 obtain⟨u,w',h',ρ',hr,hm,hlt,rv⟩:=ok;have he':EnvOk h' ρ' s' e a:=fun t=>(he t).mono hlt.hle hlt.keep
 have hsim:SimR r (put e o.dst v) s' (a.put o.dst u) w':=⟨h',ρ',hm,hl.trans hlt,he'.put (by rw[hsz]; exact hd) rv,by rw[AaE]; exact hdf,by rw[AaW]; exact hsz,r.c.hx.later hm0 hlt hX⟩;have:=hk _ _ hsim
 show _->o.wpIn r.F 0 r.c.P a w (wpListIn r.F 0 r.c.P all.toArray (WQr r k) os) (WQr r k)
 intro _;unfold Oper.wpIn;refine⟨fun _ _=>trivial,?_⟩;rw[Oper.semAt_eq _ _ _ hnd]
 rcases hr with hr|⟨hr,hu⟩
 .rw [hr]; exact this
 .rw [hr]; subst hu; exact this
theorem AuA{wr frz:Bool}(h:(A0D wr frz r.c.fn.ntmps r k e s).semR r):AWpR r k e s:=by
 intro a w hsim;have hsim':=hsim;obtain⟨hh,ρ,hm,hl,he,hdf,hsz,hX⟩:=hsim';unfold A0D at h
 split at h
 .exact (h a w hsim:WQr r _ .normal a w)
 .rename_i all o os k
  cases hd:dOk r.c.fn.ntmps o.dst with
  | false=>simp[hd,Nx.semR]at h
  | true =>
  simp only[hd,cond_true]at h;unfold opN at h
  split at h
  .rename_i hg
   have:=h a w hsim
   show wpListIn r.F 0 r.c.P all.toArray (WQr r k) (o::os) a w
   unfold wpListIn;rw[if_pos (by simp[Region.wanted,hg])];exact this hd
  .rename_i j want hg
   unfold grdN at h
   split at h
   .rename_i b hb
    have hy:=AeE he hb
    show wpListIn r.F 0 r.c.P all.toArray (WQr r k) (o::os) a w
    unfold wpListIn;have h1:b=want->AWpR r (.op all o os::k) e s:=fun hh=>by
     subst hh
     cases b with
     | true=>exact h.1 rfl
     | false=>exact h.2 rfl
    have h2:b≠want->AWpR r (.ops all os::k) (put e o.dst (.raw undef)) s:=fun hh=>by
     cases b <;> cases want <;> first|exact(hh rfl).elim|exact h.1 rfl|exact h.2 rfl
    by_cases hbw:b=want
    .rw [if_pos (by simp[Region.wanted,hg,hy.1 hbw])]
     exact h1 hbw a w hsim hd
    .rw [if_neg (by simpa[Region.wanted,hg]using hy.2 hbw)]
     exact⟨fun _ _=>trivial,h2 hbw _ w ⟨hh,ρ,hm,hl,he.put (by rw[hsz]; exact hd) (.raw _),by rw[AaE]; exact hdf,by rw[AaW]; exact hsz,hX⟩⟩
   .exact h.elim
 .rename_i all o os k
  show _->_
  intro hd;have hs:=AdI (P:=r.c.P) (wr:=wr) (frz:=frz) (o:=o) hm he;have hnd:=AtZ (wr:=wr) (frz:=frz) (P:=r.c.P) (e:=e) (s:=s) (o:=o.op)
  revert h hs hnd
  cases hx:xop wr frz r.c.P e s o.op with
  | ok v=>intro h hs hnd; exact AfL hl he hdf hsz hm hX (hnd (by simp)) hd hs h hd
  | side p v=>intro h hs hnd; exact AfL hl he hdf hsz hm hX (hnd (by simp)) hd (hs h.1) h.2 hd
  | sto p v s'=>intro h hs hnd; exact AfL hl he hdf hsz hm hX (hnd (by simp)) hd (hs h.1) h.2 hd
  | pick b x y =>
    intro h hs hnd
    cases b with
    | true=>exact AfL hl he hdf hsz hm hX (hnd (by simp)) hd hs (h.1 rfl) hd
    | false=>exact AfL hl he hdf hsz hm hX (hnd (by simp)) hd hs (h.2 rfl) hd
  | call f args =>
    intro h hs hnd;obtain⟨vs,hv,hr⟩:=hs;have hb:=(h a w hh ρ vs hm hl he hdf hsz hX hv).1
    replace hr:=hr hb
    have hc:=(h a w hh ρ vs hm hl he hdf hsz hX hv).2
    show o.wpIn r.F 0 r.c.P a w (wpListIn r.F 0 r.c.P all.toArray (WQr r k) os) (WQr r k)
    unfold Oper.wpIn;refine⟨fun _ _=>trivial,?_⟩;rw[Oper.semAt_eq _ _ _ (hnd (by simp)),hr];refine⟨fun hq=>(by cases hq),A7C (hc.mono fun en w' hw=>?_)⟩
    cases en with
    | returned v=>exact hw
    | panicked ch=>exact hw.elim
    | outgrown=>exact hw.elim
  | anyb p=>intro h hs hnd; obtain⟨b,hb⟩:=hs h.1; exact AfL hl he hdf hsz hm hX (hnd (by simp)) hd hb (h.2 b) hd
  | stuck=>intro h hs hnd; exact h a w hsim hd
 .exact (h a w hsim:WQr r _ .normal a w) |> fun x=>wpIn_skip x
 .rename_i id ops draw k
  cases draw with
  | true=>exact h a w hsim
  | false =>
   have:=h a w hsim;exact wpIn_region_list (by simpa[WQr,WQg]using this)
 .rename_i x y k
  refine wpIn_seq (Code.wpIn_mono ?_ (h a w hsim));intro en a' w' hq
  cases en <;> exact hq
 .rename_i x y z k
  unfold A5I at h
  split at h
  .rename_i t ht
   have hx:=AaH he x;rw[ht]at hx;have hb:=AaV hx;refine wpIn_cond hb ?_
   cases t with
   | true=>exact h.1 rfl a w hsim
   | false=>exact h.2 rfl a w hsim
  .exact h.elim
 .rename_i id x k
  refine wpIn_block (Code.wpIn_mono ?_ (h a w hsim));intro en a' w' hq
  cases en <;> exact hq
 .rename_i id k
  unfold A7D at h
  split at h
  .rename_i k' hk
   exact wpIn_exit (AgH hk a w (h a w hsim))
  .rename_i hk
   exact wpIn_exit (AeJ hk a w (h a w hsim))
 .exact wpIn_ret (AwX (h a w hsim))
 .exact h a w hsim
 .exact h a w hsim
 .exact h a w hsim
 .exact h a w hsim
theorem A7F{wr frz:Bool}{n:Nat}(ih:∀ m,m<=n->∀ k e s,runR wr frz r.c.fn.ntmps r m k e s->AWpR r k e s):∀ {x:Nx},AwW wr frz r.c.fn.ntmps r n x->x.semR r
 | .go k e s,h=>ih n (Nat.le_refl _) k e s (by rw[AwW]at h; exact h)
 | .two b k e s k' e' s',h=>by
  rw[AwW]at h
  cases n with
  | zero=>rw[brR]at h; exact h
  | succ n =>
   rw[brR]at h;exact⟨fun hb=>ih n (by omega) _ _ _ (h.1 hb),fun hb=>ih n (by omega) _ _ _ (h.2 hb)⟩
 | .side p k e s,h=>by
  rw[AwW]at h;exact⟨h.1,ih n (Nat.le_refl _) _ _ _ h.2⟩
 | .leaf p,h=>by rw[AwW]at h; exact h
theorem ApF{wr frz:Bool}(n:Nat):∀ (k:List It)(e:Env)(s:List Blk),runR wr frz r.c.fn.ntmps r n k e s->AWpR r k e s:=by
 induction n using Nat.strongRecOn with
 | _ n ih =>
  intro k e s h
  cases n with
  | zero=>rw[runR]at h; exact h
  | succ n =>
   rw[runR]at h;exact AuA (A7F (fun m hm=>ih m (by omega)) h)
theorem goR{N:Nat}(hN:r.c.fn.ntmps=N)(n:Nat)(h:runR false false N r n k e s):AWpR r k e s:=ApF n k e s (hN▸h)
theorem goFR{N:Nat}(hN:r.c.fn.ntmps=N)(n:Nat)(h:runR false true N r n k e s):AWpR r k e s:=ApF n k e s (hN▸h)
theorem AWpR.shift{e':Env}{s':List Blk}(x:Shift r.c e s e' s')(h:AWpR r k e' s'):AWpR r k e s:=fun a w hs=>h a w (x.r hs)
theorem AOut.shift{y:Exit}{e':Env}{s':List Blk}(x:Shift r.c e s e' s')(h:AOut r y e' s'):AOut r y e s:=fun a w hs=>h a w (x.r hs)
theorem BfL{ι:Type}{B:Code}(μ:ι->Nat)(E:ι->Env)(S:ι->List Blk)(H:ι->Prop)(x0:ι)(hH:H x0)(hs:Shift r.c e s (E x0) (S x0))
  (step:∀ x,H x->∀ J:Act->World->Prop,(∀ y,H y->μ y<μ x->∀ a w,SimR r (E y) (S y) a w->J a w)->AWpR r (.code B::.inv J::k) (E x) (S x)) :
  AWpR r (.code (.loop B)::k) e s:=by
 intro a w hsim;refine wpIn_loop_ghost (fun n a w=>∃ x,H x/\μ x=n/\SimR r (E x) (S x) a w) (μ x0) ⟨x0,hH,rfl,hs.r hsim⟩ ?_;rintro n a w ⟨x,hx,rfl,hsx⟩;have:=step x hx (fun a w=>∃ n',n'<μ x/\∃ y,H y/\μ y=n'/\SimR r (E y) (S y) a w) (fun y hy hlt a w hs=>⟨_,hlt,y,hy,rfl,hs⟩) a w hsx;refine Code.wpIn_mono ?_ this;intro en a' w' hq
 cases en <;> exact hq
theorem ArE{J:Act->World->Prop}{e':Env}{s':List Blk}(hJ:∀ a w,SimR r e' s' a w->J a w)(x:Shift r.c e s e' s'):AWpR r (.inv J::k) e s:=fun a w h=>hJ a w (x.r h)
theorem BlQ{f:FuncId}{args:List AV}{d:Option Tmp}{all os:List Oper}{post:AV->List Blk->Prop}(hc:Ct r.c.P f args s post){N:Nat}(hN:r.c.fn.ntmps=N)(hd:dOk N d=true)
  (hk:∀ v s',post v s'->AWpR r (.ops all os::k) (put e d v) s'):AtY r f args d all os k e s:=by
 intro a w h ρ vs hm hl he hdf hsz hX hv;refine⟨hc.1,(hc.2 h ρ w vs hm hv).mono ?_⟩;rintro en w' ⟨v,r',s',h',ρ',rfl,hp,hm',hlt,rv⟩;have he':EnvOk h' ρ' s' e a:=fun t=>(he t).mono hlt.hle hlt.keep
 exact hk r' s' hp _ _ ⟨h',ρ',hm',hl.trans hlt,he'.put (by rw[hsz,hN]; exact hd) rv,by rw[AaE]; exact hdf,by rw[AaW]; exact hsz,r.c.hx.later hm hlt hX⟩
theorem BiF{g:Std}(hg:Le g r.c.w r.c.ρ){f:FuncId}{args:List AV}{d:Option Tmp}{all os:List Oper}{post:AV->List Blk->Prop}(hc:CtH r.c.P g f args s post){N:Nat}(hN:r.c.fn.ntmps=N)(hd:dOk N d=true)
  (hk:∀ v s',post v s'->AWpR r (.ops all os::k) (put e d v) s'):AtY r f args d all os k e s:=by
 intro a w h ρ vs hm hl he hdf hsz hX hv;refine⟨hc.1,(hc.2 h ρ w vs (hg.later hl) hm hv).mono ?_⟩;rintro en w' ⟨v,r',s',h',ρ',rfl,hp,hm',hlt,rv⟩;have he':EnvOk h' ρ' s' e a:=fun t=>(he t).mono hlt.hle hlt.keep
 exact hk r' s' hp _ _ ⟨h',ρ',hm',hl.trans hlt,he'.put (by rw[hsz,hN]; exact hd) rv,by rw[AaE]; exact hdf,by rw[AaW]; exact hsz,r.c.hx.later hm hlt hX⟩
theorem BiG{g:Std}(hg:Le g r.c.w r.c.ρ){f:FuncId}{args:List AV}{d:Option Tmp}{all os:List Oper}{post:AV->Prop}(hc:PcH r.c.P g f args post)(ha:args.all nr1=true){N:Nat}(hN:r.c.fn.ntmps=N)(hd:dOk N d=true)
  (hk:∀ v,post v->AWpR r (.ops all os::k) (put e d v) s):AtY r f args d all os k e s :=
 BiF hg (hc.cth ha s) hN hd fun v s' ⟨hp,hs⟩=>by subst hs; exact hk v hp
theorem AcS{g:Std}(hg:Le g r.c.w r.c.ρ){f:FuncId}{args:List AV}{d:Option Tmp}{all os:List Oper}{v:AV}(hc:PcH r.c.P g f args (· = v))(ha:args.all nr1=true){N:Nat}(hN:r.c.fn.ntmps=N)(hd:dOk N d=true)
  (hk:AWpR r (.ops all os::k) (put e d v) s):AtY r f args d all os k e s :=
 BiG hg hc ha hN hd fun v' hr=>by subst hr; exact hk
end
section
variable {c:Cx}{e:Env}{s:List Blk}
mutual
def dxk(c:Cx)(all:List Oper)(K:Env->List Blk->Prop):Nat->List Oper->List AV->Env->List Blk->Prop
 | _,[],_,e,s=>K e s
 | 0,_::_,_,_,_=>False
 | n+1,o::r,cs,e,s=>dxkc c all K n (dgrd c all s o r cs e o.guard)
def dxkc(c:Cx)(all:List Oper)(K:Env->List Blk->Prop):Nat->Dn->Prop
 | n,.go r cs e s=>dxk c all K n r cs e s
 | n,.two b r cs e r' cs' e' s=>dbrk c all K n b r cs e r' cs' e' s
 | n,.side p r cs e s=>p/\dxk c all K n r cs e s
 | _,.fail=>False
def dbrk(c:Cx)(all:List Oper)(K:Env->List Blk->Prop):Nat->Bool->List Oper->List AV->Env->List Oper->List AV->Env->List Blk->Prop
 | 0,_,_,_,_,_,_,_,_=>False
 | n+1,b,r,cs,e,r',cs',e',s=>(b=true->dxk c all K n r cs e s)/\(b=false->dxk c all K n r' cs' e' s)
end
theorem A7G{K:Env->List Blk->Prop}{all:List Oper}{n:Nat} {r cs e r' cs' e' s}:dbrk c all K (n+1) true r cs e r' cs' e' s=dxk c all K n r cs e s:=by rw[dbrk]; simp
theorem A2P{K:Env->List Blk->Prop}{all:List Oper}{n:Nat} {r cs e r' cs' e' s}:dbrk c all K (n+1) false r cs e r' cs' e' s=dxk c all K n r' cs' e' s:=by rw[dbrk]; simp
end
section
variable {r:Cr}{k:List It}{e:Env}{s:List Blk}
theorem SimR.eqv{e':Env}{a:Act}{w:World}(h:Eqv e e')(hs:SimR r e s a w):SimR r e' s a w:=by
 obtain⟨hh,ρ,hm,hl,he,hdf,hsz,hX⟩:=hs;exact⟨hh,ρ,hm,hl,fun t=>by rw[<- h t]; exact he t,hdf,hsz,hX⟩
theorem AWpR.eqv{e':Env}(h:Eqv e e')(x:AWpR r k e s):AWpR r k e' s:=fun a w hs=>x a w (hs.eqv fun t=>(h t).symm)
theorem AWpR.K:∀ e e' s,Eqv e e'->AWpR r k e s->AWpR r k e' s:=fun _ _ _ h x=>x.eqv h
theorem BdC{o:Oper}{ops:Array Oper}{cv v:AV}{s1:List Blk}{a:Act}{w:World}{K:Act->World->Prop}{Q:Exit->Act->World->Prop}(hs:SimR r e s a w)(hd:dOk r.c.fn.ntmps o.dst=true)(h:Does r.c ops s o cv e v s1)
  (hK:∀ a w,SimR r (put e o.dst v) s1 a w->K a w):if Region.wanted o (yielded ops a.tmps) then o.wpIn r.F 0 r.c.P a w K Q else(∀ f,o.about r.c.P w a.eval=some f->r.F.fn f)/\K (a.put o.dst undef) w:=by
 obtain⟨hh,ρ,hm,hl,he,hdf,hsz,hX⟩:=hs;have hop:DoesOp r.c s o cv e v s1->o.wpIn r.F 0 r.c.P a w K Q:=by
  intro hd1;have hsnd:=AdI (P:=r.c.P) (wr:=false) (frz:=true) (o:=o) hm he;have fin:(∀ c,o.op≠.defer c)->Okv hh ρ s w ((execOp a.eval o).run r.c.P w) v s1->o.wpIn r.F 0 r.c.P a w K Q:=by
   rintro hnd ⟨u,w',h',ρ',hr,hm',hlt,rv⟩;have he':EnvOk h' ρ' s1 e a:=fun t=>(he t).mono hlt.hle hlt.keep
   have:=hK (a.put o.dst u) w' ⟨h',ρ',hm',hl.trans hlt,he'.put (by rw[hsz]; exact hd) rv,by rw[AaE]; exact hdf,by rw[AaW]; exact hsz,r.c.hx.later hm hlt hX⟩;unfold Oper.wpIn;refine⟨fun _ _=>trivial,?_⟩;rw[Oper.semAt_eq _ _ _ hnd]
   rcases hr with hr|⟨hr,hu⟩
   .rw [hr]; exact this
   .rw [hr]; subst hu; exact this
  unfold DoesOp at hd1;have hnd:=AtZ (wr:=false) (frz:=true) (P:=r.c.P) (e:=e) (s:=s) (o:=o.op)
  revert hd1 hsnd hnd
  cases xop false true r.c.P e s o.op with
  | ok u=>intro h2 h1 hnd; obtain⟨h2,h3⟩:=h2; subst h2; subst h3; exact fin (hnd (by simp)) h1
  | side p u=>intro h2 h1 hnd; obtain⟨hp,h2,h3⟩:=h2; subst h2; subst h3; exact fin (hnd (by simp)) (h1 hp)
  | sto p u s'=>intro h2 h1 hnd; obtain⟨_,hp,h2,h3⟩:=h2; subst h2; subst h3; exact fin (hnd (by simp)) (h1 hp)
  | pick b x y=>intro h2 h1 hnd; obtain⟨h2,h3⟩:=h2; subst h2; subst h3; exact fin (hnd (by simp)) h1
  | call f args =>
   intro h2 h1 hnd;obtain⟨hp,hn,h2,h3⟩:=h2;subst h2; subst h3;obtain⟨vs,hv,hr⟩:=h1;unfold Oper.wpIn;refine⟨fun _ _=>trivial,?_⟩;rw[Oper.semAt_eq _ _ _ (hnd (by simp)),hr hp.1];refine⟨fun hq=>(by cases hq),A7C ((hp.calls hn hm hl hv).mono ?_)⟩;rintro en w' ⟨u,rr,s',h',ρ',rfl,⟨hrv,hss⟩,hm',hlt,rv⟩;subst hss; subst hrv;have he':EnvOk h' ρ' s' e a:=fun t=>(he t).mono hlt.hle hlt.keep
   exact hK _ _ ⟨h',ρ',hm',hl.trans hlt,he'.put (by rw[hsz]; exact hd) rv,by rw[AaE]; exact hdf,by rw[AaW]; exact hsz,r.c.hx.later hm hlt hX⟩
  | anyb p=>intro h2 _ _; exact h2.elim
  | stuck=>intro h2 _ _; exact h2.elim
 unfold Does at h
 split at h
 .rename_i hg
  rw[if_pos (by simp[Region.wanted,hg])];exact hop h
 .rename_i j want hg
  split at h
  .rename_i b hb
   have hy:=AeE (all:=ops.toList) he (by simpa using hb);simp only[Array.toArray_toList]at hy
   rcases h with⟨h1,h2⟩|⟨h1,h2,h3⟩
   .rw [if_pos (by simp[Region.wanted,hg,hy.1 h1])]
    exact hop h2
   .rw [if_neg (by simpa[Region.wanted,hg]using hy.2 h1)]
    subst h2; subst h3;refine⟨fun _ _=>trivial,?_⟩;exact hK _ _ ⟨hh,ρ,hm,hl,he.put (by rw[hsz]; exact hd) (.raw _),by rw[AaE]; exact hdf,by rw[AaW]; exact hsz,hX⟩
  .exact h.elim
theorem AwY{ops:List Oper}{okp:Nat->Nat->Bool}(Ch:List Nat->Env->List Blk->Prop)(hok:AhE okp ops=true)(hnil:∀ e s,Ch [] e s->AWpR r k e s)
  (hfr:∀ l i r' e s,(∀ j∈l,okp j i=true)->Ch (l++i::r') e s->Ch (i::(l++r')) e s)
  (hst:∀ i o r' e s a w (Kc:Act->World->Prop),ops[i]? = some o->Ch (i::r') e s->SimR r e s a w->(∀ e' s' a w,Ch r' e' s'->SimR r e' s' a w->Kc a w) ->
   if Region.wanted o (yielded ops.toArray a.tmps) then o.wpIn r.F 0 r.c.P a w Kc (WQr r k) else(∀ f,o.about r.c.P w a.eval=some f->r.F.fn f)/\Kc (a.put o.dst undef) w):∀ (fuel:Nat) (listed:Array Bool) (l:List Nat) (e:Env) (s:List Blk) (a:Act) (w:World),listed.size=ops.length ->
  l=(List.range ops.length).filter (fun i=>!listed.getD i true)->l.length=fuel->(∀ i,listed.getD i true=true->∀ j∈AbT ops i,listed.getD j true=true) ->
  Ch l e s->SimR r e s a w->wpAnyIn r.F 0 r.c.P .any ops.toArray (WQr r k) fuel listed a w:=by
 have hready:∀ (listed:Array Bool) (i:Nat),i∈Region.ready .any ops.toArray listed ↔ i<ops.length/\listed.getD i true=false/\∀ j∈AbT ops i,listed.getD j false=true:=by
  intro listed i;unfold Region.ready;simp only[List.mem_filter,List.mem_range,List.size_toArray,Bool.and_eq_true,Bool.not_eq_true'];refine and_congr_right fun hi=>and_congr_right fun _=>?_
  have:ops[i]? = some ops[i]:=by simp[hi]
  simp only[List.getElem?_toArray,this,Option.map_some,Option.getD_some,AbT];rw[Array.all_eq_true_iff_forall_mem]
  constructor
  .intro h j hj
   simp only[List.mem_map,List.mem_filter,Array.mem_toList_iff]at hj;obtain⟨ed,⟨h1,h2⟩,rfl⟩:=hj;have:=h ed h1
   simpa[h2]using this
  .intro h ed hed
   by_cases hb:Region.binds .any ed=true
   .have:=h ed.on (by simp only[List.mem_map,List.mem_filter,Array.mem_toList_iff]; exact⟨ed,⟨hed,hb⟩,rfl⟩)
    simp[this]
   .simp [hb]
 have hback:∀ i,i<ops.length->∀ j∈AbT ops i,j<i:=by
  intro i hi j hj;have:=(List.all_eq_true.1 hok) i (by simpa using hi);simp only[Bool.and_eq_true]at this
  simpa using(List.all_eq_true.1 this.1) j hj
 intro fuel
 induction fuel with
 | zero =>
  intro listed l e s a w hsz hl hlen hcl hch hsim;have hnil:l=[]:=List.eq_nil_of_length_eq_zero hlen;subst hnil;refine⟨?_,hnil _ _ hch a w hsim⟩;apply List.eq_nil_iff_forall_not_mem.2;intro i hi;obtain⟨h1,h2,_⟩:=(hready listed i).1 hi;have:i∈(List.range ops.length).filter (fun i=>!listed.getD i true):=List.mem_filter.2 ⟨by simpa using h1,by simp[h2]⟩;rw[<- hl]at this
  cases this
 | succ fuel ih =>
  intro listed l e s a w hsz hl hlen hcl hch hsim;have hmem:∀ i,i∈l ↔ i<ops.length/\listed.getD i true=false:=by
   intro i; rw[hl]; simp[List.mem_filter]
  refine⟨fun hr=>?_,fun i hi=>?_⟩
  .exfalso
   cases hq:l with
   | nil=>rw[hq]at hlen; simp at hlen
   | cons i r' =>
    have hil:i∈l:=by rw[hq]; simp
    obtain⟨h1,h2⟩:=(hmem i).1 hil;have:i∈Region.ready .any ops.toArray listed:=by
     refine(hready listed i).2 ⟨h1,h2,fun j hj=>?_⟩;have hlt:=hback i h1 j hj;have hjn:j ∉ l:=by
      intro hjl;have hs:l.Pairwise (·<·):=by rw[hl]; exact List.Pairwise.filter _ List.pairwise_lt_range
      rw[hq]at hs hjl
      rcases List.mem_cons.1 hjl with rfl|hjr
      .omega
      .have:=(List.pairwise_cons.1 hs).1 j hjr; omega
     have hjlt:j<listed.size:=by omega
     have:=fun hf=>hjn ((hmem j).2 ⟨by omega,hf⟩)
     cases hv:listed.getD j true with
     | true=>simpa[Array.getD,hjlt]using hv
     | false=>exact(this hv).elim
    rw[hr]at this
    cases this
  .obtain ⟨h1,h2,h3⟩:=(hready listed i).1 hi
   have hil:i∈l:=(hmem i).2 ⟨h1,h2⟩;obtain⟨l1,l2,hsplit⟩:=List.append_of_mem hil;have ho:ops.toArray[i]? = some ops[i]:=by simp[h1]
   have hs:l.Pairwise (·<·):=by rw[hl]; exact List.Pairwise.filter _ List.pairwise_lt_range
   have hapart:∀ j∈l1,okp j i=true:=by
    intro j hj;have hjl:j∈l:=by rw[hsplit]; simp[hj]
    obtain⟨hj1,hj2⟩:=(hmem j).1 hjl;have hji:j<i:=by
     rw[hsplit]at hs;exact(List.pairwise_append.1 hs).2.2 j hj i (by simp)
    have:=(List.all_eq_true.1 hok) i (by simpa using h1);simp only[Bool.and_eq_true]at this;have:=(List.all_eq_true.1 this.2) j (by simpa using hji);simp only[Bool.or_eq_true]at this
    rcases this with h4|h4
    .exact h4
    .exfalso
     have hm:j∈anc ops ops.length i:=by simpa using h4
     have hw3:∀ j∈AbT ops i,listed.getD j true=true:=by
      intro j hj;have h5:=h3 j hj;have hjlt:j<listed.size:=by have:=hback i h1 j hj; omega
      simpa[Array.getD,hjlt]using h5
     have:=AfW (L:=fun j=>listed.getD j true=true) hcl ops.length i hw3 j hm;rw[this]at hj2
     cases hj2
   rw[hsplit]at hch;have hfront:=hfr l1 i l2 e s hapart hch;have hlist:∀ j,(listed.setIfInBounds i true).getD j true=if j=i then true else listed.getD j true:=by
    intro j
    by_cases hj:j=i
    .subst hj
     have:j<listed.size:=by omega
     simp[this]
    .rw [if_neg hj]
     simp[Array.getElem?_setIfInBounds_ne (Ne.symm hj)]
   have hnext:l1++l2=(List.range ops.length).filter (fun j=>!(listed.setIfInBounds i true).getD j true):=by
    have e1:(fun j=>!(listed.setIfInBounds i true).getD j true)=fun j=>(!listed.getD j true)&&decide (j≠i):=by
     funext j
     rw[hlist]
     by_cases hj:j=i <;> simp[hj]
    have e2:(List.range ops.length).filter (fun j=>(!listed.getD j true)&&decide (j≠i))=l.filter (fun j=>decide (j≠i)):=by
     rw[hl,List.filter_filter]
     congr 1
     funext j
     rw[Bool.and_comm]
    rw[e1,e2,hsplit];have hn:l.Nodup:=hs.imp (fun h=>Nat.ne_of_lt h);rw[hsplit]at hn;have hn1:i ∉ l1:=fun hh=>(List.nodup_append.1 hn).2.2 i hh i (by simp) rfl
    have hn2:i ∉ l2:=(List.nodup_cons.1 (List.nodup_append.1 hn).2.1).1;simp only[List.filter_append,List.filter_cons];have f1:∀ x:List Nat,i ∉ x->x.filter (fun j=>decide (j≠i))=x:=by
     intro x hx;rw[List.filter_eq_self];intro y hy
     simp
     intro h; subst h; exact hx hy
    rw[f1 l1 hn1,f1 l2 hn2]
    simp
   have hgo:∀ e' s' a w,Ch (l1++l2) e' s'->SimR r e' s' a w->wpAnyIn r.F 0 r.c.P .any ops.toArray (WQr r k) fuel (listed.setIfInBounds i true) a w:=fun e' s' a' w' hrest hs' =>
    ih (listed.setIfInBounds i true) (l1++l2) _ _ a' w' (by simpa using hsz) hnext (by rw[hsplit]at hlen; simp at hlen |-; omega) (fun j hj m hm=>by
     rw[hlist]at hj |-
     by_cases hmi:m=i
     .simp [hmi]
     .rw [if_neg hmi]
      by_cases hji:j=i
      .subst hji
       have h5:=h3 m hm;have hmlt:m<listed.size:=by have:=hback j h1 m hm; omega
       simpa[Array.getD,hmlt]using h5
      .rw [if_neg hji]at hj
       exact hcl j hj m hm) hrest hs'
   have hw:=hst i ops[i] (l1++l2) e s a w _ (by simp[h1]) hfront hsim hgo;unfold wpOpIn;rw[ho];simp only
   by_cases hwant:Region.wanted ops[i] (yielded ops.toArray a.tmps)=true
   .rw [if_pos hwant]at hw |-
    exact hw
   .rw [if_neg hwant]at hw |-
    exact hw
end
attribute [go_sem] runR AwW brR A0D BlP A0C A7D dxk dxkc dbrk
attribute [go_sem ↓] BdB A7E A7G A2P
end Go.Av
namespace Go.Av
open Go Go.RowKit
variable [Tr]
section
variable {h h' h0:Mem}{ρ ρ' ρ0:Own}{s s' s0:List Blk}{w w' w0:World}
theorem AwZ{l b o:Nat}{x:Obj}(hb:b≠l):(w.putObj l x).cell? ⟨b,o,none⟩=w.cell? ⟨b,o,none⟩ :=
 World.cell?_of_block (World.putObj_heap_other hb)
theorem Mine.putObj(m:Mine h ρ s w){l:Nat}{o x:Obj}(hl:w.heap[l]? = some o)(hc:o.isCells=false)(hn:∀ i t,ρ i≠some (l,t)):Mine h ρ s (w.putObj l x):=by
 refine⟨fun b i v e=>?_,fun id blk e=>?_,m.out,m.inj,m.disj⟩
 .have h1:=m.mem b i v e
  refine⟨?_,h1.2⟩
  by_cases hb:b=l
  .subst hb
   exfalso
   have:=h1.1;simp only[World.cell?,hl]at this
   cases o <;> simp[Obj.isCells]at hc this
  .rw [AwZ hb]; exact h1.1
 .exact (m.own id blk e).mono (fun _ _ _ x=>x) (fun _ _ x=>x) rfl fun g t hg=>World.putObj_heap_other fun e=>hn id t (by rw[<- e]; exact hg)
theorem Later.putNew(L:Later h0 ρ0 s0 w0 h ρ s w){l:Nat}{x:Obj}(hl:w0.heap.size<=l):Later h0 ρ0 s0 w0 h ρ s (w.putObj l x) :=
 ⟨L.hle,L.hnew,L.keep,L.os,L.tape,⟨L.output.1,Tr.trans L.output.2 (Tr.same rfl)⟩,by rw[World.putObj_size]; exact L.size,fun k hk hn=>(World.putObj_heap_other (by omega)).trans (L.block k hk hn),L.newown⟩
theorem Later.around{l:Nat}{o1 o2:Obj}(hl:w.heap[l]? = some o1)(L:Later h ρ s (w.putObj l o2) h' ρ' s' w'):Later h ρ s w h' ρ' s' (w'.putObj l o1):=by
 have hlt:l<w.heap.size:=(Array.getElem?_eq_some_iff.1 hl).1;have hsz:=L.size;rw[World.putObj_size]at hsz;refine⟨L.hle,fun b o a e=>by have:=L.hnew b o a e; rwa [World.putObj_size]at this,L.keep,L.os,L.tape,⟨L.output.1,Tr.trans (Tr.same (w':=w.putObj l o2) rfl) (Tr.trans L.output.2 (Tr.same rfl))⟩,by rw[World.putObj_size]; exact hsz,fun k hk hn=>?_,fun i g t e=>by have:=L.newown i g t e; rwa [World.putObj_size]at this⟩
 by_cases hkl:k=l
 .subst hkl
  rw[World.putObj_heap_same (by omega),hl]
 .rw [World.putObj_heap_other hkl,L.block k (by rw[World.putObj_size]; exact hk) hn,World.putObj_heap_other hkl]
end
theorem Shift.weakS{c:Cx}{e e':Env}{s s':List Blk}(h:wk e e')(hs:s=s'):Shift c e s e' s':=hs▸Shift.weak h
def XB(l:List (Nat×Obj)):Mem->Own->World->Prop:=fun _ ρ w=>∀ p∈l,w.heap[p.1]? = some p.2/\∀ i t,ρ i≠some (p.1,t)
theorem stbB(l:List (Nat×Obj)):Stb (XB l) where
 later:=fun{h ρ sto w h' ρ' sto' w'} _ L x p hp=>by
  obtain⟨h1,h2⟩:=x p hp;have hlt:p.1<w.heap.size:=(Array.getElem?_eq_some_iff.1 h1).1;refine⟨(L.block p.1 hlt h2).trans h1,fun i t e=>?_⟩
  rcases L.newown i p.1 t e with⟨j,t',hj⟩|hs
  .exact h2 j t' hj
  .omega
 fewer:=fun hf x p hp=>by
  obtain⟨h1,h2⟩:=x p hp;refine⟨h1,fun i t e=>?_⟩;obtain⟨j,t',hj⟩:=hf i p.1 t e;exact h2 j t' hj
def DfO(Ds:List Nat):List (Nat×Obj):=Ds.map fun D=>(D,.deferred (some []))
def dfs(Ds:List Nat):List Deferred:=Ds.map fun D=>{ target:=.collected D,args:=#[] }
def outM(P:Program)(fn:Func)(h:Mem)(ρ:Own)(sto:List Blk)(w:World)(post:AV->List Blk->Prop):Exit->Act->World->Prop :=
 bodyPostM Fence.wide 0 P fn fun en w'=>∃ v r s h' ρ',en=.returned v/\post r s/\Mine h' ρ' s w'/\Later h ρ sto w h' ρ' s w'/\RV h' (Lf ρ' s) false v r
@[reducible] def mkM (P:Program) (fn:Func) (h:Mem) (ρ:Own) (sto:List Blk) (w:World) (post:AV->List Blk->Prop) (Ds:List Nat):Cr :=
 ⟨⟨P,fn,h,ρ,sto,w,post,XB (DfO Ds),stbB _⟩,none,dfs Ds,outM P fn h ρ sto w post⟩
@[reducible] def mkL (P:Program) (fn:Func) (h:Mem) (ρ:Own) (sto:List Blk) (w:World) (l:List (Nat×Obj)) (id:Nat):Cr :=
 ⟨⟨P,fn,h,ρ,sto,w,fun _ _=>True,XB l,stbB l⟩,some id,[],fun _ _ _=>False⟩
theorem AmY{P:Program}{f:FuncId}(hb:AaB P f=true)(args:Array Value)(w:World):(callFunc f args).run P w=.ok (.enter f args) w:=by
 unfold AaB at hb
 cases hq:P.funcs[f]? with
 | none=>simp[hq]at hb
 | some fn =>
  simp only [hq] at hb;have h3:(fn.name == "runtime.NumGoroutine")=false:=by cases h:fn.name == "runtime.NumGoroutine" <;> simp_all
  have h4:fn.body.isNone=false:=by cases h:fn.body <;> simp_all
  unfold callFunc;simp only[Sem.run_bind,run_program,Result.andThen_ok,hq,h3,h4,Bool.false_eq_true,if_false,Sem.run_pure]
theorem AmZ{r:Cr}{c:Code}{J:Act->World->Prop}{a:Act}{w:World}{Q:Exit->Act->World->Prop}(h:WQr r [.code c,.inv J] .normal a w)(hout:∀ e a w,¬ r.out e a w)(hJ:∀ a w,J a w->Q .normal a w):c.wpIn r.F 0 r.c.P Q a w :=
 Code.wpIn_mono (fun en a' w' hq=>by
  cases en with
  | normal=>exact hJ _ _ hq
  | ret=>exact(hout _ _ _ hq).elim
  | exit id=>exact(hout _ _ _ hq).elim
  | goto l=>exact(hout _ _ _ hq).elim
  | panic ch=>exact(hout _ _ _ hq).elim
  | outgrown=>exact(hout _ _ _ hq).elim) (show c.wpIn r.F 0 r.c.P (WQr r [.inv J]) a w from h)
theorem A7H{c:Cx}{out:Exit->Act->World->Prop}{k:List It}{e:Env}{s s':List Blk}{all os:List Oper}{o:Oper}{f x:Operand}{ts:Array TypeId}{l:Nat}(ho:o.op=.call { callee:=.value f,args:=#[x],argTypes:=ts })(hf:ev e f=.raw (.func (.yield l) #[] #[]))
  (hY:∀ h1 ρ1 w1 v,Later c.h c.ρ c.sto c.w h1 ρ1 s w1->Mine h1 ρ1 s w1->c.x h1 ρ1 w1->RV h1 (Lf ρ1 s) false v (ev e x) ->
   YieldAt Fence.wide 0 c.P l #[v] w1 fun en w'=>en=.returned (.bool true)/\∃ h' ρ',Mine h' ρ' s' w'/\Later h1 ρ1 s w1 h' ρ' s' w'/\c.x h' ρ' w')
  (hk:AWpR ⟨c,none,[],out⟩ (.ops all os::k) (put e o.dst (.bool true)) s'):AWpR ⟨c,none,[],out⟩ (.op all o os::k) e s:=by
 intro a w hsim;obtain⟨h,ρ,hm,hl,he,hdf,hsz,hX⟩:=hsim
 show dOk c.fn.ntmps o.dst=true->_
 intro hd;have hfv:=AaH he f;rw[hf]at hfv;have hfe:=AbF hfv;obtain⟨fno,tm,asg,bd,hy,hR⟩:=hY h ρ w (a.eval x) hl hm hX (AaH he x);unfold Oper.wpIn;refine⟨fun _ _=>trivial,?_⟩;rw[Oper.semAt_eq _ _ _ (by rw[ho]; intro c hc; cases hc)];have hrun:(execOp a.eval o).run c.P w=.ok (.round l fno tm asg bd) w:=by
  rw[<- hy]
  simp[execOp,ho,resolve,hfe,Deferred.ofValue,invoke]
 rw[hrun];refine⟨fun hq=>(by cases hq),RoundIn.mono hR ?_⟩;rintro en w' ⟨rfl,h',ρ',hm',hl',hx'⟩;have he':EnvOk h' ρ' s' e a:=fun t=>(he t).mono hl'.hle hl'.keep
 exact hk _ _ ⟨h',ρ',hm',hl.trans hl',he'.put (by rw[hsz]; exact hd) (.bool true),by rw[AaE]; exact hdf,by rw[AaW]; exact hsz,hx'⟩
theorem ApG{P:Program}{g:Std}{f:FuncId}{fn:Func}{body:Code}{N:Nat}{args:List AV}{sto:List Blk}{post:AV->List Blk->Prop}(hf:P.funcs[f]? = some fn)(hb:fn.body=some body)(hn:fn.ntmps=N)(hx:AaB P f=true)
  (ha:args.length<=N) (hw:∀ h ρ w,Le g w ρ->AWpR (mkM P fn h ρ sto w post []) [.code body] (args0 0 args) sto):CtH P g f args sto post:=by
 refine⟨hx,fun hh ρ w vs hg hm hv=>?_⟩;refine(callsIn_wide (n:=0)).1 (callsIn_of_wp_marks hf hb trivial ?_);have hlen:=hv.length;have hsim:SimR (mkM P fn hh ρ sto w post []) (args0 0 args) sto { tmps:=vs.toArray++Array.replicate (fn.ntmps-vs.toArray.size) undef,defers:=[] } w:=by
  refine⟨hh,ρ,hm,.refl ..,fun t=>?_,rfl,by simp; omega,fun p hp=>by simp[DfO]at hp⟩;rw[AeF];simp only[Nat.zero_le,if_true,Nat.sub_zero];have h1:=hv.getD t undef
  by_cases ht:t<vs.length
  .have:(vs.toArray++Array.replicate (fn.ntmps-vs.toArray.size) undef).getD t undef=vs.getD t undef:=by
    simp[Array.getElem?_append,ht,List.getD]
   simp only[this]; exact h1
  .have:args.getD t .any=.any:=by simp[List.getD,List.getElem?_eq_none (by omega:args.length<=t)]
   rw[this]; exact .any _
 exact hw hh ρ w hg _ w hsim
theorem aretM{P:Program}{fn:Func}{h0:Mem}{ρ0:Own}{sto0:List Blk}{w0:World}{post:AV->List Blk->Prop}{e:Env}{s:List Blk}{D:Nat}{x:Exit}(hx:x=.normal\/x=.ret)(hD:w0.heap.size<=D)(ts:List Tmp)(hr:fn.results=(ts.map ResultVar.tmp).toArray)
  (hp:post (resV e ts) s):AOut (mkM P fn h0 ρ0 sto0 w0 post [D]) x e s:=by
 intro a w hsim;obtain⟨h,ρ,hm,hl,he,hdf,hsz,hX⟩:=hsim;have hK:=(hX (D,.deferred (some [])) (by simp[DfO])).1;have hun:=(hX (D,.deferred (some [])) (by simp[DfO])).2;have hdf:a.defers=[{ target:=.collected D,args:=#[] }]:=hdf;have hm':=hm.putObj (x:=.deferred none) hK rfl hun;have hl':=hl.putNew (l:=D) (x:=.deferred none) hD;have hrv:RV h (Lf ρ s) false (resW a.tmps ts) (resV e ts):=by
  have hl:∀ l:List Tmp,RL h (Lf ρ s) false (l.map fun t=>a.tmps.getD t undef) (l.map (get e)):=by
   intro l
   induction l with
   | nil=>exact .nil
   | cons t l ih=>exact .cons (he t) ih
  match ts with
  | []=>exact .tup _ _ (hl [])
  | [t]=>exact he t
  | t::u::r=>exact .tup _ _ (hl (t::u::r))
 have:LeavesInM Fence.wide 0 P fn a.tmps (fun en w'=>∃ v r s h' ρ',en=.returned v/\post r s/\Mine h' ρ' s w'/\Later h0 ρ0 sto0 w0 h' ρ' s w'/\RV h' (Lf ρ' s) false v r) a.defers .returning w:=by
  rw[hdf];exact⟨by simp,.inl ⟨D,_,rfl,run_takeDeferred hK,_,AdJ hr _ _,_,_,s,h,ρ,rfl,hp,hm',hl',hrv⟩⟩
 rcases hx with rfl|rfl <;> exact this
