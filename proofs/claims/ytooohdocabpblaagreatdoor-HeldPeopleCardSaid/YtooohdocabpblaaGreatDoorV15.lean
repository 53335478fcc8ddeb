/- A cell of a block that holds nil, told as an empty slice (frozen, or of one's own). -/
import Derived.RangeFuncRecord
import Derived.RangeFuncIn
import Derived.Sort.LoopGhostIn
import Derived.OrdersIn
import Derived.TacticsIn
import Derived.RangeFuncLeaves
import Derived.RangeFuncOwn
import Derived.Test.YtooohdocabpblaaGreatDoorV14
set_option linter.all false
namespace Go.Av
open RowKit
variable [Tr]
def cellTo(n:Nat)(a a':AV):Prop:=a'=a\/(a=.raw (.slice none 0 0)/\(a'=.sl n 0 0 0\/∃ es,a'=.fz es []))
def toC(n:Nat):LA->LA->Prop
 | [],[]=>True
 | a::r,a'::r'=>cellTo n a a'/\toC n r r'
 | _,_=>False
theorem cellTo.refl{n:Nat}{a:AV}:cellTo n a a:=.inl rfl
theorem cellTo.sl{n:Nat}:cellTo n (.raw (.slice none 0 0)) (.sl n 0 0 0):=.inr ⟨rfl,.inl rfl⟩
theorem cellTo.fz{n es:Nat}:cellTo n (.raw (.slice none 0 0)) (.fz es []):=.inr ⟨rfl,.inr ⟨es,rfl⟩⟩
section
variable {h:Mem}{ρ:Own}{s:LB}{w:World}
theorem A2N{n es:Nat}(hn:s[n]? = some (.arr es [])):∀ {l l':LA}{vs:List Value},toC n l l'->RL h (Lf ρ s) false vs l->RL h (Lf ρ s) false vs l'
 | [],[],_,_,r=>r
 | a::l,a'::l',_,t,r=>by
  cases r with
  | cons r1 r2 =>
   refine .cons ?_ (A2N hn t.2 r2)
   rcases t.1 with rfl|⟨rfl,rfl|⟨e,rfl⟩⟩
   .exact r1
   .rw [AaU r1]
    exact .leaf ⟨rfl,by simp only[LfC,hn]; exact⟨by simp,fun _=>.inl ⟨trivial,trivial,none,rfl⟩⟩⟩
   .rw [AaU r1]
    exact .fznil e
 | [],_::_,_,t,_=>t.elim
 | _::_,[],_,t,_=>t.elim
theorem Mine.recell(m:Mine h ρ s w){id n es es':Nat}{l l':LA}(hb:s[id]? = some (.arr es l))(hlen:l'.length=l.length)(hcl:∀ x∈l',(cellsOf x).length=es)(hn:s[n]? = some (.arr es' []))(ht:toC n (flat l) (flat l')) :
  Mine h ρ (s.set id (.arr es l')) w/\Later h ρ s w h ρ (s.set id (.arr es l')) w:=by
 have hid:=(List.getElem?_eq_some_iff.1 hb).1;have hk:∀ v a,Lf ρ s v a->Lf ρ (s.set id (.arr es l')) v a:=fun v a x=>⟨x.1,AbL hb (fun _ _=>rfl) (Or.inl ⟨rfl,hlen,rfl⟩) x.2⟩
 refine⟨⟨m.mem,?_,fun i hi=>m.out i (by grind),m.inj,m.disj⟩,⟨fun _ _ _ x=>x,fun _ _ a b=>(b a).elim,hk,rfl,rfl,⟨rfl,Tr.same rfl⟩,lal _,fun _ _ _=>rfl,fun i _ t x=>.inl ⟨i,t,x⟩⟩⟩;intro i blk e
 by_cases hi:i=id
 .subst hi
  simp[hid]at e
  subst e
  rcases m.own i _ hb with⟨h1,h2⟩|⟨g,tot,cur,t,h1,h2,h3,h4,h5,h6,h7,h8,h9⟩
  .exact .inl ⟨by grind,h2⟩
  .refine .inr ⟨g,tot,cur,t,h1,h2,h3,by omega,h5,h6,hcl,h8,?_⟩
   rw[hlen];exact(A2N hn ht h9).mono (fun _ _ _ x=>x) hk
 .rw [lba (Ne.symm hi)]at e
  exact(m.own i blk e).mono (fun _ _ _ x=>x) hk rfl (fun _ _ _=>rfl)
end
variable {c:Cx}{e:Env}{s:LB}
theorem Shift.cells(id es':Nat){es:Nat}{l:LA}(l':LA)(hb:s.getD id .dead=.arr es l)(hlen:l'.length=l.length)(hcl:∀ x∈l',(cellsOf x).length=es)(ht:toC s.length (flat l) (flat l')) :
  Shift c e s e (List.set (s++[Blk.arr es' []]) id (Blk.arr es l')):=by
 rintro a w ⟨hh,ρ,hm,hlt,he,hdf,hsz,hX⟩;obtain⟨m1,l1⟩:=hm.pushNil es';have hid:=AbS hb;obtain⟨m2,l2⟩:=m1.recell (id:=id) (es':=es') (by grind) hlen hcl (by simp) ht;exact⟨hh,ρ,m2,hlt.trans (l1.trans l2),fun t=>((he t).mono l1.hle l1.keep).mono l2.hle l2.keep,hdf,hsz,c.hx.later hm (l1.trans l2) hX⟩
end Go.Av
namespace Go.Av
open RowKit
variable [Tr]
def lowC(n:Nat):AV->Bool
 | .sl m _ _ _=>decide (m<n)
 | .ptr m _ _ _=>decide (m<n)
 | .mp m=>decide (m<n)
 | v=>frozen v
def lowV(n:Nat):AV->Bool
 | .agg r=>r.all (lowC n)
 | .fn _ r=>r.all (lowC n)
 | v=>lowC n v
def lowB(n:Nat):Blk->Bool
 | .arr _ l=>(flat l).all (lowC n)
 | .mp es=>es.all fun x=>lowV n x.2
 | .it mid _ _=>decide (mid<n)
 | .dead=>true
def wkl(n:Nat)(e:Env):Env->Prop
 | []=>True
 | (t,v)::r=>(lowV n v=true/\get e t=v)/\wkl n e r
def lowρ(ρ:Own)(n:Nat):Own:=fun i=>if i<n then ρ i else none
theorem AlZ{n:Nat}{v:AV}(h:frozen v=true):lowC n v=true:=by
 cases v <;> first|exact h|grind[frozen]
theorem AbV{n:Nat}{l:LA}(h:l.all frozen=true):l.all (lowC n)=true:=by
 grind[AlZ]
section
variable {h:Mem}{ρ:Own}{s:LB}{w:World}{n:Nat}
theorem AgL(hn:n<=s.length){v:Value}{a:AV}(hl:lowC n a=true)(l:LfC ρ s v a):LfC (lowρ ρ n) (s.take n) v a:=by
 cases a with
 | sl i o x cp =>
  have hi:=of_decide_eq_true hl
  grind[LfC,lowρ]
 | ptr i m j o =>
  have hi:=of_decide_eq_true hl
  grind[LfC,lowρ]
 | mp i =>
  have hi:=of_decide_eq_true hl
  grind[LfC,lowρ]
 | _=>exact l.elim
theorem AqK(hn:n<=s.length){v:Value}{a:AV}(hl:lowC n a=true)(r:RV h (Lf ρ s) false v a):RV h (Lf (lowρ ρ n) (s.take n)) false v a:=by
 have frz:frozen a=true->RV h (Lf (lowρ ρ n) (s.take n)) false v a:=fun hf=>(AgC r hf).thaw (fun _ _ _ x=>x)
 cases a with
 | sl i o x cp=>exact .leaf ⟨(AbN r).1,AgL hn hl (AbN r).2⟩
 | ptr i m j o=>exact .leaf ⟨(AcK r).1,AgL hn hl (AcK r).2⟩
 | mp i=>exact .leaf ⟨(AgT r).1,AgL hn hl (AgT r).2⟩
 | _=>exact frz hl
theorem AeE(hn:n<=s.length):∀ {l:LA}{vs:List Value},l.all (lowC n)=true->RL h (Lf ρ s) false vs l->RL h (Lf (lowρ ρ n) (s.take n)) false vs l
 | [],_,_,r=>by cases r; exact .nil
 | a::l,_,hl,r=>by
  simp only[lay,lac]at hl
  cases r with|cons r1 r2=>exact .cons (AqK hn hl.1 r1) (AeE hn hl.2 r2)
theorem AqL(hn:n<=s.length){u:Value}{y:AV}(h1:lowV n y=true)(hx:RV h (Lf ρ s) false u y):RV h (Lf (lowρ ρ n) (s.take n)) false u y:=by
 cases y with
 | agg r =>
  obtain⟨vs,rfl,rl⟩:=inv_agg hx;exact .agg vs r (AeE hn h1 rl)
 | fn f r =>
  cases hx with
  | leaf p=>exact p.2.elim
  | fn _ vs _ rl=>exact .fn f vs r (AeE hn h1 rl)
 | _=>exact AqK hn h1 hx
theorem Mine.low(m:Mine h ρ s w)(hn:n<=s.length)(hb:(s.take n).all (lowB n)=true):Mine h (lowρ ρ n) (s.take n) w:=by
 have hρ:∀ i g t,lowρ ρ n i=some (g,t)->i<n/\ρ i=some (g,t):=by
  intro i g t e;unfold lowρ at e
  split at e
  .exact ⟨by assumption,e⟩
  .cases e
 refine⟨m.mem,?_,?_,?_,?_⟩
 .intro i b e
  have hi:i<n:=by
   have:=(List.getElem?_eq_some_iff.1 e).1
   simp at this; omega
  have hlow:lowB n b=true:=List.all_eq_true.1 hb b (laj e);rw[lbq,if_pos hi]at e;have o:=m.own i b e;have hρi:lowρ ρ n i=ρ i:=by simp[lowρ,hi]
  cases b with
  | arr es l =>
   rcases o with⟨h1,h2⟩|⟨g,tot,cur,t,h1,h2,h3,h4,h5,h6,h7,h8,h9⟩
   .exact .inl ⟨h1,hρi.trans h2⟩
   .exact .inr ⟨g,tot,cur,t,hρi.trans h1,h2,h3,h4,h5,h6,h7,h8,AeE hn hlow h9⟩
  | mp es =>
   obtain⟨g,en,cl,h1,h2,h3,h4,h5⟩:=o;refine⟨g,en,cl,hρi.trans h1,h2,h3,fun k x y hx hy=>?_,h5⟩;obtain⟨p,q⟩:=h4 k x y hx hy;simp only[lowB,law]at hlow;have:=hlow x (ApM (laj hx));exact⟨p.thaw (fun _ _ _ x=>x),AqL hn this q⟩
  | it mid k seen =>
   obtain⟨g,gm,h1,h2,h3,h4⟩:=o;exact⟨g,gm,hρi.trans h1,h2,⟨h3.1,AgL hn (a:=.mp mid) hlow h3.2⟩,h4⟩
  | dead=>exact hρi.trans o
 .intro i hi
  have:¬ i<n:=by simp at hi; omega
  simp[lowρ,this]
 .intro i j g t t' hi hj
  exact m.inj i j g t t' (hρ i g t hi).2 (hρ j g t' hj).2
 .intro i g t e
  exact m.disj i g t (hρ i g t e).2
end
variable {c:Cx}{e:Env}{s:LB}
theorem A4K{n:Nat}{e e':Env}(h:wkl n e e')(t:Nat):get e' t=.any\/(lowV n (get e' t)=true/\get e t=get e' t):=by
 induction e' with
 | nil=>exact .inl rfl
 | cons x r ih =>
  obtain⟨k,v⟩:=x;simp only[get]
  by_cases hk:k=t
  .subst hk; simp; exact .inr h.1
  .have:(k==t)=false:=by grind
   simp only[this,lap];exact ih h.2
theorem Shift.low(n:Nat){e':Env}(hc:c.sto.length<=n)(hn:n<=s.length)(hb:(s.take n).all (lowB n)=true)(hw:wkl n e e'):Shift c e s e' (s.take n):=by
 rintro a w ⟨hh,ρ,hm,hlt,he,hdf,hsz,hX⟩;have low:∀ v x,Lf c.ρ c.sto v x->Lf (lowρ ρ n) (s.take n) v x:=by
  intro v x lf;have l2:=hlt.keep v x lf;refine⟨lf.1,AgL hn ?_ l2.2⟩;have hx:=lf.2
  cases x <;> simp only[LfC]at hx
  .rename_i i o l cp
   cases hq:c.sto[i]? with
   | none=>grind
   | some y=>exact decide_eq_true (Nat.lt_of_lt_of_le (List.getElem?_eq_some_iff.1 hq).1 hc)
  .rename_i i n j o
   cases hq:c.sto[i]? with
   | none=>grind
   | some y=>exact decide_eq_true (Nat.lt_of_lt_of_le (List.getElem?_eq_some_iff.1 hq).1 hc)
  .rename_i i
   cases hq:c.sto[i]? with
   | none=>grind
   | some y=>exact decide_eq_true (Nat.lt_of_lt_of_le (List.getElem?_eq_some_iff.1 hq).1 hc)
 have hρ:∀ i g t,lowρ ρ n i=some (g,t)->ρ i=some (g,t):=by
  grind[lowρ]
 refine⟨hh,lowρ ρ n,hm.low hn hb,⟨hlt.hle,hlt.hnew,low,hlt.os,hlt.tape,hlt.output,hlt.size,hlt.block,fun i g t hi=>hlt.newown i g t (hρ i g t hi)⟩,fun t=>?_,hdf,hsz,c.hx.fewer (fun i g t hi=>⟨i,t,hρ i g t hi⟩) hX⟩;have hx:=he t
 rcases A4K hw t with hq|⟨h1,hq⟩
 .rw [hq]; exact .any _
 .rw [hq]at hx
  generalize Av.get e' t=y at h1 hx |-
  cases y with
  | agg r =>
   obtain⟨vs,hv,rl⟩:=inv_agg hx;rw[hv];exact .agg vs r (AeE hn h1 rl)
  | fn f r =>
   generalize a.tmps.getD t undef=u at hx |-
   cases hx with
   | leaf p=>exact p.2.elim
   | fn _ vs _ rl=>exact .fn f vs r (AeE hn h1 rl)
  | _=>exact AqK hn h1 hx
attribute [go_sem] wkl lowV lowC
end Go.Av
namespace Go.Av
open RowKit
variable [Tr]
variable {c:Cx}{e:Env}{s:LB}
end Go.Av
namespace Go.Av
open RowKit
variable [Tr]
structure Cr where
 c:Cx
 rd:Option Nat
 df:List Deferred
 out:Exit->Act->World->Prop
def Cr.F(r:Cr):Fence:={ fn:=fun _=>True,depth:=none,alive:=false,round:=r.rd }
def WQg(F:Fence)(P:Program)(N:Nat)(out:Exit->Act->World->Prop):List It->Exit->Act->World->Prop
 | [],e,a,w=>out e a w
 | x::k,e,a,w=>match e with
  | .normal=>match x with
   | .ops all rest=>wpListIn F 0 P all.toArray (WQg F P N out k) rest a w
   | .op all o rest=>dOk N o.dst=true->o.wpIn F 0 P a w (wpListIn F 0 P all.toArray (WQg F P N out k) rest) (WQg F P N out k)
   | .code y=>y.wpIn F 0 P (WQg F P N out k) a w
   | .blk _=>WQg F P N out k .normal a w
   | .inv J=>J a w
  | .exit id=>match x with
   | .blk i=>if id=i then WQg F P N out k .normal a w else WQg F P N out k (.exit id) a w
   | _=>WQg F P N out k (.exit id) a w
  | e=>WQg F P N out k e a w
@[reducible] def WQr (r:Cr):List It->Exit->Act->World->Prop:=WQg r.F r.c.P r.c.fn.ntmps r.out
def SimR(r:Cr)(e:Env)(s:LB)(a:Act)(w:World):Prop :=
 ∃ h ρ,Mine h ρ s w/\Later r.c.h r.c.ρ r.c.sto r.c.w h ρ s w/\EnvOk h ρ s e a/\a.defers=r.df/\a.tmps.size=r.c.fn.ntmps/\r.c.x h ρ w
theorem SimR.sim{r:Cr}{e:Env}{s:LB}{a:Act}{w:World}(h:SimR r e s a w):Sim r.c e s { a with defers:=[] } w:=by
 obtain⟨h,ρ,a1,a2,a3,a4,a5,a6⟩:=h;exact⟨h,ρ,a1,a2,a3,rfl,a5,a6⟩
theorem Sim.simR{r:Cr}{e:Env}{s:LB}{a:Act}{w:World}(hd:a.defers=r.df)(h:Sim r.c e s { a with defers:=[] } w):SimR r e s a w:=by
 obtain⟨h,ρ,a1,a2,a3,a4,a5,a6⟩:=h;exact⟨h,ρ,a1,a2,a3,hd,a5,a6⟩
theorem Shift.r{r:Cr}{e e':Env}{s s':LB}(x:Shift r.c e s e' s'){a:Act}{w:World}(h:SimR r e s a w):SimR r e' s' a w:=by
 have hd:a.defers=r.df:=by obtain⟨_,_,_,_,_,hd,_⟩:=h; omega
 exact Sim.simR hd (x _ _ h.sim)
def AWpR(r:Cr)(k:List It)(e:Env)(s:LB):Prop:=∀ a w,SimR r e s a w->WQr r k .normal a w
def AOut(r:Cr)(x:Exit)(e:Env)(s:LB):Prop:=∀ a w,SimR r e s a w->r.out x a w
def A7G(r:Cr)(f:FuncId)(args:LA)(d:Option Tmp)(all os:List Oper)(k:List It)(e:Env)(s:LB):Prop :=
 ∀ a w h ρ vs,Mine h ρ s w->Later r.c.h r.c.ρ r.c.sto r.c.w h ρ s w->EnvOk h ρ s e a->a.defers=r.df->a.tmps.size=r.c.fn.ntmps->r.c.x h ρ w->RL h (Lf ρ s) false vs args ->
  AaD r.c.P f=true/\Calls r.c.P f vs.toArray w fun en w'=>match en with
   | .returned v=>WQr r (.ops all os::k) .normal (a.put d v) w'
   | _=>False
def A7H(r:Cr)(o:Oper)(all os:List Oper)(k:List It)(e:Env)(s:LB):Res->Nx
 | .ok v=>.go (.ops all os::k) (put e o.dst v) s
 | .side p v=>.side p (.ops all os::k) (put e o.dst v) s
 | .sto p v s'=>.side p (.ops all os::k) (put e o.dst v) s'
 | .pick b x y=>.two b (.ops all os::k) (put e o.dst x) s (.ops all os::k) (put e o.dst y) s
 | .call f args=>.leaf (A7G r f args o.dst all os k e s)
 | .anyb p=>.leaf (p/\∀ b,AWpR r (.ops all os::k) (put e o.dst (.bool b)) s)
 | .stuck=>.leaf (AWpR r (.op all o os::k) e s)
def ArZ(r:Cr)(k:List It)(e:Env)(s:LB):Nx:=.leaf (AWpR r k e s)
def A2O(r:Cr)(id:Nat)(e:Env)(s:LB):Option (List It)->Nx
 | some k=>.go k e s
 | none=>.leaf (AOut r (.exit id) e s)
def A2P(wr frz:Bool)(N:Nat)(r:Cr)(k:List It)(e:Env)(s:LB):Nx :=
 match k with
 | .ops _ []::k=>.go k e s
 | .ops all (o::os)::k=>bif dOk N o.dst then opN o all os k e s o.guard else .leaf False
 | .op all o os::k=>A7H r o all os k e s (xop wr frz r.c.P e s o.op)
 | .code .skip::k=>.go k e s
 | .code (.region id ops draw)::k=>bif draw then ArZ r (.code (.region id ops true)::k) e s else .go (.ops ops.toList ops.toList::k) e s
 | .code (.seq a b)::k=>.go (.code a::.code b::k) e s
 | .code (.cond x a b)::k=>AtR a b k e s (ev e x)
 | .code (.block id x)::k=>.go (.code x::.blk id::k) e s
 | .code (.exit id)::k=>A2O r id e s (AdS id k)
 | .code .ret::_=>.leaf (AOut r .ret e s)
 | .code x::k=>ArZ r (.code x::k) e s
 | .blk _::k=>.go k e s
 | .inv J::k=>ArZ r (.inv J::k) e s
 | []=>.leaf (AOut r .normal e s)
mutual
def runR(wr frz:Bool)(N:Nat)(c:Cr):Nat->List It->Env->LB->Prop
 | 0,k,e,s=>AWpR c k e s
 | n+1,k,e,s=>A7I wr frz N c n (A2P wr frz N c k e s)
def A7I(wr frz:Bool)(N:Nat)(c:Cr):Nat->Nx->Prop
 | n,.go k e s=>runR wr frz N c n k e s
 | n,.two b k e s k' e' s'=>brR wr frz N c n b k e s k' e' s'
 | n,.side p k e s=>p/\runR wr frz N c n k e s
 | _,.leaf p=>p
def brR(wr frz:Bool)(N:Nat)(c:Cr):Nat->Bool->List It->Env->LB->List It->Env->LB->Prop
 | 0,b,k,e,s,k',e',s'=>(b=true->AWpR c k e s)/\(b=false->AWpR c k' e' s')
 | n+1,b,k,e,s,k',e',s'=>(b=true->runR wr frz N c n k e s)/\(b=false->runR wr frz N c n k' e' s')
end
section
variable {r:Cr}{k:List It}{e:Env}{s:LB}
theorem AWpR.shift{e':Env}{s':LB}(x:Shift r.c e s e' s')(h:AWpR r k e' s'):AWpR r k e s:=fun a w hs=>h a w (x.r hs)
theorem AOut.shift{y:Exit}{e':Env}{s':LB}(x:Shift r.c e s e' s')(h:AOut r y e' s'):AOut r y e s:=fun a w hs=>h a w (x.r hs)
end
section
variable {c:Cx}{e:Env}{s:LB}
mutual
def dxk(c:Cx)(all:List Oper)(K:Env->LB->Prop):Nat->List Oper->LA->Env->LB->Prop
 | _,[],_,e,s=>K e s
 | 0,_::_,_,_,_=>False
 | n+1,o::r,cs,e,s=>dxkc c all K n (dgrd c all s o r cs e o.guard)
def dxkc(c:Cx)(all:List Oper)(K:Env->LB->Prop):Nat->Dn->Prop
 | n,.go r cs e s=>dxk c all K n r cs e s
 | n,.two b r cs e r' cs' e' s=>dbrk c all K n b r cs e r' cs' e' s
 | n,.side p r cs e s=>p/\dxk c all K n r cs e s
 | _,.fail=>False
def dbrk(c:Cx)(all:List Oper)(K:Env->LB->Prop):Nat->Bool->List Oper->LA->Env->List Oper->LA->Env->LB->Prop
 | 0,_,_,_,_,_,_,_,_=>False
 | n+1,b,r,cs,e,r',cs',e',s=>(b=true->dxk c all K n r cs e s)/\(b=false->dxk c all K n r' cs' e' s)
end
end
section
variable {r:Cr}{k:List It}{e:Env}{s:LB}
theorem SimR.eqv{e':Env}{a:Act}{w:World}(h:Eqv e e')(hs:SimR r e s a w):SimR r e' s a w:=by
 obtain⟨hh,ρ,hm,hl,he,hdf,hsz,hX⟩:=hs;exact⟨hh,ρ,hm,hl,fun t=>by rw[<- h t]; exact he t,hdf,hsz,hX⟩
theorem AWpR.eqv{e':Env}(h:Eqv e e')(x:AWpR r k e s):AWpR r k e' s:=fun a w hs=>x a w (hs.eqv fun t=>(h t).symm)
theorem AWpR.K:∀ e e' s,Eqv e e'->AWpR r k e s->AWpR r k e' s:=fun _ _ _ h x=>x.eqv h
end
attribute [go_sem] runR A7I brR A2P A7H ArZ A2O dxk dxkc dbrk
end Go.Av
namespace Go.Av
open RowKit
variable [Tr]
section
variable {h h' h0:Mem}{ρ ρ' ρ0:Own}{s s' s0:LB}{w w' w0:World}
end
theorem Lg{c:Cx}{e e':Env}{s s':LB}(h:wk e e')(hs:s=s'):Shift c e s e' s':=hs▸Ld h
def XB(l:List (Nat×Obj)):Mem->Own->World->Prop:=fun _ ρ w=>∀ p∈l,w.heap[p.1]? = some p.2/\∀ i t,ρ i≠some (p.1,t)
theorem stbB(l:List (Nat×Obj)):Stb (XB l) where
 later:=fun{h ρ sto w h' ρ' sto' w'} _ L x p hp=>by
  obtain⟨h1,h2⟩:=x p hp;have hlt:p.1<w.heap.size:=(Array.getElem?_eq_some_iff.1 h1).1;refine⟨(L.block p.1 hlt h2).trans h1,fun i t e=>?_⟩
  rcases L.newown i p.1 t e with⟨j,t',hj⟩|hs<;>grind
 fewer:=fun hf x p hp=>by
  obtain⟨h1,h2⟩:=x p hp
  grind
def DfO(Ds:List Nat):List (Nat×Obj):=Ds.map fun D=>(D,.deferred (some []))
def dfs(Ds:List Nat):List Deferred:=Ds.map fun D=>{ target:=.collected D,args:=#[] }
def outM(P:Program)(fn:Func)(h:Mem)(ρ:Own)(sto:LB)(w:World)(post:AV->LB->Prop):Exit->Act->World->Prop :=
 bodyPostM Fence.wide 0 P fn fun en w'=>∃ v r s h' ρ',en=.returned v/\post r s/\Mine h' ρ' s w'/\Later h ρ sto w h' ρ' s w'/\RV h' (Lf ρ' s) false v r
@[reducible] def mkM (P:Program) (fn:Func) (h:Mem) (ρ:Own) (sto:LB) (w:World) (post:AV->LB->Prop) (Ds:List Nat):Cr :=
 ⟨⟨P,fn,h,ρ,sto,w,post,XB (DfO Ds),stbB _⟩,none,dfs Ds,outM P fn h ρ sto w post⟩
@[reducible] def mkL (P:Program) (fn:Func) (h:Mem) (ρ:Own) (sto:LB) (w:World) (l:List (Nat×Obj)) (id:Nat):Cr :=
 ⟨⟨P,fn,h,ρ,sto,w,fun _ _=>True,XB l,stbB l⟩,some id,[],fun _ _ _=>False⟩
end Go.Av
set_option maxRecDepth 100000
set_option maxHeartbeats 2000000
namespace Go.Proofs.YtooohdocabpblaaGreatDoor
open Av RowKit Proofs.Tryz
theorem AbW(id e:Nat)(l:LA)(L:List Int)(k:Int):frz id e l (str L k)=str L k:=rfl
theorem AbK(id e:Nat)(l:LA)(L:List Int)(k:Int):frzC id e l (str L k)=str L k:=rfl
theorem AaX(L:List Int)(k a b:Int)(h1:0<=a)(h2:a<=b)(hb:b<=1000000)(h3:0<=k)(h4:k<=1000000) :
  Mc prog 5 2 (str L k) [.int .i64 a,.int .i64 b] (fun r s=>(∃ v,r=.int .i64 v/\a<=v/\v<=b)/\s=str L (k+1)):=by
 have d:decide (b<a)=false:=by simp; omega
 refine zcIN func5 rfl fun h ρ w=>?_
 simp only[go_sem,d];refine⟨by omega,by omega,by omega,by omega,?_⟩;refine zm 0 (AdX L k _ (by omega) (by omega) h3 h4) ?_;rintro _ _ ⟨⟨v,rfl,hv0,hv1⟩,rfl⟩;apply zgN;simp only[go_sem];refine⟨by omega,by omega,?_⟩;exact aret [6] rfl ⟨_,_,rfl,⟨_,rfl,by omega,by omega⟩,rfl,rfl,rfl⟩
theorem AwR(L:List Int)(k:Int)(key:LU)(h3:0<=k)(h4:k<=900000) :
  Mc prog 29 2 (str L k) [.str key] (fun r s=>∃ (x:Pers) (k':Int),r=persA x/\x.key=key/\PersOk x/\s=str L k'/\k<=k'/\k'<=k+100):=by
 refine zcIF func29 rfl fun h ρ w=>?_
 simp only[go_sem];refine zm 0 (AaM L k [-9000,-3000,-2000,-1000,5] (by decide) (by decide) (by omega) (by omega)) ?_;rintro _ _ ⟨⟨born,hborn,rfl⟩,rfl⟩;apply zgF;simp only[go_sem];refine zm 0 (AaX L (k+1) 1 127 (by omega) (by omega) (by omega) (by omega) (by omega)) ?_;rintro _ _ ⟨⟨wk0,rfl,hw1,hw2⟩,rfl⟩;apply zgF;simp only[go_sem];refine zm 0 (AaM L (k+1+1) [127,127,127,31,63,96,wk0] (by simp) (by simp) (by omega) (by omega)) ?_;rintro _ _ ⟨⟨week,hweek,rfl⟩,rfl⟩;apply zgF;simp only[go_sem];refine zm 0 (AaM L (k+1+1+1) [2000,60,30] (by decide) (by decide) (by omega) (by omega)) ?_;rintro _ _ ⟨⟨to',hto,rfl⟩,rfl⟩;apply zgF;simp only[go_sem];refine zm 0 (AaM L (k+1+1+1+1) [600,720,900,1440,240] (by decide) (by decide) (by omega) (by omega)) ?_;rintro _ _ ⟨⟨long,hlong,rfl⟩,rfl⟩;apply zgF;simp only[go_sem];refine zm 0 (AaM L (k+1+1+1+1+1) [0,600,660,720] (by decide) (by decide) (by omega) (by omega)) ?_;rintro _ _ ⟨⟨rest,hrest,rfl⟩,rfl⟩;apply zgF;simp only[go_sem];refine zm 0 (AaM L (k+1+1+1+1+1+1) [2,5,6,14] (by decide) (by decide) (by omega) (by omega)) ?_;rintro _ _ ⟨⟨row,hrow,rfl⟩,rfl⟩;apply zgF;simp only[go_sem];refine zm 0 (AdI L (k+1+1+1+1+1+1+1) 4 (by omega) (by omega) (by omega) (by omega)) ?_;rintro _ _ ⟨⟨b,rfl⟩,rfl⟩;have p1:-40000<=born/\born<=2000:=(show ∀ x∈[(-9000:Int),-3000,-2000,-1000,5],-40000<=x/\x<=2000 by decide) born hborn;have p2:1<=week/\week<=127:=by
  simp only[lbf,List.not_mem_nil,or_false]at hweek;omega
 have p3:30<=to'/\to'<=2000:=(show ∀ x∈[(2000:Int),60,30],30<=x/\x<=2000 by decide) to' hto;have p4:1<=long/\long<=1440:=(show ∀ x∈[(600:Int),720,900,1440,240],1<=x/\x<=1440 by decide) long hlong;have p5:0<=rest/\rest<=2880:=(show ∀ x∈[(0:Int),600,660,720],0<=x/\x<=2880 by decide) rest hrest;have p6:1<=row/\row<=14:=(show ∀ x∈[(2:Int),5,6,14],1<=x/\x<=14 by decide) row hrow;refine goF rfl 1 ?_;simp only[go_sem];refine amid (κ:=Int×Int) (fun x=>[(5,.ptr 2 1 0 0),(4,.ptr 1 1 0 0),(0,.ptr 0 1 0 0)])
  (fun x=>[.arr 2 [str L x.1],.arr 9 [.agg [.str [],kI 0,kI 0,kI 0,kI 0,.raw (.slice none 0 0),kI 0,kI 0,kI 0]],.arr 9 [.agg [.str key,kI born,kI week,kI x.2,kI to',.raw (.slice none 0 0),kI long,kI rest,kI row]]])
  (fun x=>k<=x.1/\x.1<=k+10/\0<=x.2/\x.2<=4) ?_ ?_
 .rintro ⟨k1,fr⟩ ⟨f1,f2,f3,f4⟩
  simp only at f1 f2 f3 f4 |-;apply zgF;simp only[go_sem];refine zm 0 (AaM L k1 [0,0,0,1,2] (by decide) (by decide) (by omega) (by omega)) ?_;rintro _ _ ⟨⟨n,hn,rfl⟩,rfl⟩;have pn:0<=n/\n<=2:=(show ∀ x∈[(0:Int),0,0,1,2],0<=x/\x<=2 by decide) n hn;apply zgF;simp only[go_sem];refine AbP (ι:=Int×Int×Int×List (Int×Int)) (fun x=>(n-x.1).toNat)
   (fun x=>[(39,kI x.1),(38,kI n),(6,kI x.2.1),(5,.ptr 2 1 0 0),(4,.ptr 1 1 0 0),(0,.ptr 0 1 0 0)])
   (fun x=>[.arr 2 [str L x.2.2.1],.arr 9 [.agg [.str [],kI 0,kI 0,kI 0,kI 0,.raw (.slice none 0 0),kI 0,kI 0,kI 0]],.arr 9 [.agg [.str key,kI born,kI week,kI fr,kI to',.sl 3 0 x.2.2.2.length x.2.2.2.length,kI long,kI rest,kI row]],.arr 2 (x.2.2.2.map spanA)])
   (fun x=>0<=x.1/\x.1<=n/\0<=x.2.1/\x.2.1<=10*x.1/\k1+1<=x.2.2.1/\x.2.2.1<=k1+1+2*x.1/\(x.2.2.2.length:Int)<=x.1/\(∀ a∈x.2.2.2,0<=a.1/\a.1<=a.2/\a.2<=x.2.1)/\x.2.2.2.Pairwise fun a b=>a.2<b.1)
   (0,0,k1+1,[]) ⟨Int.le_refl _,by simp only; omega,Int.le_refl _,by simp,by simp,by simp,by simp,by simp,.nil⟩ ?_ ?_
  .refine Shift.trans (Shift.cells 2 2 [.agg [.str key,kI born,kI week,kI fr,kI to',.sl 3 0 0 0,kI long,kI rest,kI row]] rfl rfl (by simp[cellsOf]) ⟨.refl,.refl,.refl,.refl,.refl,.sl,.refl,.refl,.refl,trivial⟩) (Ld ?_)
   simp only[go_sem]
  .rintro ⟨i,at',k2,l⟩ ⟨g1,g2,g3,g4,g5,g6,g7,g8,g9⟩ J hJ
   simp only at g1 g2 g3 g4 g5 g6 g7 g8 g9 hJ |-
   by_cases gi:i<n
   .have di:decide (i<n)=true:=by simp; omega
    apply zgF;simp only[go_sem,di];refine zm 0 (AaX L k2 1 6 (by omega) (by omega) (by omega) (by omega) (by omega)) ?_;rintro _ _ ⟨⟨v,rfl,v1,v2⟩,rfl⟩;apply zgF;simp only[go_sem];refine⟨by omega,by omega,?_⟩;refine zm 0 (AdX L (k2+1) 3 (by omega) (by omega) (by omega) (by omega)) ?_;rintro _ _ ⟨⟨u,rfl,u1,u2⟩,rfl⟩;apply zgF;simp only[go_sem];have e3:l.map spanA++[.agg [kI (at'+v),kI (at'+v+u)]]=(l++[(at'+v,at'+v+u)]).map spanA:=by simp[spanA]
    have e4:l.length+1=(l++[(at'+v,at'+v+u)]).length:=by simp
    repeat refine aqa ?_
    rw[e3,e4];refine ainv (hJ (i+1,at'+v+u,k2+1+1,l++[(at'+v,at'+v+u)]) ⟨by simp only; omega,by simp only; omega,by simp only; omega,by simp only; omega,by simp only; omega,by simp only; omega,by simp; omega,fun a ha=>?_,?_⟩ (by simp only; omega)) (Lg ?_ rfl)
    .simp only
     rcases List.mem_append.1 ha with ha|ha
     .have:=g8 a ha; omega
     .rw [List.mem_singleton.1 ha]; simp only; omega
    .refine List.pairwise_append.2 ⟨g9,by simp,fun a ha b hb=>?_⟩
     rw[List.mem_singleton.1 hb];have:=g8 a ha;simp only; omega
    .simp only [go_sem]
   .have di:decide (i<n)=false:=by simp; omega
    refine AWp.shift (Shift.frz 3 rfl (AhM l)) ?_;simp only[go_sem,↓AbK,↓AbW,frzE,frz,frz1,frzC,frzB,laa,lal];have:List.take l.length (List.map spanA l)=List.map spanA l:=laf (by simp);simp only[this];apply zgF;simp only[go_sem,di];exact AlS [.cell 4 79] rfl [_] ⟨by simp only[go_sem,sideIs],trivial⟩ ⟨_,_,rfl,⟨⟨key,born,week,fr,to',l,long,rest,row⟩,k2,rfl,rfl,⟨p1,p2,by simp only; omega,p4,p5,p6,by simp only; omega,fun a ha=>by have:=g8 a ha; omega,g9⟩,rfl,by omega,by omega⟩,rfl,rfl⟩
 .intro Q hQ
  cases b with
  | true =>
   apply zgF;simp only[go_sem];refine zm 0 (AdX L (k+1+1+1+1+1+1+1+1) 5 (by omega) (by omega) (by omega) (by omega)) ?_;rintro _ _ ⟨⟨v,rfl,hv0,hv1⟩,rfl⟩;apply zgF;simp only[go_sem];refine ainv (hQ (_,v) ⟨?_,?_,hv0,by simp only; omega⟩) (Lg ?_ rfl)
   .simp only; omega
   .simp only; omega
   .simp only [go_sem]
  | false =>
   apply zgF;simp only[go_sem];refine ainv (hQ (_,0) ⟨?_,?_,by simp,by simp⟩) (Lg ?_ rfl)
   .simp only; omega
   .simp only; omega
   .simp only [go_sem]
theorem A4L(L:List Int)(k:Int)(key:LU)(h3:0<=k)(h4:k<=900000) :
  Mc prog 30 2 (str L k) [.str key] (fun r s=>∃ (x:Site) (k':Int),r=siteA x/\x.key=key/\SiteOk x/\s=str L k'/\k<=k'/\k'<=k+100):=by
 refine zcIF func30 rfl fun h ρ w=>?_
 simp only[go_sem];refine zm 0 (AaM L k [0,0,20,45] (by decide) (by decide) (by omega) (by omega)) ?_;rintro _ _ ⟨⟨glow,hglow,rfl⟩,rfl⟩;have p1:0<=glow/\glow<=45:=(show ∀ x∈[(0:Int),0,20,45],0<=x/\x<=45 by decide) glow hglow;apply zgF;simp only[go_sem];refine zm 0 (AaM L (k+1) [0,0,3] (by decide) (by decide) (by omega) (by omega)) ?_;rintro _ _ ⟨⟨day,hday,rfl⟩,rfl⟩;have p2:0<=day/\day<=3:=(show ∀ x∈[(0:Int),0,3],0<=x/\x<=3 by decide) day hday;apply zgF;simp only[go_sem];refine zm 0 (AaX L (k+1+1) 1 3 (by omega) (by omega) (by omega) (by omega) (by omega)) ?_;rintro _ _ ⟨⟨n,rfl,n1,n2⟩,rfl⟩;apply zgF;simp only[go_sem];refine AbP (ι:=Int×Int×Int×List Sun) (fun x=>(n-x.1).toNat)
  (fun x=>[(17,kI x.1),(16,kI n),(6,kI x.2.1),(5,.ptr 2 1 0 0),(4,.ptr 1 1 0 0),(0,.ptr 0 1 0 0)])
  (fun x=>[.arr 2 [str L x.2.2.1],.arr 3 [.agg [.str [],kI 0,.raw (.slice none 0 0)]],.arr 3 [.agg [.str key,kI glow,.sl 3 0 x.2.2.2.length x.2.2.2.length]],.arr 3 (x.2.2.2.map sunA)])
  (fun x=>0<=x.1/\x.1<=n/\0<=x.2.1/\x.2.1<=3+40*x.1/\k+3<=x.2.2.1/\x.2.2.1<=k+3+3*x.1/\(x.2.2.2.length:Int)=x.1/\(∀ a∈x.2.2.2,(0<=a.day/\a.day<x.2.1)/\glow<=a.rise/\a.rise<a.set/\a.set<=1440-glow)/\x.2.2.2.Pairwise fun a b=>a.day<b.day)
  (0,day,k+1+1+1,[]) ⟨Int.le_refl _,by simp only; omega,by simp only; omega,by simp only; omega,by simp only; omega,by simp only; omega,by simp,by simp,.nil⟩ ?_ ?_
 .refine Shift.trans (Shift.cells 2 3 [.agg [.str key,kI glow,.sl 3 0 0 0]] rfl rfl (by simp[cellsOf]) ⟨.refl,.refl,.sl,trivial⟩) (Ld ?_)
  simp only[go_sem]
 .rintro ⟨i,at',k2,l⟩ ⟨g1,g2,g3,g4,g5,g6,g7,g8,g9⟩ J hJ
  simp only at g1 g2 g3 g4 g5 g6 g7 g8 g9 hJ |-
  by_cases gi:i<n
  .have di:decide (i<n)=true:=by simp; omega
   apply zgF;simp only[go_sem,di];refine AkM [4,6] 0 [] AaL (by decide) rfl rfl 100 ?_;simp only[go_sem];refine AgK (AaX L k2 300 480 (by omega) (by omega) (by omega) (by omega) (by omega)) rfl rfl rfl ⟨kI 300,_,⟨300,rfl,by omega,by omega⟩,rfl⟩ ?_;rintro _ _ ⟨⟨r,rfl,r1,r2⟩,rfl⟩;simp only[go_sem];refine AgK (AaX L (k2+1) 960 1200 (by omega) (by omega) (by omega) (by omega) (by omega)) rfl rfl rfl ⟨kI 960,_,⟨960,rfl,by omega,by omega⟩,rfl⟩ ?_;rintro _ _ ⟨⟨t,rfl,t1,t2⟩,rfl⟩;simp only[go_sem,laa];have e3:l.map sunA++[.agg [kI at',kI r,kI t]]=(l++[(⟨at',r,t⟩:Sun)]).map sunA:=by simp[sunA]
   have e4:l.length+1=(l++[(⟨at',r,t⟩:Sun)]).length:=by simp
   repeat refine aqa ?_
   apply zgF;simp only[go_sem];refine zm 0 (AaX L (k2+1+1) 1 40 (by omega) (by omega) (by omega) (by omega) (by omega)) ?_;rintro _ _ ⟨⟨v,rfl,v1,v2⟩,rfl⟩;apply zgF;simp only[go_sem]
   repeat refine aqa ?_
   rw[e3,e4];refine ainv (hJ (i+1,at'+v,k2+1+1+1,l++[⟨at',r,t⟩]) ⟨by simp only; omega,by simp only; omega,by simp only; omega,by simp only; omega,by simp only; omega,by simp only; omega,by simp; omega,fun a ha=>?_,?_⟩ (by simp only; omega)) (Lg ?_ rfl)
   .simp only
    rcases List.mem_append.1 ha with ha|ha
    .have:=g8 a ha; omega
    .rw [List.mem_singleton.1 ha]; simp only; omega
   .refine List.pairwise_append.2 ⟨g9,by simp,fun a ha b hb=>?_⟩
    rw[List.mem_singleton.1 hb];have:=g8 a ha;simp only; omega
   .simp only [go_sem]
  .have di:decide (i<n)=false:=by simp; omega
   refine AWp.shift (Shift.frz 3 rfl (A4I l)) ?_;simp only[go_sem,↓AbK,↓AbW,frzE,frz,frz1,frzC,frzB,laa,lal];have:List.take l.length (List.map sunA l)=List.map sunA l:=laf (by simp);simp only[this];apply zgF;simp only[go_sem,di];exact AlS [.cell 4 73] rfl [_] ⟨by simp only[go_sem,sideIs],trivial⟩ ⟨_,_,rfl,⟨⟨key,glow,l⟩,k2,rfl,rfl,⟨by simp only; omega,by simp only; omega,fun a ha=>by have:=g8 a ha; simp only; omega,g9⟩,rfl,by omega,by omega⟩,rfl,rfl⟩
end Go.Proofs.YtooohdocabpblaaGreatDoor
namespace Go.Av
open RowKit
variable [Tr]
variable {c:Cx}{s:LB}
