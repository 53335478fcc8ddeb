/- Loops round by round. -/
import Derived.Test.YtooohdocabpblaaGreatDoorV9
import Derived.Lib.Builder
import Derived.Lib.AppendStr
import Derived.Lib.UnsafeStr
import Derived.Below
set_option linter.all false
namespace Go.Av
open RowKit
variable [Tr]
def Hd(P:Program)(B:Code)(Q:Exit->Act->World->Prop)(a:Act)(w:World):Prop :=
 ∀ (b:Frame) (k:List Item) (cs:List Frame),∃ e a' w',Q e a' w'/\Arrives P (lone (b.at a (.code B::.inLoop B::k)) cs w) b k cs e a' w'
theorem Hd.loop{P:Program}{B:Code}{Q:Exit->Act->World->Prop}{a:Act}{w:World}(h:Hd P B Q a w):(Code.loop B).wp P Q a w:=by
 intro b k cs;obtain⟨e,a',w',hq,harr⟩:=h b k cs;exact⟨e,a',w',hq,.of_steps (.one step_loop) harr⟩
theorem Hd.round{P:Program}{B:Code}{Q:Exit->Act->World->Prop}{a:Act}{w:World}(h:B.wp P (Exit.then (Hd P B Q) Q) a w):Hd P B Q a w:=by
 intro b k cs;obtain⟨e,a₁,w₁,hq,harr⟩:=h b (.inLoop B::k) cs
 cases e with
 | normal =>
  obtain⟨e₂,a₂,w₂,hq₂,harr₂⟩:=hq b k cs;exact⟨e₂,a₂,w₂,hq₂,.of_steps (Steps.trans harr (.one step_inLoop)) harr₂⟩
 | exit id=>exact⟨_,a₁,w₁,hq,.pass rfl (fun _ _=>.inl (by simp)) harr⟩
 | goto l=>exact⟨_,a₁,w₁,hq,.pass rfl (fun _ _=>.inl (by simp)) harr⟩
 | ret=>exact⟨_,a₁,w₁,hq,.pass rfl (fun _ _=>.inl (by simp)) harr⟩
 | panic ch=>exact⟨_,a₁,w₁,hq,.pass rfl (fun _ _=>.inl (by simp)) harr⟩
 | outgrown=>exact⟨_,a₁,w₁,hq,.pass rfl (fun _ _=>.inl (by simp)) harr⟩
section
variable {c:Cx}{k:List It}{e:Env}{s:LB}{B:Code}
def AHd(c:Cx)(B:Code)(k:List It)(e:Env)(s:LB):Prop:=∀ a w,Sim c e s a w->Hd c.P B (WQ c k) a w
theorem A2G(h:AHd c B k e s):AWp c (.code (.loop B)::k) e s:=fun a w hs=>(h a w hs).loop
theorem AwB(h:AWp c (.code B::.inv (Hd c.P B (WQ c k))::k) e s):AHd c B k e s:=fun a w hs=>by
 refine Hd.round ?_;refine Code.wp_mono ?_ (h a w hs);intro en a' w' hq
 cases en <;> exact hq
theorem A7B(h:AHd c B k e s):AWp c (.inv (Hd c.P B (WQ c k))::k) e s:=fun a w hs=>h a w hs
theorem AHd.shift{e':Env}{s':LB}(x:Shift c e s e' s')(h:AHd c B k e' s'):AHd c B k e s:=fun a w hs=>h a w (x a w hs)
end
end Go.Av
namespace Go.Av
open RowKit
variable [Tr]
section
variable {h:Mem}{ρ:Own}{sto:LB}{w:World}{P:Program}
variable {c:Cx}{e:Env}{s:LB}
end
end Go.Av
namespace Go.Av
open RowKit
variable [Tr]
abbrev strs(l:List LU):LA:=l.map .str
abbrev sval(s:LU):Value:=.string ⟨s.toArray⟩
theorem AnY:∀ l:List LU,flat (strs l)=strs l
 | []=>rfl
 | x::r=>by simp only[lak,flat,cellsOf,lah,lax]; rw[AnY r]
section
variable {h:Mem}{ρ:Own}{sto:LB}{w:World}{P:Program}
end
end Go.Av
namespace Go.Av
open RowKit
variable [Tr]
section
variable {h:Mem}{ρ ρ':Own}{sto sto':LB}{w:World}{P:Program}
variable {c:Cx}{e:Env}{s:LB}
end
end Go.Av
namespace Go.Av
open RowKit
variable [Tr]
abbrev Std:=Nat->Option Obj
def AnZ(g:Std)(w:World):Prop:=∀ k o,g k=some o->w.heap[k]? = some o
def Le(g:Std)(w:World)(ρ:Own):Prop:=∀ k o,g k=some o->w.heap[k]? = some o/\∀ i t,ρ i≠some (k,t)
theorem Le.later{g:Std}{h h':Mem}{ρ ρ':Own}{sto sto':LB}{w w':World}(a:Le g w ρ)(x:Later h ρ sto w h' ρ' sto' w'):Le g w' ρ':=fun k o e=>by
 obtain⟨h1,h2⟩:=a k o e;have hk:=(Array.getElem?_eq_some_iff.1 h1).1;refine⟨(x.block k hk h2).trans h1,fun i t hi=>?_⟩
 rcases x.newown i k t hi with⟨j,t',hj⟩|hs<;>grind
def CtH(P:Program)(g:Std)(f:FuncId)(args:LA)(sto:LB)(post:AV->LB->Prop):Prop :=
 AaD P f=true/\∀ h ρ w vs,Le g w ρ->Mine h ρ sto w->RL h (Lf ρ sto) false vs args->Calls P f vs.toArray w fun en w' =>
  ∃ v r s h' ρ',en=.returned v/\post r s/\Mine h' ρ' s w'/\Later h ρ sto w h' ρ' s w'/\RV h' (Lf ρ' s) false v r
def PcH(P:Program)(g:Std)(f:FuncId)(args:LA)(post:AV->Prop):Prop :=
 AaD P f=true/\∀ h w vs,AnZ g w->(∀ b o v,h b o=some v->w.cell? ⟨b,o,none⟩=some v/\v.oneCell'=true)->RL h Lf0 true vs args->Calls P f vs.toArray w fun en w' =>
  ∃ v r h',en=.returned v/\post r/\(∀ b o v,h' b o=some v->w'.cell? ⟨b,o,none⟩=some v/\v.oneCell'=true)/\(∀ b o v,h b o=some v->h' b o=some v) /\
   (∀ b o,h b o=none->h' b o≠none->w.heap.size<=b)/\Same w w'/\RV h' Lf0 true v r
section
variable {P:Program}{g:Std}
theorem Ct.toH{f:FuncId}{args:LA}{sto:LB}{post:AV->LB->Prop}(hc:Ct P f args sto post):CtH P g f args sto post:=⟨hc.1,fun h ρ w vs _ m r=>hc.2 h ρ w vs m r⟩
theorem Pc.toH{f:FuncId}{args:LA}{post:AV->Prop}(hc:Pc P f args post):PcH P g f args post:=⟨hc.1,fun h w vs _ m r=>hc.2 h w vs m r⟩
theorem AtS{f:FuncId}{fn:Func}{body:Code}{N:Nat}{args:LA}{sto:LB}{post:AV->LB->Prop}(hf:P.funcs[f]? = some fn)(hb:fn.body=some body)(hn:fn.ntmps=N)(hx:AaD P f=true)
  (ha:args.length<=N) (h:∀ h ρ w,Le g w ρ->Mine h ρ sto w->AWp ⟨P,fn,h,ρ,sto,w,post,X0,stb0⟩ [.code body] (args0 0 args) sto):CtH P g f args sto post:=by
 refine⟨hx,fun hh ρ w vs hg hm hv=>?_⟩;refine calls_of_wp hf hb ?_;have hlen:=hv.length;have hsim:Sim ⟨P,fn,hh,ρ,sto,w,post,X0,stb0⟩ (args0 0 args) sto { tmps:=vs.toArray++Array.replicate (fn.ntmps-vs.toArray.size) undef,defers:=[] } w:=by
  refine⟨hh,ρ,hm,.refl ..,fun t=>?_,rfl,by grind,trivial⟩;rw[AiS];simp only[Nat.zero_le,if_true,Nat.sub_zero];have h1:=hv.getD t undef
  by_cases ht:t<vs.length
  .have:(vs.toArray++Array.replicate (fn.ntmps-vs.toArray.size) undef).getD t undef=vs.getD t undef:=by
    simp_all[Array.getElem?_append]
   grind
  .have:args.getD t .any=.any:=by grind
   rw[this]; exact .any _
 have:=h hh ρ w hg hm _ w hsim;refine Code.wp_mono ?_ (show body.wp P (WQ ⟨P,fn,hh,ρ,sto,w,post,X0,stb0⟩ []) _ w from this);intro en a' w' hq
 cases en with
 | normal=>obtain⟨hd,v,r,s,h',ρ',h1,h2⟩:=hq; exact⟨hd,v,h1,v,r,s,h',ρ',rfl,h2⟩
 | ret=>obtain⟨hd,v,r,s,h',ρ',h1,h2⟩:=hq; exact⟨hd,v,h1,v,r,s,h',ρ',rfl,h2⟩
 | _=>exact hq.elim
theorem AfL{f:FuncId}{fn:Func}{body:Code}{N:Nat}{args:LA}{sto:LB}{post:AV->LB->Prop}(hf:P.funcs[f]? = some fn)(hb:fn.body=some body)(hn:fn.ntmps=N)(hx:AaD P f=true)
  (ha:args.length<=N) (h:∀ h ρ w,Le g w ρ->AWp ⟨P,fn,h,ρ,sto,w,post,X0,stb0⟩ [.code body] (args0 0 args) sto):CtH P g f args sto post:=by grind[AtS]
theorem AoA{f:FuncId}{args:LA}{post:AV->Prop}(hc:CtH P g f args [] (fun r _=>post r/\nr2 r=true)):PcH P g f args post:=by
 refine⟨hc.1,fun h w vs hg hm hv=>?_⟩;have hmine:Mine h (fun _=>none) [] w:=⟨hm,fun id blk e=>by grind,fun _ _=>rfl,fun i j g t t' e=>by grind,fun i g t e=>by grind⟩;refine(hc.2 h (fun _=>none) w vs (fun k o e=>⟨hg k o e,fun i t hi=>by grind⟩) hmine (hv.thaw (fun _ _ _ x=>x))).mono ?_;rintro en w' ⟨v,r,s,h',ρ',rfl,⟨hp,hn⟩,hm',hl,rv⟩;exact⟨v,r,h',rfl,hp,hm'.mem,hl.hle,fun b o e n=>by
  rcases hl.hnew b o e n with⟨j,t,hj⟩|hs<;>grind,⟨hl.os,hl.tape,hl.output,hl.size,fun k hk=>hl.block k hk (fun i t e=>by grind)⟩,AnV rv hn⟩
theorem PcH.cth{f:FuncId}{args:LA}{post:AV->Prop}(hc:PcH P g f args post)(ha:args.all nr1=true)(sto:LB):CtH P g f args sto (fun r s=>post r/\s=sto):=by
 refine⟨hc.1,fun h ρ w vs hg hm hv=>?_⟩;refine(hc.2 h w vs (fun k o e=>(hg k o e).1) hm.mem (AeO hv ha)).mono ?_;rintro en w' ⟨v,r,h',rfl,hp,hm',hle,hnew,hs,rv⟩;refine⟨v,r,sto,h',ρ,rfl,⟨hp,rfl⟩,⟨hm',?_,hm.out,hm.inj,?_⟩,⟨hle,fun b o e n=>.inr (hnew b o e n),fun _ _ x=>x,hs.os,hs.tape,hs.output,hs.size,fun k hk _=>hs.block k hk,fun i _ t x=>.inl ⟨i,t,x⟩⟩,rv.thaw (fun _ _ _ x=>x)⟩
 .exact fun id blk e=>(hm.own id blk e).mono hle (fun _ _ x=>x) rfl (fun g t hg=>hs.block g (hm.lt hg))
 .intro i g t e o
  have hlt:=hm.lt e;have hd:=hm.disj i g t e o
  grind
variable {c:Cx}{k:List It}{e:Env}{s:LB}
theorem AwC(hg:Le g c.w c.ρ){f:FuncId}{args:LA}{d:Option Tmp}{all os:List Oper}{post:AV->LB->Prop}(hc:CtH c.P g f args s post){N:Nat}(hN:c.fn.ntmps=N)(hd:dOk N d=true)
  (hk:∀ r s',post r s'->AWp c (.ops all os::k) (put e d r) s'):AdF c f args d all os k e s:=by
 intro a w h ρ vs hm hl he hdf hsz hX hv;refine⟨hc.1,(hc.2 h ρ w vs (hg.later hl) hm hv).mono ?_⟩;rintro en w' ⟨v,r,s',h',ρ',rfl,hp,hm',hlt,rv⟩;have he':EnvOk h' ρ' s' e a:=fun t=>(he t).mono hlt.hle hlt.keep
 exact hk r s' hp _ _ ⟨h',ρ',hm',hl.trans hlt,he'.put (by grind) rv,by grind[AaJ],by grind[AbJ],c.hx.later hm hlt hX⟩
theorem A2H(hg:Le g c.w c.ρ){f:FuncId}{args:LA}{d:Option Tmp}{all os:List Oper}{post:AV->Prop}(hc:PcH c.P g f args post)(ha:args.all nr1=true){N:Nat}(hN:c.fn.ntmps=N)(hd:dOk N d=true)
  (hk:∀ r,post r->AWp c (.ops all os::k) (put e d r) s):AdF c f args d all os k e s :=
 AwC hg (hc.cth ha s) hN hd fun r s' ⟨hp,hs⟩=>by subst hs; exact hk r hp
theorem AwD(hg:Le g c.w c.ρ){f:FuncId}{args:LA}{d:Option Tmp}{all os:List Oper}{r:AV}(hc:PcH c.P g f args (· = r))(ha:args.all nr1=true){N:Nat}(hN:c.fn.ntmps=N)(hd:dOk N d=true)
  (hk:AWp c (.ops all os::k) (put e d r) s):AdF c f args d all os k e s :=
 by grind[A2H]
theorem PcH.at(hg:Le g c.w c.ρ){f:FuncId}{args:LA}{cv:AV}(hc:PcH c.P g f args (· = cv)):PcAt c f args cv :=
 ⟨hc.1,fun h w vs hb m r=>hc.2 h w vs (fun k o e=>by
  obtain⟨h1,h2⟩:=hg k o e
  grind) m r⟩
theorem PcH.mono{f:FuncId}{args:LA}{post post':AV->Prop}(hc:PcH P g f args post)(hp:∀ r,post r->post' r):PcH P g f args post' :=
 ⟨hc.1,fun h w vs hg hm hv=>(hc.2 h w vs hg hm hv).mono fun _ _ ⟨v,r,h',a,b,rest⟩=>⟨v,r,h',a,hp r b,rest⟩⟩
def McH(P:Program)(g:Std)(f:FuncId)(e:Nat)(agg:AV)(args:LA)(post:AV->AV->Prop):Prop :=
 CtH P g f (.ptr 0 1 0 0::args) [.arr e [agg]] (fun r s=>∃ agg' junk,s=.arr e [agg']::junk/\post r agg'/\nr2 r=true/\nr1 agg'=true)
theorem Mc.toH{f:FuncId}{e:Nat}{agg:AV}{args:LA}{post:AV->AV->Prop}(hc:Mc P f e agg args post):McH P g f e agg args post:=Ct.toH hc
section
variable {h:Mem}{ρ:Own}{sto:LB}{w:World}
theorem McH.ct{f:FuncId}{e:Nat}{agg:AV}{args:LA}{post:AV->AV->Prop}(hc:McH P g f e agg args post)(ha:args.all nr1=true)(hg:nr1 agg=true){id:Nat}(hid:sto[id]? = some (.arr e [agg])) :
  CtH P g f (.ptr id 1 0 0::args) sto (fun r s=>∃ agg',post r agg'/\nr1 agg'=true/\s=sto.set id (.arr e [agg'])):=by
 refine⟨hc.1,fun h ρ w vs hg0 m hv=>?_⟩
 cases hv with
 | @cons _ v0 _ vs _ r0 rs =>
  have hl:=(AcK r0).2;simp only[LfC,hid]at hl;obtain⟨_,gb,tot,h1,h2⟩:=hl.2 rfl;have hown:=m.own id _ hid
  rcases hown with⟨hn,_⟩|⟨g',tot',cur,tt,i3,i4,i5,i6,i7,i8,i9,i10,i11⟩
  .grind
  rw[h1]at i3;obtain⟨rfl,rfl⟩:=i3
  let ρ0:=fun i=>if i=0 then some (gb,tot) else none
  have hρ0:∀ i b t,ρ0 i=some (b,t)->i=0/\b=gb/\t=tot:=by
   grind
  have m0:Mine h ρ0 [.arr e [agg]] w:=by
   refine⟨m.mem,?_,?_,?_,?_⟩
   .intro i blk hb
    match i,hb with
    | 0,hb =>
     simp at hb; subst hb
     refine .inr ⟨gb,tot,cur,tt,rfl,i4,i5,i6,i7,i8,i9,i10,?_⟩;simp only[flat,lbn]at i11 |-;exact(AfK hg i11 (Lf':=Lf ρ0 [.arr e [agg]])).thaw (fun _ _ _ x=>x)
    | i+1,hb=>grind
   .grind
   .grind
   .intro i b t hi o
    obtain⟨_,rfl,_⟩:=hρ0 i b t hi;exact m.disj id _ _ h1 o
  have hp0:RV h (Lf ρ0 [.arr e [agg]]) false v0 (.ptr 0 1 0 0):=by
   refine .leaf ⟨(AcK r0).1,?_⟩<;>grind[LfC]
  refine(hc.2 h ρ0 w (v0::vs) (fun k o e=>⟨(hg0 k o e).1,fun i t hi=>by obtain⟨_,rfl,_⟩:=hρ0 i k t hi; exact(hg0 k o e).2 id tot h1⟩) m0 (.cons hp0 ((AeO rs ha (Lf':=Lf ρ0 [.arr e [agg]])).thaw (fun _ _ _ x=>x)))).mono ?_;rintro en w' ⟨v,r,s',h',ρ',rfl,⟨agg',junk,rfl,hp,hnr,hna⟩,m',l',rv⟩;have hk1:=l'.keep (.slice (some ⟨gb,0*e,none⟩) 1 (tot-0)) (.sl 0 0 1 1) ⟨rfl,by grind[LfC]⟩;have hρ':ρ' 0=some (gb,tot):=by
   have hk:=hk1.2
   grind[LfC]
  have hset:∀ v a,Lf ρ sto v a->Lf ρ (sto.set id (.arr e [agg'])) v a:=fun v a lf=>⟨lf.1,AbL hid (fun _ _=>rfl) (Or.inl ⟨rfl,rfl,rfl⟩) lf.2⟩
  have hlt:=(List.getElem?_eq_some_iff.1 hid).1;refine⟨v,r,_,h',ρ,rfl,⟨agg',hp,hna,rfl⟩,⟨m'.mem,?_,?_,m.inj,?_⟩,⟨l'.hle,?_,hset,l'.os,l'.tape,l'.output,l'.size,?_,fun i _ t x=>.inl ⟨i,t,x⟩⟩,(AnV rv hnr (Lf':=Lf0)).thaw (fun _ _ _ x=>x)⟩
  .intro j blk hb
   by_cases hj:j=id
   .subst hj
    simp[hlt]at hb
    subst hb
    rcases m'.own 0 _ rfl with⟨hn,_⟩|⟨g2,tot2,cur2,tt2,k3,k4,k5,k6,k7,k8,k9,k10,k11⟩
    .grind
    rw[hρ']at k3
    simp at k3
    obtain⟨rfl,rfl⟩:=k3;refine .inr ⟨gb,tot,cur2,tt2,h1,k4,k5,k6,k7,k8,k9,k10,?_⟩;simp only[flat,lbn]at k11 |-;exact(AfK hna k11 (Lf':=Lf0)).thaw (fun _ _ _ x=>x)
   .rw [lba (Ne.symm hj)]at hb
    refine(m.own j blk hb).mono l'.hle hset rfl (fun gj t hgj=>l'.block gj (m.lt hgj) fun i t' hi=>?_);obtain⟨_,rfl,_⟩:=hρ0 i gj t' hi;exact hj (m.inj j id _ _ _ hgj h1)
  .intro i hi
   simp at hi
   exact m.out i hi
  .intro i gi t hi o
   by_cases hj:i=id
   .subst hj
    rw[h1]at hi
    simp at hi
    obtain⟨rfl,rfl⟩:=hi;exact m'.disj 0 _ _ hρ' o
   .have hd:=m.disj i gi t hi o
    cases hq:h' gi o with
    | none=>rfl
    | some u =>
     rcases l'.hnew gi o hd (by grind)with⟨j,t',hj'⟩|hs
     .obtain ⟨_,rfl,_⟩:=hρ0 j gi t' hj'
      exact(hj (m.inj i id _ _ _ hi h1)).elim
     .have:=m.lt hi; omega
  .intro b o hb hb'
   rcases l'.hnew b o hb hb' with⟨j,t',hj'⟩|hs<;>grind
  .intro k hk hno
   exact l'.block k hk fun i t hi=>by
    grind
end
theorem A7C(hg:Le g c.w c.ρ){f:FuncId}{es:Nat}{agg:AV}{args:LA}{d:Option Tmp}{all os:List Oper}{post:AV->AV->Prop}(hc:McH c.P g f es agg args post)(ha:args.all nr1=true)(hgg:nr1 agg=true){id:Nat}(hid:s[id]? = some (.arr es [agg])){N:Nat}(hN:c.fn.ntmps=N)(hd:dOk N d=true)
  (hk:∀ r agg',post r agg'->AWp c (.ops all os::k) (put e d r) (s.set id (.arr es [agg']))):AdF c f (.ptr id 1 0 0::args) d all os k e s :=
 AwC hg (hc.ct ha hgg hid) hN hd fun r s' ⟨agg',hp,_,hs⟩=>by subst hs; exact hk r agg' hp
end
end Go.Av
namespace Go.Av
open RowKit
variable [Tr]
def sideIs:Res->AV->Prop
 | .side p u,v=>p/\v=u
 | _,_=>False
def AwE(P:Program)(e:Env)(s:LB):List ResultVar->LA->Prop
 | [],[]=>True
 | .tmp t::r,v::l=>v=get e t/\AwE P e s r l
 | .cell a t::r,v::l=>sideIs (xload (P.underlying t) (tsize P t) s (get e a)) v/\AwE P e s r l
 | _,_=>False
def resT:LA->AV
 | [v]=>v
 | l=>.tup l
theorem AoB{P:Program}{w:World}{t:TypeId}{u v:Value}(h:(Instr.loadAt t u).run P w=.ok v w):(do loadVar t (<- asAddr u):Sem Value).run P w=.ok v w:=by
 cases u with
 | pointer a =>
  cases a with
  | some a=>exact h
  | none=>simp_all[Instr.loadAt,Instr.sureAddr]
 | _=>simp_all[Instr.loadAt,Instr.sureAddr]
section
variable {c:Cx}{e:Env}{s:LB}
def resF(tmps:Array Value):ResultVar->Sem Value
 | .tmp t=>pure (tmps.getD t undef)
 | .cell a t=>do loadVar t (<- asAddr (tmps.getD a undef))
theorem AdH{h:Mem}{ρ:Own}{a:Act}{w:World}(m:Mine h ρ s w)(he:EnvOk h ρ s e a):∀ {rs:List ResultVar}{vals:LA},AwE c.P e s rs vals ->
  ∃ vs:List Value,(rs.mapM (resF a.tmps)).run c.P w=.ok vs w/\RL h (Lf ρ s) false vs vals
 | [],[],_=>⟨[],by simp_all,.nil⟩
 | .tmp t::r,v::l,hv=>by
  obtain⟨rfl,hr⟩:=hv;obtain⟨vs,h1,h2⟩:=AdH m he hr;refine⟨a.tmps.getD t undef::vs,?_,.cons (he t) h2⟩;rw[List.mapM_cons,Sem.run_bind];simp only[resF,Sem.run_pure,Result.andThen_ok,Sem.run_bind,h1]
 | .cell b t::r,v::l,hv=>by
  obtain⟨h0,hr⟩:=hv;obtain⟨vs,h1,h2⟩:=AdH m he hr;have hl:=AyU (P:=c.P) (t:=t) m (he b);unfold sideIs at h0
  revert h0 hl
  cases xload (c.P.underlying t) (tsize c.P t) s (get e b) <;> intro h0 hl <;> try grind
  obtain⟨hp,rfl⟩:=h0;obtain⟨u,hu,ru⟩:=hl hp;have hu':=AoB hu;refine⟨u::vs,?_,.cons ru h2⟩<;>grind[Sem.run_bind,resF,Result.andThen_ok,Sem.run_pure]
 | [],_::_,hv=>hv.elim
 | .tmp _::_,[],hv=>hv.elim
 | .cell _ _::_,[],hv=>hv.elim
def tupV:List Value->Value
 | [v]=>v
 | l=>.tuple l.toArray
theorem AtT{fn:Func}(rs:List ResultVar)(hr:fn.results=rs.toArray)(tmps:Array Value){P:Program}{w:World}{vs:List Value}(h:(rs.mapM (resF tmps)).run P w=.ok vs w) :
  (results fn tmps).run P w=.ok (tupV vs) w:=by
 have e:results fn tmps=(do let vs <- fn.results.mapM (resF tmps); pure (if h:vs.size=1 then vs[0] else .tuple vs)):=rfl;rw[e,hr,Sem.run_bind,List.mapM_toArray]
 erw [Sem.run_bind]
 rw[h]
 match vs with
 | []=>rfl
 | [v]=>rfl
 | v::u::r=>simp_all[tupV]
theorem AlS(rs:List ResultVar)(hr:c.fn.results=rs.toArray)(vals:LA)(hv:AwE c.P e s rs vals)(hp:c.post (resT vals) s):ARet c e s:=by
 rintro a w ⟨hh,ρ,hm,hl,he,hdf,hsz,_⟩;obtain⟨vs,h1,h2⟩:=AdH hm he hv;refine⟨hdf,tupV vs,resT vals,s,hh,ρ,?_,hp,hm,hl,?_⟩
 .grind[AtT]
 .cases h2 with
  | nil=>exact .tup _ _ .nil
  | cons r1 r2 =>
   cases r2 with
   | nil=>exact r1
   | cons r2 r3=>exact .tup _ _ (.cons r1 (.cons r2 r3))
end
end Go.Av
namespace Go.Av
open RowKit
structure Fr(w w':World)(b:Nat)(r:Option Nat):Prop where
 os:w'.os=w.os
 tape:w'.tape=w.tape
 output:w'.output=w.output
 size:w.heap.size<=w'.heap.size
 block:∀ k,k<w.heap.size->k≠b->some k≠r->w'.heap[k]? = w.heap[k]?
def Lone(h:Mem)(ρ:Own)(b:Nat):Prop:=(∀ i t,ρ i≠some (b,t))/\∀ o,h b o=none
section
variable {h h':Mem}{ρ ρ':Own}{sto sto':LB}{w w':World}{T e:TypeId}{B b:Nat}{l:LU}
theorem Lone.later(m:Mine h ρ sto w)(x:Later h ρ sto w h' ρ' sto' w'){k:Nat}(hk:k<w.heap.size)(a:Lone h ρ k):Lone h' ρ' k:=by
 refine⟨fun i t hi=>?_,fun o=>?_⟩
 .rcases x.newown i k t hi with⟨j,t',hj⟩|hs
  .exact a.1 j t' hj
  omega
 .cases hq:h' k o with
  | none=>rfl
  | some v =>
   rcases x.hnew k o (a.2 o) (by grind)with⟨j,t',hj⟩|hs
   .exact (a.1 j t' hj).elim
   omega
variable {c:Cx}{k:List It}{en:Env}{s:LB}
theorem Mine.fr(m:Mine h ρ sto w){r:Option Nat}(f:Fr w w' b r)(hb:Lone h ρ b)(hr:∀ k,r=some k->Lone h ρ k):Mine h ρ sto w':=by
 have hne:∀ k,(∃ i t,ρ i=some (k,t))\/(∃ o v,h k o=some v)->k≠b/\some k≠r:=by
  intro k hk;refine⟨fun e=>?_,fun e=>?_⟩
  .subst e
   rcases hk with⟨i,t,hi⟩|⟨o,v,ho⟩
   .exact hb.1 i t hi
   .rw [hb.2 o]at ho; grind
  .have hl:=hr k e.symm
   rcases hk with⟨i,t,hi⟩|⟨o,v,ho⟩
   .exact hl.1 i t hi
   .rw [hl.2 o]at ho; grind
 refine⟨fun k o v e=>?_,fun id blk e=>?_,m.out,m.inj,m.disj⟩
 .obtain ⟨h1,h2⟩:=hne k (.inr ⟨o,v,e⟩)
  exact⟨(World.cell?_of_block (f.block k (m.memlt e) h1 h2)).trans (m.mem k o v e).1,(m.mem k o v e).2⟩
 .exact (m.own id blk e).mono (fun _ _ _ x=>x) (fun _ _ x=>x) rfl (fun g t hg=>f.block g (m.lt hg) (hne g (.inl ⟨id,t,hg⟩)).1 (hne g (.inl ⟨id,t,hg⟩)).2)
end
end Go.Av
namespace Go.Av
open RowKit
variable [Tr]
section
variable {h:Mem}{ρ:Own}{sto:LB}{w:World}{P:Program}
theorem Mine.freeze'(m:Mine h ρ sto w){id e:Nat}{l:LA}(hb:sto[id]? = some (.arr e l))(hf:(flat l).all frozen=true) :
  ∃ h' ρ',(∀ i,i≠id->ρ' i=ρ i)/\Mine h' ρ' (sto.set id .dead) w/\Later h ρ sto w h' ρ' (sto.set id .dead) w /\
   (∀ v off len cap,LfC ρ sto v (.sl id off len cap)->off+cap=l.length->len<=cap->RV h' (Lf ρ' (sto.set id .dead)) false v (.fz e ((l.drop off).take len))) /\
   (∀ v k off,LfC ρ sto v (.ptr id l.length k off)->RV h' (Lf ρ' (sto.set id .dead)) false v (.pin e l k off)):=by
 have hid:=(List.getElem?_eq_some_iff.1 hb).1
 rcases m.own id _ hb with⟨rfl,hn⟩|⟨g,tot,cur,t,h3,h4,h5,h6,h7,h8,h9,h10,h11⟩
 .have hk:∀ v a,Lf ρ sto v a->Lf ρ (sto.set id .dead) v a:=fun v a l=>⟨l.1,AbL hb (fun _ _=>rfl) trivial l.2⟩
  refine⟨h,ρ,fun _ _=>rfl,⟨m.mem,?_,fun i hi=>m.out i (by grind),m.inj,m.disj⟩,⟨fun _ _ _ x=>x,fun _ _ a b=>(b a).elim,hk,rfl,rfl,⟨rfl,Tr.same rfl⟩,lal _,fun _ _ _=>rfl,fun i _ t x=>.inl ⟨i,t,x⟩⟩,?_,?_⟩
  .intro i blk e1
   by_cases hi:i=id
   .subst hi
    simp[hid]at e1
    subst e1;exact hn
   .rw [lba (Ne.symm hi)]at e1
    exact(m.own i blk e1).mono (fun _ _ _ x=>x) hk rfl (fun _ _ _=>rfl)
  .intro v off len cap hl hc hlc
   simp only[LfC,hb]at hl
   rcases hl.2 hc with⟨rfl,rfl,a,rfl⟩|⟨g,tot,h1,_⟩
   .cases a with
    | none=>simpa[at0]using RV.fznil e
    | some a=>simpa[at0]using RV.fz a.1 a.2 0 e [] [] .nil (by simp) (by simp) (lal _)
   grind
  grind[LfC]
 .let h':=fun b o=>if b=g then cur.toList[o]? else h b o
  have hle:∀ b o v,h b o=some v->h' b o=some v:=by
   intro b o v e1;have:b≠g:=fun hq=>by subst hq; simp[m.disj id b tot h3 o]at e1
   grind
  have hk:∀ v a,Lf ρ sto v a->Lf (upd ρ id none) (sto.set id .dead) v a:=fun v a l=>⟨l.1,AbL hb (fun i hi=>by grind[upd]) trivial l.2⟩
  have hown:∀ i b t,upd ρ id none i=some (b,t)->i≠id/\ρ i=some (b,t):=by
   grind[upd]
  refine⟨h',upd ρ id none,fun i hi=>by grind[upd],⟨?_,?_,?_,?_,?_⟩,⟨hle,?_,hk,rfl,rfl,⟨rfl,Tr.same rfl⟩,lal _,fun _ _ _=>rfl,fun i b t x=>.inl ⟨i,t,(hown i b t x).2⟩⟩,?_,?_⟩
  .intro b o v e1
   by_cases hq:b=g
   .subst hq
    simp only[h',if_true]at e1;refine⟨?_,h10 v (laj e1)⟩;rw[h4.cell]
    grind
   .simp only [h',hq,if_false]at e1
    exact m.mem b o v e1
  .intro i blk e1
   by_cases hi:i=id
   .grind[OwnB,upd]
   .rw [lba (Ne.symm hi)]at e1
    exact(m.own i blk e1).mono hle hk (by grind[upd]) (fun _ _ _=>rfl)
  .intro i hi
   simp at hi
   simp[upd,m.out i hi]
  .intro i j b t t' hi hj
   exact m.inj i j b t t' (hown i b t hi).2 (hown j b t' hj).2
  .intro i b t hi o
   obtain⟨h1,h2⟩:=hown i b t hi;have:b≠g:=fun hq=>by subst hq; exact h1 (m.inj i id _ _ _ h2 h3)
   simp[h',this,m.disj i b t h2 o]
  .grind
  .intro v off len cap hl hc hlc
   simp only[LfC,hb]at hl;have hfl:=AaN h9;have hcurl:cur.toList.length=tot*e:=by omega
   rcases hl.2 hc with⟨rfl,rfl,a,rfl⟩|⟨g',tot',h1,rfl,_⟩
   .cases a with
    | none=>simpa[at0]using RV.fznil e
    | some a=>simpa[at0]using RV.fz a.1 a.2 0 e [] [] .nil (by simp) (by simp) (lal _)
   .rw [h3]at h1
    simp at h1
    obtain⟨rfl,rfl⟩:=h1;have hlen:((l.drop off).take len).length=len:=by grind
    have hr:RL h' (Lf (upd ρ id none) (sto.set id .dead)) true (((cur.toList.take (l.length*e)).drop (off*e)).take (len*e)) (flat ((l.drop off).take len)):=by
     rw[<- AbD (fun x hx=>h9 x (lbi hx)) len,<- AaP h9 off];exact(((AbT h11 hf).thaw (fun _ _ _ x=>x)).mono hle (fun _ _ x=>x) |>.drop _).take _
    have:=RV.fz (fl:=false) g (off*e) (tot-off) e ((l.drop off).take len) _ hr (fun x hx=>h9 x (lbi (lbb hx))) (fun k v hk=>by
     grind) (by omega)
    grind
  .intro v k off hl
   simp only[LfC,hb]at hl;obtain⟨hk0,g',tot',h1,rfl⟩:=hl.2 trivial;rw[h3]at h1
   simp at h1
   obtain⟨rfl,rfl⟩:=h1;have hr:RL h' (Lf (upd ρ id none) (sto.set id .dead)) true (cur.toList.take (l.length*e)) (flat l):=((AbT h11 hf).thaw (fun _ _ _ x=>x)).mono hle (fun _ _ x=>x);have:=RV.pin (fl:=false) g 0 e l _ k off hr h9 (fun j v hk=>by
    grind) hk0
   grind
def frz1(id e:Nat)(l:LA):AV->AV
 | .sl i off len cap=>bif i==id&&(decide (off+cap=l.length)&&decide (len<=cap)) then .fz e ((l.drop off).take len) else .sl i off len cap
 | .ptr i n k off=>bif i==id&&decide (n=l.length) then .pin e l k off else .ptr i n k off
 | a=>a
def frz(id e:Nat)(l:LA):AV->AV
 | .agg r=>.agg (r.map (frz1 id e l))
 | .fn f r=>.fn f (r.map (frz1 id e l))
 | a=>frz1 id e l a
def frzC(id e:Nat)(l:LA):AV->AV
 | .agg r=>.agg (r.map (frz1 id e l))
 | a=>frz1 id e l a
def frzB(id e:Nat)(l:LA):Blk->Blk
 | .arr es r=>.arr es (r.map (frzC id e l))
 | .mp es=>.mp (es.map fun x=>(x.1,frz id e l x.2))
 | b=>b
theorem frz_cells(id e:Nat)(l:LA)(x:AV):cellsOf (frzC id e l x)=(cellsOf x).map (frz1 id e l):=by
 cases x<;>grind[frzC,frz1,cellsOf]
theorem frz_flat(id e:Nat)(l:LA):∀ r,flat (r.map (frzC id e l))=(flat r).map (frz1 id e l)
 | []=>rfl
 | x::r=>by simp only[lak,flat,frz_cells,frz_flat id e l r,lav]
theorem A4B{ρ:Own}{sto:LB}{v:Value}{a:AV}(id e:Nat)(l:LA)(x:LfC ρ sto v a):LfC ρ (sto.map (frzB id e l)) v a:=by
 cases a with
 | sl i off len cap =>
  simp only[LfC,lbh]at x |-
  cases hq:sto[i]? with
  | none=>grind
  | some b=>rw[hq]at x; cases b <;> simp only[lbr,frzB,laa]at x |- <;> exact x
 | ptr i n k off =>
  simp only[LfC,lbh]at x |-
  cases hq:sto[i]? with
  | none=>grind
  | some b=>rw[hq]at x; cases b <;> simp only[lbr,frzB,laa]at x |- <;> exact x
 | mp i =>
  simp only[LfC,lbh]at x |-
  cases hq:sto[i]? with
  | none=>grind
  | some b=>rw[hq]at x; cases b <;> simp at x |- <;> exact x
 | _=>exact x
theorem AwF{ρ:Own}{sto:LB}(id e:Nat)(l:LA)(v:Value)(a:AV)(x:Lf ρ sto v a):Lf ρ (sto.map (frzB id e l)) v a:=⟨x.1,A4B id e l x.2⟩
theorem Mine.frz(m:Mine h ρ sto w){id e:Nat}{l:LA}(hb:sto[id]? = some (.arr e l))(hf:(flat l).all frozen=true) :
  ∃ h' ρ',Mine h' ρ' ((sto.set id .dead).map (frzB id e l)) w/\Later h ρ sto w h' ρ' ((sto.set id .dead).map (frzB id e l)) w /\
   ∀ v a,RV h (Lf ρ sto) false v a->RV h' (Lf ρ' ((sto.set id .dead).map (frzB id e l))) false v (frz id e l a):=by
 obtain⟨h',ρ',hr,m',lt,key,keyp⟩:=m.freeze' hb hf;have hkeep:∀ v a,Lf ρ sto v a->Lf ρ' ((sto.set id .dead).map (frzB id e l)) v a:=fun v a x=>AwF id e l v a (lt.keep v a x)
 have k1:∀ v a,RV h (Lf ρ sto) false v a->RV h' (Lf ρ' ((sto.set id .dead).map (frzB id e l))) false v (frz1 id e l a):=by
  intro v a x
  cases a with
  | sl i off len cap =>
   simp only[frz1]
   cases hq:(i==id&&(decide (off+cap=l.length)&&decide (len<=cap)))with
   | false=>exact x.mono lt.hle hkeep
   | true =>
    simp only[lac,beq_iff_eq,lar]at hq;obtain⟨rfl,h1,h2⟩:=hq;exact(key v off len cap (AbN x).2 h1 h2).mono (fun _ _ _ y=>y) (fun v a y=>AwF i e l v a y)
  | ptr i n k off =>
   simp only[frz1]
   cases hq:(i==id&&decide (n=l.length))with
   | false=>exact x.mono lt.hle hkeep
   | true =>
    simp only[lac,beq_iff_eq,lar]at hq;obtain⟨rfl,rfl⟩:=hq;exact(keyp v k off (AcK x).2).mono (fun _ _ _ y=>y) (fun v a y=>AwF i e l v a y)
  | _=>exact x.mono lt.hle hkeep
 have kl:∀ (r:LA) (vs:List Value),RL h (Lf ρ sto) false vs r->RL h' (Lf ρ' ((sto.set id .dead).map (frzB id e l))) false vs (r.map (frz1 id e l)):=by
  intro r
  induction r with
  | nil=>intro vs x; cases x; exact .nil
  | cons a r ih=>intro vs x; cases x with|cons x1 x2=>exact .cons (k1 _ _ x1) (ih _ x2)
 have k2:∀ v a,RV h (Lf ρ sto) false v a->RV h' (Lf ρ' ((sto.set id .dead).map (frzB id e l))) false v (Go.Av.frz id e l a):=by
  intro v a x
  cases a with
  | agg r =>
   cases x with
   | leaf p=>exact p.2.elim
   | agg vs _ x=>exact .agg vs _ (kl _ _ x)
  | fn f r =>
   cases x with
   | leaf p=>exact p.2.elim
   | fn _ vs _ x=>exact .fn f vs _ (kl _ _ x)
  | _=>exact k1 _ _ x
 refine⟨h',ρ',⟨m'.mem,?_,fun i hi=>m'.out i (by simpa using hi),m'.inj,m'.disj⟩,⟨lt.hle,lt.hnew,hkeep,lt.os,lt.tape,lt.output,lt.size,lt.block,lt.newown⟩,k2⟩;intro i blk e1
 by_cases hi:i=id
 .subst hi
  have hid:=(List.getElem?_eq_some_iff.1 hb).1;have e2:=m'.own i .dead (by simp[hid])
  simp[lbh,hid,frzB]at e1
  subst e1;exact e2
 .rw [lbh,lba (Ne.symm hi)]at e1
  obtain⟨b,hb',rfl⟩:=Option.map_eq_some_iff.1 e1;have o:=m.own i b hb'
  cases b with
  | arr es r =>
   rcases o with⟨h1,h2⟩|⟨g,tot,cur,t,h1,h2,h3,h4,h5,h6,h7,h8,h9⟩
   .exact .inl ⟨by simp[h1],(hr i hi).trans h2⟩
   .refine .inr ⟨g,tot,cur,t,(hr i hi).trans h1,h2,h3,by simpa using h4,h5,h6,?_,h8,?_⟩
    .intro x hx
     obtain⟨y,hy,rfl⟩:=List.mem_map.1 hx;rw[frz_cells,laa];exact h7 y hy
    .rw [frz_flat,laa]
     exact kl _ _ h9
  | mp es =>
   obtain⟨g,en,cl,h1,h2,h3,h4,h5⟩:=o;refine⟨g,en,cl,(hr i hi).trans h1,h2,by rw[lvs_map]; simpa using h3,fun k x y hx hy=>?_,h5.map _⟩;rw[lvs_map,lbh]at hx;obtain⟨x',hx',rfl⟩:=Option.map_eq_some_iff.1 hx;obtain⟨p,q⟩:=h4 k x' y hx' hy;exact⟨p.mono lt.hle hkeep,k2 _ _ q⟩
  | it mid n seen =>
   obtain⟨g,gm,h1,h2,h3,h4⟩:=o;exact⟨g,gm,(hr i hi).trans h1,h2,hkeep _ _ h3,h4⟩
  | dead=>exact(hr i hi).trans o
variable {c:Cx}{en:Env}{s:LB}
def frzE(id e:Nat)(l:LA):Env->Env
 | []=>[]
 | (t,v)::r=>(t,frz id e l v)::frzE id e l r
theorem ArT(id e:Nat)(l:LA)(t:Nat):∀ r,get (frzE id e l r) t=frz id e l (get r t)
 | []=>rfl
 | (t',v)::r=>by
  have ih:=ArT id e l t r;simp only[frzE,Go.Av.get]
  cases t'==t with
  | true=>rfl
  | false=>exact ih
theorem Shift.frz(id:Nat){es:Nat}{l:LA}(hb:s.getD id .dead=.arr es l)(hf:(flat l).all frozen=true) :
  Shift c en s (frzE id es l en) ((s.set id .dead).map (frzB id es l)):=by
 rintro a w ⟨hh,ρ,hm,hlt,he,hdf,hsz,hX⟩;obtain⟨h',ρ',m',l',key⟩:=hm.frz (AbS hb) hf;refine⟨h',ρ',m',hlt.trans l',fun t=>?_,hdf,hsz,c.hx.later hm l' hX⟩;rw[ArT];exact key _ _ (he t)
end
end Go.Av
namespace Go.Av
open RowKit
variable [Tr]
section
variable {c:Cx}{k:List It}{e:Env}{s:LB}{B:Code}
theorem WQ_mid{e:Exit}{a:Act}{w:World}(h:WQ c (.inv (WQ c k .normal)::k) e a w):WQ c k e a w:=by
 cases e with
 | normal=>exact h
 | exit id=>exact h
 | ret=>exact h
 | _=>exact h
theorem A4C{J:Act->World->Prop}{id:Nat}{e:Exit}{a:Act}{w:World}(h:WQ c (.inv J::.blk id::.inv (WQ c k .normal)::k) e a w):WQ c (.inv J::.blk id::k) e a w:=by
 cases e<;>grind[WQ]
theorem amid{κ:Type}{y:Code}(E:κ->Env)(S:κ->LB)(H:κ->Prop)(rest:∀ x,H x->AWp c k (E x) (S x))
  (step:∀ Q:Act->World->Prop,(∀ x,H x->∀ a w,Sim c (E x) (S x) a w->Q a w)->AWp c (.code y::.inv Q::k) e s):AWp c (.code y::k) e s:=by
 intro a w hs;have:=step (WQ c k .normal) (fun x hx a w hs=>rest x hx a w hs) a w hs
 grind[Code.wp_mono,WQ_mid,WQ]
theorem AbA{ι κ:Type}{id:Nat}(μ:ι->Nat)(E:ι->Env)(S:ι->LB)(H:ι->Prop)(Ex:κ->Env)(Sx:κ->LB)(Hx:κ->Prop)(x0:ι)(hH:H x0)(hs:Shift c e s (E x0) (S x0))
  (rest:∀ y,Hx y->AWp c k (Ex y) (Sx y))
  (step:∀ x,H x->∀ J Q:Act->World->Prop,(∀ y,H y->μ y<μ x->∀ a w,Sim c (E y) (S y) a w->J a w)->(∀ y,Hx y->∀ a w,Sim c (Ex y) (Sx y) a w->Q a w)->AWp c (.code B::.inv J::.blk id::.inv Q::k) (E x) (S x)) :
  AWp c (.code (.loop B)::.blk id::k) e s :=
 AbP μ E S H x0 hH hs fun x hx J hJ a w hsx =>
  Code.wp_mono (fun en a' w' hq=>A4C hq) (show B.wp c.P (WQ c (.inv J::.blk id::.inv (WQ c k .normal)::k)) a w from step x hx J (WQ c k .normal) hJ (fun y hy a w hs=>rest y hy a w hs) a w hsx)
end
