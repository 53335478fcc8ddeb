/- The same state told in another way: memory of one's own that is frozen from here on; nil. -/
import Derived.Test.YtlldmgboedknfaaGreatDoorB10
import Derived.Lib.Builder
import Derived.Lib.AppendStr
import Derived.Lib.UnsafeStr
import Derived.Below
set_option linter.unusedSimpArgs false
set_option linter.unusedVariables false
set_option linter.unusedSectionVars false
namespace Go.Av
open Go Go.RowKit
variable [Tr]
section
variable {h:Mem}{ρ:Own}{sto:List Blk}{w:World}{P:Program}
theorem Mine.freeze(m:Mine h ρ sto w){id e:Nat}{l:List AV}(hb:sto[id]? = some (.arr e l))(hf:(flat l).all frozen=true) :
  ∃ h' ρ',Mine h' ρ' (sto.set id .dead) w/\Later h ρ sto w h' ρ' (sto.set id .dead) w /\
   ∀ v off len cap,LfC ρ sto v (.sl id off len cap)->off+cap=l.length->len<=cap->RV h' (Lf ρ' (sto.set id .dead)) false v (.fz e ((l.drop off).take len)):=by
 have hid:=(List.getElem?_eq_some_iff.1 hb).1
 rcases m.own id _ hb with⟨rfl,hn⟩|⟨g,tot,cur,t,h3,h4,h5,h6,h7,h8,h9,h10,h11⟩
 .have hk:∀ v a,Lf ρ sto v a->Lf ρ (sto.set id .dead) v a:=fun v a l=>⟨l.1,AbT hb (fun _ _=>rfl) trivial l.2⟩
  refine⟨h,ρ,⟨m.mem,?_,fun i hi=>m.out i (by simpa using hi),m.inj,m.disj⟩,⟨fun _ _ _ x=>x,fun _ _ a b=>(b a).elim,hk,rfl,rfl,⟨rfl,Tr.same rfl⟩,Nat.le_refl _,fun _ _ _=>rfl,fun i _ t x=>.inl ⟨i,t,x⟩⟩,?_⟩
  .intro i blk e1
   by_cases hi:i=id
   .subst hi
    simp[hid]at e1
    subst e1;exact hn
   .rw [List.getElem?_set_ne (Ne.symm hi)]at e1
    exact(m.own i blk e1).mono (fun _ _ _ x=>x) hk rfl (fun _ _ _=>rfl)
  .intro v off len cap hl hc hlc
   simp only[LfC,hb]at hl
   rcases hl.2 hc with⟨rfl,rfl,a,rfl⟩|⟨g,tot,h1,_⟩
   .cases a with
    | none=>simpa[at0]using RV.fznil e
    | some a=>simpa[at0]using RV.fz (h:=h) (Lf:=Lf ρ (sto.set id .dead)) (fl:=false) a.1 a.2 0 e [] [] .nil (by simp) (by simp) (Nat.le_refl _)
   .simp [hn]at h1
 .let h':Mem:=fun b o=>if b=g then cur.toList[o]? else h b o
  have hle:∀ b o v,h b o=some v->h' b o=some v:=by
   intro b o v e1;have:b≠g:=fun hq=>by subst hq; simp[m.disj id b tot h3 o]at e1
   simp[h',this,e1]
  have hk:∀ v a,Lf ρ sto v a->Lf (upd ρ id none) (sto.set id .dead) v a:=fun v a l=>⟨l.1,AbT hb (fun i hi=>by simp[upd,hi]) trivial l.2⟩
  have hown:∀ i b t,upd ρ id none i=some (b,t)->i≠id/\ρ i=some (b,t):=by
   intro i b t e1;unfold upd at e1
   split at e1
   .simp at e1
   .rename_i hi; exact⟨hi,e1⟩
  refine⟨h',upd ρ id none,⟨?_,?_,?_,?_,?_⟩,⟨hle,?_,hk,rfl,rfl,⟨rfl,Tr.same rfl⟩,Nat.le_refl _,fun _ _ _=>rfl,fun i b t x=>.inl ⟨i,t,(hown i b t x).2⟩⟩,?_⟩
  .intro b o v e1
   by_cases hq:b=g
   .subst hq
    simp only[h',if_true]at e1;refine⟨?_,h10 v (List.mem_of_getElem? e1)⟩;rw[h4.cell]
    simpa using e1
   .simp only [h',hq,if_false]at e1
    exact m.mem b o v e1
  .intro i blk e1
   by_cases hi:i=id
   .subst hi
    simp[hid]at e1
    subst e1
    simp[OwnB,upd]
   .rw [List.getElem?_set_ne (Ne.symm hi)]at e1
    exact(m.own i blk e1).mono hle hk (by simp[upd,hi]) (fun _ _ _=>rfl)
  .intro i hi
   simp at hi
   simp[upd,m.out i hi]
  .intro i j b t t' hi hj
   exact m.inj i j b t t' (hown i b t hi).2 (hown j b t' hj).2
  .intro i b t hi o
   obtain⟨h1,h2⟩:=hown i b t hi;have:b≠g:=fun hq=>by subst hq; exact h1 (m.inj i id _ _ _ h2 h3)
   simp[h',this,m.disj i b t h2 o]
  .intro b o e1 e2
   by_cases hq:b=g
   .subst hq; exact .inl ⟨id,tot,h3⟩
   .simp [h',hq,e1]at e2
  .intro v off len cap hl hc hlc
   simp only[LfC,hb]at hl;have hfl:=AaK h9;have hcurl:cur.toList.length=tot*e:=by simp[h5]
   rcases hl.2 hc with⟨rfl,rfl,a,rfl⟩|⟨g',tot',h1,rfl,_⟩
   .cases a with
    | none=>simpa[at0]using RV.fznil e
    | some a=>simpa[at0]using RV.fz (h:=h') (Lf:=Lf (upd ρ id none) (sto.set id .dead)) (fl:=false) a.1 a.2 0 e [] [] .nil (by simp) (by simp) (Nat.le_refl _)
   .rw [h3]at h1
    simp only[Option.some.injEq,Prod.mk.injEq]at h1;obtain⟨rfl,rfl⟩:=h1;have hlen:((l.drop off).take len).length=len:=by simp; omega
    have hr:RL h' (Lf (upd ρ id none) (sto.set id .dead)) true (((cur.toList.take (l.length*e)).drop (off*e)).take (len*e)) (flat ((l.drop off).take len)):=by
     rw[<- AbZ (l:=l.drop off) (esz:=e) (fun x hx=>h9 x (List.mem_of_mem_drop hx)) len,<- AaY h9 off];exact(((AcX h11 hf).thaw (fun _ _ _ x=>x)).mono hle (fun _ _ x=>x) |>.drop _).take _
    have:=RV.fz (h:=h') (Lf:=Lf (upd ρ id none) (sto.set id .dead)) (fl:=false) g (off*e) (tot-off) e ((l.drop off).take len) _ hr (fun x hx=>h9 x (List.mem_of_mem_drop (List.mem_of_mem_take hx))) (fun k v hk=>by
     rw[List.getElem?_take]at hk
     split at hk
     .rw [List.getElem?_drop,List.getElem?_take]at hk
      split at hk
      .simp only [h',if_true]; exact hk
      .simp at hk
     .simp at hk) (by rw[hlen]; omega)
    rwa [hlen]at this
variable {c:Cx}{e:Env}{s:List Blk}
theorem Shift.freeze(t:Tmp){id off len cap es:Nat}{l:List AV}(hv:get e t=.sl id off len cap)(hb:s.getD id .dead=.arr es l)(hc:off+cap=l.length)(hl:len<=cap)(hf:(flat l).all frozen=true) :
  Shift c e s (put e (some t) (.fz es ((l.drop off).take len))) (s.set id .dead):=by
 rintro a w ⟨hh,ρ,hm,hlt,he,hdf,hsz,hX⟩;obtain⟨h',ρ',m',l',key⟩:=hm.freeze (AcC hb) hf;refine⟨h',ρ',m',hlt.trans l',fun t'=>?_,hdf,hsz,c.hx.later hm l' hX⟩;rw[get_put]
 split
 .rename_i ht
  simp only[Option.some.injEq]at ht;subst ht;have:=he t;rw[hv]at this;exact key _ _ _ _ (AbU this).2 hc hl
 .exact (he t').mono l'.hle l'.keep
theorem Shift.nilfz(t:Tmp)(es:Nat)(hv:get e t=.raw (.slice none 0 0)):Shift c e s (put e (some t) (.fz es [])) s:=by
 rintro a w ⟨hh,ρ,hm,hlt,he,hdf,hsz,hX⟩;refine⟨hh,ρ,hm,hlt,fun t'=>?_,hdf,hsz,hX⟩;rw[get_put]
 split
 .rename_i ht
  simp only[Option.some.injEq]at ht;subst ht;have:=he t;rw[hv]at this;rw[AbF this];exact .fznil es
 .exact he t'
theorem Shift.nilsl(t:Tmp)(es:Nat)(hv:get e t=.raw (.slice none 0 0)):Shift c e s (put e (some t) (.sl s.length 0 0 0)) (s++[.arr es []]):=by
 rintro a w ⟨hh,ρ,hm,hlt,he,hdf,hsz,hX⟩;obtain⟨m',l'⟩:=hm.pushNil es;refine⟨hh,ρ,m',hlt.trans l',fun t'=>?_,hdf,hsz,c.hx.later hm l' hX⟩;rw[get_put]
 split
 .rename_i ht
  simp only[Option.some.injEq]at ht;subst ht;have:=he t;rw[hv]at this;rw[AbF this];exact .leaf ⟨rfl,by simp only[LfC,List.getElem?_concat_length]; exact⟨by simp,fun _=>.inl ⟨trivial,trivial,none,rfl⟩⟩⟩
 .exact (he t').mono l'.hle l'.keep
end
end Go.Av
namespace Go.Av
open Go Go.RowKit
variable [Tr]
def Hd(P:Program)(B:Code)(Q:Exit->Act->World->Prop)(a:Act)(w:World):Prop :=
 ∀ (b:Frame) (k:List Item) (cs:List Frame),∃ e a' w',Q e a' w'/\Arrives P (lone (b.at a (.code B::.inLoop B::k)) cs w) b k cs e a' w'
theorem Hd.loop{P:Program}{B:Code}{Q:Exit->Act->World->Prop}{a:Act}{w:World}(h:Hd P B Q a w):(Code.loop B).wp P Q a w:=by
 intro b k cs;obtain⟨e,a',w',hq,harr⟩:=h b k cs;exact⟨e,a',w',hq,.of_steps (.one step_loop) harr⟩
theorem Hd.round{P:Program}{B:Code}{Q:Exit->Act->World->Prop}{a:Act}{w:World}(h:B.wp P (Exit.then (Hd P B Q) Q) a w):Hd P B Q a w:=by
 intro b k cs;obtain⟨e,a₁,w₁,hq,harr⟩:=h b (.inLoop B::k) cs
 cases e with
 | normal =>
  obtain⟨e₂,a₂,w₂,hq₂,harr₂⟩:=hq b k cs;exact⟨e₂,a₂,w₂,hq₂,.of_steps (Steps.trans harr (.one step_inLoop)) harr₂⟩
 | exit id=>exact⟨_,a₁,w₁,hq,.pass (x:=.inLoop B) rfl (fun _ _=>.inl (by simp)) harr⟩
 | goto l=>exact⟨_,a₁,w₁,hq,.pass (x:=.inLoop B) rfl (fun _ _=>.inl (by simp)) harr⟩
 | ret=>exact⟨_,a₁,w₁,hq,.pass (x:=.inLoop B) rfl (fun _ _=>.inl (by simp)) harr⟩
 | panic ch=>exact⟨_,a₁,w₁,hq,.pass (x:=.inLoop B) rfl (fun _ _=>.inl (by simp)) harr⟩
 | outgrown=>exact⟨_,a₁,w₁,hq,.pass (x:=.inLoop B) rfl (fun _ _=>.inl (by simp)) harr⟩
section
variable {c:Cx}{k:List It}{e:Env}{s:List Blk}{B:Code}
def AHd(c:Cx)(B:Code)(k:List It)(e:Env)(s:List Blk):Prop:=∀ a w,Sim c e s a w->Hd c.P B (WQ c k) a w
theorem AcL(h:AHd c B k e s):AWp c (.code (.loop B)::k) e s:=fun a w hs=>(h a w hs).loop
theorem around(h:AWp c (.code B::.inv (Hd c.P B (WQ c k))::k) e s):AHd c B k e s:=fun a w hs=>by
 refine Hd.round ?_;refine Code.wp_mono ?_ (h a w hs);intro en a' w' hq
 cases en <;> exact hq
theorem AdE(h:AHd c B k e s):AWp c (.inv (Hd c.P B (WQ c k))::k) e s:=fun a w hs=>h a w hs
theorem AHd.shift{e':Env}{s':List Blk}(x:Shift c e s e' s')(h:AHd c B k e' s'):AHd c B k e s:=fun a w hs=>h a w (x a w hs)
end
end Go.Av
namespace Go.Av
open Go Go.RowKit
variable [Tr]
section
variable {h:Mem}{ρ:Own}{sto:List Blk}{w:World}{P:Program}
variable {c:Cx}{e:Env}{s:List Blk}
end
end Go.Av
namespace Go.Av
open Go Go.RowKit
variable [Tr]
abbrev strs(l:List (List UInt8)):List AV:=l.map .str
abbrev sval(s:List UInt8):Value:=.string ⟨s.toArray⟩
theorem AtU:∀ l:List (List UInt8),flat (strs l)=strs l
 | []=>rfl
 | x::r=>by simp only[List.map_cons,flat,cellsOf,List.cons_append,List.nil_append]; rw[AtU r]
section
variable {h:Mem}{ρ:Own}{sto:List Blk}{w:World}{P:Program}
end
end Go.Av
namespace Go.Av
open Go Go.RowKit
variable [Tr]
section
variable {h:Mem}{ρ ρ':Own}{sto sto':List Blk}{w:World}{P:Program}
theorem BkY{id id':Nat}{blk:Blk}(h1:sto[id]? = some blk)(h2:sto'[id']? = some blk)(e:ρ' id'=ρ id){v:Value}{a b c:Nat}(l:LfC ρ sto v (.sl id a b c)):LfC ρ' sto' v (.sl id' a b c):=by
 simp only[LfC,h1,h2,e]at l |-;exact l
variable {c:Cx}{e:Env}{s:List Blk}
theorem A0I{f:FuncId}{args:List AV}{n es:Nat}{l:List AV}(hn:n=l.length)(hf:(flat l).all frozen=true)(hc:Ct P f args [] (fun r s=>r=.sl 0 0 n n/\s=[.arr es l])):Pc P f args (· = .fz es l):=by
 subst hn;refine AbI ⟨hc.1,fun h ρ w vs hm hv=>(hc.2 h ρ w vs hm hv).mono ?_⟩;rintro en w' ⟨v,r,s,h',ρ',rfl,⟨rfl,rfl⟩,m',l',rv⟩;obtain⟨h2,ρ2,m2,l2,key⟩:=m'.freeze (id:=0) rfl hf;have:=key v 0 l.length l.length (AbU rv).2 (by simp) (Nat.le_refl _);rw[List.drop_zero,List.take_length]at this;exact⟨v,_,_,h2,ρ2,rfl,⟨rfl,rfl⟩,m2,l'.trans l2,this⟩
end
end Go.Av
namespace Go.Av
open Go Go.RowKit
variable [Tr]
abbrev Std:=Nat->Option Obj
def AtV(g:Std)(w:World):Prop:=∀ k o,g k=some o->w.heap[k]? = some o
def Le(g:Std)(w:World)(ρ:Own):Prop:=∀ k o,g k=some o->w.heap[k]? = some o/\∀ i t,ρ i≠some (k,t)
theorem Le.later{g:Std}{h h':Mem}{ρ ρ':Own}{sto sto':List Blk}{w w':World}(a:Le g w ρ)(x:Later h ρ sto w h' ρ' sto' w'):Le g w' ρ':=fun k o e=>by
 obtain⟨h1,h2⟩:=a k o e;have hk:k<w.heap.size:=(Array.getElem?_eq_some_iff.1 h1).1;refine⟨(x.block k hk h2).trans h1,fun i t hi=>?_⟩
 rcases x.newown i k t hi with⟨j,t',hj⟩|hs
 .exact h2 j t' hj
 .omega
def CtH(P:Program)(g:Std)(f:FuncId)(args:List AV)(sto:List Blk)(post:AV->List Blk->Prop):Prop :=
 AaB P f=true/\∀ h ρ w vs,Le g w ρ->Mine h ρ sto w->RL h (Lf ρ sto) false vs args->Calls P f vs.toArray w fun en w' =>
  ∃ v r s h' ρ',en=.returned v/\post r s/\Mine h' ρ' s w'/\Later h ρ sto w h' ρ' s w'/\RV h' (Lf ρ' s) false v r
def PcH(P:Program)(g:Std)(f:FuncId)(args:List AV)(post:AV->Prop):Prop :=
 AaB P f=true/\∀ h w vs,AtV g w->(∀ b o v,h b o=some v->w.cell? ⟨b,o,none⟩=some v/\v.oneCell'=true)->RL h Lf0 true vs args->Calls P f vs.toArray w fun en w' =>
  ∃ v r h',en=.returned v/\post r/\(∀ b o v,h' b o=some v->w'.cell? ⟨b,o,none⟩=some v/\v.oneCell'=true)/\(∀ b o v,h b o=some v->h' b o=some v) /\
   (∀ b o,h b o=none->h' b o≠none->w.heap.size<=b)/\Same w w'/\RV h' Lf0 true v r
section
variable {P:Program}{g:Std}
theorem ApE{f:FuncId}{fn:Func}{body:Code}{N:Nat}{args:List AV}{sto:List Blk}{post:AV->List Blk->Prop}(hf:P.funcs[f]? = some fn)(hb:fn.body=some body)(hn:fn.ntmps=N)(hx:AaB P f=true)
  (ha:args.length<=N) (h:∀ h ρ w,Le g w ρ->Mine h ρ sto w->AWp ⟨P,fn,h,ρ,sto,w,post,X0,stb0⟩ [.code body] (args0 0 args) sto):CtH P g f args sto post:=by
 refine⟨hx,fun hh ρ w vs hg hm hv=>?_⟩;refine calls_of_wp hf hb ?_;have hlen:=hv.length;have hsim:Sim ⟨P,fn,hh,ρ,sto,w,post,X0,stb0⟩ (args0 0 args) sto { tmps:=vs.toArray++Array.replicate (fn.ntmps-vs.toArray.size) undef,defers:=[] } w:=by
  refine⟨hh,ρ,hm,.refl ..,fun t=>?_,rfl,by simp; omega,trivial⟩;rw[AfJ];simp only[Nat.zero_le,if_true,Nat.sub_zero];have h1:=hv.getD t undef
  by_cases ht:t<vs.length
  .have:(vs.toArray++Array.replicate (fn.ntmps-vs.toArray.size) undef).getD t undef=vs.getD t undef:=by
    simp[Array.getElem?_append,ht,List.getD]
   simp only[this]; exact h1
  .have:args.getD t .any=.any:=by simp[List.getD,List.getElem?_eq_none (by omega:args.length<=t)]
   rw[this]; exact .any _
 have:=h hh ρ w hg hm _ w hsim;refine Code.wp_mono ?_ (show body.wp P (WQ ⟨P,fn,hh,ρ,sto,w,post,X0,stb0⟩ []) _ w from this);intro en a' w' hq
 cases en with
 | normal=>obtain⟨hd,v,r,s,h',ρ',h1,h2⟩:=hq; exact⟨hd,v,h1,v,r,s,h',ρ',rfl,h2⟩
 | ret=>obtain⟨hd,v,r,s,h',ρ',h1,h2⟩:=hq; exact⟨hd,v,h1,v,r,s,h',ρ',rfl,h2⟩
 | _=>exact hq.elim
theorem AcT{f:FuncId}{fn:Func}{body:Code}{N:Nat}{args:List AV}{sto:List Blk}{post:AV->List Blk->Prop}(hf:P.funcs[f]? = some fn)(hb:fn.body=some body)(hn:fn.ntmps=N)(hx:AaB P f=true)
  (ha:args.length<=N) (h:∀ h ρ w,Le g w ρ->AWp ⟨P,fn,h,ρ,sto,w,post,X0,stb0⟩ [.code body] (args0 0 args) sto):CtH P g f args sto post:=ApE hf hb hn hx ha fun hh ρ w hg _=>h hh ρ w hg
theorem AcB{f:FuncId}{args:List AV}{post:AV->Prop}(hc:CtH P g f args [] (fun r _=>post r/\nr2 r=true)):PcH P g f args post:=by
 refine⟨hc.1,fun h w vs hg hm hv=>?_⟩;have hmine:Mine h (fun _=>none) [] w:=⟨hm,fun id blk e=>by simp at e,fun _ _=>rfl,fun i j g t t' e=>by simp at e,fun i g t e=>by simp at e⟩;refine(hc.2 h (fun _=>none) w vs (fun k o e=>⟨hg k o e,fun i t hi=>by simp at hi⟩) hmine (hv.thaw (fun _ _ _ x=>x))).mono ?_;rintro en w' ⟨v,r,s,h',ρ',rfl,⟨hp,hn⟩,hm',hl,rv⟩;exact⟨v,r,h',rfl,hp,hm'.mem,hl.hle,fun b o e n=>by
  rcases hl.hnew b o e n with⟨j,t,hj⟩|hs
  .simp at hj
  .exact hs,⟨hl.os,hl.tape,hl.output,hl.size,fun k hk=>hl.block k hk (fun i t e=>by simp at e)⟩,A0G rv hn⟩
theorem PcH.cth{f:FuncId}{args:List AV}{post:AV->Prop}(hc:PcH P g f args post)(ha:args.all nr1=true)(sto:List Blk):CtH P g f args sto (fun r s=>post r/\s=sto):=by
 refine⟨hc.1,fun h ρ w vs hg hm hv=>?_⟩;refine(hc.2 h w vs (fun k o e=>(hg k o e).1) hm.mem (AhY hv ha)).mono ?_;rintro en w' ⟨v,r,h',rfl,hp,hm',hle,hnew,hs,rv⟩;refine⟨v,r,sto,h',ρ,rfl,⟨hp,rfl⟩,⟨hm',?_,hm.out,hm.inj,?_⟩,⟨hle,fun b o e n=>.inr (hnew b o e n),fun _ _ x=>x,hs.os,hs.tape,hs.output,hs.size,fun k hk _=>hs.block k hk,fun i _ t x=>.inl ⟨i,t,x⟩⟩,rv.thaw (fun _ _ _ x=>x)⟩
 .exact fun id blk e=>(hm.own id blk e).mono hle (fun _ _ x=>x) rfl (fun g t hg=>hs.block g (hm.lt hg))
 .intro i g t e o
  have hlt:=hm.lt e;have hd:=hm.disj i g t e o
  cases hq:h' g o with
  | none=>rfl
  | some v=>have:=hnew g o hd (by simp[hq]); omega
variable {c:Cx}{k:List It}{e:Env}{s:List Blk}
theorem A0J(hg:Le g c.w c.ρ){f:FuncId}{args:List AV}{d:Option Tmp}{all os:List Oper}{post:AV->List Blk->Prop}(hc:CtH c.P g f args s post){N:Nat}(hN:c.fn.ntmps=N)(hd:dOk N d=true)
  (hk:∀ r s',post r s'->AWp c (.ops all os::k) (put e d r) s'):AdL c f args d all os k e s:=by
 intro a w h ρ vs hm hl he hdf hsz hX hv;refine⟨hc.1,(hc.2 h ρ w vs (hg.later hl) hm hv).mono ?_⟩;rintro en w' ⟨v,r,s',h',ρ',rfl,hp,hm',hlt,rv⟩;have he':EnvOk h' ρ' s' e a:=fun t=>(he t).mono hlt.hle hlt.keep
 exact hk r s' hp _ _ ⟨h',ρ',hm',hl.trans hlt,he'.put (by rw[hsz,hN]; exact hd) rv,by rw[AaE]; exact hdf,by rw[AaQ]; exact hsz,c.hx.later hm hlt hX⟩
theorem AtW(hg:Le g c.w c.ρ){f:FuncId}{args:List AV}{d:Option Tmp}{all os:List Oper}{post:AV->Prop}(hc:PcH c.P g f args post)(ha:args.all nr1=true){N:Nat}(hN:c.fn.ntmps=N)(hd:dOk N d=true)
  (hk:∀ r,post r->AWp c (.ops all os::k) (put e d r) s):AdL c f args d all os k e s :=
 A0J hg (hc.cth ha s) hN hd fun r s' ⟨hp,hs⟩=>by subst hs; exact hk r hp
theorem ArJ(hg:Le g c.w c.ρ){f:FuncId}{args:List AV}{d:Option Tmp}{all os:List Oper}{r:AV}(hc:PcH c.P g f args (· = r))(ha:args.all nr1=true){N:Nat}(hN:c.fn.ntmps=N)(hd:dOk N d=true)
  (hk:AWp c (.ops all os::k) (put e d r) s):AdL c f args d all os k e s :=
 AtW hg hc ha hN hd fun r' hr=>by subst hr; exact hk
theorem PcH.at(hg:Le g c.w c.ρ){f:FuncId}{args:List AV}{cv:AV}(hc:PcH c.P g f args (· = cv)):PcAt c f args cv :=
 ⟨hc.1,fun h w vs hb m r=>hc.2 h w vs (fun k o e=>by
  obtain⟨h1,h2⟩:=hg k o e;exact(hb k (Array.getElem?_eq_some_iff.1 h1).1 h2).trans h1) m r⟩
theorem PcH.mono{f:FuncId}{args:List AV}{post post':AV->Prop}(hc:PcH P g f args post)(hp:∀ r,post r->post' r):PcH P g f args post' :=
 ⟨hc.1,fun h w vs hg hm hv=>(hc.2 h w vs hg hm hv).mono fun _ _ ⟨v,r,h',a,b,rest⟩=>⟨v,r,h',a,hp r b,rest⟩⟩
def McH(P:Program)(g:Std)(f:FuncId)(e:Nat)(agg:AV)(args:List AV)(post:AV->AV->Prop):Prop :=
 CtH P g f (.ptr 0 1 0 0::args) [.arr e [agg]] (fun r s=>∃ agg' junk,s=.arr e [agg']::junk/\post r agg'/\nr2 r=true/\nr1 agg'=true)
section
variable {h:Mem}{ρ:Own}{sto:List Blk}{w:World}
theorem McH.ct{f:FuncId}{e:Nat}{agg:AV}{args:List AV}{post:AV->AV->Prop}(hc:McH P g f e agg args post)(ha:args.all nr1=true)(hg:nr1 agg=true){id:Nat}(hid:sto[id]? = some (.arr e [agg])) :
  CtH P g f (.ptr id 1 0 0::args) sto (fun r s=>∃ agg',post r agg'/\nr1 agg'=true/\s=sto.set id (.arr e [agg'])):=by
 refine⟨hc.1,fun h ρ w vs hg0 m hv=>?_⟩
 cases hv with
 | @cons _ v0 _ vs _ r0 rs =>
  have hl:=(AcM r0).2;simp only[LfC,hid]at hl;obtain⟨_,gb,tot,h1,h2⟩:=hl.2 rfl;have hown:=m.own id _ hid
  rcases hown with⟨hn,_⟩|⟨g',tot',cur,tt,i3,i4,i5,i6,i7,i8,i9,i10,i11⟩
  .simp at hn
  rw[h1]at i3;simp only[Option.some.injEq,Prod.mk.injEq]at i3;obtain⟨rfl,rfl⟩:=i3
  let ρ0:Own:=fun i=>if i=0 then some (gb,tot) else none
  have hρ0:∀ i b t,ρ0 i=some (b,t)->i=0/\b=gb/\t=tot:=by
   intro i b t hh;simp only[ρ0]at hh
   split at hh
   .rename_i hi; simp at hh; exact⟨hi,hh.1.symm,hh.2.symm⟩
   .simp at hh
  have m0:Mine h ρ0 [.arr e [agg]] w:=by
   refine⟨m.mem,?_,?_,?_,?_⟩
   .intro i blk hb
    match i,hb with
    | 0,hb =>
     simp at hb; subst hb
     refine .inr ⟨gb,tot,cur,tt,rfl,i4,i5,i6,i7,i8,i9,i10,?_⟩;simp only[flat,List.append_nil]at i11 |-;exact(AiA hg i11 (Lf':=Lf ρ0 [.arr e [agg]])).thaw (fun _ _ _ x=>x)
    | i+1,hb=>simp at hb
   .intro i hi
    simp at hi
    simp[ρ0]; omega
   .intro i j b t t' hi hj
    rw[(hρ0 i b t hi).1,(hρ0 j b t' hj).1]
   .intro i b t hi o
    obtain⟨_,rfl,_⟩:=hρ0 i b t hi;exact m.disj id _ _ h1 o
  have hp0:RV h (Lf ρ0 [.arr e [agg]]) false v0 (.ptr 0 1 0 0):=by
   refine .leaf ⟨(AcM r0).1,?_⟩;simp only[LfC,List.getElem?_cons_zero];exact⟨by simp,fun _=>⟨by omega,gb,tot,rfl,h2⟩⟩
  refine(hc.2 h ρ0 w (v0::vs) (fun k o e=>⟨(hg0 k o e).1,fun i t hi=>by obtain⟨_,rfl,_⟩:=hρ0 i k t hi; exact(hg0 k o e).2 id tot h1⟩) m0 (.cons hp0 ((AhY rs ha (Lf':=Lf ρ0 [.arr e [agg]])).thaw (fun _ _ _ x=>x)))).mono ?_;rintro en w' ⟨v,r,s',h',ρ',rfl,⟨agg',junk,rfl,hp,hnr,hna⟩,m',l',rv⟩;have hk1:=l'.keep (.slice (some ⟨gb,0*e,none⟩) 1 (tot-0)) (.sl 0 0 1 1) ⟨rfl,by simp[LfC,ρ0]⟩;have hρ':ρ' 0=some (gb,tot):=by
   have hk:=hk1.2;simp only[LfC,List.getElem?_cons_zero]at hk
   rcases hk.2 (by simp)with⟨hh,_⟩|⟨g',t',e1,e2,_⟩
   .simp at hh
   .simp at e2
    rw[e1,e2.1,e2.2]
  have hset:∀ v a,Lf ρ sto v a->Lf ρ (sto.set id (.arr e [agg'])) v a:=fun v a lf=>⟨lf.1,AbT hid (fun _ _=>rfl) (Or.inl ⟨rfl,rfl,rfl⟩:(_/\_/\_)\/_) lf.2⟩
  have hlt:=(List.getElem?_eq_some_iff.1 hid).1;refine⟨v,r,_,h',ρ,rfl,⟨agg',hp,hna,rfl⟩,⟨m'.mem,?_,?_,m.inj,?_⟩,⟨l'.hle,?_,hset,l'.os,l'.tape,l'.output,l'.size,?_,fun i _ t x=>.inl ⟨i,t,x⟩⟩,(A0G rv hnr (Lf':=Lf0)).thaw (fun _ _ _ x=>x)⟩
  .intro j blk hb
   by_cases hj:j=id
   .subst hj
    simp[hlt]at hb
    subst hb
    rcases m'.own 0 _ rfl with⟨hn,_⟩|⟨g2,tot2,cur2,tt2,k3,k4,k5,k6,k7,k8,k9,k10,k11⟩
    .simp at hn
    rw[hρ']at k3;simp only[Option.some.injEq,Prod.mk.injEq]at k3;obtain⟨rfl,rfl⟩:=k3;refine .inr ⟨gb,tot,cur2,tt2,h1,k4,k5,k6,k7,k8,k9,k10,?_⟩;simp only[flat,List.append_nil]at k11 |-;exact(AiA hna k11 (Lf':=Lf0)).thaw (fun _ _ _ x=>x)
   .rw [List.getElem?_set_ne (Ne.symm hj)]at hb
    refine(m.own j blk hb).mono l'.hle hset rfl (fun gj t hgj=>l'.block gj (m.lt hgj) fun i t' hi=>?_);obtain⟨_,rfl,_⟩:=hρ0 i gj t' hi;exact hj (m.inj j id _ _ _ hgj h1)
  .intro i hi
   simp at hi
   exact m.out i hi
  .intro i gi t hi o
   by_cases hj:i=id
   .subst hj
    rw[h1]at hi;simp only[Option.some.injEq,Prod.mk.injEq]at hi;obtain⟨rfl,rfl⟩:=hi;exact m'.disj 0 _ _ hρ' o
   .have hd:=m.disj i gi t hi o
    cases hq:h' gi o with
    | none=>rfl
    | some u =>
     rcases l'.hnew gi o hd (by simp[hq])with⟨j,t',hj'⟩|hs
     .obtain ⟨_,rfl,_⟩:=hρ0 j gi t' hj'
      exact(hj (m.inj i id _ _ _ hi h1)).elim
     .have:=m.lt hi; omega
  .intro b o hb hb'
   rcases l'.hnew b o hb hb' with⟨j,t',hj'⟩|hs
   .obtain ⟨_,rfl,_⟩:=hρ0 j b t' hj'
    exact .inl ⟨id,_,h1⟩
   .exact .inr hs
  .intro k hk hno
   exact l'.block k hk fun i t hi=>by
    obtain⟨_,rfl,_⟩:=hρ0 i k t hi;exact hno id _ h1
end
theorem BkZ(hg:Le g c.w c.ρ){f:FuncId}{es:Nat}{agg:AV}{args:List AV}{d:Option Tmp}{all os:List Oper}{post:AV->AV->Prop}(hc:McH c.P g f es agg args post)(ha:args.all nr1=true)(hgg:nr1 agg=true){id:Nat}(hid:s[id]? = some (.arr es [agg])){N:Nat}(hN:c.fn.ntmps=N)(hd:dOk N d=true)
  (hk:∀ r agg',post r agg'->AWp c (.ops all os::k) (put e d r) (s.set id (.arr es [agg']))):AdL c f (.ptr id 1 0 0::args) d all os k e s :=
 A0J hg (hc.ct ha hgg hid) hN hd fun r s' ⟨agg',hp,_,hs⟩=>by subst hs; exact hk r agg' hp
end
end Go.Av
namespace Go.Av
open Go Go.RowKit
variable [Tr]
def sideIs:Res->AV->Prop
 | .side p u,v=>p/\v=u
 | _,_=>False
def BcA(P:Program)(e:Env)(s:List Blk):List ResultVar->List AV->Prop
 | [],[]=>True
 | .tmp t::r,v::l=>v=get e t/\BcA P e s r l
 | .cell a t::r,v::l=>sideIs (xload (P.underlying t) (tsize P t) s (get e a)) v/\BcA P e s r l
 | _,_=>False
def resT:List AV->AV
 | [v]=>v
 | l=>.tup l
theorem AtX{P:Program}{w:World}{t:TypeId}{u v:Value}(h:(Instr.loadAt t u).run P w=.ok v w):(do loadVar t (<- asAddr u):Sem Value).run P w=.ok v w:=by
 cases u with
 | pointer a =>
  cases a with
  | some a=>exact h
  | none=>simp[Instr.loadAt,Instr.sureAddr,stuck]at h
 | _=>simp[Instr.loadAt,Instr.sureAddr,stuck]at h
section
variable {c:Cx}{e:Env}{s:List Blk}
def resF(tmps:Array Value):ResultVar->Sem Value
 | .tmp t=>pure (tmps.getD t undef)
 | .cell a t=>do loadVar t (<- asAddr (tmps.getD a undef))
theorem AeR{h:Mem}{ρ:Own}{a:Act}{w:World}(m:Mine h ρ s w)(he:EnvOk h ρ s e a):∀ {rs:List ResultVar}{vals:List AV},BcA c.P e s rs vals ->
  ∃ vs:List Value,(rs.mapM (resF a.tmps)).run c.P w=.ok vs w/\RL h (Lf ρ s) false vs vals
 | [],[],_=>⟨[],by rw[List.mapM_nil,Sem.run_pure],.nil⟩
 | .tmp t::r,v::l,hv=>by
  obtain⟨rfl,hr⟩:=hv;obtain⟨vs,h1,h2⟩:=AeR m he hr;refine⟨a.tmps.getD t undef::vs,?_,.cons (he t) h2⟩;rw[List.mapM_cons,Sem.run_bind];simp only[resF,Sem.run_pure,Result.andThen_ok,Sem.run_bind,h1]
 | .cell b t::r,v::l,hv=>by
  obtain⟨h0,hr⟩:=hv;obtain⟨vs,h1,h2⟩:=AeR m he hr;have hl:=BbH (P:=c.P) (t:=t) m (he b);unfold sideIs at h0
  revert h0 hl
  cases xload (c.P.underlying t) (tsize c.P t) s (get e b) <;> intro h0 hl <;> try exact h0.elim
  obtain⟨hp,rfl⟩:=h0;obtain⟨u,hu,ru⟩:=hl hp;have hu':=AtX hu;refine⟨u::vs,?_,.cons ru h2⟩;rw[List.mapM_cons,Sem.run_bind];have hf:(resF a.tmps (.cell b t)).run c.P w=.ok u w:=hu';simp only[hf,Result.andThen_ok,Sem.run_bind,h1,Sem.run_pure]
 | [],_::_,hv=>hv.elim
 | .tmp _::_,[],hv=>hv.elim
 | .cell _ _::_,[],hv=>hv.elim
def tupV:List Value->Value
 | [v]=>v
 | l=>.tuple l.toArray
theorem A3B{fn:Func}(rs:List ResultVar)(hr:fn.results=rs.toArray)(tmps:Array Value){P:Program}{w:World}{vs:List Value}(h:(rs.mapM (resF tmps)).run P w=.ok vs w) :
  (results fn tmps).run P w=.ok (tupV vs) w:=by
 have e:results fn tmps=(do let vs <- fn.results.mapM (resF tmps); pure (if h:vs.size=1 then vs[0] else .tuple vs):Sem Value):=rfl;rw[e,hr,Sem.run_bind,List.mapM_toArray]
 erw [Sem.run_bind]
 rw[h];clear h
 match vs with
 | []=>rfl
 | [v]=>rfl
 | v::u::r=>simp[Result.andThen,Sem.pure,tupV]
theorem AbG(rs:List ResultVar)(hr:c.fn.results=rs.toArray)(vals:List AV)(hv:BcA c.P e s rs vals)(hp:c.post (resT vals) s):ARet c e s:=by
 rintro a w ⟨hh,ρ,hm,hl,he,hdf,hsz,_⟩;obtain⟨vs,h1,h2⟩:=AeR (c:=c) hm he hv;refine⟨hdf,tupV vs,resT vals,s,hh,ρ,?_,hp,hm,hl,?_⟩
 .exact A3B rs hr _ h1
 .cases h2 with
  | nil=>exact .tup _ _ .nil
  | cons r1 r2 =>
   cases r2 with
   | nil=>exact r1
   | cons r2 r3=>exact .tup _ _ (.cons r1 (.cons r2 r3))
end
end Go.Av
namespace Go.Av
open Go Go.RowKit
structure Fr(w w':World)(b:Nat)(r:Option Nat):Prop where
 os:w'.os=w.os
 tape:w'.tape=w.tape
 output:w'.output=w.output
 size:w.heap.size<=w'.heap.size
 block:∀ k,k<w.heap.size->k≠b->some k≠r->w'.heap[k]? = w.heap[k]?
def Lone(h:Mem)(ρ:Own)(b:Nat):Prop:=(∀ i t,ρ i≠some (b,t))/\∀ o,h b o=none
def rowOf(w:World)(b:Nat):Option Nat:=(w.cell? ⟨b,1,none⟩).bind Value.ownBlock
def BldA(T e:TypeId)(B b:Nat)(l:List UInt8)(h:Mem)(ρ:Own)(w:World):Prop :=
 Lib.IsBuilder T e B b (Lib.byteCells l) w/\Lone h ρ b/\∀ r,rowOf w b=some r->Lone h ρ r
section
variable {h h':Mem}{ρ ρ':Own}{sto sto':List Blk}{w w':World}{T e:TypeId}{B b:Nat}{l:List UInt8}
theorem Lone.later(m:Mine h ρ sto w)(x:Later h ρ sto w h' ρ' sto' w'){k:Nat}(hk:k<w.heap.size)(a:Lone h ρ k):Lone h' ρ' k:=by
 refine⟨fun i t hi=>?_,fun o=>?_⟩
 .rcases x.newown i k t hi with⟨j,t',hj⟩|hs
  .exact a.1 j t' hj
  .omega
 .cases hq:h' k o with
  | none=>rfl
  | some v =>
   rcases x.hnew k o (a.2 o) (by simp[hq])with⟨j,t',hj⟩|hs
   .exact (a.1 j t' hj).elim
   .omega
theorem AmE(hb:Lib.IsBuilder T e B b (Lib.byteCells l) w):∃ p v,(p=.pointer none\/p=.pointer (some ⟨b,0,none⟩))/\B<=b/\w.heap[b]? = some (.cells #[p,v] T (0,0))/\w.ownsRow B e 1 v (Lib.byteCells l).length (Lib.byteCells l)/\v.ownBlock≠some b /\
  rowOf w b=v.ownBlock:=by
 rcases hb with⟨h1,v,h2,h3,h4⟩|⟨h1,v,h2,h3,h4⟩
 .exact ⟨_,v,.inl rfl,h1,h2,h3,h4,by simp[rowOf,World.cell?,h2]⟩
 .exact ⟨_,v,.inr rfl,h1,h2,h3,h4,by simp[rowOf,World.cell?,h2]⟩
theorem BfQ{p v:Value}(hp:p=.pointer none\/p=.pointer (some ⟨b,0,none⟩))(h1:B<=b)(h2:w.heap[b]? = some (.cells #[p,v] T (0,0)))(h3:w.ownsRow B e 1 v (Lib.byteCells l).length (Lib.byteCells l))(h4:v.ownBlock≠some b) :
  Lib.IsBuilder T e B b (Lib.byteCells l) w:=by
 rcases hp with rfl|rfl
 .exact .inl ⟨h1,v,h2,h3,h4⟩
 .exact .inr ⟨h1,v,h2,h3,h4⟩
theorem AtY{v:Value}{n:Nat}{xs:List Value}(hr:∀ k,v.ownBlock=some k->w'.heap[k]? = w.heap[k]?)(x:w.ownsRow B e 1 v n xs):w'.ownsRow B e 1 v n xs:=by
 refine⟨x.1,?_⟩
 rcases x.2 with h|⟨g,cap,cur,rfl,h2,h3,h4⟩
 .exact .inl h
 .exact .inr ⟨g,cap,cur,rfl,h2,(hr g rfl).trans h3,h4⟩
theorem A6K(T e:TypeId)(B b:Nat)(l:List UInt8):Stb (BldA T e B b l) where
 later:=by
  rintro h ρ sto w h' ρ' sto' w' m x ⟨h1,h2,h3⟩;obtain⟨p,v,p1,p2,p3,p4,p5,p6⟩:=AmE h1;have hb:b<w.heap.size:=(Array.getElem?_eq_some_iff.1 p3).1;have hrow:∀ k,v.ownBlock=some k->k<w.heap.size/\Lone h ρ k:=fun k hk=>⟨(p4.lt k hk).2,h3 k (by rw[p6]; exact hk)⟩
  have e1:w'.heap[b]? = w.heap[b]?:=x.block b hb h2.1;have e2:∀ k,v.ownBlock=some k->w'.heap[k]? = w.heap[k]?:=fun k hk=>x.block k (hrow k hk).1 (hrow k hk).2.1
  have p3':=e1.trans p3;refine⟨BfQ p1 p2 p3' (AtY e2 p4) p5,h2.later m x hb,fun r hr=>?_⟩;have:rowOf w' b=v.ownBlock:=by simp[rowOf,World.cell?,p3']
  rw[this]at hr;exact(hrow r hr).2.later m x (hrow r hr).1
 fewer:=by
  rintro h ρ ρ' w hf ⟨h1,h2,h3⟩;have key:∀ k,Lone h ρ k->Lone h ρ' k:=fun k a=>⟨fun i t hi=>by
   obtain⟨j,t',hj⟩:=hf i k t hi;exact a.1 j t' hj,a.2⟩
  exact⟨h1,key b h2,fun r hr=>key r (h3 r hr)⟩
theorem WQ_x(c:Cx)(x:Mem->Own->World->Prop)(hx:Stb x):∀ k,WQ { c with x:=x,hx:=hx } k=WQ c k
 | []=>by funext ex a w; cases ex <;> rfl
 | y::k=>by
  have ih:=WQ_x c x hx k
  funext ex a w
  cases ex <;> cases y <;> simp only[WQ,ih]
variable {c:Cx}{k:List It}{en:Env}{s:List Blk}
theorem BlA{o:Oper}{all os:List Oper}{t:Tmp}{i:TypeInfo}(ho:o.op=.alloc T)(hg:o.guard=none)(hd:o.dst=some t){N:Nat}(hN:c.fn.ntmps=N)(hdt:t<N)(hi:c.P.info? T=some i)
  (hz:i.zero=some (.agg #[.pointer none,.slice none 0 0])) (e:TypeId)
  (hk:∀ b,c.w.heap.size<=b->AWp { c with x:=BldA T e c.w.heap.size b [],hx:=A6K T e c.w.heap.size b [] } (.ops all os::k) (put en (some t) (.raw (.pointer (some ⟨b,0,none⟩)))) s) :
  AWp c (.ops all (o::os)::k) en s:=by
 rintro a w ⟨h,ρ,hm,hl,he,hdf,hsz,hX⟩;have hr:(execOp a.eval o).run c.P w=.ok (.value (.pointer (some ⟨w.heap.size,0,none⟩))) (w.alloc (.cells #[.pointer none,.slice none 0 0] T)):=by
  simp[execOp,ho,Instr.alloc,zeroValue,typeInfo,hi,hz,newVar,newRow,Value.cells]
 have sm:=Same.alloc w (.cells #[.pointer none,.slice none 0 0] T);have hb:(w.alloc (.cells #[.pointer none,.slice none 0 0] T)).heap[w.heap.size]? = some (.cells #[.pointer none,.slice none 0 0] T (0,0)):=heap_alloc_new w _;have hlone:Lone h ρ w.heap.size:=⟨fun i t hi=>by have:=hm.lt hi; omega,fun o=>by
  cases hq:h w.heap.size o with
  | none=>rfl
  | some v=>have:=hm.memlt hq; omega⟩
 have hbld:BldA T e c.w.heap.size w.heap.size [] h ρ (w.alloc (.cells #[.pointer none,.slice none 0 0] T)):=by
  refine⟨BfQ (.inl rfl) hl.size hb ⟨rfl,.inl ⟨rfl,rfl⟩⟩ (by simp[Value.ownBlock]),hlone,fun r hr=>?_⟩;have h0:rowOf (w.alloc (.cells #[.pointer none,.slice none 0 0] T)) w.heap.size=none:=by
   simp only[rowOf,World.cell?,hb]; rfl
  rw[h0]at hr
  cases hr
 have:=hk w.heap.size hl.size (a.put (some t) (.pointer (some ⟨w.heap.size,0,none⟩))) (w.alloc (.cells #[.pointer none,.slice none 0 0] T))
  ⟨h,ρ,hm.same sm,hl.trans (Later.same sm),he.put (by rw[hsz,hN]; simpa[dOk]using hdt) (.raw _),by rw[AaE]; exact hdf,by rw[AaQ]; exact hsz,hbld⟩
 rw[WQ_x]at this
 show wpList c.P all.toArray (WQ c k) (o::os) a w
 unfold wpList;rw[if_pos (by simp[Region.wanted,hg])];refine .inl ?_;unfold Oper.wp;rw[hr]
 show wpList c.P all.toArray (WQ c k) os (a.put o.dst _) _
 rw[hd];exact this
theorem Mine.fr(m:Mine h ρ sto w){r:Option Nat}(f:Fr w w' b r)(hb:Lone h ρ b)(hr:∀ k,r=some k->Lone h ρ k):Mine h ρ sto w':=by
 have hne:∀ k,(∃ i t,ρ i=some (k,t))\/(∃ o v,h k o=some v)->k≠b/\some k≠r:=by
  intro k hk;refine⟨fun e=>?_,fun e=>?_⟩
  .subst e
   rcases hk with⟨i,t,hi⟩|⟨o,v,ho⟩
   .exact hb.1 i t hi
   .rw [hb.2 o]at ho; cases ho
  .have hl:=hr k e.symm
   rcases hk with⟨i,t,hi⟩|⟨o,v,ho⟩
   .exact hl.1 i t hi
   .rw [hl.2 o]at ho; cases ho
 refine⟨fun k o v e=>?_,fun id blk e=>?_,m.out,m.inj,m.disj⟩
 .obtain ⟨h1,h2⟩:=hne k (.inr ⟨o,v,e⟩)
  exact⟨(World.cell?_of_block (f.block k (m.memlt e) h1 h2)).trans (m.mem k o v e).1,(m.mem k o v e).2⟩
 .exact (m.own id blk e).mono (fun _ _ _ x=>x) (fun _ _ x=>x) rfl (fun g t hg=>f.block g (m.lt hg) (hne g (.inl ⟨id,t,hg⟩)).1 (hne g (.inl ⟨id,t,hg⟩)).2)
def A6L(P:Program)(f:FuncId)(T e:TypeId):Prop:=AaB P f=true/\∀ (B b:Nat)(bs:List Value)(s:ByteArray)(w:World),Lib.IsBuilder T e B b bs w->bs.length+s.size<=140737488355328->B<=w.heap.size ->
 Calls P f #[.pointer (some ⟨b,0,none⟩),.string s] w fun en w'=>en=.returned (.tuple #[.int .i64 s.size,.nilIface])/\Lib.BuilderAt T e B b (.pointer (some ⟨b,0,none⟩)) (bs++Lib.strCells s) w'/\Fr w w' b (rowOf w b) /\
  ∀ r,rowOf w' b=some r->rowOf w b=some r\/w.heap.size<=r
theorem A0K{f:FuncId}(hw:A6L c.P f T e){x:List UInt8}{d:Option Tmp}{all os:List Oper}(hx:c.x=BldA T e B b l)(hB:B=c.w.heap.size){N:Nat}(hN:c.fn.ntmps=N)(hd:dOk N d=true)(hlen:l.length+x.length<=140737488355328)
  (hk:AWp { c with x:=BldA T e B b (l++x),hx:=A6K T e B b (l++x) } (.ops all os::k) (put en d (.tup [.int .i64 x.length,.raw .nilIface])) s) :
  AdL c f [.raw (.pointer (some ⟨b,0,none⟩)),.str x] d all os k en s:=by
 intro a w h ρ vs hm hl he hdf hsz hX hv;rw[hx]at hX;obtain⟨h1,h2,h3⟩:=hX;refine⟨hw.1,?_⟩;have hvs:vs=[.pointer (some ⟨b,0,none⟩),.string ⟨x.toArray⟩]:=by
  cases hv with|cons r1 r2=>cases r2 with|cons r2 r3=>cases r3; rw[AbF r1,AaW r2]
 subst hvs;obtain⟨p,v,p1,p2,p3,p4,p5,p6⟩:=AmE h1;refine(hw.2 B b _ ⟨x.toArray⟩ w h1 (by rw[Lib.byteCells_length]; exact hlen) (by have:=hl.size; omega)).mono ?_;rintro en' w' ⟨rfl,hb,hf,hnew⟩;have hm':=hm.fr hf h2 h3;have hrow:∀ r,rowOf w b=some r->B<=r:=fun r hr=>by rw[p6]at hr; exact(p4.lt r hr).1
 have hl':Later c.h c.ρ c.sto c.w h ρ s w':=⟨hl.hle,hl.hnew,hl.keep,hf.os.trans hl.os,hf.tape.trans hl.tape,⟨hf.output.trans hl.output.1,trivial⟩,Nat.le_trans hl.size hf.size,fun k' hk' hno=>by
  rw[hf.block k' (Nat.lt_of_lt_of_le hk' hl.size) (by omega) (fun e=>by have:=hrow k' e.symm; omega)];exact hl.block k' hk' hno,hl.newown⟩
 have hcells:Lib.byteCells l++Lib.strCells ⟨x.toArray⟩=Lib.byteCells (l++x):=by simp[Lib.byteCells,Lib.strCells]
 rw[hcells]at hb;have hbd:BldA T e B b (l++x) h ρ w':=by
  have hbi:Lib.IsBuilder T e B b (Lib.byteCells (l++x)) w':=.inr hb;obtain⟨p',v',q1,q2,q3,q4,q5,q6⟩:=AmE hbi;refine⟨hbi,h2,fun r hr=>?_⟩
  rcases hnew r hr with hold|hrs
  .exact h3 r hold
  .exact ⟨fun i t hi=>by have:=hm.lt hi; omega,fun o=>by
    cases hq:h r o with
    | none=>rfl
    | some v=>have:=hm.memlt hq; omega⟩
 have:=hk (a.put d _) w' ⟨h,ρ,hm',hl',he.put (by rw[hsz,hN]; exact hd) (.tup _ _ (.cons (.int _ _) (.cons (.raw _) .nil))),by rw[AaE]; exact hdf,by rw[AaQ]; exact hsz,hbd⟩;rw[WQ_x]at this;exact this
def AxP(P:Program)(f:FuncId)(T e:TypeId):Prop:=AaB P f=true/\∀ (B b:Nat)(l:List UInt8)(w:World),Lib.IsBuilder T e B b (Lib.byteCells l) w->B<=w.heap.size ->
 Calls P f #[.pointer (some ⟨b,0,none⟩)] w fun en w'=>en=.returned (.string ⟨l.toArray⟩)/\Below B w w'
theorem BhV{f:FuncId}(hw:AxP c.P f T e){d:Option Tmp}{all os:List Oper}(hx:c.x=BldA T e B b l)(hB:B=c.w.heap.size)(hs0:c.sto=[])(hm0:Mine c.h c.ρ c.sto c.w){N:Nat}(hN:c.fn.ntmps=N)(hd:dOk N d=true)
  (hk:AWp { c with x:=X0,hx:=stb0 } (.ops all os::k) (put [] d (.str l)) []) :
  AdL c f [.raw (.pointer (some ⟨b,0,none⟩))] d all os k en s:=by
 intro a w h ρ vs hm hl he hdf hsz hX hv;rw[hx]at hX;obtain⟨h1,h2,h3⟩:=hX;refine⟨hw.1,?_⟩;have hvs:vs=[.pointer (some ⟨b,0,none⟩)]:=by
  cases hv with|cons r1 r2=>cases r2; rw[AbF r1]
 subst hvs;refine(hw.2 B b l w h1 (by have:=hl.size; omega)).mono ?_;rintro en' w' ⟨rfl,hb⟩;have hρ0:∀ i,c.ρ i=none:=fun i=>hm0.out i (by rw[hs0]; simp)
 have hcell:∀ k',k'<c.w.heap.size->w'.heap[k']? = c.w.heap[k']?:=fun k' hk'=>by
  rw[hb.block k' (by omega)];exact hl.block k' hk' (fun i t hi=>by rw[hρ0 i]at hi; cases hi)
 have hmine:Mine c.h (fun _=>none) [] w':=by
  refine⟨fun k' o v e'=>?_,fun id blk e'=>by simp at e',fun _ _=>rfl,fun i j g t t' e'=>by simp at e',fun i g t e'=>by simp at e'⟩;exact⟨(World.cell?_of_block (hcell k' (hm0.memlt e'))).trans (hm0.mem k' o v e').1,(hm0.mem k' o v e').2⟩
 have hlat:Later c.h c.ρ c.sto c.w c.h (fun _=>none) [] w':=by
  refine⟨fun _ _ _ x=>x,fun _ _ x y=>(y x).elim,fun v x lf=>?_,hb.os.trans hl.os,hb.tape.trans hl.tape,⟨hb.output.trans hl.output.1,trivial⟩,Nat.le_trans hl.size hb.size,fun k' hk' _=>hcell k' hk',fun i g t e'=>by simp at e'⟩;have:=lf.2;rw[hs0]at this
  cases x <;> simp[LfC]at this
 have:=hk (a.put d (.string ⟨l.toArray⟩)) w' ⟨c.h,fun _=>none,hmine,hlat,?_,by rw[AaE]; exact hdf,by rw[AaQ]; exact hsz,trivial⟩
 .rw [WQ_x]at this
  exact this
 .have he0:EnvOk c.h (fun _=>none) [] [] a:=fun t=>.any _
  exact he0.put (by rw[hsz,hN]; exact hd) (.str _)
end
theorem A0L{c0 c:Cx}{B:Code}{k:List It}{e:Env}{s:List Blk}(hc:c={ c0 with x:=c.x,hx:=c.hx })(h:AHd c B k e s):AWp c (.inv (Hd c0.P B (WQ c0 k))::k) e s:=fun a w hs=>by
 have h1:=h a w hs;have e1:WQ c k=WQ c0 k:=by rw[hc]; exact WQ_x c0 c.x c.hx k
 have e2:c.P=c0.P:=by rw[hc]
 rw[e1,e2]at h1;exact h1
