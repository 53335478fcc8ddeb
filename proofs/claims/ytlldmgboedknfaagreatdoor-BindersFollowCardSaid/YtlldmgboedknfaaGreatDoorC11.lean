/- Calls that change one block of the caller's (a method with a pointer for its receiver). -/
import Derived.Test.YtlldmgboedknfaaGreatDoorC10
set_option linter.unusedSimpArgs false
set_option linter.unusedVariables false
set_option linter.unusedSectionVars false
namespace Go.Av
open Go Go.RowKit
variable [Tr]
section
variable {h:Mem}{ρ:Own}{sto:List Blk}{w:World}{P:Program}
def Mc(P:Program)(f:FuncId)(e:Nat)(agg:AV)(args:List AV)(post:AV->AV->Prop):Prop :=
 Ct P f (.ptr 0 1 0 0::args) [.arr e [agg]] (fun r s=>∃ agg' junk,s=.arr e [agg']::junk/\post r agg'/\nr2 r=true/\nr1 agg'=true)
theorem AjA{fl:Bool}{a:AV}{vs:List Value}(ha:nr1 a=true)(r:RL h (Lf ρ sto) fl vs (cellsOf a)){Lf':Value->AV->Prop}:RL h Lf' true vs (cellsOf a):=by
 cases a with
 | agg l=>exact(AcW r ha).thaw (fun _ _ _ x=>x)
 | _=>exact(AcW r (by simpa[cellsOf,nr1]using ha)).thaw (fun _ _ _ x=>x)
theorem Mc.ct{f:FuncId}{e:Nat}{agg:AV}{args:List AV}{post:AV->AV->Prop}(hc:Mc P f e agg args post)(ha:args.all nr1=true)(hg:nr1 agg=true){id:Nat}(hid:sto[id]? = some (.arr e [agg])) :
  Ct P f (.ptr id 1 0 0::args) sto (fun r s=>∃ agg',post r agg'/\nr1 agg'=true/\s=sto.set id (.arr e [agg'])):=by
 refine⟨hc.1,fun h ρ w vs m hv=>?_⟩
 cases hv with
 | @cons _ v0 _ vs _ r0 rs =>
  have hl:=(AcV r0).2;simp only[LfC,hid]at hl;obtain⟨_,g,tot,h1,h2⟩:=hl.2 rfl;have hown:=m.own id _ hid
  rcases hown with⟨hn,_⟩|⟨g',tot',cur,tt,i3,i4,i5,i6,i7,i8,i9,i10,i11⟩
  .simp at hn
  rw[h1]at i3;simp only[Option.some.injEq,Prod.mk.injEq]at i3;obtain⟨rfl,rfl⟩:=i3
  let ρ0:Own:=fun i=>if i=0 then some (g,tot) else none
  have hρ0:∀ i b t,ρ0 i=some (b,t)->i=0/\b=g/\t=tot:=by
   intro i b t hh;simp only[ρ0]at hh
   split at hh
   .rename_i hi; simp at hh; exact⟨hi,hh.1.symm,hh.2.symm⟩
   .simp at hh
  have m0:Mine h ρ0 [.arr e [agg]] w:=by
   refine⟨m.mem,?_,?_,?_,?_⟩
   .intro i blk hb
    match i,hb with
    | 0,hb =>
     simp at hb; subst hb
     refine .inr ⟨g,tot,cur,tt,rfl,i4,i5,i6,i7,i8,i9,i10,?_⟩;simp only[flat,List.append_nil]at i11 |-;exact(AjA hg i11 (Lf':=Lf ρ0 [.arr e [agg]])).thaw (fun _ _ _ x=>x)
    | i+1,hb=>simp at hb
   .intro i hi
    simp at hi
    simp[ρ0]; omega
   .intro i j b t t' hi hj
    rw[(hρ0 i b t hi).1,(hρ0 j b t' hj).1]
   .intro i b t hi o
    obtain⟨_,rfl,_⟩:=hρ0 i b t hi;exact m.disj id _ _ h1 o
  have hp0:RV h (Lf ρ0 [.arr e [agg]]) false v0 (.ptr 0 1 0 0):=by
   refine .leaf ⟨(AcV r0).1,?_⟩;simp only[LfC,List.getElem?_cons_zero];exact⟨by simp,fun _=>⟨by omega,g,tot,rfl,h2⟩⟩
  refine(hc.2 h ρ0 w (v0::vs) m0 (.cons hp0 ((AiY rs ha (Lf':=Lf ρ0 [.arr e [agg]])).thaw (fun _ _ _ x=>x)))).mono ?_;rintro en w' ⟨v,r,s',h',ρ',rfl,⟨agg',junk,rfl,hp,hnr,hna⟩,m',l',rv⟩;have hk1:=l'.keep (.slice (some ⟨g,0*e,none⟩) 1 (tot-0)) (.sl 0 0 1 1) ⟨rfl,by simp[LfC,ρ0]⟩;have hρ':ρ' 0=some (g,tot):=by
   have hk:=hk1.2;simp only[LfC,List.getElem?_cons_zero]at hk
   rcases hk.2 (by simp)with⟨hh,_⟩|⟨g',t',e1,e2,_⟩
   .simp at hh
   .simp at e2
    rw[e1,e2.1,e2.2]
  have hset:∀ v a,Lf ρ sto v a->Lf ρ (sto.set id (.arr e [agg'])) v a:=fun v a lf=>⟨lf.1,AbT hid (fun _ _=>rfl) (Or.inl ⟨rfl,rfl,rfl⟩:(_/\_/\_)\/_) lf.2⟩
  have hlt:=(List.getElem?_eq_some_iff.1 hid).1;refine⟨v,r,_,h',ρ,rfl,⟨agg',hp,hna,rfl⟩,⟨m'.mem,?_,?_,m.inj,?_⟩,⟨l'.hle,?_,hset,l'.os,l'.tape,l'.output,l'.size,?_,fun i _ t x=>.inl ⟨i,t,x⟩⟩,(A3U rv hnr (Lf':=Lf0)).thaw (fun _ _ _ x=>x)⟩
  .intro j blk hb
   by_cases hj:j=id
   .subst hj
    simp[hlt]at hb
    subst hb
    rcases m'.own 0 _ rfl with⟨hn,_⟩|⟨g2,tot2,cur2,tt2,k3,k4,k5,k6,k7,k8,k9,k10,k11⟩
    .simp at hn
    rw[hρ']at k3;simp only[Option.some.injEq,Prod.mk.injEq]at k3;obtain⟨rfl,rfl⟩:=k3;refine .inr ⟨g,tot,cur2,tt2,h1,k4,k5,k6,k7,k8,k9,k10,?_⟩;simp only[flat,List.append_nil]at k11 |-;exact(AjA hna k11 (Lf':=Lf0)).thaw (fun _ _ _ x=>x)
   .rw [List.getElem?_set_ne (Ne.symm hj)]at hb
    refine(m.own j blk hb).mono l'.hle hset rfl (fun gj t hgj=>l'.block gj (m.lt hgj) fun i t' hi=>?_);obtain⟨_,rfl,_⟩:=hρ0 i gj t' hi;exact hj (m.inj j id _ _ _ hgj h1)
  .intro i hi
   simp at hi
   exact m.out i hi
  .intro i gi t hi o
   by_cases hj:i=id
   .subst hj
    rw[h1]at hi;simp only[Option.some.injEq,Prod.mk.injEq]at hi;obtain⟨rfl,rfl⟩:=hi;exact m'.disj 0 _ _ hρ' o
   .have hd:=m.disj i gi t hi o
    cases hq:h' gi o with
    | none=>rfl
    | some u =>
     rcases l'.hnew gi o hd (by simp[hq])with⟨j,t',hj'⟩|hs
     .obtain ⟨_,rfl,_⟩:=hρ0 j gi t' hj'
      exact(hj (m.inj i id _ _ _ hi h1)).elim
     .have:=m.lt hi; omega
  .intro b o hb hb'
   rcases l'.hnew b o hb hb' with⟨j,t',hj'⟩|hs
   .obtain ⟨_,rfl,_⟩:=hρ0 j b t' hj'
    exact .inl ⟨id,_,h1⟩
   .exact .inr hs
  .intro k hk hno
   exact l'.block k hk fun i t hi=>by
    obtain⟨_,rfl,_⟩:=hρ0 i k t hi;exact hno id _ h1
theorem mcall{c:Cx}{k:List It}{e:Env}{s:List Blk}{f:FuncId}{es:Nat}{agg:AV}{args:List AV}{d:Option Tmp}{all os:List Oper}{post:AV->AV->Prop}(hc:Mc c.P f es agg args post)(ha:args.all nr1=true)(hg:nr1 agg=true){id:Nat}(hid:s[id]? = some (.arr es [agg])){N:Nat}(hN:c.fn.ntmps=N)(hd:dOk N d=true)
  (hk:∀ r agg',post r agg'->AWp c (.ops all os::k) (put e d r) (s.set id (.arr es [agg']))):AdY c f (.ptr id 1 0 0::args) d all os k e s :=
 A7A (hc.ct ha hg hid) hN hd fun r s' ⟨agg',hp,_,hs⟩=>by subst hs; exact hk r agg' hp
end
end Go.Av
namespace Go.Av
open Go Go.RowKit
variable [Tr]
section
variable {h:Mem}{ρ:Own}{sto:List Blk}{w:World}{P:Program}
theorem Mine.freeze(m:Mine h ρ sto w){id e:Nat}{l:List AV}(hb:sto[id]? = some (.arr e l))(hf:(flat l).all frozen=true) :
  ∃ h' ρ',Mine h' ρ' (sto.set id .dead) w/\Later h ρ sto w h' ρ' (sto.set id .dead) w /\
   ∀ v off len cap,LfC ρ sto v (.sl id off len cap)->off+cap=l.length->len<=cap->RV h' (Lf ρ' (sto.set id .dead)) false v (.fz e ((l.drop off).take len)):=by
 have hid:=(List.getElem?_eq_some_iff.1 hb).1
 rcases m.own id _ hb with⟨rfl,hn⟩|⟨g,tot,cur,t,h3,h4,h5,h6,h7,h8,h9,h10,h11⟩
 .have hk:∀ v a,Lf ρ sto v a->Lf ρ (sto.set id .dead) v a:=fun v a l=>⟨l.1,AbT hb (fun _ _=>rfl) trivial l.2⟩
  refine⟨h,ρ,⟨m.mem,?_,fun i hi=>m.out i (by simpa using hi),m.inj,m.disj⟩,⟨fun _ _ _ x=>x,fun _ _ a b=>(b a).elim,hk,rfl,rfl,⟨rfl,Tr.same rfl⟩,Nat.le_refl _,fun _ _ _=>rfl,fun i _ t x=>.inl ⟨i,t,x⟩⟩,?_⟩
  .intro i blk e1
   by_cases hi:i=id
   .subst hi
    simp[hid]at e1
    subst e1;exact hn
   .rw [List.getElem?_set_ne (Ne.symm hi)]at e1
    exact(m.own i blk e1).mono (fun _ _ _ x=>x) hk rfl (fun _ _ _=>rfl)
  .intro v off len cap hl hc hlc
   simp only[LfC,hb]at hl
   rcases hl.2 hc with⟨rfl,rfl,a,rfl⟩|⟨g,tot,h1,_⟩
   .cases a with
    | none=>simpa[at0]using RV.fznil e
    | some a=>simpa[at0]using RV.fz (h:=h) (Lf:=Lf ρ (sto.set id .dead)) (fl:=false) a.1 a.2 0 e [] [] .nil (by simp) (by simp) (Nat.le_refl _)
   .simp [hn]at h1
 .let h':Mem:=fun b o=>if b=g then cur.toList[o]? else h b o
  have hle:∀ b o v,h b o=some v->h' b o=some v:=by
   intro b o v e1;have:b≠g:=fun hq=>by subst hq; simp[m.disj id b tot h3 o]at e1
   simp[h',this,e1]
  have hk:∀ v a,Lf ρ sto v a->Lf (upd ρ id none) (sto.set id .dead) v a:=fun v a l=>⟨l.1,AbT hb (fun i hi=>by simp[upd,hi]) trivial l.2⟩
  have hown:∀ i b t,upd ρ id none i=some (b,t)->i≠id/\ρ i=some (b,t):=by
   intro i b t e1;unfold upd at e1
   split at e1
   .simp at e1
   .rename_i hi; exact⟨hi,e1⟩
  refine⟨h',upd ρ id none,⟨?_,?_,?_,?_,?_⟩,⟨hle,?_,hk,rfl,rfl,⟨rfl,Tr.same rfl⟩,Nat.le_refl _,fun _ _ _=>rfl,fun i b t x=>.inl ⟨i,t,(hown i b t x).2⟩⟩,?_⟩
  .intro b o v e1
   by_cases hq:b=g
   .subst hq
    simp only[h',if_true]at e1;refine⟨?_,h10 v (List.mem_of_getElem? e1)⟩;rw[h4.cell]
    simpa using e1
   .simp only [h',hq,if_false]at e1
    exact m.mem b o v e1
  .intro i blk e1
   by_cases hi:i=id
   .subst hi
    simp[hid]at e1
    subst e1
    simp[OwnB,upd]
   .rw [List.getElem?_set_ne (Ne.symm hi)]at e1
    exact(m.own i blk e1).mono hle hk (by simp[upd,hi]) (fun _ _ _=>rfl)
  .intro i hi
   simp at hi
   simp[upd,m.out i hi]
  .intro i j b t t' hi hj
   exact m.inj i j b t t' (hown i b t hi).2 (hown j b t' hj).2
  .intro i b t hi o
   obtain⟨h1,h2⟩:=hown i b t hi;have:b≠g:=fun hq=>by subst hq; exact h1 (m.inj i id _ _ _ h2 h3)
   simp[h',this,m.disj i b t h2 o]
  .intro b o e1 e2
   by_cases hq:b=g
   .subst hq; exact .inl ⟨id,tot,h3⟩
   .simp [h',hq,e1]at e2
  .intro v off len cap hl hc hlc
   simp only[LfC,hb]at hl;have hfl:=AaL h9;have hcurl:cur.toList.length=tot*e:=by simp[h5]
   rcases hl.2 hc with⟨rfl,rfl,a,rfl⟩|⟨g',tot',h1,rfl,_⟩
   .cases a with
    | none=>simpa[at0]using RV.fznil e
    | some a=>simpa[at0]using RV.fz (h:=h') (Lf:=Lf (upd ρ id none) (sto.set id .dead)) (fl:=false) a.1 a.2 0 e [] [] .nil (by simp) (by simp) (Nat.le_refl _)
   .rw [h3]at h1
    simp only[Option.some.injEq,Prod.mk.injEq]at h1;obtain⟨rfl,rfl⟩:=h1;have hlen:((l.drop off).take len).length=len:=by simp; omega
    have hr:RL h' (Lf (upd ρ id none) (sto.set id .dead)) true (((cur.toList.take (l.length*e)).drop (off*e)).take (len*e)) (flat ((l.drop off).take len)):=by
     rw[<- AbX (l:=l.drop off) (esz:=e) (fun x hx=>h9 x (List.mem_of_mem_drop hx)) len,<- AbC h9 off];exact(((AcW h11 hf).thaw (fun _ _ _ x=>x)).mono hle (fun _ _ x=>x) |>.drop _).take _
    have:=RV.fz (h:=h') (Lf:=Lf (upd ρ id none) (sto.set id .dead)) (fl:=false) g (off*e) (tot-off) e ((l.drop off).take len) _ hr (fun x hx=>h9 x (List.mem_of_mem_drop (List.mem_of_mem_take hx))) (fun k v hk=>by
     rw[List.getElem?_take]at hk
     split at hk
     .rw [List.getElem?_drop,List.getElem?_take]at hk
      split at hk
      .simp only [h',if_true]; exact hk
      .simp at hk
     .simp at hk) (by rw[hlen]; omega)
    rwa [hlen]at this
variable {c:Cx}{e:Env}{s:List Blk}
theorem Shift.freeze(t:Tmp){id off len cap es:Nat}{l:List AV}(hv:get e t=.sl id off len cap)(hb:s.getD id .dead=.arr es l)(hc:off+cap=l.length)(hl:len<=cap)(hf:(flat l).all frozen=true) :
  Shift c e s (put e (some t) (.fz es ((l.drop off).take len))) (s.set id .dead):=by
 rintro a w ⟨hh,ρ,hm,hlt,he,hdf,hsz,hX⟩;obtain⟨h',ρ',m',l',key⟩:=hm.freeze (AbU hb) hf;refine⟨h',ρ',m',hlt.trans l',fun t'=>?_,hdf,hsz,c.hx.later hm l' hX⟩;rw[get_put]
 split
 .rename_i ht
  simp only[Option.some.injEq]at ht;subst ht;have:=he t;rw[hv]at this;exact key _ _ _ _ (AbO this).2 hc hl
 .exact (he t').mono l'.hle l'.keep
theorem Shift.nilfz(t:Tmp)(es:Nat)(hv:get e t=.raw (.slice none 0 0)):Shift c e s (put e (some t) (.fz es [])) s:=by
 rintro a w ⟨hh,ρ,hm,hlt,he,hdf,hsz,hX⟩;refine⟨hh,ρ,hm,hlt,fun t'=>?_,hdf,hsz,hX⟩;rw[get_put]
 split
 .rename_i ht
  simp only[Option.some.injEq]at ht;subst ht;have:=he t;rw[hv]at this;rw[AaS this];exact .fznil es
 .exact he t'
theorem Shift.nilsl(t:Tmp)(es:Nat)(hv:get e t=.raw (.slice none 0 0)):Shift c e s (put e (some t) (.sl s.length 0 0 0)) (s++[.arr es []]):=by
 rintro a w ⟨hh,ρ,hm,hlt,he,hdf,hsz,hX⟩;obtain⟨m',l'⟩:=hm.pushNil es;refine⟨hh,ρ,m',hlt.trans l',fun t'=>?_,hdf,hsz,c.hx.later hm l' hX⟩;rw[get_put]
 split
 .rename_i ht
  simp only[Option.some.injEq]at ht;subst ht;have:=he t;rw[hv]at this;rw[AaS this];exact .leaf ⟨rfl,by simp only[LfC,List.getElem?_concat_length]; exact⟨by simp,fun _=>.inl ⟨trivial,trivial,none,rfl⟩⟩⟩
 .exact (he t').mono l'.hle l'.keep
end
end Go.Av
namespace Go.Av
open Go Go.RowKit
variable [Tr]
def Hd(P:Program)(B:Code)(Q:Exit->Act->World->Prop)(a:Act)(w:World):Prop :=
 ∀ (b:Frame) (k:List Item) (cs:List Frame),∃ e a' w',Q e a' w'/\Arrives P (lone (b.at a (.code B::.inLoop B::k)) cs w) b k cs e a' w'
theorem Hd.loop{P:Program}{B:Code}{Q:Exit->Act->World->Prop}{a:Act}{w:World}(h:Hd P B Q a w):(Code.loop B).wp P Q a w:=by
 intro b k cs;obtain⟨e,a',w',hq,harr⟩:=h b k cs;exact⟨e,a',w',hq,.of_steps (.one step_loop) harr⟩
theorem Hd.round{P:Program}{B:Code}{Q:Exit->Act->World->Prop}{a:Act}{w:World}(h:B.wp P (Exit.then (Hd P B Q) Q) a w):Hd P B Q a w:=by
 intro b k cs;obtain⟨e,a₁,w₁,hq,harr⟩:=h b (.inLoop B::k) cs
 cases e with
 | normal =>
  obtain⟨e₂,a₂,w₂,hq₂,harr₂⟩:=hq b k cs;exact⟨e₂,a₂,w₂,hq₂,.of_steps (Steps.trans harr (.one step_inLoop)) harr₂⟩
 | exit id=>exact⟨_,a₁,w₁,hq,.pass (x:=.inLoop B) rfl (fun _ _=>.inl (by simp)) harr⟩
 | goto l=>exact⟨_,a₁,w₁,hq,.pass (x:=.inLoop B) rfl (fun _ _=>.inl (by simp)) harr⟩
 | ret=>exact⟨_,a₁,w₁,hq,.pass (x:=.inLoop B) rfl (fun _ _=>.inl (by simp)) harr⟩
 | panic ch=>exact⟨_,a₁,w₁,hq,.pass (x:=.inLoop B) rfl (fun _ _=>.inl (by simp)) harr⟩
 | outgrown=>exact⟨_,a₁,w₁,hq,.pass (x:=.inLoop B) rfl (fun _ _=>.inl (by simp)) harr⟩
section
variable {c:Cx}{k:List It}{e:Env}{s:List Blk}{B:Code}
def AHd(c:Cx)(B:Code)(k:List It)(e:Env)(s:List Blk):Prop:=∀ a w,Sim c e s a w->Hd c.P B (WQ c k) a w
theorem AcT(h:AHd c B k e s):AWp c (.code (.loop B)::k) e s:=fun a w hs=>(h a w hs).loop
theorem around(h:AWp c (.code B::.inv (Hd c.P B (WQ c k))::k) e s):AHd c B k e s:=fun a w hs=>by
 refine Hd.round ?_;refine Code.wp_mono ?_ (h a w hs);intro en a' w' hq
 cases en <;> exact hq
theorem AdZ(h:AHd c B k e s):AWp c (.inv (Hd c.P B (WQ c k))::k) e s:=fun a w hs=>h a w hs
theorem AHd.shift{e':Env}{s':List Blk}(x:Shift c e s e' s')(h:AHd c B k e' s'):AHd c B k e s:=fun a w hs=>h a w (x a w hs)
end
end Go.Av
namespace Go.Av
open Go Go.RowKit
variable [Tr]
section
variable {h:Mem}{ρ:Own}{sto:List Blk}{w:World}{P:Program}
variable {c:Cx}{e:Env}{s:List Blk}
end
end Go.Av
namespace Go.Av
open Go Go.RowKit
variable [Tr]
abbrev strs(l:List (List UInt8)):List AV:=l.map .str
abbrev sval(s:List UInt8):Value:=.string ⟨s.toArray⟩
theorem AwJ:∀ l:List (List UInt8),flat (strs l)=strs l
 | []=>rfl
 | x::r=>by simp only[List.map_cons,flat,cellsOf,List.cons_append,List.nil_append]; rw[AwJ r]
section
variable {h:Mem}{ρ:Own}{sto:List Blk}{w:World}{P:Program}
end
end Go.Av
namespace Go.Av
open Go Go.RowKit
variable [Tr]
section
variable {h:Mem}{ρ ρ':Own}{sto sto':List Blk}{w:World}{P:Program}
theorem BsH{id id':Nat}{blk:Blk}(h1:sto[id]? = some blk)(h2:sto'[id']? = some blk)(e:ρ' id'=ρ id){v:Value}{a b c:Nat}(l:LfC ρ sto v (.sl id a b c)):LfC ρ' sto' v (.sl id' a b c):=by
 simp only[LfC,h1,h2,e]at l |-;exact l
variable {c:Cx}{e:Env}{s:List Blk}
theorem A3W{f:FuncId}{args:List AV}{n es:Nat}{l:List AV}(hn:n=l.length)(hf:(flat l).all frozen=true)(hc:Ct P f args [] (fun r s=>r=.sl 0 0 n n/\s=[.arr es l])):Pc P f args (· = .fz es l):=by
 subst hn;refine AbM ⟨hc.1,fun h ρ w vs hm hv=>(hc.2 h ρ w vs hm hv).mono ?_⟩;rintro en w' ⟨v,r,s,h',ρ',rfl,⟨rfl,rfl⟩,m',l',rv⟩;obtain⟨h2,ρ2,m2,l2,key⟩:=m'.freeze (id:=0) rfl hf;have:=key v 0 l.length l.length (AbO rv).2 (by simp) (Nat.le_refl _);rw[List.drop_zero,List.take_length]at this;exact⟨v,_,_,h2,ρ2,rfl,⟨rfl,rfl⟩,m2,l'.trans l2,this⟩
end
end Go.Av
namespace Go.Av
open Go Go.RowKit
variable [Tr]
abbrev Std:=Nat->Option Obj
def AwK(g:Std)(w:World):Prop:=∀ k o,g k=some o->w.heap[k]? = some o
def Le(g:Std)(w:World)(ρ:Own):Prop:=∀ k o,g k=some o->w.heap[k]? = some o/\∀ i t,ρ i≠some (k,t)
theorem Le.later{g:Std}{h h':Mem}{ρ ρ':Own}{sto sto':List Blk}{w w':World}(a:Le g w ρ)(x:Later h ρ sto w h' ρ' sto' w'):Le g w' ρ':=fun k o e=>by
 obtain⟨h1,h2⟩:=a k o e;have hk:k<w.heap.size:=(Array.getElem?_eq_some_iff.1 h1).1;refine⟨(x.block k hk h2).trans h1,fun i t hi=>?_⟩
 rcases x.newown i k t hi with⟨j,t',hj⟩|hs
 .exact h2 j t' hj
 .omega
def CtH(P:Program)(g:Std)(f:FuncId)(args:List AV)(sto:List Blk)(post:AV->List Blk->Prop):Prop :=
 AaB P f=true/\∀ h ρ w vs,Le g w ρ->Mine h ρ sto w->RL h (Lf ρ sto) false vs args->Calls P f vs.toArray w fun en w' =>
  ∃ v r s h' ρ',en=.returned v/\post r s/\Mine h' ρ' s w'/\Later h ρ sto w h' ρ' s w'/\RV h' (Lf ρ' s) false v r
def PcH(P:Program)(g:Std)(f:FuncId)(args:List AV)(post:AV->Prop):Prop :=
 AaB P f=true/\∀ h w vs,AwK g w->(∀ b o v,h b o=some v->w.cell? ⟨b,o,none⟩=some v/\v.oneCell'=true)->RL h Lf0 true vs args->Calls P f vs.toArray w fun en w' =>
  ∃ v r h',en=.returned v/\post r/\(∀ b o v,h' b o=some v->w'.cell? ⟨b,o,none⟩=some v/\v.oneCell'=true)/\(∀ b o v,h b o=some v->h' b o=some v) /\
   (∀ b o,h b o=none->h' b o≠none->w.heap.size<=b)/\Same w w'/\RV h' Lf0 true v r
section
variable {P:Program}{g:Std}
theorem ArJ{f:FuncId}{fn:Func}{body:Code}{N:Nat}{args:List AV}{sto:List Blk}{post:AV->List Blk->Prop}(hf:P.funcs[f]? = some fn)(hb:fn.body=some body)(hn:fn.ntmps=N)(hx:AaB P f=true)
  (ha:args.length<=N) (h:∀ h ρ w,Le g w ρ->Mine h ρ sto w->AWp ⟨P,fn,h,ρ,sto,w,post,X0,stb0⟩ [.code body] (args0 0 args) sto):CtH P g f args sto post:=by
 refine⟨hx,fun hh ρ w vs hg hm hv=>?_⟩;refine calls_of_wp hf hb ?_;have hlen:=hv.length;have hsim:Sim ⟨P,fn,hh,ρ,sto,w,post,X0,stb0⟩ (args0 0 args) sto { tmps:=vs.toArray++Array.replicate (fn.ntmps-vs.toArray.size) undef,defers:=[] } w:=by
  refine⟨hh,ρ,hm,.refl ..,fun t=>?_,rfl,by simp; omega,trivial⟩;rw[AfA];simp only[Nat.zero_le,if_true,Nat.sub_zero];have h1:=hv.getD t undef
  by_cases ht:t<vs.length
  .have:(vs.toArray++Array.replicate (fn.ntmps-vs.toArray.size) undef).getD t undef=vs.getD t undef:=by
    simp[Array.getElem?_append,ht,List.getD]
   simp only[this]; exact h1
  .have:args.getD t .any=.any:=by simp[List.getD,List.getElem?_eq_none (by omega:args.length<=t)]
   rw[this]; exact .any _
 have:=h hh ρ w hg hm _ w hsim;refine Code.wp_mono ?_ (show body.wp P (WQ ⟨P,fn,hh,ρ,sto,w,post,X0,stb0⟩ []) _ w from this);intro en a' w' hq
 cases en with
 | normal=>obtain⟨hd,v,r,s,h',ρ',h1,h2⟩:=hq; exact⟨hd,v,h1,v,r,s,h',ρ',rfl,h2⟩
 | ret=>obtain⟨hd,v,r,s,h',ρ',h1,h2⟩:=hq; exact⟨hd,v,h1,v,r,s,h',ρ',rfl,h2⟩
 | _=>exact hq.elim
theorem AcN{f:FuncId}{fn:Func}{body:Code}{N:Nat}{args:List AV}{sto:List Blk}{post:AV->List Blk->Prop}(hf:P.funcs[f]? = some fn)(hb:fn.body=some body)(hn:fn.ntmps=N)(hx:AaB P f=true)
  (ha:args.length<=N) (h:∀ h ρ w,Le g w ρ->AWp ⟨P,fn,h,ρ,sto,w,post,X0,stb0⟩ [.code body] (args0 0 args) sto):CtH P g f args sto post:=ArJ hf hb hn hx ha fun hh ρ w hg _=>h hh ρ w hg
theorem AcF{f:FuncId}{args:List AV}{post:AV->Prop}(hc:CtH P g f args [] (fun r _=>post r/\nr2 r=true)):PcH P g f args post:=by
 refine⟨hc.1,fun h w vs hg hm hv=>?_⟩;have hmine:Mine h (fun _=>none) [] w:=⟨hm,fun id blk e=>by simp at e,fun _ _=>rfl,fun i j g t t' e=>by simp at e,fun i g t e=>by simp at e⟩;refine(hc.2 h (fun _=>none) w vs (fun k o e=>⟨hg k o e,fun i t hi=>by simp at hi⟩) hmine (hv.thaw (fun _ _ _ x=>x))).mono ?_;rintro en w' ⟨v,r,s,h',ρ',rfl,⟨hp,hn⟩,hm',hl,rv⟩;exact⟨v,r,h',rfl,hp,hm'.mem,hl.hle,fun b o e n=>by
  rcases hl.hnew b o e n with⟨j,t,hj⟩|hs
  .simp at hj
  .exact hs,⟨hl.os,hl.tape,hl.output,hl.size,fun k hk=>hl.block k hk (fun i t e=>by simp at e)⟩,A3U rv hn⟩
theorem PcH.cth{f:FuncId}{args:List AV}{post:AV->Prop}(hc:PcH P g f args post)(ha:args.all nr1=true)(sto:List Blk):CtH P g f args sto (fun r s=>post r/\s=sto):=by
 refine⟨hc.1,fun h ρ w vs hg hm hv=>?_⟩;refine(hc.2 h w vs (fun k o e=>(hg k o e).1) hm.mem (AiY hv ha)).mono ?_;rintro en w' ⟨v,r,h',rfl,hp,hm',hle,hnew,hs,rv⟩;refine⟨v,r,sto,h',ρ,rfl,⟨hp,rfl⟩,⟨hm',?_,hm.out,hm.inj,?_⟩,⟨hle,fun b o e n=>.inr (hnew b o e n),fun _ _ x=>x,hs.os,hs.tape,hs.output,hs.size,fun k hk _=>hs.block k hk,fun i _ t x=>.inl ⟨i,t,x⟩⟩,rv.thaw (fun _ _ _ x=>x)⟩
 .exact fun id blk e=>(hm.own id blk e).mono hle (fun _ _ x=>x) rfl (fun g t hg=>hs.block g (hm.lt hg))
 .intro i g t e o
  have hlt:=hm.lt e;have hd:=hm.disj i g t e o
  cases hq:h' g o with
  | none=>rfl
  | some v=>have:=hnew g o hd (by simp[hq]); omega
variable {c:Cx}{k:List It}{e:Env}{s:List Blk}
theorem AwL(hg:Le g c.w c.ρ){f:FuncId}{args:List AV}{d:Option Tmp}{all os:List Oper}{post:AV->List Blk->Prop}(hc:CtH c.P g f args s post){N:Nat}(hN:c.fn.ntmps=N)(hd:dOk N d=true)
  (hk:∀ r s',post r s'->AWp c (.ops all os::k) (put e d r) s'):AdY c f args d all os k e s:=by
 intro a w h ρ vs hm hl he hdf hsz hX hv;refine⟨hc.1,(hc.2 h ρ w vs (hg.later hl) hm hv).mono ?_⟩;rintro en w' ⟨v,r,s',h',ρ',rfl,hp,hm',hlt,rv⟩;have he':EnvOk h' ρ' s' e a:=fun t=>(he t).mono hlt.hle hlt.keep
 exact hk r s' hp _ _ ⟨h',ρ',hm',hl.trans hlt,he'.put (by rw[hsz,hN]; exact hd) rv,by rw[AaE]; exact hdf,by rw[AaP]; exact hsz,c.hx.later hm hlt hX⟩
theorem AgC(hg:Le g c.w c.ρ){f:FuncId}{args:List AV}{d:Option Tmp}{all os:List Oper}{post:AV->Prop}(hc:PcH c.P g f args post)(ha:args.all nr1=true){N:Nat}(hN:c.fn.ntmps=N)(hd:dOk N d=true)
  (hk:∀ r,post r->AWp c (.ops all os::k) (put e d r) s):AdY c f args d all os k e s :=
 AwL hg (hc.cth ha s) hN hd fun r s' ⟨hp,hs⟩=>by subst hs; exact hk r hp
theorem AtJ(hg:Le g c.w c.ρ){f:FuncId}{args:List AV}{d:Option Tmp}{all os:List Oper}{r:AV}(hc:PcH c.P g f args (· = r))(ha:args.all nr1=true){N:Nat}(hN:c.fn.ntmps=N)(hd:dOk N d=true)
  (hk:AWp c (.ops all os::k) (put e d r) s):AdY c f args d all os k e s :=
 AgC hg hc ha hN hd fun r' hr=>by subst hr; exact hk
theorem PcH.at(hg:Le g c.w c.ρ){f:FuncId}{args:List AV}{cv:AV}(hc:PcH c.P g f args (· = cv)):PcAt c f args cv :=
 ⟨hc.1,fun h w vs hb m r=>hc.2 h w vs (fun k o e=>by
  obtain⟨h1,h2⟩:=hg k o e;exact(hb k (Array.getElem?_eq_some_iff.1 h1).1 h2).trans h1) m r⟩
theorem PcH.mono{f:FuncId}{args:List AV}{post post':AV->Prop}(hc:PcH P g f args post)(hp:∀ r,post r->post' r):PcH P g f args post' :=
 ⟨hc.1,fun h w vs hg hm hv=>(hc.2 h w vs hg hm hv).mono fun _ _ ⟨v,r,h',a,b,rest⟩=>⟨v,r,h',a,hp r b,rest⟩⟩
def McH(P:Program)(g:Std)(f:FuncId)(e:Nat)(agg:AV)(args:List AV)(post:AV->AV->Prop):Prop :=
 CtH P g f (.ptr 0 1 0 0::args) [.arr e [agg]] (fun r s=>∃ agg' junk,s=.arr e [agg']::junk/\post r agg'/\nr2 r=true/\nr1 agg'=true)
section
variable {h:Mem}{ρ:Own}{sto:List Blk}{w:World}
theorem McH.ct{f:FuncId}{e:Nat}{agg:AV}{args:List AV}{post:AV->AV->Prop}(hc:McH P g f e agg args post)(ha:args.all nr1=true)(hg:nr1 agg=true){id:Nat}(hid:sto[id]? = some (.arr e [agg])) :
  CtH P g f (.ptr id 1 0 0::args) sto (fun r s=>∃ agg',post r agg'/\nr1 agg'=true/\s=sto.set id (.arr e [agg'])):=by
 refine⟨hc.1,fun h ρ w vs hg0 m hv=>?_⟩
 cases hv with
 | @cons _ v0 _ vs _ r0 rs =>
  have hl:=(AcV r0).2;simp only[LfC,hid]at hl;obtain⟨_,gb,tot,h1,h2⟩:=hl.2 rfl;have hown:=m.own id _ hid
  rcases hown with⟨hn,_⟩|⟨g',tot',cur,tt,i3,i4,i5,i6,i7,i8,i9,i10,i11⟩
  .simp at hn
  rw[h1]at i3;simp only[Option.some.injEq,Prod.mk.injEq]at i3;obtain⟨rfl,rfl⟩:=i3
  let ρ0:Own:=fun i=>if i=0 then some (gb,tot) else none
  have hρ0:∀ i b t,ρ0 i=some (b,t)->i=0/\b=gb/\t=tot:=by
   intro i b t hh;simp only[ρ0]at hh
   split at hh
   .rename_i hi; simp at hh; exact⟨hi,hh.1.symm,hh.2.symm⟩
   .simp at hh
  have m0:Mine h ρ0 [.arr e [agg]] w:=by
   refine⟨m.mem,?_,?_,?_,?_⟩
   .intro i blk hb
    match i,hb with
    | 0,hb =>
     simp at hb; subst hb
     refine .inr ⟨gb,tot,cur,tt,rfl,i4,i5,i6,i7,i8,i9,i10,?_⟩;simp only[flat,List.append_nil]at i11 |-;exact(AjA hg i11 (Lf':=Lf ρ0 [.arr e [agg]])).thaw (fun _ _ _ x=>x)
    | i+1,hb=>simp at hb
   .intro i hi
    simp at hi
    simp[ρ0]; omega
   .intro i j b t t' hi hj
    rw[(hρ0 i b t hi).1,(hρ0 j b t' hj).1]
   .intro i b t hi o
    obtain⟨_,rfl,_⟩:=hρ0 i b t hi;exact m.disj id _ _ h1 o
  have hp0:RV h (Lf ρ0 [.arr e [agg]]) false v0 (.ptr 0 1 0 0):=by
   refine .leaf ⟨(AcV r0).1,?_⟩;simp only[LfC,List.getElem?_cons_zero];exact⟨by simp,fun _=>⟨by omega,gb,tot,rfl,h2⟩⟩
  refine(hc.2 h ρ0 w (v0::vs) (fun k o e=>⟨(hg0 k o e).1,fun i t hi=>by obtain⟨_,rfl,_⟩:=hρ0 i k t hi; exact(hg0 k o e).2 id tot h1⟩) m0 (.cons hp0 ((AiY rs ha (Lf':=Lf ρ0 [.arr e [agg]])).thaw (fun _ _ _ x=>x)))).mono ?_;rintro en w' ⟨v,r,s',h',ρ',rfl,⟨agg',junk,rfl,hp,hnr,hna⟩,m',l',rv⟩;have hk1:=l'.keep (.slice (some ⟨gb,0*e,none⟩) 1 (tot-0)) (.sl 0 0 1 1) ⟨rfl,by simp[LfC,ρ0]⟩;have hρ':ρ' 0=some (gb,tot):=by
   have hk:=hk1.2;simp only[LfC,List.getElem?_cons_zero]at hk
   rcases hk.2 (by simp)with⟨hh,_⟩|⟨g',t',e1,e2,_⟩
   .simp at hh
   .simp at e2
    rw[e1,e2.1,e2.2]
  have hset:∀ v a,Lf ρ sto v a->Lf ρ (sto.set id (.arr e [agg'])) v a:=fun v a lf=>⟨lf.1,AbT hid (fun _ _=>rfl) (Or.inl ⟨rfl,rfl,rfl⟩:(_/\_/\_)\/_) lf.2⟩
  have hlt:=(List.getElem?_eq_some_iff.1 hid).1;refine⟨v,r,_,h',ρ,rfl,⟨agg',hp,hna,rfl⟩,⟨m'.mem,?_,?_,m.inj,?_⟩,⟨l'.hle,?_,hset,l'.os,l'.tape,l'.output,l'.size,?_,fun i _ t x=>.inl ⟨i,t,x⟩⟩,(A3U rv hnr (Lf':=Lf0)).thaw (fun _ _ _ x=>x)⟩
  .intro j blk hb
   by_cases hj:j=id
   .subst hj
    simp[hlt]at hb
    subst hb
    rcases m'.own 0 _ rfl with⟨hn,_⟩|⟨g2,tot2,cur2,tt2,k3,k4,k5,k6,k7,k8,k9,k10,k11⟩
    .simp at hn
    rw[hρ']at k3;simp only[Option.some.injEq,Prod.mk.injEq]at k3;obtain⟨rfl,rfl⟩:=k3;refine .inr ⟨gb,tot,cur2,tt2,h1,k4,k5,k6,k7,k8,k9,k10,?_⟩;simp only[flat,List.append_nil]at k11 |-;exact(AjA hna k11 (Lf':=Lf0)).thaw (fun _ _ _ x=>x)
   .rw [List.getElem?_set_ne (Ne.symm hj)]at hb
    refine(m.own j blk hb).mono l'.hle hset rfl (fun gj t hgj=>l'.block gj (m.lt hgj) fun i t' hi=>?_);obtain⟨_,rfl,_⟩:=hρ0 i gj t' hi;exact hj (m.inj j id _ _ _ hgj h1)
  .intro i hi
   simp at hi
   exact m.out i hi
  .intro i gi t hi o
   by_cases hj:i=id
   .subst hj
    rw[h1]at hi;simp only[Option.some.injEq,Prod.mk.injEq]at hi;obtain⟨rfl,rfl⟩:=hi;exact m'.disj 0 _ _ hρ' o
   .have hd:=m.disj i gi t hi o
    cases hq:h' gi o with
    | none=>rfl
    | some u =>
     rcases l'.hnew gi o hd (by simp[hq])with⟨j,t',hj'⟩|hs
     .obtain ⟨_,rfl,_⟩:=hρ0 j gi t' hj'
      exact(hj (m.inj i id _ _ _ hi h1)).elim
     .have:=m.lt hi; omega
  .intro b o hb hb'
   rcases l'.hnew b o hb hb' with⟨j,t',hj'⟩|hs
   .obtain ⟨_,rfl,_⟩:=hρ0 j b t' hj'
    exact .inl ⟨id,_,h1⟩
   .exact .inr hs
  .intro k hk hno
   exact l'.block k hk fun i t hi=>by
    obtain⟨_,rfl,_⟩:=hρ0 i k t hi;exact hno id _ h1
end
theorem BsI(hg:Le g c.w c.ρ){f:FuncId}{es:Nat}{agg:AV}{args:List AV}{d:Option Tmp}{all os:List Oper}{post:AV->AV->Prop}(hc:McH c.P g f es agg args post)(ha:args.all nr1=true)(hgg:nr1 agg=true){id:Nat}(hid:s[id]? = some (.arr es [agg])){N:Nat}(hN:c.fn.ntmps=N)(hd:dOk N d=true)
  (hk:∀ r agg',post r agg'->AWp c (.ops all os::k) (put e d r) (s.set id (.arr es [agg']))):AdY c f (.ptr id 1 0 0::args) d all os k e s :=
 AwL hg (hc.ct ha hgg hid) hN hd fun r s' ⟨agg',hp,_,hs⟩=>by subst hs; exact hk r agg' hp
end
end Go.Av
namespace Go.Av
open Go Go.RowKit
variable [Tr]
def sideIs:Res->AV->Prop
 | .side p u,v=>p/\v=u
 | _,_=>False
def BhW(P:Program)(e:Env)(s:List Blk):List ResultVar->List AV->Prop
 | [],[]=>True
 | .tmp t::r,v::l=>v=get e t/\BhW P e s r l
 | .cell a t::r,v::l=>sideIs (xload (P.underlying t) (tsize P t) s (get e a)) v/\BhW P e s r l
 | _,_=>False
def resT:List AV->AV
 | [v]=>v
 | l=>.tup l
theorem AwM{P:Program}{w:World}{t:TypeId}{u v:Value}(h:(Instr.loadAt t u).run P w=.ok v w):(do loadVar t (<- asAddr u):Sem Value).run P w=.ok v w:=by
 cases u with
 | pointer a =>
  cases a with
  | some a=>exact h
  | none=>simp[Instr.loadAt,Instr.sureAddr,stuck]at h
 | _=>simp[Instr.loadAt,Instr.sureAddr,stuck]at h
section
variable {c:Cx}{e:Env}{s:List Blk}
def resF(tmps:Array Value):ResultVar->Sem Value
 | .tmp t=>pure (tmps.getD t undef)
 | .cell a t=>do loadVar t (<- asAddr (tmps.getD a undef))
theorem AfN{h:Mem}{ρ:Own}{a:Act}{w:World}(m:Mine h ρ s w)(he:EnvOk h ρ s e a):∀ {rs:List ResultVar}{vals:List AV},BhW c.P e s rs vals ->
  ∃ vs:List Value,(rs.mapM (resF a.tmps)).run c.P w=.ok vs w/\RL h (Lf ρ s) false vs vals
 | [],[],_=>⟨[],by rw[List.mapM_nil,Sem.run_pure],.nil⟩
 | .tmp t::r,v::l,hv=>by
  obtain⟨rfl,hr⟩:=hv;obtain⟨vs,h1,h2⟩:=AfN m he hr;refine⟨a.tmps.getD t undef::vs,?_,.cons (he t) h2⟩;rw[List.mapM_cons,Sem.run_bind];simp only[resF,Sem.run_pure,Result.andThen_ok,Sem.run_bind,h1]
 | .cell b t::r,v::l,hv=>by
  obtain⟨h0,hr⟩:=hv;obtain⟨vs,h1,h2⟩:=AfN m he hr;have hl:=BhD (P:=c.P) (t:=t) m (he b);unfold sideIs at h0
  revert h0 hl
  cases xload (c.P.underlying t) (tsize c.P t) s (get e b) <;> intro h0 hl <;> try exact h0.elim
  obtain⟨hp,rfl⟩:=h0;obtain⟨u,hu,ru⟩:=hl hp;have hu':=AwM hu;refine⟨u::vs,?_,.cons ru h2⟩;rw[List.mapM_cons,Sem.run_bind];have hf:(resF a.tmps (.cell b t)).run c.P w=.ok u w:=hu';simp only[hf,Result.andThen_ok,Sem.run_bind,h1,Sem.run_pure]
 | [],_::_,hv=>hv.elim
 | .tmp _::_,[],hv=>hv.elim
 | .cell _ _::_,[],hv=>hv.elim
def tupV:List Value->Value
 | [v]=>v
 | l=>.tuple l.toArray
theorem A7C{fn:Func}(rs:List ResultVar)(hr:fn.results=rs.toArray)(tmps:Array Value){P:Program}{w:World}{vs:List Value}(h:(rs.mapM (resF tmps)).run P w=.ok vs w) :
  (results fn tmps).run P w=.ok (tupV vs) w:=by
 have e:results fn tmps=(do let vs <- fn.results.mapM (resF tmps); pure (if h:vs.size=1 then vs[0] else .tuple vs):Sem Value):=rfl;rw[e,hr,Sem.run_bind,List.mapM_toArray]
 erw [Sem.run_bind]
 rw[h];clear h
 match vs with
 | []=>rfl
 | [v]=>rfl
 | v::u::r=>simp[Result.andThen,Sem.pure,tupV]
theorem AbB(rs:List ResultVar)(hr:c.fn.results=rs.toArray)(vals:List AV)(hv:BhW c.P e s rs vals)(hp:c.post (resT vals) s):ARet c e s:=by
 rintro a w ⟨hh,ρ,hm,hl,he,hdf,hsz,_⟩;obtain⟨vs,h1,h2⟩:=AfN (c:=c) hm he hv;refine⟨hdf,tupV vs,resT vals,s,hh,ρ,?_,hp,hm,hl,?_⟩
 .exact A7C rs hr _ h1
 .cases h2 with
  | nil=>exact .tup _ _ .nil
  | cons r1 r2 =>
   cases r2 with
   | nil=>exact r1
   | cons r2 r3=>exact .tup _ _ (.cons r1 (.cons r2 r3))
end
