/- A call that makes one new block, in an open-order statement: the block is set aside before. -/
import Derived.Test.YtnfkjpihaficbaaGreatDoorK17
set_option linter.unusedSimpArgs false
set_option linter.unusedVariables false
set_option linter.unusedSectionVars false
namespace Go.Av
open Go Go.RowKit
variable [Tr]
variable {c:Cx}{e:Env}{s:List Blk}
theorem Shift.reserve(es:Nat):Shift c e s e (s++[.arr es []]):=by
 rintro a w ⟨hh,ρ,hm,hlt,he,hdf,hsz,hX⟩;obtain⟨m',l'⟩:=hm.pushNil es;exact⟨hh,ρ,m',hlt.trans l',fun t=>(he t).mono l'.hle l'.keep,hdf,hsz,c.hx.later hm l' hX⟩
theorem AtH{h:Mem}{ρ ρ':Own}{s s':List Blk}{vs:List Value}{l:List AV}(hf:l.all frozen=true)(r:RL h (Lf ρ s) false vs l):RL h (Lf ρ' s') false vs l :=
 (AcN r hf).thaw (fun _ _ _ x=>x)
theorem AtI{f:FuncId}{args:List AV}{n es:Nat}{l:List AV}{K:AV->List Blk->Prop}(hc:Ct c.P f args [] (fun r s=>r=.sl 0 0 n n/\s=[.arr es l]))(hn:0<n)(hlen:l.length=n)(ha:args.all frozen=true)(hf:(flat l).all frozen=true)
  {id:Nat} (hid:s[id]? = some (.arr es [])) (hk:K (.sl id 0 n n) (s.set id (.arr es l))):BcA c f args id s K:=by
 refine⟨_,fun r b=>r=.sl id 0 n n/\b=.arr es l,hid,⟨hc.1,fun h ρ s w vs hs m lt0 r=>?_⟩,⟨_,_,rfl,rfl⟩,fun r b ⟨h1,h2⟩=>by rw[h1,h2]; exact hk⟩;have hidl:=(List.getElem?_eq_some_iff.1 hs).1;have hm0:Mine h (fun _=>none) [] w:=⟨m.mem,fun id blk e=>by simp at e,fun _ _=>rfl,fun i j g t t' e=>by simp at e,fun i g t e=>by simp at e⟩;refine(hc.2 h (fun _=>none) w vs hm0 (AtH ha r)).mono ?_;rintro en w' ⟨v,r,s1,h',ρ1,rfl,⟨rfl,rfl⟩,m',lt,rv⟩;have hne:l≠[]:=by intro h; rw[h]at hlen; simp at hlen; omega
 have hgood:∀ i g t,ρ1 i=some (g,t)->w.heap.size<=g:=fun i g t e=>by
  rcases lt.newown i g t e with⟨j,t',hj⟩|h
  .cases hj
  .exact h
 have hblk:∀ k,k<w.heap.size->w'.heap[k]? = w.heap[k]?:=fun k hk=>lt.block k hk (fun i t e=>by cases e)
 have hnew:∀ b o,h b o=none->h' b o≠none->w.heap.size<=b:=fun b o e n=>by
  rcases lt.hnew b o e n with⟨j,t',hj⟩|h
  .cases hj
  .exact h
 have hρ:∀ i,i≠id->upd ρ id (ρ1 0) i=ρ i:=fun i hi=>by simp[upd,hi]
 have hρi:upd ρ id (ρ1 0) id=ρ1 0:=by simp[upd]
 have hkeep:∀ v a,Lf ρ s v a->Lf (upd ρ id (ρ1 0)) (s.set id (.arr es l)) v a:=fun v a x=>⟨x.1,AbQ (b':=.arr es l) hs hρ (Or.inr (by
  rw[hlen]; exact hn)) x.2⟩
 have hown:∀ i g t,upd ρ id (ρ1 0) i=some (g,t)->(i≠id/\ρ i=some (g,t)/\g<w.heap.size)\/(i=id/\ρ1 0=some (g,t)/\w.heap.size<=g):=fun i g t e=>by
  by_cases hi:i=id
  .rw [hi,hρi]at e
   exact .inr ⟨hi,e,hgood 0 g t e⟩
  .rw [hρ i hi]at e
   exact .inl ⟨hi,e,m.lt e⟩
 refine⟨v,_,_,h',upd ρ id (ρ1 0),rfl,⟨rfl,rfl⟩,⟨m'.mem,?_,?_,?_,?_⟩,⟨lt.hle,fun b o e n=>.inr (hnew b o e n),hkeep,lt.os,lt.tape,lt.output,lt.size,fun k hk _=>hblk k hk,?_⟩,?_⟩
 .intro i blk e
  by_cases hi:i=id
  .subst hi
   simp[hidl]at e
   subst e
   rcases m'.own 0 (.arr es l) rfl with⟨h1,h2⟩|⟨g,tot,cur,t,h1,h2,h3,h4,h5,h6,h7,h8,h9⟩
   .exact (hne h1).elim
   .exact .inr ⟨g,tot,cur,t,hρi.trans h1,h2,h3,h4,h5,h6,h7,h8,AtH hf h9⟩
  .rw [List.getElem?_set_ne (Ne.symm hi)]at e
   exact(m.own i blk e).mono lt.hle hkeep (hρ i hi) (fun g t hg=>hblk g (m.lt hg))
 .intro i hi
  simp at hi
  rw[hρ i (by omega)];exact m.out i hi
 .intro i j g t t' hi hj
  rcases hown i g t hi with⟨a1,a2,a3⟩|⟨a1,a2,a3⟩ <;> rcases hown j g t' hj with⟨b1,b2,b3⟩|⟨b1,b2,b3⟩
  .exact m.inj i j g t t' a2 b2
  .omega
  .omega
  .omega
 .intro i g t e o
  rcases hown i g t e with⟨a1,a2,a3⟩|⟨a1,a2,a3⟩
  .cases hq:h' g o with
   | none=>rfl
   | some z =>
    have:=hnew g o (m.disj i g t a2 o) (by rw[hq]; simp);omega
  .exact m'.disj 0 g t a2 o
 .intro i g t e
  rcases hown i g t e with⟨a1,a2,a3⟩|⟨a1,a2,a3⟩
  .exact .inl ⟨i,t,a2⟩
  .exact .inr a3
 .have q:=AbL rv
  exact .leaf ⟨q.1,A5M (blk:=.arr es l) rfl (by simp[hidl]) hρi q.2⟩
end Go.Av
namespace Go.Av
open Go Go.RowKit
variable [Tr]
end Go.Av
namespace Go.Av
open Go Go.RowKit
variable [Tr]
def idx:List Nat->Nat->Nat->Option Nat
 | [],_,_=>none
 | a::r,id,k=>bif a==id then some k else idx r id (k+1)
def ren1(σ:List Nat):AV->AV
 | .sl id o l c=>match idx σ id 0 with
  | some k=>.sl k o l c
  | none=>.any
 | .ptr id n i o=>match idx σ id 0 with
  | some k=>.ptr k n i o
  | none=>.any
 | .mp id=>match idx σ id 0 with
  | some k=>.mp k
  | none=>.any
 | .agg _=>.any
 | .tup _=>.any
 | .fn _ _=>.any
 | a=>a
def renC(σ:List Nat):AV->AV
 | .agg r=>.agg (r.map (ren1 σ))
 | a=>ren1 σ a
def renV(σ:List Nat):AV->AV
 | .agg r=>.agg (r.map (ren1 σ))
 | .fn f r=>.fn f (r.map (ren1 σ))
 | a=>ren1 σ a
def renB(σ:List Nat):Blk->Blk
 | .arr e l=>.arr e (l.map (renC σ))
 | .mp es=>.mp (es.map fun x=>(x.1,renV σ x.2))
 | b=>b
def renE(σ:List Nat):Env->Env
 | []=>[]
 | (t,v)::r=>(t,renV σ v)::renE σ r
def renS(σ:List Nat)(s:List Blk):List Blk:=σ.map fun i=>renB σ (s.getD i .dead)
def mpOk:Blk->Bool
 | .it _ _ _=>false
 | _=>true
def renOk(σ:List Nat)(n:Nat)(s:List Blk):Bool:=σ.all (fun i=>decide (i<s.length)&&mpOk (s.getD i .dead))&&(decide σ.Nodup&&(σ.take n==List.range n))
theorem AzE:∀ {σ:List Nat}{id k j:Nat},idx σ id j=some k->j<=k/\σ[k-j]? = some id
 | [],_,_,_,h=>by cases h
 | a::r,id,k,j,h=>by
  simp only[idx]at h
  by_cases e:a=id
  .subst e
   simp at h
   subst h
   simp
  .have:(a==id)=false:=by simpa using e
   simp only[this,cond_false]at h;obtain⟨h1,h2⟩:=AzE h;refine⟨by omega,?_⟩;rw[show k-j=(k-(j+1))+1 by omega]
   simpa using h2
section
variable {h:Mem}{ρ:Own}{s:List Blk}{w:World}{σ:List Nat}
def renρ(ρ:Own)(σ:List Nat):Own:=fun k=>match σ[k]? with
 | some i=>ρ i
 | none=>none
theorem AkU{k i:Nat}(hk:σ[k]? = some i)(hi:i<s.length):(renS σ s)[k]? = some (renB σ (s[i])):=by
 simp only[renS,List.getElem?_map,hk,Option.map_some,List.getD_eq_getElem?_getD,List.getElem?_eq_getElem hi,Option.getD_some]
theorem A6E{σ:List Nat}(hs:∀ i∈σ,i<s.length){k id:Nat}(hk:σ[k]? = some id){v:Value}{a b c:Nat}(l:LfC ρ s v (.sl id a b c)):LfC (renρ ρ σ) (renS σ s) v (.sl k a b c):=by
 have hi:=hs id (List.mem_of_getElem? hk);have hρ:renρ ρ σ k=ρ id:=by simp[renρ,hk]
 simp only[LfC,AkU hk hi,List.getElem?_eq_getElem hi,hρ]at l |-
 cases hq:s[id] <;> rw[hq]at l <;> simp only[renB,List.length_map]at l |- <;> exact l
theorem AzF{σ:List Nat}(hs:∀ i∈σ,i<s.length){k id:Nat}(hk:σ[k]? = some id){v:Value}{a b c:Nat}(l:LfC ρ s v (.ptr id a b c)):LfC (renρ ρ σ) (renS σ s) v (.ptr k a b c):=by
 have hi:=hs id (List.mem_of_getElem? hk);have hρ:renρ ρ σ k=ρ id:=by simp[renρ,hk]
 simp only[LfC,AkU hk hi,List.getElem?_eq_getElem hi,hρ]at l |-
 cases hq:s[id] <;> rw[hq]at l <;> simp only[renB,List.length_map]at l |- <;> exact l
theorem A6F{σ:List Nat}(hs:∀ i∈σ,i<s.length){k id:Nat}(hk:σ[k]? = some id){v:Value}(l:LfC ρ s v (.mp id)):LfC (renρ ρ σ) (renS σ s) v (.mp k):=by
 have hi:=hs id (List.mem_of_getElem? hk);have hρ:renρ ρ σ k=ρ id:=by simp[renρ,hk]
 simp only[LfC,AkU hk hi,List.getElem?_eq_getElem hi,hρ]at l |-
 cases hq:s[id] <;> rw[hq]at l <;> simp only[renB]at l |- <;> exact l
theorem AwP{σ:List Nat}{id k:Nat}(h:idx σ id 0=some k):σ[k]? = some id:=by simpa using(AzE h).2
theorem AwQ(hs:∀ i∈σ,i<s.length){v:Value}{a:AV}(r:RV h (Lf ρ s) false v a):RV h (Lf (renρ ρ σ) (renS σ s)) false v (ren1 σ a):=by
 have frz:frozen a=true->RV h (Lf (renρ ρ σ) (renS σ s)) false v a:=fun hf=>(AeM r hf).thaw (fun _ _ _ x=>x)
 cases a with
 | sl id o l c =>
  simp only[ren1]
  cases hq:idx σ id 0 with
  | none=>exact .any _
  | some k=>exact .leaf ⟨(AbL r).1,A6E hs (AwP hq) (AbL r).2⟩
 | ptr id n i o =>
  simp only[ren1]
  cases hq:idx σ id 0 with
  | none=>exact .any _
  | some k=>exact .leaf ⟨(AcD r).1,AzF hs (AwP hq) (AcD r).2⟩
 | mp id =>
  simp only[ren1]
  cases hq:idx σ id 0 with
  | none=>exact .any _
  | some k=>exact .leaf ⟨(AgR r).1,A6F hs (AwP hq) (AgR r).2⟩
 | agg r=>exact .any _
 | tup r=>exact .any _
 | fn f r=>exact .any _
 | _=>exact frz rfl
theorem AgB(hs:∀ i∈σ,i<s.length):∀ {l:List AV}{vs:List Value},RL h (Lf ρ s) false vs l->RL h (Lf (renρ ρ σ) (renS σ s)) false vs (l.map (ren1 σ))
 | [],_,r=>by cases r; exact .nil
 | a::l,_,r=>by cases r with|cons r1 r2=>exact .cons (AwQ hs r1) (AgB hs r2)
theorem renC_cells(σ:List Nat)(x:AV):cellsOf (renC σ x)=(cellsOf x).map (ren1 σ):=by
 cases x with
 | sl id o l c=>simp only[renC,ren1,cellsOf,List.map_cons,List.map_nil]; cases idx σ id 0 <;> rfl
 | ptr id n i o=>simp only[renC,ren1,cellsOf,List.map_cons,List.map_nil]; cases idx σ id 0 <;> rfl
 | mp id=>simp only[renC,ren1,cellsOf,List.map_cons,List.map_nil]; cases idx σ id 0 <;> rfl
 | _=>rfl
theorem renC_flat(σ:List Nat):∀ l,flat (l.map (renC σ))=(flat l).map (ren1 σ)
 | []=>rfl
 | x::r=>by simp only[List.map_cons,flat,renC_cells,renC_flat σ r,List.map_append]
theorem BhQ(hs:∀ i∈σ,i<s.length){u:Value}{y:AV}(hx:RV h (Lf ρ s) false u y):RV h (Lf (renρ ρ σ) (renS σ s)) false u (renV σ y):=by
 cases y with
 | agg r =>
  obtain⟨vs,rfl,rl⟩:=AaO hx;exact .agg vs _ (AgB hs rl)
 | fn f r =>
  cases hx with
  | leaf p=>exact p.2.elim
  | fn _ vs _ rl=>exact .fn f vs _ (AgB hs rl)
 | _=>exact AwQ hs hx
theorem Mine.ren(m:Mine h ρ s w)(hs:∀ i∈σ,i<s.length)(hm:∀ i∈σ,mpOk (s.getD i .dead)=true)(hn:σ.Nodup):Mine h (renρ ρ σ) (renS σ s) w:=by
 have hρ:∀ k g t,renρ ρ σ k=some (g,t)->∃ i,σ[k]? = some i/\ρ i=some (g,t):=by
  intro k g t e;unfold renρ at e
  cases hq:σ[k]? with
  | none=>rw[hq]at e; cases e
  | some i=>rw[hq]at e; exact⟨i,rfl,e⟩
 refine⟨m.mem,?_,?_,?_,?_⟩
 .intro k b e
  have hk:k<σ.length:=by
   have:=(List.getElem?_eq_some_iff.1 e).1
   simpa[renS]using this
  have hq:=List.getElem?_eq_getElem hk;have hi:=hs σ[k] (List.getElem_mem hk);have hmk:=hm σ[k] (List.getElem_mem hk);rw[AkU hq hi]at e;simp only[Option.some.injEq]at e;subst e;have o:=m.own σ[k] s[σ[k]] (List.getElem?_eq_getElem hi);have hρk:renρ ρ σ k=ρ σ[k]:=by simp[renρ,hq]
  rw[List.getD_eq_getElem?_getD,List.getElem?_eq_getElem hi,Option.getD_some]at hmk
  cases hb:s[σ[k]]with
  | arr es l =>
   rw[hb]at o
   rcases o with⟨h1,h2⟩|⟨g,tot,cur,t,h1,h2,h3,h4,h5,h6,h7,h8,h9⟩
   .exact .inl ⟨by simp[h1],hρk.trans h2⟩
   .refine .inr ⟨g,tot,cur,t,hρk.trans h1,h2,h3,by simpa using h4,h5,h6,?_,h8,?_⟩
    .intro x hx
     obtain⟨y,hy,rfl⟩:=List.mem_map.1 hx;rw[renC_cells,List.length_map];exact h7 y hy
    .rw [renC_flat,List.length_map]
     exact AgB hs h9
  | mp es =>
   rw[hb]at o hmk;obtain⟨g,en,cl,h1,h2,h3,h4,h5⟩:=o;refine⟨g,en,cl,hρk.trans h1,h2,by rw[lvs_map]; simpa using h3,fun k x y hx hy=>?_,h5.map _⟩;rw[lvs_map,List.getElem?_map]at hx;obtain⟨x',hx',rfl⟩:=Option.map_eq_some_iff.1 hx;obtain⟨p,q⟩:=h4 k x' y hx' hy;exact⟨p.thaw (fun _ _ _ x=>x),BhQ hs q⟩
  | it mid n seen=>rw[hb]at hmk; cases hmk
  | dead=>rw[hb]at o; exact hρk.trans o
 .intro k hk
  have:σ[k]? = none:=List.getElem?_eq_none (by simpa[renS]using hk)
  simp[renρ,this]
 .intro k k' g t t' hi hj
  obtain⟨i,h1,h2⟩:=hρ k g t hi;obtain⟨j,h3,h4⟩:=hρ k' g t' hj;have hij:=m.inj i j g t t' h2 h4;subst hij;exact(List.getElem?_inj (List.getElem?_eq_some_iff.1 h1).1 hn).1 (h1.trans h3.symm)
 .intro k g t e
  obtain⟨i,h1,h2⟩:=hρ k g t e;exact m.disj i g t h2
end
variable {c:Cx}{e:Env}{s:List Blk}
theorem AzG(σ:List Nat)(t:Nat):∀ r,get (renE σ r) t=.any\/get (renE σ r) t=renV σ (get r t)
 | []=>.inl rfl
 | (t',v)::r=>by
  have ih:=AzG σ t r;simp only[renE,Av.get]
  cases t'==t with
  | true=>exact .inr rfl
  | false=>exact ih
theorem Shift.ren(σ:List Nat)(hσ:renOk σ c.sto.length s=true):Shift c e s (renE σ e) (renS σ s):=by
 rintro a w ⟨hh,ρ,hm,hlt,he,hdf,hsz,hX⟩;simp only[renOk,Bool.and_eq_true,List.all_eq_true,decide_eq_true_eq,beq_iff_eq]at hσ;obtain⟨h1,h2,h3⟩:=hσ;have hs:∀ i∈σ,i<s.length:=fun i hi=>(h1 i hi).1
 have keep:∀ i,i<c.sto.length->σ[i]? = some i:=fun i hi=>by
  have:(σ.take c.sto.length)[i]? = some i:=by rw[h3]; simp[hi]
  rwa [List.getElem?_take,if_pos hi]at this
 have low:∀ v x,Lf c.ρ c.sto v x->Lf (renρ ρ σ) (renS σ s) v x:=by
  intro v x lf;have l2:=hlt.keep v x lf;refine⟨lf.1,?_⟩;have hx:=lf.2;have l3:=l2.2
  cases x with
  | sl i o l cp =>
   simp only[LfC]at hx
   cases hq:c.sto[i]? with
   | none=>simp[hq]at hx
   | some y=>exact A6E hs (keep i (List.getElem?_eq_some_iff.1 hq).1) l3
  | ptr i n j o =>
   simp only[LfC]at hx
   cases hq:c.sto[i]? with
   | none=>simp[hq]at hx
   | some y=>exact AzF hs (keep i (List.getElem?_eq_some_iff.1 hq).1) l3
  | mp i =>
   simp only[LfC]at hx
   cases hq:c.sto[i]? with
   | none=>simp[hq]at hx
   | some y=>exact A6F hs (keep i (List.getElem?_eq_some_iff.1 hq).1) l3
  | _=>exact l3.elim
 have hρ:∀ k g t,renρ ρ σ k=some (g,t)->∃ i,ρ i=some (g,t):=by
  intro k g t e;unfold renρ at e
  cases hq:σ[k]? with
  | none=>rw[hq]at e; cases e
  | some i=>rw[hq]at e; exact⟨i,e⟩
 refine⟨hh,renρ ρ σ,hm.ren hs (fun i hi=>(h1 i hi).2) h2,⟨hlt.hle,hlt.hnew,low,hlt.os,hlt.tape,hlt.output,hlt.size,hlt.block,fun k g t hk=>?_⟩,fun t=>?_,hdf,hsz,c.hx.fewer (fun k g t hk=>?_) hX⟩
 .obtain ⟨i,hi⟩:=hρ k g t hk
  exact hlt.newown i g t hi
 .have hx:=he t
  rcases AzG σ t e with hq|hq
  .rw [hq]; exact .any _
  .rw [hq]
   generalize Av.get e t=y at hx |-
   cases y with
   | agg r =>
    obtain⟨vs,hv,rl⟩:=AaO hx;rw[hv];exact .agg vs _ (AgB hs rl)
   | fn f r =>
    generalize a.tmps.getD t undef=u at hx |-
    cases hx with
    | leaf p=>exact p.2.elim
    | fn _ vs _ rl=>exact .fn f vs _ (AgB hs rl)
   | _=>exact AwQ hs hx
 .obtain ⟨i,hi⟩:=hρ k g t hk
  exact⟨i,t,hi⟩
end Go.Av
namespace Go.Av
open Go Go.RowKit
variable [Tr]
def sh1(n:Nat):AV->AV
 | .sl id o l c=>.sl (id+n) o l c
 | .ptr id m i o=>.ptr (id+n) m i o
 | .mp id=>.mp (id+n)
 | .agg _=>.any
 | .tup _=>.any
 | .fn _ _=>.any
 | a=>a
def shC(n:Nat):AV->AV
 | .agg r=>.agg (r.map (sh1 n))
 | a=>sh1 n a
def shV(n:Nat):AV->AV
 | .tup r=>.tup (r.map (shC n))
 | .agg r=>.agg (r.map (sh1 n))
 | a=>sh1 n a
def shB(n:Nat):Blk->Blk
 | .arr e l=>.arr e (l.map (shC n))
 | .mp es=>.mp (es.map fun x=>(x.1,shC n x.2))
 | b=>b
section
variable {h:Mem}{ρ1 ρ2:Own}{s1 s2:List Blk}{n:Nat}
theorem AwR(hs:∀ id,s2[id+n]? = (s1[id]?).map (shB n))(hr:∀ id,ρ2 (id+n)=ρ1 id){v:Value}{a:AV}(l:Lf ρ1 s1 v a):Lf ρ2 s2 v (sh1 n a):=by
 refine⟨l.1,?_⟩;have l:=l.2
 cases a with
 | sl id a b c =>
  simp only[sh1,LfC,hs,hr]at l |-
  cases hq:s1[id]? with
  | none=>rw[hq]at l; exact l.elim
  | some b=>rw[hq]at l; cases b <;> simp only[Option.map_some,shB,List.length_map]at l |- <;> exact l
 | ptr id a b c =>
  simp only[sh1,LfC,hs,hr]at l |-
  cases hq:s1[id]? with
  | none=>rw[hq]at l; exact l.elim
  | some b=>rw[hq]at l; cases b <;> simp only[Option.map_some,shB,List.length_map]at l |- <;> exact l
 | mp id =>
  simp only[sh1,LfC,hs,hr]at l |-
  cases hq:s1[id]? with
  | none=>rw[hq]at l; exact l.elim
  | some b=>rw[hq]at l; cases b <;> simp only[Option.map_some,shB]at l |- <;> exact l
 | _=>exact l.elim
theorem A6G(hs:∀ id,s2[id+n]? = (s1[id]?).map (shB n))(hr:∀ id,ρ2 (id+n)=ρ1 id){v:Value}{a:AV}(r:RV h (Lf ρ1 s1) false v a):RV h (Lf ρ2 s2) false v (sh1 n a):=by
 have frz:frozen a=true->RV h (Lf ρ2 s2) false v a:=fun hf=>(AeM r hf).thaw (fun _ _ _ x=>x)
 cases a with
 | sl id o l c=>exact .leaf (AwR hs hr (AbL r))
 | ptr id n i o=>exact .leaf (AwR hs hr (AcD r))
 | mp id=>exact .leaf (AwR hs hr (AgR r))
 | agg r=>exact .any _
 | tup r=>exact .any _
 | fn f r=>exact .any _
 | _=>exact frz rfl
theorem AmP(hs:∀ id,s2[id+n]? = (s1[id]?).map (shB n))(hr:∀ id,ρ2 (id+n)=ρ1 id):∀ {l:List AV}{vs:List Value},RL h (Lf ρ1 s1) false vs l->RL h (Lf ρ2 s2) false vs (l.map (sh1 n))
 | [],_,r=>by cases r; exact .nil
 | a::l,_,r=>by cases r with|cons r1 r2=>exact .cons (A6G hs hr r1) (AmP hs hr r2)
theorem AwS(hs:∀ id,s2[id+n]? = (s1[id]?).map (shB n))(hr:∀ id,ρ2 (id+n)=ρ1 id){v:Value}{a:AV}(r:RV h (Lf ρ1 s1) false v a):RV h (Lf ρ2 s2) false v (shC n a):=by
 cases a with
 | agg l =>
  obtain⟨vs,rfl,rl⟩:=AaO r;exact .agg vs _ (AmP hs hr rl)
 | _=>exact A6G hs hr r
theorem AzH(hs:∀ id,s2[id+n]? = (s1[id]?).map (shB n))(hr:∀ id,ρ2 (id+n)=ρ1 id):∀ {l:List AV}{vs:List Value},RL h (Lf ρ1 s1) false vs l->RL h (Lf ρ2 s2) false vs (l.map (shC n))
 | [],_,r=>by cases r; exact .nil
 | a::l,_,r=>by cases r with|cons r1 r2=>exact .cons (AwS hs hr r1) (AzH hs hr r2)
theorem BfH(hs:∀ id,s2[id+n]? = (s1[id]?).map (shB n))(hr:∀ id,ρ2 (id+n)=ρ1 id){v:Value}{a:AV}(r:RV h (Lf ρ1 s1) false v a):RV h (Lf ρ2 s2) false v (shV n a):=by
 cases a with
 | tup l =>
  obtain⟨vs,rfl,rl⟩:=AvS r;exact .tup vs _ (AzH hs hr rl)
 | agg l =>
  obtain⟨vs,rfl,rl⟩:=AaO r;exact .agg vs _ (AmP hs hr rl)
 | _=>exact A6G hs hr r
theorem shC_cells(n:Nat)(x:AV):cellsOf (shC n x)=(cellsOf x).map (sh1 n):=by cases x <;> rfl
theorem shC_flat(n:Nat):∀ l,flat (l.map (shC n))=(flat l).map (sh1 n)
 | []=>rfl
 | x::r=>by simp only[List.map_cons,flat,shC_cells,shC_flat n r,List.map_append]
theorem BfI{ρ ρ2:Own}{s t:List Blk}(hr:∀ i,i<s.length->ρ2 i=ρ i){v:Value}{a:AV}(l:Lf ρ s v a):Lf ρ2 (s++t) v a:=by
 refine⟨l.1,?_⟩;have l:=l.2;have key:∀ id b,s[id]? = some b->(s++t)[id]? = some b/\ρ2 id=ρ id:=fun id b hb=>by
  have hi:=(List.getElem?_eq_some_iff.1 hb).1;exact⟨by rw[List.getElem?_append_left hi,hb],hr id hi⟩
 cases a with
 | sl id a b c =>
  simp only[LfC]at l |-
  cases hq:s[id]? with
  | none=>rw[hq]at l; exact l.elim
  | some b=>rw[hq]at l; obtain⟨k1,k2⟩:=key id b hq; rw[k1,k2]; exact l
 | ptr id a b c =>
  simp only[LfC]at l |-
  cases hq:s[id]? with
  | none=>rw[hq]at l; exact l.elim
  | some b=>rw[hq]at l; obtain⟨k1,k2⟩:=key id b hq; rw[k1,k2]; exact l
 | mp id =>
  simp only[LfC]at l |-
  cases hq:s[id]? with
  | none=>rw[hq]at l; exact l.elim
  | some b=>rw[hq]at l; obtain⟨k1,k2⟩:=key id b hq; rw[k1,k2]; exact l
 | _=>exact l.elim
end
theorem Ct.liftN{P:Program}{f:FuncId}{args:List AV}{post:AV->List Blk->Prop}(hc:Ct P f args [] post)(ha:args.all nr1=true)(hmp:∀ r s',post r s'->s'.all mpOk=true)
  (s:List Blk):Ct P f args s (fun r2 s2=>∃ r s',post r s'/\r2=shV s.length r/\s2=s++s'.map (shB s.length)):=by
 refine⟨hc.1,fun h ρ w vs m r=>?_⟩;have hm0:Mine h (fun _=>none) [] w:=⟨m.mem,fun id blk e=>by simp at e,fun _ _=>rfl,fun i j g t t' e=>by simp at e,fun i g t e=>by simp at e⟩;refine(hc.2 h (fun _=>none) w vs hm0 ((AhT (Lf':=Lf0) r ha).thaw (fun _ _ _ x=>x))).mono ?_;rintro en w' ⟨v,r,s1,h',ρ1,rfl,hpost,m',lt,rv⟩;have hgood:∀ i g t,ρ1 i=some (g,t)->w.heap.size<=g:=fun i g t e=>by
  rcases lt.newown i g t e with⟨j,t',hj⟩|h
  .cases hj
  .exact h
 have hblk:∀ k,k<w.heap.size->w'.heap[k]? = w.heap[k]?:=fun k hk=>lt.block k hk (fun i t e=>by cases e)
 have hnew:∀ b o,h b o=none->h' b o≠none->w.heap.size<=b:=fun b o e n=>by
  rcases lt.hnew b o e n with⟨j,t',hj⟩|h
  .cases hj
  .exact h
 obtain⟨ρ2,hρ2⟩:∃ ρ2:Own,ρ2=fun k=>if k<s.length then ρ k else ρ1 (k-s.length):=⟨_,rfl⟩
 have hlo:∀ i,i<s.length->ρ2 i=ρ i:=fun i hi=>by rw[hρ2]; simp[hi]
 have hhi:∀ i,ρ2 (i+s.length)=ρ1 i:=fun i=>by
  rw[hρ2]
  show(if i+s.length<s.length then ρ (i+s.length) else ρ1 (i+s.length-s.length))=_
  rw[if_neg (by omega),Nat.add_sub_cancel]
 have hkeep:∀ v a,Lf ρ s v a->Lf ρ2 (s++s1.map (shB s.length)) v a:=fun v a x=>BfI hlo x
 have hst:∀ id,(s++s1.map (shB s.length))[id+s.length]? = (s1[id]?).map (shB s.length):=fun id=>by
  rw[List.getElem?_append_right (by omega),Nat.add_sub_cancel,List.getElem?_map]
 have hown:∀ i g t,ρ2 i=some (g,t)->(i<s.length/\ρ i=some (g,t)/\g<w.heap.size)\/(s.length<=i/\ρ1 (i-s.length)=some (g,t)/\w.heap.size<=g):=fun i g t e=>by
  by_cases hi:i<s.length
  .rw [hlo i hi]at e
   exact .inl ⟨hi,e,m.lt e⟩
  .have e2:ρ2 i=ρ1 (i-s.length):=by rw[<- hhi]; congr 1; omega
   rw[e2]at e;exact .inr ⟨by omega,e,hgood _ g t e⟩
 refine⟨v,_,_,h',ρ2,rfl,⟨r,s1,hpost,rfl,rfl⟩,⟨m'.mem,?_,?_,?_,?_⟩,⟨lt.hle,fun b o e n=>.inr (hnew b o e n),hkeep,lt.os,lt.tape,lt.output,lt.size,fun k hk _=>hblk k hk,?_⟩,BfH hst hhi rv⟩
 .intro i blk e
  by_cases hi:i<s.length
  .rw [List.getElem?_append_left hi]at e
   exact(m.own i blk e).mono lt.hle hkeep (hlo i hi) (fun g t hg=>hblk g (m.lt hg))
  .obtain ⟨j,rfl⟩:∃ j,i=j+s.length:=⟨i-s.length,by omega⟩
   rw[hst]at e
   cases hb:s1[j]? with
   | none=>rw[hb]at e; cases e
   | some b =>
    rw[hb]at e;simp only[Option.map_some,Option.some.injEq]at e;subst e;have o:=m'.own j b hb;have hmb:=List.all_eq_true.1 (hmp _ _ hpost) b (List.mem_of_getElem? hb)
    cases b with
    | arr es l =>
     rcases o with⟨h1,h2⟩|⟨g,tot,cur,t,h1,h2,h3,h4,h5,h6,h7,h8,h9⟩
     .exact .inl ⟨by simp[h1],(hhi j).trans h2⟩
     .refine .inr ⟨g,tot,cur,t,(hhi j).trans h1,h2,h3,by simpa using h4,h5,h6,?_,h8,?_⟩
      .intro x hx
       obtain⟨y,hy,rfl⟩:=List.mem_map.1 hx;rw[shC_cells,List.length_map];exact h7 y hy
      .rw [shC_flat,List.length_map]
       exact AmP hst hhi h9
    | mp es =>
     obtain⟨g,en,cl,h1,h2,h3,h4,h5⟩:=o;refine⟨g,en,cl,(hhi j).trans h1,h2,by rw[lvs_map]; simpa using h3,fun k x y hx hy=>?_,h5.map _⟩;rw[lvs_map,List.getElem?_map]at hx;obtain⟨x',hx',rfl⟩:=Option.map_eq_some_iff.1 hx;obtain⟨p,q⟩:=h4 k x' y hx' hy;exact⟨p.thaw (fun _ _ _ x=>x),AwS hst hhi q⟩
    | it mid n seen=>cases hmb
    | dead=>exact(hhi j).trans o
 .intro i hi
  simp at hi
  have e2:ρ2 i=ρ1 (i-s.length):=by rw[<- hhi]; congr 1; omega
  rw[e2];exact m'.out _ (by omega)
 .intro i j g t t' hi hj
  rcases hown i g t hi with⟨a1,a2,a3⟩|⟨a1,a2,a3⟩ <;> rcases hown j g t' hj with⟨b1,b2,b3⟩|⟨b1,b2,b3⟩
  .exact m.inj i j g t t' a2 b2
  .omega
  .omega
  .have:=m'.inj _ _ g t t' a2 b2
   omega
 .intro i g t e o
  rcases hown i g t e with⟨a1,a2,a3⟩|⟨a1,a2,a3⟩
  .cases hq:h' g o with
   | none=>rfl
   | some z =>
    have:=hnew g o (m.disj i g t a2 o) (by rw[hq]; simp);omega
  .exact m'.disj _ g t a2 o
 .intro i g t e
  rcases hown i g t e with⟨a1,a2,a3⟩|⟨a1,a2,a3⟩
  .exact .inl ⟨i,t,a2⟩
  .exact .inr a3
def AdR(w:World):Mem:=fun b o=>match w.cell? ⟨b,o,none⟩with
 | some v=>if v.oneCell'=true then some v else none
 | none=>none
theorem AtJ{w:World}:∀ b o v,AdR w b o=some v->w.cell? ⟨b,o,none⟩=some v/\v.oneCell'=true:=fun b o v e=>by
 unfold AdR at e
 cases hc:w.cell? ⟨b,o,none⟩with
 | none=>rw[hc]at e; cases e
 | some u =>
  rw[hc]at e;simp only at e
  split at e
  .cases e; exact⟨rfl,by assumption⟩
  .cases e
theorem BcL{h:Mem}{w:World}(hm:∀ b o v,h b o=some v->w.cell? ⟨b,o,none⟩=some v/\v.oneCell'=true):∀ b o v,h b o=some v->AdR w b o=some v:=fun b o v e=>by
 obtain⟨h1,h2⟩:=hm b o v e;unfold AdR;rw[h1]
 simp[h2]
def bor:Nat->List Blk->AV->AV
 | 0,_,a=>match a with
  | .sl _ _ _ _=>.any
  | .ptr _ _ _ _=>.any
  | .mp _=>.any
  | .agg _=>.any
  | .tup _=>.any
  | .fn _ _=>.any
  | a=>a
 | n+1,s,a=>match a with
  | .sl id off len cap=>match s.getD id .dead with
   | .arr e l=>bif decide (off+cap=l.length)&&decide (len<=cap) then .fz e (((l.drop off).take len).map fun x=>match x with
    | .agg r=>.agg (r.map (bor n s))
    | x=>bor n s x) else .any
   | _=>.any
  | .ptr _ _ _ _=>.any
  | .mp _=>.any
  | .agg _=>.any
  | .tup _=>.any
  | .fn _ _=>.any
  | a=>a
def borC(n:Nat)(s:List Blk):AV->AV
 | .agg r=>.agg (r.map (bor n s))
 | x=>bor n s x
theorem bor_sl(n:Nat)(s:List Blk)(id off len cap:Nat):bor (n+1) s (.sl id off len cap)=match s.getD id .dead with
   | .arr e l=>bif decide (off+cap=l.length)&&decide (len<=cap) then .fz e (((l.drop off).take len).map (borC n s)) else .any
   | _=>.any:=rfl
theorem bor_cells(n:Nat)(s:List Blk)(x:AV):cellsOf (borC n s x)=(cellsOf x).map (bor n s):=by
 have key:∀ a,cellsOf (bor n s a)=[bor n s a]:=fun a=>by
  cases n with
  | zero=>cases a <;> rfl
  | succ n =>
   cases a with
   | sl id off len cap =>
    rw[bor_sl]
    split
    .cases decide (off+cap=_)&&decide (len<=cap) <;> rfl
    .rfl
   | _=>rfl
 cases x with
 | agg r=>rfl
 | _=>exact key _
theorem bor_flat(n:Nat)(s:List Blk):∀ l,flat (l.map (borC n s))=(flat l).map (bor n s)
 | []=>rfl
 | x::r=>by simp only[List.map_cons,flat,bor_cells,bor_flat n s r,List.map_append]
section
variable {h:Mem}{ρ:Own}{s:List Blk}{w:World}
theorem A6H{v:Value}{a:AV}(m:Mine h ρ s w)(r:RV h (Lf ρ s) false v a)(hf:frozen a=true):RV (AdR w) Lf0 true v a :=
 (AeM r hf).thaw (BcL m.mem)
theorem AkV{n:Nat}(hn:∀ {v:Value}{a:AV},RV h (Lf ρ s) false v a->RV (AdR w) Lf0 true v (bor n s a)):∀ {l:List AV}{vs:List Value},RL h (Lf ρ s) false vs l->RL (AdR w) Lf0 true vs (l.map (bor n s))
 | [],_,r=>by cases r; exact .nil
 | a::l,_,r=>by cases r with|cons r1 r2=>exact .cons (hn r1) (AkV hn r2)
theorem AzI(m:Mine h ρ s w):∀ (n:Nat){v:Value}{a:AV},RV h (Lf ρ s) false v a->RV (AdR w) Lf0 true v (bor n s a)
 | 0,v,a,r=>by
  cases a with
  | sl id o l c=>exact .any _
  | ptr id m i o=>exact .any _
  | mp id=>exact .any _
  | agg r=>exact .any _
  | tup r=>exact .any _
  | fn f r=>exact .any _
  | _=>exact A6H m r rfl
 | n+1,v,a,r=>by
  cases a with
  | sl id off len cap =>
   rw[bor_sl];have hl:=(AbL r).2
   cases hq:s[id]? with
   | none=>simp only[LfC,hq]at hl
   | some b =>
    have hgd:s.getD id .dead=b:=by rw[List.getD_eq_getElem?_getD,hq]; rfl
    rw[hgd]
    cases b with
    | arr e l =>
     simp only
     cases hd:decide (off+cap=l.length)&&decide (len<=cap)with
     | false=>exact .any _
     | true =>
      simp only[Bool.and_eq_true,decide_eq_true_eq]at hd;obtain⟨hc,hlc⟩:=hd;simp only[LfC,hq]at hl;simp only[cond_true]
      rcases hl.2 hc with⟨rfl,rfl,a,rfl⟩|⟨g,tot,h1,rfl,_⟩
      .simp only [List.take_zero,List.map_nil]
       cases a with
       | none=>simpa[at0]using RV.fznil e
       | some a=>simpa[at0]using RV.fz (h:=AdR w) (Lf:=Lf0) (fl:=true) a.1 a.2 0 e [] [] .nil (by simp) (by simp) (Nat.le_refl _)
      .rcases m.own id _ hq with⟨_,hn⟩|⟨g',tot',cur,t,h3,h4,h5,h6,h7,h8,h9,h10,h11⟩
       .rw [hn]at h1; cases h1
       .rw [h3]at h1
        simp only[Option.some.injEq,Prod.mk.injEq]at h1;obtain⟨rfl,rfl⟩:=h1;have hfl:=AaK h9;have hlen:(((l.drop off).take len).map (borC n s)).length=len:=by simp; omega
        have hr:RL (AdR w) Lf0 true (((cur.toList.take (l.length*e)).drop (off*e)).take (len*e)) (flat (((l.drop off).take len).map (borC n s))):=by
         rw[bor_flat,<- AbP (l:=l.drop off) (esz:=e) (fun x hx=>h9 x (List.mem_of_mem_drop hx)) len,<- AbB h9 off,List.map_take,List.map_drop];exact((AkV (fun r=>AzI m n r) h11).drop _).take _
        have:=RV.fz (h:=AdR w) (Lf:=Lf0) (fl:=true) g' (off*e) (tot'-off) e (((l.drop off).take len).map (borC n s)) _ hr (fun x hx=>by
         obtain⟨y,hy,rfl⟩:=List.mem_map.1 hx;rw[bor_cells,List.length_map];exact h9 y (List.mem_of_mem_drop (List.mem_of_mem_take hy))) (fun k v hk=>by
         rw[List.getElem?_take]at hk
         split at hk
         .rw [List.getElem?_drop,List.getElem?_take]at hk
          split at hk
          .have h12:=h10 v (List.mem_of_getElem? hk)
           unfold AdR;rw[h4.cell,<- Array.getElem?_toList,hk]
           simp[h12]
          .simp at hk
         .simp at hk) (by rw[hlen]; omega)
        rwa [hlen]at this
    | _=>exact .any _
  | ptr id m i o=>exact .any _
  | mp id=>exact .any _
  | agg r=>exact .any _
  | tup r=>exact .any _
  | fn f r=>exact .any _
  | _=>exact A6H m r rfl
theorem BhR(m:Mine h ρ s w)(n:Nat){v:Value}{a:AV}(r:RV h (Lf ρ s) false v a):RV (AdR w) Lf0 true v (borC n s a):=by
 cases a with
 | agg l =>
  obtain⟨vs,rfl,rl⟩:=AaO r;exact .agg vs _ (AkV (fun r=>AzI m n r) rl)
 | _=>exact AzI m n r
end
def BlL:AV->Bool
 | .int _ _=>true
 | .bool _=>true
 | .str _=>true
 | _=>false
end Go.Av
namespace Go.Av
open Go Go.RowKit
variable [Tr]
def borP(n:Nat)(s:List Blk):AV->AV
 | .ptr id m i off=>match s.getD id .dead with
  | .arr e l=>bif decide (m=l.length)&&decide (i<l.length) then .pin e (l.map (borC n s)) i off else .any
  | _=>.any
 | x=>borC n s x
def borF(n:Nat)(s:List Blk):AV->AV
 | .fn f r=>.fn f (r.map (borP n s))
 | x=>borP n s x
section
variable {h:Mem}{ρ:Own}{s:List Blk}{w:World}
theorem A6I(m:Mine h ρ s w)(n:Nat){v:Value}{a:AV}(r:RV h (Lf ρ s) false v a):RV (AdR w) Lf0 true v (borP n s a):=by
 cases a with
 | ptr id k i off =>
  have hl:=(AcD r).2;simp only[borP]
  cases hq:s[id]? with
  | none =>
   have hgd:s.getD id .dead=.dead:=by rw[List.getD_eq_getElem?_getD,hq]; rfl
   rw[hgd];exact .any _
  | some b =>
   have hgd:s.getD id .dead=b:=by rw[List.getD_eq_getElem?_getD,hq]; rfl
   rw[hgd]
   cases b with
   | arr e l =>
    simp only
    cases hd:decide (k=l.length)&&decide (i<l.length)with
    | false=>exact .any _
    | true =>
     simp only[Bool.and_eq_true,decide_eq_true_eq]at hd;obtain⟨hd1,hd⟩:=hd;simp only[LfC,hq]at hl;obtain⟨_,g,tot,h1,rfl⟩:=hl.2 hd1;simp only[cond_true]
     rcases m.own id _ hq with⟨_,hn⟩|⟨g',tot',cur,t,h3,h4,h5,h6,h7,h8,h9,h10,h11⟩
     .rw [hn]at h1; cases h1
     .rw [h3]at h1
      simp only[Option.some.injEq,Prod.mk.injEq]at h1;obtain⟨rfl,rfl⟩:=h1;have hfl:=AaK h9;have hr:RL (AdR w) Lf0 true (cur.toList.take (l.length*e)) (flat (l.map (borC n s))):=by
       rw[bor_flat];exact AkV (fun r=>AzI m n r) h11
      have:=RV.pin (h:=AdR w) (Lf:=Lf0) (fl:=true) g' 0 e (l.map (borC n s)) _ i off hr (fun x hx=>by
       obtain⟨y,hy,rfl⟩:=List.mem_map.1 hx;rw[bor_cells,List.length_map];exact h9 y hy) (fun k v hk=>by
       rw[List.getElem?_take]at hk
       split at hk
       .have h12:=h10 v (List.mem_of_getElem? hk)
        unfold AdR;rw[h4.cell,<- Array.getElem?_toList,Nat.zero_add,hk]
        simp[h12]
       .simp at hk) (by rw[List.length_map]; exact hd)
      rwa [Nat.zero_add]at this
   | _=>exact .any _
 | _=>exact BhR m n r
theorem AtK(m:Mine h ρ s w)(n:Nat):∀ {l:List AV}{vs:List Value},RL h (Lf ρ s) false vs l->RL (AdR w) Lf0 true vs (l.map (borP n s))
 | [],_,r=>by cases r; exact .nil
 | a::l,_,r=>by cases r with|cons r1 r2=>exact .cons (A6I m n r1) (AtK m n r2)
theorem BhS(m:Mine h ρ s w)(n:Nat){v:Value}{a:AV}(r:RV h (Lf ρ s) false v a):RV (AdR w) Lf0 true v (borF n s a):=by
 cases a with
 | fn f l =>
  obtain⟨vs,rfl,rl⟩:=A4O r;exact .fn f vs _ (AtK m n rl)
 | _=>exact A6I m n r
theorem AmQ(m:Mine h ρ s w)(n:Nat):∀ {l:List AV}{vs:List Value},RL h (Lf ρ s) false vs l->RL (AdR w) Lf0 true vs (l.map (borF n s))
 | [],_,r=>by cases r; exact .nil
 | a::l,_,r=>by cases r with|cons r1 r2=>exact .cons (BhS m n r1) (AmQ m n r2)
end
theorem Ct.borrowF{P:Program}{f:FuncId}{args:List AV}{post:AV->Prop}(n:Nat)(s:List Blk)(hc:Pc P f (args.map (borF n s)) post)(hp:∀ r,post r->BlL r=true):Ct P f args s (fun r s'=>post r/\s'=s):=by
 refine⟨hc.1,fun h ρ w vs m r=>?_⟩;refine(hc.2 (AdR w) w vs AtJ (AmQ m n r)).mono ?_;rintro en w' ⟨v,r,h',rfl,hpo,hm',_,_,hs,rv⟩;refine⟨v,r,s,h,ρ,rfl,⟨hpo,rfl⟩,m.same hs,Later.same hs,?_⟩;have:=hp r hpo
 cases rv with
 | int k n=>exact .int k n
 | bool b=>exact .bool b
 | str s=>exact .str s
 | _=>cases this
theorem CtH.borrowF{P:Program}{g:Std}{f:FuncId}{args:List AV}{post:AV->Prop}(n:Nat)(s:List Blk)(hc:PcH P g f (args.map (borF n s)) post)(hp:∀ r,post r->BlL r=true):CtH P g f args s (fun r s'=>post r/\s'=s):=by
 refine⟨hc.1,fun h ρ w vs hg m r=>?_⟩;refine(hc.2 (AdR w) w vs (fun k o e=>(hg k o e).1) AtJ (AmQ m n r)).mono ?_;rintro en w' ⟨v,r,h',rfl,hpo,hm',_,_,hs,rv⟩;refine⟨v,r,s,h,ρ,rfl,⟨hpo,rfl⟩,m.same hs,Later.same hs,?_⟩;have:=hp r hpo
 cases rv with
 | int k n=>exact .int k n
 | bool b=>exact .bool b
 | str s=>exact .str s
 | _=>cases this
end Go.Av
set_option maxRecDepth 100000
namespace Go.Proofs.YtnfkjpihaficbaaGreatDoor
open Go Go.Av Go.RowKit _root_.Go.Proofs.Tryz
theorem AdL(l:List Sc)(i:Nat)(h:i<l.length):List.getD (List.map scA l) i .any=.agg [.str l[i].no,.int .i64 l[i].place,.str l[i].set,.int .i64 l[i].time,.fz 2 (l[i].paras.map paA)]:=by simp[List.getD,h,scA]
theorem AwT(l:List Pa)(i:Nat)(h:i<l.length):List.getD (List.map paA l) i .any=.agg [.int .i64 l[i].kind,.str l[i].text]:=by simp[List.getD,h,paA]
theorem BcM{caps:List AV}(hc:caps.all frozen0=true):caps.all nr1=true:=by
 rw[List.all_eq_true]at hc |-;intro x hx;have:=hc x hx
 cases x <;> first|exact A1Q this|(simp[frozen0]at this)
theorem AkW{a:AV}{caps:List AV}(ha:nr1 a=true)(hc:caps.all frozen0=true):(a::caps).all nr1=true:=by
 simp only[List.all_cons,ha,BcM hc,Bool.and_self]
def idxP{α:Type}(p:α->Bool)(l:List α):Int:=match l.findIdx? p with
 | some i=>i
 | none=>-1
theorem AtL{α:Type}{p:α->Bool}{l:List α}(h:∀ j,(hj:j<l.length)->p l[j]=false):idxP p l=-1:=by
 have:l.findIdx? p=none:=by
  rw[List.findIdx?_eq_none_iff];intro x hx;obtain⟨j,hj,rfl⟩:=List.getElem_of_mem hx;exact h j hj
 simp[idxP,this]
theorem AtM{α:Type}{p:α->Bool}{l:List α}{i:Nat}(hi:i<l.length)(hp:p l[i]=true)(h:∀ j,(hj:j<i)->p (l[j]'(by omega))=false):idxP p l=i:=by
 have:l.findIdx? p=some i:=by
  rw[List.findIdx?_eq_some_iff_getElem];exact⟨hi,hp,fun j hj=>by simpa using h j hj⟩
 simp[idxP,this]
theorem AzJ{α:Type}{p:α->Bool}{l:List α}:decide (idxP p l>=0)=l.any p:=by
 unfold idxP
 cases hq:l.findIdx? p with
 | none =>
  rw[List.findIdx?_eq_none_iff]at hq;have:l.any p=false:=by rw[List.any_eq_false]; intro x hx; simp[hq x hx]
  simp[this]
 | some i =>
  rw[List.findIdx?_eq_some_iff_getElem]at hq;obtain⟨hi,hp,_⟩:=hq;have:l.any p=true:=List.any_eq_true.2 ⟨_,List.getElem_mem hi,hp⟩
  simp[this]
theorem AzK(f:FuncId)(caps:List AV)(hc:caps.all frozen0=true)(p:Sc->Bool)(l:List Sc)(hl:l.length<100000000)(hf:∀ x∈l,Pc prog f (scA x::caps) (· = .bool (p x))) :
  Pc prog 167 [.fz 5 (l.map scA),.fn (.func f) caps] (· = .int .i64 (idxP p l)):=by
 refine zpIB func167 rfl fun h ρ w=>?_
 simp only[go_sem];refine AaC (ι:=Nat) (fun i=>l.length-i) (fun i=>[(8,.int .i64 i),(7,.int .i64 l.length),(1,.fn (.func f) caps),(0,.fz 5 (l.map scA))]) (fun _=>[]) (fun i=>i<=l.length/\∀ j,(hj:j<l.length)->j<i->p l[j]=false) 0 ⟨by simp,fun j _ h=>absurd h (by omega)⟩ ?_ ?_
 .refine Shift.weak ?_
  simp only[go_sem,List.length_map]
 .rintro i ⟨g1,g2⟩ J hJ
  by_cases gi:i<l.length
  .have di:decide ((i:Int)<(l.length:Int))=true:=by simp; omega
   have hfx:=hf _ (List.getElem_mem gi);simp only[scA]at hfx;refine zgB ?_;simp only[go_sem,di,AdL l i gi,List.length_map]
   repeat refine aqa ?_
   cases hp:p l[i]with
   | true =>
    rw[hp]at hfx;refine AdS hfx (AkW rfl hc) rfl rfl (zgB ?_);simp only[go_sem];exact aret [4] rfl ⟨congrArg _ (AtM gi hp fun j hj=>g2 j (by omega) hj).symm,rfl⟩
   | false =>
    rw[hp]at hfx;refine AdS hfx (AkW rfl hc) rfl rfl (zgB ?_);simp only[go_sem]
    repeat refine aqb ?_
    rw[ic i];refine ainv (hJ (i+1) ⟨by omega,fun j hj h=>?_⟩ (by omega)) (Shift.weak ?_)
    .rcases Nat.lt_or_ge j i with h2|h2
     .exact g2 j hj h2
     .have:j=i:=by omega
      subst this; exact hp
    .simp only [go_sem]
  .have di:decide ((i:Int)<(l.length:Int))=false:=by simp; omega
   refine zgB ?_;simp only[go_sem,di];exact aret [4] rfl ⟨congrArg _ (AtL fun j hj=>g2 j hj (by omega)).symm,rfl⟩
theorem AzL(f:FuncId)(caps:List AV)(hc:caps.all frozen0=true)(p:Sc->Bool)(l:List Sc)(hl:l.length<100000000)(hf:∀ x∈l,Pc prog f (scA x::caps) (· = .bool (p x))) :
  Pc prog 165 [.fz 5 (l.map scA),.fn (.func f) caps] (· = .bool (l.any p)):=by
 refine zpIB func165 rfl fun h ρ w=>?_
 simp only[go_sem];refine AdS (AzK f caps hc p l hl hf) (by simp only[List.all_cons,List.all_nil,nr1,Av.frozen,hc,Bool.and_self]) rfl rfl (zgB ?_);simp only[go_sem];refine aret [4] rfl ⟨?_,rfl⟩;simp only[resV,Av.get,Av.put,cond_true,beq_self_eq_true];rw[<- AzJ]
set_option maxRecDepth 100000
set_option linter.unusedSimpArgs false
set_option linter.unusedVariables false
theorem AqV(x n:Int)(h1:1<=n)(h2:n<=9223372036854775807) :
  Pc prog 68 [.int .i64 x,.int .i64 n] (· = .int .i64 (x%n)):=by
 refine AcF (AbV func68 rfl ntmps68 hB68 (by simp) fun h ρ w=>goW rfl 200 ?_);have hm:x.tmod n=if 0<=x\/n ∣ x then x%n else x%n-n.natAbs:=by
  rw[Int.tmod_eq_emod]; split <;> simp
 have hlt:=Int.emod_lt_of_pos x (show 0<n by omega);have hge:=Int.emod_nonneg x (show n≠0 by omega);have hna:(n.natAbs:Int)=n:=by omega
 rw[hna]at hm;simp only[go_sem,xint];refine⟨fun _=>by omega,fun _=>⟨by omega,fun h3=>?_,fun h3=>?_⟩⟩
 .refine aret [4] rfl ⟨?_,rfl⟩
  show AV.int .i64 _=_
  rw[hm]at h3 |-
  split at h3
  .omega
  .rw [if_neg (by assumption),show x%n-n+n=x%n by omega]
   exact congrArg _ (IntWalk.i64_in _ ⟨by omega,by omega⟩)
 .refine aret [4] rfl ⟨?_,rfl⟩
  show AV.int .i64 _=_
  rw[hm]at h3 |-
  split at h3
  .rw [if_pos (by assumption)]
  .omega
def str(L:List Int)(at':Int):AV:=.agg [.fz 1 (L.map (.int .i64)),.int .i64 at']
