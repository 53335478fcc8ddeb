/- A call that makes new blocks, over every table; a call that only reads, at memory of. -/
import Derived.Test.YtgenkcmfeeakoaaGreatDoorX14
set_option linter.all false
namespace Go.Av
open RowKit
variable [Tr]
def sh1(n:Nat):AV->AV
 | .sl id o l c=>.sl (id+n) o l c
 | .ptr id m i o=>.ptr (id+n) m i o
 | .mp id=>.mp (id+n)
 | .agg _=>.any
 | .tup _=>.any
 | .fn _ _=>.any
 | a=>a
def shC(n:Nat):AV->AV
 | .agg r=>.agg (r.map (sh1 n))
 | a=>sh1 n a
def shV(n:Nat):AV->AV
 | .tup r=>.tup (r.map (shC n))
 | .agg r=>.agg (r.map (sh1 n))
 | a=>sh1 n a
def shB(n:Nat):Blk->Blk
 | .arr e l=>.arr e (l.map (shC n))
 | .mp es=>.mp (es.map fun x=>(x.1,shC n x.2))
 | b=>b
section
variable {h:Mem}{ρ1 ρ2:Own}{s1 s2:LB}{n:Nat}
theorem A2M(hs:∀ id,s2[id+n]? = (s1[id]?).map (shB n))(hr:∀ id,ρ2 (id+n)=ρ1 id){v:Value}{a:AV}(l:Lf ρ1 s1 v a):Lf ρ2 s2 v (sh1 n a):=by
 refine⟨l.1,?_⟩;have l:=l.2
 cases a with
 | sl id a b c =>
  simp only[sh1,LfC,hs,hr]at l |-
  cases hq:s1[id]? with
  | none=>grind
  | some b=>rw[hq]at l; cases b <;> simp only[lcp,shB,laa]at l |- <;> exact l
 | ptr id a b c =>
  simp only[sh1,LfC,hs,hr]at l |-
  cases hq:s1[id]? with
  | none=>grind
  | some b=>rw[hq]at l; cases b <;> simp only[lcp,shB,laa]at l |- <;> exact l
 | mp id =>
  simp only[sh1,LfC,hs,hr]at l |-
  cases hq:s1[id]? with
  | none=>grind
  | some b=>rw[hq]at l; cases b <;> simp at l |- <;> exact l
 | _=>exact l.elim
theorem BeM(hs:∀ id,s2[id+n]? = (s1[id]?).map (shB n))(hr:∀ id,ρ2 (id+n)=ρ1 id){v:Value}{a:AV}(r:RV h (Lf ρ1 s1) false v a):RV h (Lf ρ2 s2) false v (sh1 n a):=by
 have frz:frozen a=true->RV h (Lf ρ2 s2) false v a:=fun hf=>(AfC r hf).thaw (fun _ _ _ x=>x)
 cases a with
 | sl id o l c=>exact .leaf (A2M hs hr (AbE r))
 | ptr id n i o=>exact .leaf (A2M hs hr (AcK r))
 | mp id=>exact .leaf (A2M hs hr (AiM r))
 | agg r=>exact .any _
 | tup r=>exact .any _
 | fn f r=>exact .any _
 | _=>exact frz rfl
theorem AoH(hs:∀ id,s2[id+n]? = (s1[id]?).map (shB n))(hr:∀ id,ρ2 (id+n)=ρ1 id):∀ {l:LA}{vs:List Value},RL h (Lf ρ1 s1) false vs l->RL h (Lf ρ2 s2) false vs (l.map (sh1 n))
 | [],_,r=>by cases r; exact .nil
 | a::l,_,r=>by cases r with|cons r1 r2=>exact .cons (BeM hs hr r1) (AoH hs hr r2)
theorem A2N(hs:∀ id,s2[id+n]? = (s1[id]?).map (shB n))(hr:∀ id,ρ2 (id+n)=ρ1 id){v:Value}{a:AV}(r:RV h (Lf ρ1 s1) false v a):RV h (Lf ρ2 s2) false v (shC n a):=by
 cases a with
 | agg l =>
  obtain⟨vs,rfl,rl⟩:=inv_agg r;exact .agg vs _ (AoH hs hr rl)
 | _=>exact BeM hs hr r
theorem A6C(hs:∀ id,s2[id+n]? = (s1[id]?).map (shB n))(hr:∀ id,ρ2 (id+n)=ρ1 id):∀ {l:LA}{vs:List Value},RL h (Lf ρ1 s1) false vs l->RL h (Lf ρ2 s2) false vs (l.map (shC n))
 | [],_,r=>by cases r; exact .nil
 | a::l,_,r=>by cases r with|cons r1 r2=>exact .cons (A2N hs hr r1) (A6C hs hr r2)
theorem BsY(hs:∀ id,s2[id+n]? = (s1[id]?).map (shB n))(hr:∀ id,ρ2 (id+n)=ρ1 id){v:Value}{a:AV}(r:RV h (Lf ρ1 s1) false v a):RV h (Lf ρ2 s2) false v (shV n a):=by
 cases a with
 | tup l =>
  obtain⟨vs,rfl,rl⟩:=AuC r;exact .tup vs _ (A6C hs hr rl)
 | agg l =>
  obtain⟨vs,rfl,rl⟩:=inv_agg r;exact .agg vs _ (AoH hs hr rl)
 | _=>exact BeM hs hr r
theorem shC_cells(n:Nat)(x:AV):cellsOf (shC n x)=(cellsOf x).map (sh1 n):=by cases x <;> rfl
theorem shC_flat(n:Nat):∀ l,flat (l.map (shC n))=(flat l).map (sh1 n)
 | []=>rfl
 | x::r=>by simp only[lal,flat,shC_cells,shC_flat n r,lak]
theorem BsZ{ρ ρ2:Own}{s t:LB}(hr:∀ i,i<s.length->ρ2 i=ρ i){v:Value}{a:AV}(l:Lf ρ s v a):Lf ρ2 (s++t) v a:=by
 refine⟨l.1,?_⟩;have l:=l.2
 cases a with
 | sl id a b c =>
  grind[LfC]
 | ptr id a b c =>
  grind[LfC]
 | mp id =>
  grind[LfC]
 | _=>exact l.elim
end
theorem Ct.liftN{P:Program}{f:FuncId}{args:LA}{post:AV->LB->Prop}(hc:Ct P f args [] post)(ha:args.all nr1=true)(hmp:∀ r s',post r s'->s'.all mpOk=true)
  (s:LB):Ct P f args s (fun r2 s2=>∃ r s',post r s'/\r2=shV s.length r/\s2=s++s'.map (shB s.length)):=by
 refine⟨hc.1,fun h ρ w vs m r=>?_⟩;have hm0:Mine h (fun _=>none) [] w:=⟨m.mem,fun id blk e=>by simp at e,fun _ _=>rfl,fun i j g t t' e=>by simp at e,fun i g t e=>by simp at e⟩;refine(hc.2 h (fun _=>none) w vs hm0 ((AjN (Lf':=Lf0) r ha).thaw (fun _ _ _ x=>x))).mono ?_;rintro en w' ⟨v,r,s1,h',ρ1,rfl,hpost,m',lt,rv⟩;have hgood:∀ i g t,ρ1 i=some (g,t)->w.heap.size<=g:=fun i g t e=>by
  rcases lt.newown i g t e with⟨j,t',hj⟩|h
  .cases hj
  .exact h
 have hblk:∀ k,k<w.heap.size->w'.heap[k]? = w.heap[k]?:=fun k hk=>lt.block k hk (fun i t e=>by cases e)
 have hnew:∀ b o,h b o=none->h' b o≠none->w.heap.size<=b:=fun b o e n=>by
  rcases lt.hnew b o e n with⟨j,t',hj⟩|h
  .cases hj
  .exact h
 obtain⟨ρ2,hρ2⟩:∃ ρ2:Own,ρ2=fun k=>if k<s.length then ρ k else ρ1 (k-s.length):=⟨_,rfl⟩
 have hlo:∀ i,i<s.length->ρ2 i=ρ i:=fun i hi=>by rw[hρ2]; simp[hi]
 have hhi:∀ i,ρ2 (i+s.length)=ρ1 i:=fun i=>by
  rw[hρ2]
  show(if i+s.length<s.length then ρ (i+s.length) else ρ1 (i+s.length-s.length))=_
  rw[if_neg (by omega),lcf]
 have hkeep:∀ v a,Lf ρ s v a->Lf ρ2 (s++s1.map (shB s.length)) v a:=fun v a x=>BsZ hlo x
 have hst:∀ id,(s++s1.map (shB s.length))[id+s.length]? = (s1[id]?).map (shB s.length):=fun id=>by
  rw[lcg (by omega),lcf,lby]
 have hown:∀ i g t,ρ2 i=some (g,t)->(i<s.length/\ρ i=some (g,t)/\g<w.heap.size)\/(s.length<=i/\ρ1 (i-s.length)=some (g,t)/\w.heap.size<=g):=fun i g t e=>by
  by_cases hi:i<s.length
  .rw [hlo i hi]at e
   exact .inl ⟨hi,e,m.lt e⟩
  .have e2:ρ2 i=ρ1 (i-s.length):=by rw[<- hhi]; congr 1; omega
   rw[e2]at e;exact .inr ⟨by omega,e,hgood _ g t e⟩
 refine⟨v,_,_,h',ρ2,rfl,⟨r,s1,hpost,rfl,rfl⟩,⟨m'.mem,?_,?_,?_,?_⟩,⟨lt.hle,fun b o e n=>.inr (hnew b o e n),hkeep,lt.os,lt.tape,lt.output,lt.size,fun k hk _=>hblk k hk,?_⟩,BsY hst hhi rv⟩
 .intro i blk e
  by_cases hi:i<s.length
  .rw [lbf hi]at e
   exact(m.own i blk e).mono lt.hle hkeep (hlo i hi) (fun g t hg=>hblk g (m.lt hg))
  .obtain ⟨j,rfl⟩:∃ j,i=j+s.length:=⟨i-s.length,by omega⟩
   rw[hst]at e
   cases hb:s1[j]? with
   | none=>rw[hb]at e; cases e
   | some b =>
    rw[hb]at e;simp only[lcp,lao]at e;subst e;have o:=m'.own j b hb;have hmb:=List.all_eq_true.1 (hmp _ _ hpost) b (lar hb)
    cases b with
    | arr es l =>
     rcases o with⟨h1,h2⟩|⟨g,tot,cur,t,h1,h2,h3,h4,h5,h6,h7,h8,h9⟩
     .exact .inl ⟨by simp[h1],(hhi j).trans h2⟩
     .refine .inr ⟨g,tot,cur,t,(hhi j).trans h1,h2,h3,by simpa using h4,h5,h6,?_,h8,?_⟩
      .intro x hx
       obtain⟨y,hy,rfl⟩:=List.mem_map.1 hx;rw[shC_cells,laa];exact h7 y hy
      .rw [shC_flat,laa]
       exact AoH hst hhi h9
    | mp es =>
     obtain⟨g,en,cl,h1,h2,h3,h4,h5⟩:=o;refine⟨g,en,cl,(hhi j).trans h1,h2,by rw[lvs_map]; simpa using h3,fun k x y hx hy=>?_,h5.map _⟩;rw[lvs_map,lby]at hx;obtain⟨x',hx',rfl⟩:=Option.map_eq_some_iff.1 hx;obtain⟨p,q⟩:=h4 k x' y hx' hy;exact⟨p.thaw (fun _ _ _ x=>x),A2N hst hhi q⟩
    | it mid n seen=>cases hmb
    | dead=>exact(hhi j).trans o
 .intro i hi
  simp at hi
  have e2:ρ2 i=ρ1 (i-s.length):=by rw[<- hhi]; congr 1; omega
  rw[e2];exact m'.out _ (by omega)
 .intro i j g t t' hi hj
  rcases hown i g t hi with⟨a1,a2,a3⟩|⟨a1,a2,a3⟩ <;> rcases hown j g t' hj with⟨b1,b2,b3⟩|⟨b1,b2,b3⟩
  .exact m.inj i j g t t' a2 b2
  .omega
  .omega
  .have:=m'.inj _ _ g t t' a2 b2
   omega
 .intro i g t e o
  rcases hown i g t e with⟨a1,a2,a3⟩|⟨a1,a2,a3⟩
  .cases hq:h' g o with
   | none=>rfl
   | some z =>
    have:=hnew g o (m.disj i g t a2 o) (by rw[hq]; simp);omega
  .exact m'.disj _ g t a2 o
 .intro i g t e
  rcases hown i g t e with⟨a1,a2,a3⟩|⟨a1,a2,a3⟩
  .exact .inl ⟨i,t,a2⟩
  .exact .inr a3
def AeN(w:World):Mem:=fun b o=>match w.cell? ⟨b,o,none⟩with
 | some v=>if v.oneCell'=true then some v else none
 | none=>none
theorem AoI{w:World}:∀ b o v,AeN w b o=some v->w.cell? ⟨b,o,none⟩=some v/\v.oneCell'=true:=by grind[AeN]
theorem A6D{h:Mem}{w:World}(hm:∀ b o v,h b o=some v->w.cell? ⟨b,o,none⟩=some v/\v.oneCell'=true):∀ b o v,h b o=some v->AeN w b o=some v:=by grind[AeN]
def bor:Nat->LB->AV->AV
 | 0,_,a=>match a with
  | .sl _ _ _ _=>.any
  | .ptr _ _ _ _=>.any
  | .mp _=>.any
  | .agg _=>.any
  | .tup _=>.any
  | .fn _ _=>.any
  | a=>a
 | n+1,s,a=>match a with
  | .sl id off len cap=>match s.getD id .dead with
   | .arr e l=>bif decide (off+cap=l.length)&&decide (len<=cap) then .fz e (((l.drop off).take len).map fun x=>match x with
    | .agg r=>.agg (r.map (bor n s))
    | x=>bor n s x) else .any
   | _=>.any
  | .ptr _ _ _ _=>.any
  | .mp _=>.any
  | .agg _=>.any
  | .tup _=>.any
  | .fn _ _=>.any
  | a=>a
def borC(n:Nat)(s:LB):AV->AV
 | .agg r=>.agg (r.map (bor n s))
 | x=>bor n s x
theorem bor_sl(n:Nat)(s:LB)(id off len cap:Nat):bor (n+1) s (.sl id off len cap)=match s.getD id .dead with
   | .arr e l=>bif decide (off+cap=l.length)&&decide (len<=cap) then .fz e (((l.drop off).take len).map (borC n s)) else .any
   | _=>.any:=rfl
theorem bor_cells(n:Nat)(s:LB)(x:AV):cellsOf (borC n s x)=(cellsOf x).map (bor n s):=by
 have key:∀ a,cellsOf (bor n s a)=[bor n s a]:=fun a=>by
  cases n with
  | zero=>cases a <;> rfl
  | succ n =>
   cases a with
   | sl id off len cap =>
    rw[bor_sl]
    split
    .cases decide (off+cap=_)&&decide (len<=cap) <;> rfl
    .rfl
   | _=>rfl
 cases x with
 | agg r=>rfl
 | _=>exact key _
theorem bor_flat(n:Nat)(s:LB):∀ l,flat (l.map (borC n s))=(flat l).map (bor n s)
 | []=>rfl
 | x::r=>by simp only[lal,flat,bor_cells,bor_flat n s r,lak]
section
variable {h:Mem}{ρ:Own}{s:LB}{w:World}
theorem BeN{v:Value}{a:AV}(m:Mine h ρ s w)(r:RV h (Lf ρ s) false v a)(hf:frozen a=true):RV (AeN w) Lf0 true v a :=
 (AfC r hf).thaw (A6D m.mem)
theorem bor_list{n:Nat}(hn:∀ {v:Value}{a:AV},RV h (Lf ρ s) false v a->RV (AeN w) Lf0 true v (bor n s a)):∀ {l:LA}{vs:List Value},RL h (Lf ρ s) false vs l->RL (AeN w) Lf0 true vs (l.map (bor n s))
 | [],_,r=>by cases r; exact .nil
 | a::l,_,r=>by cases r with|cons r1 r2=>exact .cons (hn r1) (bor_list hn r2)
theorem A6E(m:Mine h ρ s w):∀ (n:Nat){v:Value}{a:AV},RV h (Lf ρ s) false v a->RV (AeN w) Lf0 true v (bor n s a)
 | 0,v,a,r=>by
  cases a with
  | sl id o l c=>exact .any _
  | ptr id m i o=>exact .any _
  | mp id=>exact .any _
  | agg r=>exact .any _
  | tup r=>exact .any _
  | fn f r=>exact .any _
  | _=>exact BeN m r rfl
 | n+1,v,a,r=>by
  cases a with
  | sl id off len cap =>
   rw[bor_sl];have hl:=(AbE r).2
   cases hq:s[id]? with
   | none=>grind[LfC]
   | some b =>
    have hgd:s.getD id .dead=b:=by grind
    rw[hgd]
    cases b with
    | arr e l =>
     simp only
     cases hd:decide (off+cap=l.length)&&decide (len<=cap)with
     | false=>exact .any _
     | true =>
      simp at hd
      obtain⟨hc,hlc⟩:=hd;simp only[LfC,hq]at hl
      rcases hl.2 hc with⟨rfl,rfl,a,rfl⟩|⟨g,tot,h1,rfl,_⟩
      .cases a with
       | none=>simpa[at0]using RV.fznil e
       | some a=>simpa[at0]using RV.fz a.1 a.2 0 e [] [] .nil (by simp) (by simp) (lad _)
      .rcases m.own id _ hq with⟨_,hn⟩|⟨g',tot',cur,t,h3,h4,h5,h6,h7,h8,h9,h10,h11⟩
       .grind
       .rw [h3]at h1
        have hlen:(((l.drop off).take len).map (borC n s)).length=len:=by grind
        have hr:RL (AeN w) Lf0 true (((cur.toList.take (l.length*e)).drop (off*e)).take (len*e)) (flat (((l.drop off).take len).map (borC n s))):=by
         rw[bor_flat,<- AbL (fun x hx=>h9 x (lba hx)) len,<- AbA h9 off,lco,List.map_drop];exact((bor_list (fun r=>A6E m n r) h11).drop _).take _
        have:=RV.fz (fl:=true) g' (off*e) (tot'-off) e (((l.drop off).take len).map (borC n s)) _ hr (fun x hx=>by
         grind[bor_cells]) (fun k v hk=>by
         rw[lce]at hk
         split at hk
         .rw [List.getElem?_drop,lce]at hk
          split at hk
          .have h12:=h10 v (lar hk)
           unfold AeN;rw[h4.cell,<- lcd,hk]
           grind
          grind
         grind) (by omega)
        grind
    | _=>exact .any _
  | ptr id m i o=>exact .any _
  | mp id=>exact .any _
  | agg r=>exact .any _
  | tup r=>exact .any _
  | fn f r=>exact .any _
  | _=>exact BeN m r rfl
theorem BvQ(m:Mine h ρ s w)(n:Nat){v:Value}{a:AV}(r:RV h (Lf ρ s) false v a):RV (AeN w) Lf0 true v (borC n s a):=by
 cases a with
 | agg l =>
  obtain⟨vs,rfl,rl⟩:=inv_agg r;exact .agg vs _ (bor_list (fun r=>A6E m n r) rl)
 | _=>exact A6E m n r
end
def B0D:AV->Bool
 | .int _ _=>true
 | .bool _=>true
 | .str _=>true
 | _=>false
end Go.Av
namespace Go.Av
open RowKit
variable [Tr]
def borP(n:Nat)(s:LB):AV->AV
 | .ptr id m i off=>match s.getD id .dead with
  | .arr e l=>bif decide (m=l.length)&&decide (i<l.length) then .pin e (l.map (borC n s)) i off else .any
  | _=>.any
 | x=>borC n s x
def borF(n:Nat)(s:LB):AV->AV
 | .fn f r=>.fn f (r.map (borP n s))
 | x=>borP n s x
section
variable {h:Mem}{ρ:Own}{s:LB}{w:World}
theorem BeO(m:Mine h ρ s w)(n:Nat){v:Value}{a:AV}(r:RV h (Lf ρ s) false v a):RV (AeN w) Lf0 true v (borP n s a):=by
 cases a with
 | ptr id k i off =>
  have hl:=(AcK r).2;simp only[borP]
  cases hq:s[id]? with
  | none =>
   have hgd:s.getD id .dead=.dead:=by grind
   rw[hgd];exact .any _
  | some b =>
   have hgd:s.getD id .dead=b:=by grind
   rw[hgd]
   cases b with
   | arr e l =>
    simp only
    cases hd:decide (k=l.length)&&decide (i<l.length)with
    | false=>exact .any _
    | true =>
     simp at hd
     obtain⟨hd1,hd⟩:=hd;simp only[LfC,hq]at hl;obtain⟨_,g,tot,h1,rfl⟩:=hl.2 hd1
     rcases m.own id _ hq with⟨_,hn⟩|⟨g',tot',cur,t,h3,h4,h5,h6,h7,h8,h9,h10,h11⟩
     .grind
     .rw [h3]at h1
      simp at h1
      have hr:RL (AeN w) Lf0 true (cur.toList.take (l.length*e)) (flat (l.map (borC n s))):=by
       grind[bor_flat,bor_list,A6E]
      have:=RV.pin (fl:=true) g' 0 e (l.map (borC n s)) _ i off hr (fun x hx=>by
       grind[bor_cells]) (fun k v hk=>by
       rw[lce]at hk
       split at hk
       .unfold AeN
        rw[h4.cell,<- lcd,laq,hk]
        grind
       grind) (by grind)
      grind
   | _=>exact .any _
 | _=>exact BvQ m n r
theorem AxR(m:Mine h ρ s w)(n:Nat):∀ {l:LA}{vs:List Value},RL h (Lf ρ s) false vs l->RL (AeN w) Lf0 true vs (l.map (borP n s))
 | [],_,r=>by cases r; exact .nil
 | a::l,_,r=>by cases r with|cons r1 r2=>exact .cons (BeO m n r1) (AxR m n r2)
theorem BvR(m:Mine h ρ s w)(n:Nat){v:Value}{a:AV}(r:RV h (Lf ρ s) false v a):RV (AeN w) Lf0 true v (borF n s a):=by
 cases a with
 | fn f l =>
  obtain⟨vs,rfl,rl⟩:=A5P r;exact .fn f vs _ (AxR m n rl)
 | _=>exact BeO m n r
theorem AoJ(m:Mine h ρ s w)(n:Nat):∀ {l:LA}{vs:List Value},RL h (Lf ρ s) false vs l->RL (AeN w) Lf0 true vs (l.map (borF n s))
 | [],_,r=>by cases r; exact .nil
 | a::l,_,r=>by cases r with|cons r1 r2=>exact .cons (BvR m n r1) (AoJ m n r2)
end
theorem Ct.borrowF{P:Program}{f:FuncId}{args:LA}{post:AV->Prop}(n:Nat)(s:LB)(hc:Pc P f (args.map (borF n s)) post)(hp:∀ r,post r->B0D r=true):Ct P f args s (fun r s'=>post r/\s'=s):=by
 refine⟨hc.1,fun h ρ w vs m r=>?_⟩;refine(hc.2 (AeN w) w vs AoI (AoJ m n r)).mono ?_;rintro en w' ⟨v,r,h',rfl,hpo,hm',_,_,hs,rv⟩;refine⟨v,r,s,h,ρ,rfl,⟨hpo,rfl⟩,m.same hs,Later.same hs,?_⟩;have:=hp r hpo
 cases rv with
 | int k n=>exact .int k n
 | bool b=>exact .bool b
 | str s=>exact .str s
 | _=>cases this
theorem CtH.borrowF{P:Program}{g:Std}{f:FuncId}{args:LA}{post:AV->Prop}(n:Nat)(s:LB)(hc:PcH P g f (args.map (borF n s)) post)(hp:∀ r,post r->B0D r=true):CtH P g f args s (fun r s'=>post r/\s'=s):=by
 refine⟨hc.1,fun h ρ w vs hg m r=>?_⟩;refine(hc.2 (AeN w) w vs (fun k o e=>(hg k o e).1) AoI (AoJ m n r)).mono ?_;rintro en w' ⟨v,r,h',rfl,hpo,hm',_,_,hs,rv⟩;refine⟨v,r,s,h,ρ,rfl,⟨hpo,rfl⟩,m.same hs,Later.same hs,?_⟩;have:=hp r hpo
 cases rv with
 | int k n=>exact .int k n
 | bool b=>exact .bool b
 | str s=>exact .str s
 | _=>cases this
end Go.Av
namespace Go.Proofs.YtgenkcmfeeakoaaGreatDoor
open Av RowKit Proofs.Tryz
set_option maxRecDepth 100000
theorem AhY(x n:Int)(h1:1<=n)(h2:n<=9223372036854775807) :
  Pc prog 81 [.int .i64 x,.int .i64 n] (· = .int .i64 (x%n)):=by
 refine AbV (AbC func81 rfl ntmps81 hB81 (by simp) fun h ρ w=>goW rfl 200 ?_);have hm:x.tmod n=if 0<=x\/n ∣ x then x%n else x%n-n.natAbs:=by
  rw[Int.tmod_eq_emod]; split <;> simp
 have hlt:=Int.emod_lt_of_pos x (show 0<n by omega);have hge:=Int.emod_nonneg x (show n≠0 by omega);have hna:(n.natAbs:Int)=n:=by omega
 rw[hna]at hm;simp only[go_sem];refine⟨fun _=>by omega,fun _=>⟨by omega,fun h3=>?_,fun h3=>?_⟩⟩
 .refine aret [4] rfl ⟨?_,rfl⟩
  show AV.int .i64 _=_
  rw[hm]at h3 |-
  split at h3
  .omega
  .rw [if_neg (by assumption),show x%n-n+n=x%n by omega]
   exact congrArg _ (IntWalk.i64_in _ ⟨by omega,by omega⟩)
 .refine aret [4] rfl ⟨?_,rfl⟩
  show AV.int .i64 _=_
  rw[hm]at h3 |-
  split at h3
  .rw [if_pos (by assumption)]
  .omega
def str(L:List Int)(at':Int):AV:=.agg [.fz 1 (L.map (.int .i64)),.int .i64 at']
theorem AiX(L:List Int)(k n:Int)(h1:1<=n)(h2:n<=9223372036854775807)(h3:0<=k)(h4:k<=1000000) :
  Mc prog 37 2 (str L k) [.int .i64 n] (fun r s=>(∃ v,r=.int .i64 v/\0<=v/\v<n)/\s=str L (k+1)):=by
 refine AbC func37 rfl ntmps37 hB37 (by simp) fun h ρ w=>goW rfl 200 ?_
 have hw:IntKind.i64.wrap (k+1)=k+1:=IntWalk.i64_in _ ⟨by omega,by omega⟩;have hk:k+1-1=k:=by omega
 have hwk:IntKind.i64.wrap k=k:=IntWalk.i64_in _ ⟨by omega,by omega⟩;have fin:∀ x:Int,0<=x%n/\x%n<n:=fun x=>⟨Int.emod_nonneg x (by omega),Int.emod_lt_of_pos x (by omega)⟩
 simp only[go_sem,str,hw];refine⟨fun h5=>?_,fun h5=>?_⟩
 .refine AaX (AhY _ n h1 h2) rfl rfl rfl (goW rfl 200 ?_)
  simp only[go_sem];exact aret [4] rfl ⟨_,_,rfl,⟨_,rfl,fin _⟩,rfl,rfl,rfl⟩
 .refine zr [] AaI ?_
  simp only[go_sem,hw,hk,hwk];have hm0:0<((List.map (AV.int .i64) L).length:Int):=by omega
  have hmL:((List.map (AV.int .i64) L).length:Int)=L.length:=by simp
  generalize hM:((List.map (AV.int .i64) L).length:Int)=M at *;have d1:0<=k / M:=Int.ediv_nonneg h3 (by omega);have d2:k / M<=k:=Int.ediv_le_self _ h3;have d3:0<=k%M:=Int.emod_nonneg k (by omega);have d4:k%M<M:=Int.emod_lt_of_pos k hm0;have d5:k%M<=k:=by
   have q1:=Int.mul_ediv_add_emod k M;have q2:0<=M*(k / M):=Int.mul_nonneg (by omega) d1;omega
  have d6:0<=k / M*(7919+k%M):=Int.mul_nonneg d1 (by omega);have d7:k / M*(7919+k%M)<=1000000*1007919:=Int.mul_le_mul (by omega) (by omega) (by omega) (by omega);refine⟨by omega,by omega,by omega,by omega,?_⟩;refine goW rfl 200 ?_;simp only[go_sem,hw,hk,hwk,hM];refine zr [] AaI ?_;simp only[go_sem,hw,hk,hwk,hM];refine⟨by omega,by omega,by omega,by omega,by omega,by omega,?_⟩;have hx:∃ x,(List.map (AV.int .i64) L).getD (k%M).toNat .any=.int .i64 x:=by
   have:(k%M).toNat<L.length:=by omega
   exact⟨L[(k%M).toNat],by simp[List.getD,this]⟩
  obtain⟨x,hx⟩:=hx;have f1:0<=x%1073741824:=Int.emod_nonneg x (by omega);have f2:x%1073741824<1073741824:=Int.emod_lt_of_pos x (by omega);refine goW rfl 200 ?_;simp only[go_sem,hw,hk,hwk,hM,hx];refine⟨by omega,by omega,by simp; omega,?_⟩;refine AaX (AhY _ _ (by omega) (by omega)) rfl rfl rfl (goW rfl 200 ?_);simp only[go_sem];refine AaX (AhY _ n h1 h2) rfl rfl rfl (goW rfl 200 ?_);simp only[go_sem];exact aret [4] rfl ⟨_,_,rfl,⟨_,rfl,fin _⟩,rfl,rfl,rfl⟩
theorem ArP(L:List Int)(k:Int)(ls:List LU)(h1:1<=ls.length)(h2:ls.length<=1000)(h3:0<=k)(h4:k<=1000000) :
  Mc prog 24 2 (str L k) [.fz 1 (ls.map .str)] (fun r s=>(∃ x∈ls,r=.str x)/\s=str L (k+1)):=by
 refine AbC func24 rfl ntmps24 hB24 (by simp) fun h ρ w=>goW rfl 200 ?_
 simp only[go_sem];have hlen:((List.map AV.str ls).length:Int)=ls.length:=by simp
 refine zm 0 (AiX L k _ (by omega) (by omega) h3 h4) ?_;rintro _ _ ⟨⟨v,rfl,hv0,hv1⟩,rfl⟩;refine goW rfl 200 ?_;have hv:v.toNat<ls.length:=by omega
 have hx:(List.map AV.str ls).getD v.toNat .any=.str ls[v.toNat]:=by simp[List.getD,hv]
 simp only[go_sem,hx];refine⟨by omega,by omega,by simpa using hv,?_⟩;exact aret [4] rfl ⟨_,_,rfl,⟨_,lac hv,rfl⟩,rfl,rfl,rfl⟩
def noDbl:LU->Bool
 | a::b::r=>!(a==32&&b==32)&&noDbl (b::r)
 | _=>true
structure TextOk(p:UInt8->Bool)(t:LU):Prop where
 ne:t≠[]
 all:t.all p=true
 dbl:noDbl t=true
 hd:t.head?≠some 32
 lst:t.getLast?≠some 32
theorem AxS:∀ t:LU,noDbl t=true->Lib.index t [32,32]=-1
 | [],_=>rfl
 | [a],_=>by
  grind[Lib.index]
 | a::b::r,h=>by
  simp only[noDbl,lae,lbv]at h;have h1:([32,32]).isPrefixOf (a::b::r)=false:=by
   cases hq:([32,32]).isPrefixOf (a::b::r)with
   | false=>rfl
   | true =>
    simp[List.isPrefixOf]at hq
    obtain⟨rfl,rfl⟩:=hq
    simp at h
  rw[Lib.index];simp only[h1,lan,if_false];rw[AxS (b::r) h.2];rfl
theorem BeP{t:LU}(h:t.head?≠some 32):Lib.hasPrefix t [32]=false:=by
 cases t<;>grind[Lib.hasPrefix]
theorem BeQ{t:LU}(h:t.getLast?≠some 32):Lib.hasSuffix t [32]=false:=by
 unfold Lib.hasSuffix
 cases hq:([32]).isSuffixOf t with
 | false=>rfl
 | true =>
  rw[List.isSuffixOf_iff_suffix]at hq;obtain⟨r,rfl⟩:=hq
  grind
theorem A6F{p:UInt8->Bool}{t:LU}(hp:∀ c,p c=true->okB c=true)(h:TextOk p t):plainL t=true:=by
 have h1:t.all okB=true:=by
  have:=h.all
  grind
 simp[plainL,h1,BeP h.hd,BeQ h.lst,Lib.contains,AxS t h.dbl]
theorem AeS:∀ {a b:LU},noDbl a=true->noDbl b=true->a.getLast?≠some 32\/b.head?≠some 32->noDbl (a++b)=true
 | [],b,_,h,_=>h
 | [x],[],_,_,_=>rfl
 | [x],y::b,_,h,e=>by
  grind[noDbl]
 | x::y::a,b,h,h',e=>by
  simp only[noDbl,lae]at h;have ih:=AeS h.2 h' (by simpa using e);simp only[lbb,noDbl,lae]at ih |-;exact⟨h.1,ih⟩
theorem TextOk.join{p:UInt8->Bool}{a b:LU}(hb:p 32=true)(x:TextOk p a)(y:TextOk p b):TextOk p (a++32::b):=by
 refine⟨by simp,?_,?_,?_,?_⟩
 .simp only [lbo,lat,x.all,y.all,hb,lbh]
 .have h:noDbl (32::b)=true:=by
   have:=AeS (a:=[32]) rfl y.dbl (.inr y.hd)
   grind
  exact AeS x.dbl h (.inl x.lst)
 .have:=x.ne
  cases a with
  | nil=>grind
  | cons c a=>simpa using x.hd
 .have:=y.lst
  cases b with
  | nil=>exact(y.ne rfl).elim
  | cons c b =>
   grind
theorem TextOk.pre{p q:UInt8->Bool}{a b:LU}(hpq:∀ c,q c=true->p c=true)(ha:a.all p=true)(h1:noDbl a=true)(h2:a.head?≠some 32)(h0:a≠[])(y:TextOk q b):TextOk p (a++b):=by
 refine⟨by simp_all,?_,AeS h1 y.dbl (.inr y.hd),?_,?_⟩
 .have:b.all p=true:=by
   have:=y.all
   grind
  grind
 .simp_all
 .have:=y.lst
  cases hq:b.getLast? with
  | none=>exact(y.ne (List.getLast?_eq_none_iff.1 hq)).elim
  | some z=>grind
theorem TextOk.weak{p q:UInt8->Bool}{b:LU}(hpq:∀ c,q c=true->p c=true)(y:TextOk q b):TextOk p b :=
 ⟨y.ne,by have:=y.all; grind,y.dbl,y.hd,y.lst⟩
def textB(p:UInt8->Bool)(t:LU):Bool:=t != []&&(t.all p&&(noDbl t&&(t.head? != some 32&&t.getLast? != some 32)))
theorem AuU{p:UInt8->Bool}{t:LU}(h:textB p t=true):TextOk p t:=by
 simp only[textB,lae,bne_iff_ne,ne_eq]at h;exact⟨h.1,h.2.1,h.2.2.1,h.2.2.2.1,h.2.2.2.2⟩
set_option maxRecDepth 100000
theorem AhA(L:List Int)(k n:Int)(h1:1<=n)(h2:n<=1000)(h3:0<=k)(h4:k<=1000000) :
  Mc prog 22 2 (str L k) [.int .i64 n] (fun r s=>(∃ b,r=.bool b)/\s=str L (k+1)):=by
 refine zcIN func22 rfl fun h ρ w=>?_
 simp only[go_sem];refine zm 0 (AiX L k _ (by omega) (by omega) h3 h4) ?_;rintro _ _ ⟨⟨v,rfl,hv0,hv1⟩,rfl⟩;apply zgN;simp only[go_sem];exact aret [4] rfl ⟨_,_,rfl,⟨_,rfl⟩,rfl,rfl,rfl⟩
theorem AmV(L:List Int)(k a b:Int)(h1:0<=a)(h2:a<=b)(hb:b<=1000)(h3:0<=k)(h4:k<=1000000) :
  Mc prog 52 2 (str L k) [.int .i64 a,.int .i64 b] (fun r s=>(∃ v,r=.int .i64 v/\a<=v/\v<=b)/\s=str L (k+1)):=by
 have d:decide (b<a)=false:=by simp; omega
 refine zcIN func52 rfl fun h ρ w=>?_
 simp only[go_sem,d];refine⟨by omega,by omega,by omega,by omega,?_⟩;refine zm 0 (AiX L k _ (by omega) (by omega) h3 h4) ?_;rintro _ _ ⟨⟨v,rfl,hv0,hv1⟩,rfl⟩;apply zgN;simp only[go_sem];refine⟨by omega,by omega,?_⟩;exact aret [6] rfl ⟨_,_,rfl,⟨_,rfl,by omega,by omega⟩,rfl,rfl,rfl⟩
theorem AuV(L:List Int)(k:Int)(ls:List Int)(h1:1<=ls.length)(h2:ls.length<=1000)(h3:0<=k)(h4:k<=1000000) :
  Mc prog 79 2 (str L k) [.fz 1 (ls.map (.int .i64))] (fun r s=>(∃ x∈ls,r=.int .i64 x)/\s=str L (k+1)):=by
 have hlen:((List.map (AV.int .i64) ls).length:Int)=ls.length:=by simp
 refine zcIN func79 rfl fun h ρ w=>?_
 simp only[go_sem];refine zm 0 (AiX L k _ (by omega) (by omega) h3 h4) ?_;rintro _ _ ⟨⟨v,rfl,hv0,hv1⟩,rfl⟩;have hv:v.toNat<ls.length:=by omega
 have hx:(List.map (AV.int .i64) ls).getD v.toNat .any=.int .i64 ls[v.toNat]:=by simp[List.getD,hv]
 apply zgN;simp only[go_sem,hx];refine⟨by omega,by omega,by simpa using hv,?_⟩;exact aret [4] rfl ⟨_,_,rfl,⟨_,lac hv,rfl⟩,rfl,rfl,rfl⟩
def NameL:List LU:=[[65,78,78],[66,79],[68,82,46,32,88],[65,78,78,45,77,65,82,73,69]]
def SetL:List LU:=[[72,65,76,76],[77,73,76,76],[66,65,82,78,32,47,32,76,79,70,84]]
theorem A6G:Pc prog 145 [] (· = .fz 1 (NameL.map .str)):=by
 refine zpIF func145 rfl fun h ρ w=>?_
 simp only[go_sem];exact zt [0]
theorem BeR:Pc prog 78 [] (· = .fz 1 (SetL.map .str)):=by
 refine zpIF func78 rfl fun h ρ w=>?_
 simp only[go_sem];exact zt [0]
def wordC(c:UInt8):Bool:=okB c&&(c != 40&&(c != 41&&c != 86))
def textC(c:UInt8):Bool:=okB c&&c != 86
theorem AdV(c:UInt8)(h:wordC c=true):textC c=true:=by
 simp only[wordC,textC,lae]at h |-;exact⟨h.1,h.2.2.2⟩
theorem AuW(c:UInt8)(h:textC c=true):okB c=true:=by
 simp only[textC,lae]at h;exact h.1
def WordL:List LU:=[[114,97,105,110],[84,119,111],[103,117,110,115],[65,78,78],[66,111],[97],[116,104,101],[114,101,100],[99,97,114,46],[115,111,108,100,105,101,114,115],[49,50],
 [100,111,110,39,116],[45,45],[97,98,99,100,101,102,103,104,105,106,107,108,109,110,111,112,113,114,115,116,117,118,119,120,121,122,97,98,99,100,101,102,103,104,105,106,107,108,109,110,111,112,113,114,115,116,117,118,119,120,121,122],[99,97,114]]
theorem BvS:(WordL.all fun x=>textB wordC x&&decide (x.length<=52))=true:=by decide +kernel
theorem A2O{x:LU}(h:x∈WordL):TextOk wordC x/\x.length<=52:=by
 have:=List.all_eq_true.1 BvS x h;simp only[lae,lag]at this;exact⟨AuU this.1,this.2⟩
theorem AuX(L:List Int)(k m b:Int)(h1:1<=m)(h2:m<=80)(h5:60<=b)(h6:b<=2000)(h3:0<=k)(h4:k<=900000) :
  Mc prog 144 2 (str L k) [.int .i64 m,.int .i64 b] (fun r s=>∃ (t:LU) (k':Int),r=.str t/\TextOk wordC t/\(t.length:Int)<=b/\s=str L k'/\k<=k'/\k'<=k+81):=by
 refine zcIF func144 rfl fun h ρ w=>?_
 simp only[go_sem];refine zm 0 (AmV L k 1 m (by omega) (by omega) (by omega) h3 (by omega)) ?_;rintro _ _ ⟨⟨v,rfl,hv0,hv1⟩,rfl⟩;apply zgF;simp only[go_sem];refine AoB (ι:=Int×LU) (κ:=Int×LU) (fun x=>(v-x.1).toNat)
  (fun x=>[(12,.int .i64 x.1),(11,.int .i64 v),(7,.str x.2),(2,.int .i64 b),(0,.ptr 0 1 0 0)])
  (fun x=>[.arr 2 [str L (k+1+x.1)]])
  (fun x=>0<=x.1/\x.1<=v/\(x.2.length:Int)<=b/\(x.1=0->x.2=[])/\(0<x.1->TextOk wordC x.2))
  (fun x=>[(7,.str x.2),(0,.ptr 0 1 0 0)]) (fun x=>[.arr 2 [str L x.1]])
  (fun x=>k+1<=x.1/\x.1<=k+81/\(x.2.length:Int)<=b/\TextOk wordC x.2)
  (0,[]) ⟨by omega,by omega,by simp; omega,by simp,by simp⟩ ?_ ?_ ?_
 .have h0:k+1+0=k+1:=by omega
  simp only[h0];refine Lr ?_;simp only[go_sem]
 .rintro ⟨k',t⟩ ⟨g1,g2,g3,g4⟩
  simp only at g1 g2 g3 g4 |-;apply zgN;simp only[go_sem];exact aret [6] rfl ⟨_,_,rfl,⟨t,k',rfl,g4,g3,rfl,by omega,by omega⟩,rfl,rfl⟩
 .rintro ⟨i,t⟩ ⟨g1,g2,g3,g4,g5⟩ J Q hJ hQ
  simp only at g1 g2 g3 g4 g5 hJ hQ |-;apply zgF
  by_cases gi:i<v
  .have d1:decide (i<v)=true:=by simp; omega
   simp only[go_sem,d1];refine zm 0 (ArP L (k+1+i) WordL (by decide) (by decide) (by omega) (by omega)) ?_;rintro _ _ ⟨⟨x,hx,rfl⟩,rfl⟩;obtain⟨x1,x2⟩:=A2O hx;have e1:k+1+i+1=k+1+(i+1):=by omega
   by_cases ht:t=[]
   .subst ht
    have d3:decide (((0:Nat):Int)+(x.length:Int)>b)=false:=by simp; omega
    apply zgF;simp only[go_sem,d3];refine⟨by omega,by omega,fun gl=>(by simp at gl; omega),fun gl=>?_⟩
    repeat refine ao ?_
    rw[e1];refine ainv (hJ (i+1,x) ⟨by omega,by omega,by simp; omega,by intro h; simp at h; omega,fun _=>x1⟩ (by simp; omega)) (Lr ?_);simp only[go_sem]
   .have i0:0<i:=by
     rcases Int.lt_or_eq_of_le g1 with h|h
     .exact h
     .exact (ht (g4 h.symm)).elim
    have d2:(t != [])=true:=by simp[ht]
    have d2':(t==[])=false:=by simp[ht]
    apply zgF;simp only[go_sem,d2,d2']
    repeat refine ao ?_
    refine⟨fun gl=>?_,fun gl=>?_⟩
    .rw [e1]
     refine ainv (hQ (k+1+(i+1),t) ⟨by omega,by omega,g3,g5 i0⟩) (Lr ?_);simp only[go_sem]
    .repeat refine ao ?_
     rw[e1];refine ainv (hJ (i+1,t++32::x) ⟨by omega,by omega,by simp; simp at gl; omega,by intro h; simp at h; omega,fun _=>(g5 i0).join rfl x1⟩ (by simp; omega)) (Lr ?_);simp only[go_sem]
  .have d1:decide (i<v)=false:=by simp; omega
   simp only[go_sem,d1];refine ainv (hQ (k+1+i,t) ⟨by omega,by omega,g3,g5 (by omega)⟩) (Lr ?_);simp only[go_sem]
