/- A call that makes new blocks, over every table; a call that only reads, at memory of. -/
import Derived.Test.YtccfklnmolggiaaGreatDoorZ15
import Derived.Lib.AtoiErrMem
set_option linter.all false
namespace Go.Av
open RowKit
variable [Tr]
def sh1(n:Nat):AV->AV
 | .sl id o l c=>.sl (id+n) o l c
 | .ptr id m i o=>.ptr (id+n) m i o
 | .mp id=>.mp (id+n)
 | .agg _=>.any
 | .tup _=>.any
 | .fn _ _=>.any
 | a=>a
def shC(n:Nat):AV->AV
 | .agg r=>.agg (r.map (sh1 n))
 | a=>sh1 n a
def shV(n:Nat):AV->AV
 | .tup r=>.tup (r.map (shC n))
 | .agg r=>.agg (r.map (sh1 n))
 | a=>sh1 n a
def shB(n:Nat):Blk->Blk
 | .arr e l=>.arr e (l.map (shC n))
 | .mp es=>.mp (es.map fun x=>(x.1,shC n x.2))
 | b=>b
section
variable {h:Mem}{ρ1 ρ2:Own}{s1 s2:LB}{n:Nat}
theorem AvW(hs:∀ id,s2[id+n]? = (s1[id]?).map (shB n))(hr:∀ id,ρ2 (id+n)=ρ1 id){v:Value}{a:AV}(l:Lf ρ1 s1 v a):Lf ρ2 s2 v (sh1 n a):=by
 refine⟨l.1,?_⟩;have l:=l.2
 cases a with
 | sl id a b c =>
  simp only[sh1,LfC,hs,hr]at l |-
  cases hq:s1[id]? with
  | none=>grind
  | some b=>rw[hq]at l; cases b <;> simp only[lca,shB,laa]at l |- <;> exact l
 | ptr id a b c =>
  simp only[sh1,LfC,hs,hr]at l |-
  cases hq:s1[id]? with
  | none=>grind
  | some b=>rw[hq]at l; cases b <;> simp only[lca,shB,laa]at l |- <;> exact l
 | mp id =>
  simp only[sh1,LfC,hs,hr]at l |-
  cases hq:s1[id]? with
  | none=>grind
  | some b=>rw[hq]at l; cases b <;> simp at l |- <;> exact l
 | _=>exact l.elim
theorem A5C(hs:∀ id,s2[id+n]? = (s1[id]?).map (shB n))(hr:∀ id,ρ2 (id+n)=ρ1 id){v:Value}{a:AV}(r:RV h (Lf ρ1 s1) false v a):RV h (Lf ρ2 s2) false v (sh1 n a):=by
 have frz:frozen a=true->RV h (Lf ρ2 s2) false v a:=fun hf=>(AdW r hf).thaw (fun _ _ _ x=>x)
 cases a with
 | sl id o l c=>exact .leaf (AvW hs hr (AaY r))
 | ptr id n i o=>exact .leaf (AvW hs hr (AcE r))
 | mp id=>exact .leaf (AvW hs hr (AgI r))
 | agg r=>exact .any _
 | tup r=>exact .any _
 | fn f r=>exact .any _
 | _=>exact frz rfl
theorem AlD(hs:∀ id,s2[id+n]? = (s1[id]?).map (shB n))(hr:∀ id,ρ2 (id+n)=ρ1 id):∀ {l:LY}{vs:List Value},RL h (Lf ρ1 s1) false vs l->RL h (Lf ρ2 s2) false vs (l.map (sh1 n))
 | [],_,r=>by cases r; exact .nil
 | a::l,_,r=>by cases r with|cons r1 r2=>exact .cons (A5C hs hr r1) (AlD hs hr r2)
theorem AvX(hs:∀ id,s2[id+n]? = (s1[id]?).map (shB n))(hr:∀ id,ρ2 (id+n)=ρ1 id){v:Value}{a:AV}(r:RV h (Lf ρ1 s1) false v a):RV h (Lf ρ2 s2) false v (shC n a):=by
 cases a with
 | agg l =>
  obtain⟨vs,rfl,rl⟩:=inv_agg r;exact .agg vs _ (AlD hs hr rl)
 | _=>exact A5C hs hr r
theorem AyN(hs:∀ id,s2[id+n]? = (s1[id]?).map (shB n))(hr:∀ id,ρ2 (id+n)=ρ1 id):∀ {l:LY}{vs:List Value},RL h (Lf ρ1 s1) false vs l->RL h (Lf ρ2 s2) false vs (l.map (shC n))
 | [],_,r=>by cases r; exact .nil
 | a::l,_,r=>by cases r with|cons r1 r2=>exact .cons (AvX hs hr r1) (AyN hs hr r2)
theorem BeG(hs:∀ id,s2[id+n]? = (s1[id]?).map (shB n))(hr:∀ id,ρ2 (id+n)=ρ1 id){v:Value}{a:AV}(r:RV h (Lf ρ1 s1) false v a):RV h (Lf ρ2 s2) false v (shV n a):=by
 cases a with
 | tup l =>
  obtain⟨vs,rfl,rl⟩:=AoZ r;exact .tup vs _ (AyN hs hr rl)
 | agg l =>
  obtain⟨vs,rfl,rl⟩:=inv_agg r;exact .agg vs _ (AlD hs hr rl)
 | _=>exact A5C hs hr r
theorem shC_cells(n:Nat)(x:AV):cellsOf (shC n x)=(cellsOf x).map (sh1 n):=by cases x <;> rfl
theorem shC_flat(n:Nat):∀ l,flat (l.map (shC n))=(flat l).map (sh1 n)
 | []=>rfl
 | x::r=>by simp only[lah,flat,shC_cells,shC_flat n r,lap]
theorem BeH{ρ ρ2:Own}{s t:LB}(hr:∀ i,i<s.length->ρ2 i=ρ i){v:Value}{a:AV}(l:Lf ρ s v a):Lf ρ2 (s++t) v a:=by
 refine⟨l.1,?_⟩;have l:=l.2
 cases a with
 | sl id a b c =>
  grind[LfC]
 | ptr id a b c =>
  grind[LfC]
 | mp id =>
  grind[LfC]
 | _=>exact l.elim
end
theorem Ct.liftN{P:Program}{f:FuncId}{args:LY}{post:AV->LB->Prop}(hc:Ct P f args [] post)(ha:args.all nr1=true)(hmp:∀ r s',post r s'->s'.all mpOk=true)
  (s:LB):Ct P f args s (fun r2 s2=>∃ r s',post r s'/\r2=shV s.length r/\s2=s++s'.map (shB s.length)):=by
 refine⟨hc.1,fun h ρ w vs m r=>?_⟩;have hm0:Mine h (fun _=>none) [] w:=⟨m.mem,fun id blk e=>by simp at e,fun _ _=>rfl,fun i j g t t' e=>by simp at e,fun i g t e=>by simp at e⟩;refine(hc.2 h (fun _=>none) w vs hm0 ((AgJ (Lf':=Lf0) r ha).thaw (fun _ _ _ x=>x))).mono ?_;rintro en w' ⟨v,r,s1,h',ρ1,rfl,hpost,m',lt,rv⟩;have hgood:∀ i g t,ρ1 i=some (g,t)->w.heap.size<=g:=fun i g t e=>by
  rcases lt.newown i g t e with⟨j,t',hj⟩|h
  .cases hj
  .exact h
 have hblk:∀ k,k<w.heap.size->w'.heap[k]? = w.heap[k]?:=fun k hk=>lt.block k hk (fun i t e=>by cases e)
 have hnew:∀ b o,h b o=none->h' b o≠none->w.heap.size<=b:=fun b o e n=>by
  rcases lt.hnew b o e n with⟨j,t',hj⟩|h
  .cases hj
  .exact h
 obtain⟨ρ2,hρ2⟩:∃ ρ2:Own,ρ2=fun k=>if k<s.length then ρ k else ρ1 (k-s.length):=⟨_,rfl⟩
 have hlo:∀ i,i<s.length->ρ2 i=ρ i:=fun i hi=>by rw[hρ2]; simp[hi]
 have hhi:∀ i,ρ2 (i+s.length)=ρ1 i:=fun i=>by
  rw[hρ2]
  show(if i+s.length<s.length then ρ (i+s.length) else ρ1 (i+s.length-s.length))=_
  rw[if_neg (by omega),Nat.add_sub_cancel]
 have hkeep:∀ v a,Lf ρ s v a->Lf ρ2 (s++s1.map (shB s.length)) v a:=fun v a x=>BeH hlo x
 have hst:∀ id,(s++s1.map (shB s.length))[id+s.length]? = (s1[id]?).map (shB s.length):=fun id=>by
  rw[lay (by omega),Nat.add_sub_cancel,lbf]
 have hown:∀ i g t,ρ2 i=some (g,t)->(i<s.length/\ρ i=some (g,t)/\g<w.heap.size)\/(s.length<=i/\ρ1 (i-s.length)=some (g,t)/\w.heap.size<=g):=fun i g t e=>by
  by_cases hi:i<s.length
  .rw [hlo i hi]at e
   exact .inl ⟨hi,e,m.lt e⟩
  .have e2:ρ2 i=ρ1 (i-s.length):=by rw[<- hhi]; congr 1; omega
   rw[e2]at e;exact .inr ⟨by omega,e,hgood _ g t e⟩
 refine⟨v,_,_,h',ρ2,rfl,⟨r,s1,hpost,rfl,rfl⟩,⟨m'.mem,?_,?_,?_,?_⟩,⟨lt.hle,fun b o e n=>.inr (hnew b o e n),hkeep,lt.os,lt.tape,lt.output,lt.size,fun k hk _=>hblk k hk,?_⟩,BeG hst hhi rv⟩
 .intro i blk e
  by_cases hi:i<s.length
  .rw [lat hi]at e
   exact(m.own i blk e).mono lt.hle hkeep (hlo i hi) (fun g t hg=>hblk g (m.lt hg))
  .obtain ⟨j,rfl⟩:∃ j,i=j+s.length:=⟨i-s.length,by omega⟩
   rw[hst]at e
   cases hb:s1[j]? with
   | none=>rw[hb]at e; cases e
   | some b =>
    rw[hb]at e;simp only[lca,lam]at e;subst e;have o:=m'.own j b hb;have hmb:=List.all_eq_true.1 (hmp _ _ hpost) b (laj hb)
    cases b with
    | arr es l =>
     rcases o with⟨h1,h2⟩|⟨g,tot,cur,t,h1,h2,h3,h4,h5,h6,h7,h8,h9⟩
     .exact .inl ⟨by simp[h1],(hhi j).trans h2⟩
     .refine .inr ⟨g,tot,cur,t,(hhi j).trans h1,h2,h3,by simpa using h4,h5,h6,?_,h8,?_⟩
      .intro x hx
       obtain⟨y,hy,rfl⟩:=List.mem_map.1 hx;rw[shC_cells,laa];exact h7 y hy
      .rw [shC_flat,laa]
       exact AlD hst hhi h9
    | mp es =>
     obtain⟨g,en,cl,h1,h2,h3,h4,h5⟩:=o;refine⟨g,en,cl,(hhi j).trans h1,h2,by rw[lvs_map]; simpa using h3,fun k x y hx hy=>?_,h5.map _⟩;rw[lvs_map,lbf]at hx;obtain⟨x',hx',rfl⟩:=Option.map_eq_some_iff.1 hx;obtain⟨p,q⟩:=h4 k x' y hx' hy;exact⟨p.thaw (fun _ _ _ x=>x),AvX hst hhi q⟩
    | it mid n seen=>cases hmb
    | dead=>exact(hhi j).trans o
 .intro i hi
  simp at hi
  have e2:ρ2 i=ρ1 (i-s.length):=by rw[<- hhi]; congr 1; omega
  rw[e2];exact m'.out _ (by omega)
 .intro i j g t t' hi hj
  rcases hown i g t hi with⟨a1,a2,a3⟩|⟨a1,a2,a3⟩ <;> rcases hown j g t' hj with⟨b1,b2,b3⟩|⟨b1,b2,b3⟩
  .exact m.inj i j g t t' a2 b2
  .omega
  .omega
  .have:=m'.inj _ _ g t t' a2 b2
   omega
 .intro i g t e o
  rcases hown i g t e with⟨a1,a2,a3⟩|⟨a1,a2,a3⟩
  .cases hq:h' g o with
   | none=>rfl
   | some z =>
    have:=hnew g o (m.disj i g t a2 o) (by rw[hq]; simp);omega
  .exact m'.disj _ g t a2 o
 .intro i g t e
  rcases hown i g t e with⟨a1,a2,a3⟩|⟨a1,a2,a3⟩
  .exact .inl ⟨i,t,a2⟩
  .exact .inr a3
def AdN(w:World):Mem:=fun b o=>match w.cell? ⟨b,o,none⟩with
 | some v=>if v.oneCell'=true then some v else none
 | none=>none
theorem AlE{w:World}:∀ b o v,AdN w b o=some v->w.cell? ⟨b,o,none⟩=some v/\v.oneCell'=true:=by grind[AdN]
theorem AyO{h:Mem}{w:World}(hm:∀ b o v,h b o=some v->w.cell? ⟨b,o,none⟩=some v/\v.oneCell'=true):∀ b o v,h b o=some v->AdN w b o=some v:=by grind[AdN]
def bor:Nat->LB->AV->AV
 | 0,_,a=>match a with
  | .sl _ _ _ _=>.any
  | .ptr _ _ _ _=>.any
  | .mp _=>.any
  | .agg _=>.any
  | .tup _=>.any
  | .fn _ _=>.any
  | a=>a
 | n+1,s,a=>match a with
  | .sl id off len cap=>match s.getD id .dead with
   | .arr e l=>bif decide (off+cap=l.length)&&decide (len<=cap) then .fz e (((l.drop off).take len).map fun x=>match x with
    | .agg r=>.agg (r.map (bor n s))
    | x=>bor n s x) else .any
   | _=>.any
  | .ptr _ _ _ _=>.any
  | .mp _=>.any
  | .agg _=>.any
  | .tup _=>.any
  | .fn _ _=>.any
  | a=>a
def borC(n:Nat)(s:LB):AV->AV
 | .agg r=>.agg (r.map (bor n s))
 | x=>bor n s x
theorem AnM(n:Nat)(s:LB)(id off len cap:Nat):bor (n+1) s (.sl id off len cap)=match s.getD id .dead with
   | .arr e l=>bif decide (off+cap=l.length)&&decide (len<=cap) then .fz e (((l.drop off).take len).map (borC n s)) else .any
   | _=>.any:=rfl
theorem bor_cells(n:Nat)(s:LB)(x:AV):cellsOf (borC n s x)=(cellsOf x).map (bor n s):=by
 have key:∀ a,cellsOf (bor n s a)=[bor n s a]:=fun a=>by
  cases n with
  | zero=>cases a <;> rfl
  | succ n =>
   cases a with
   | sl id off len cap =>
    rw[AnM]
    split
    .cases decide (off+cap=_)&&decide (len<=cap) <;> rfl
    .rfl
   | _=>rfl
 cases x with
 | agg r=>rfl
 | _=>exact key _
theorem bor_flat(n:Nat)(s:LB):∀ l,flat (l.map (borC n s))=(flat l).map (bor n s)
 | []=>rfl
 | x::r=>by simp only[lah,flat,bor_cells,bor_flat n s r,lap]
section
variable {h:Mem}{ρ:Own}{s:LB}{w:World}
theorem A5D{v:Value}{a:AV}(m:Mine h ρ s w)(r:RV h (Lf ρ s) false v a)(hf:frozen a=true):RV (AdN w) Lf0 true v a :=
 (AdW r hf).thaw (AyO m.mem)
theorem bor_list{n:Nat}(hn:∀ {v:Value}{a:AV},RV h (Lf ρ s) false v a->RV (AdN w) Lf0 true v (bor n s a)):∀ {l:LY}{vs:List Value},RL h (Lf ρ s) false vs l->RL (AdN w) Lf0 true vs (l.map (bor n s))
 | [],_,r=>by cases r; exact .nil
 | a::l,_,r=>by cases r with|cons r1 r2=>exact .cons (hn r1) (bor_list hn r2)
theorem AyP(m:Mine h ρ s w):∀ (n:Nat){v:Value}{a:AV},RV h (Lf ρ s) false v a->RV (AdN w) Lf0 true v (bor n s a)
 | 0,v,a,r=>by
  cases a with
  | sl id o l c=>exact .any _
  | ptr id m i o=>exact .any _
  | mp id=>exact .any _
  | agg r=>exact .any _
  | tup r=>exact .any _
  | fn f r=>exact .any _
  | _=>exact A5D m r rfl
 | n+1,v,a,r=>by
  cases a with
  | sl id off len cap =>
   rw[AnM];have hl:=(AaY r).2
   cases hq:s[id]? with
   | none=>grind[LfC]
   | some b =>
    have hgd:s.getD id .dead=b:=by grind
    rw[hgd]
    cases b with
    | arr e l =>
     simp only
     cases hd:decide (off+cap=l.length)&&decide (len<=cap)with
     | false=>exact .any _
     | true =>
      simp at hd
      obtain⟨hc,hlc⟩:=hd;simp only[LfC,hq]at hl
      rcases hl.2 hc with⟨rfl,rfl,a,rfl⟩|⟨g,tot,h1,rfl,_⟩
      .cases a with
       | none=>simpa[at0]using RV.fznil e
       | some a=>simpa[at0]using RV.fz a.1 a.2 0 e [] [] .nil (by simp) (by simp) (lab _)
      .rcases m.own id _ hq with⟨_,hn⟩|⟨g',tot',cur,t,h3,h4,h5,h6,h7,h8,h9,h10,h11⟩
       .grind
       .rw [h3]at h1
        have hlen:(((l.drop off).take len).map (borC n s)).length=len:=by grind
        have hr:RL (AdN w) Lf0 true (((cur.toList.take (l.length*e)).drop (off*e)).take (len*e)) (flat (((l.drop off).take len).map (borC n s))):=by
         rw[bor_flat,<- AbI (fun x hx=>h9 x (lbe hx)) len,<- AaU h9 off,List.map_take,List.map_drop];exact((bor_list (fun r=>AyP m n r) h11).drop _).take _
        have:=RV.fz (fl:=true) g' (off*e) (tot'-off) e (((l.drop off).take len).map (borC n s)) _ hr (fun x hx=>by
         grind[bor_cells]) (fun k v hk=>by
         rw[lce]at hk
         split at hk
         .rw [List.getElem?_drop,lce]at hk
          split at hk
          .have h12:=h10 v (laj hk)
           unfold AdN;rw[h4.cell,<- lby,hk]
           grind
          grind
         grind) (by omega)
        grind
    | _=>exact .any _
  | ptr id m i o=>exact .any _
  | mp id=>exact .any _
  | agg r=>exact .any _
  | tup r=>exact .any _
  | fn f r=>exact .any _
  | _=>exact A5D m r rfl
theorem BgO(m:Mine h ρ s w)(n:Nat){v:Value}{a:AV}(r:RV h (Lf ρ s) false v a):RV (AdN w) Lf0 true v (borC n s a):=by
 cases a with
 | agg l =>
  obtain⟨vs,rfl,rl⟩:=inv_agg r;exact .agg vs _ (bor_list (fun r=>AyP m n r) rl)
 | _=>exact AyP m n r
end
def BjL:AV->Bool
 | .int _ _=>true
 | .bool _=>true
 | .str _=>true
 | _=>false
end Go.Av
namespace Go.Av
open RowKit
variable [Tr]
def borP(n:Nat)(s:LB):AV->AV
 | .ptr id m i off=>match s.getD id .dead with
  | .arr e l=>bif decide (m=l.length)&&decide (i<l.length) then .pin e (l.map (borC n s)) i off else .any
  | _=>.any
 | x=>borC n s x
def borF(n:Nat)(s:LB):AV->AV
 | .fn f r=>.fn f (r.map (borP n s))
 | x=>borP n s x
section
variable {h:Mem}{ρ:Own}{s:LB}{w:World}
theorem A5E(m:Mine h ρ s w)(n:Nat){v:Value}{a:AV}(r:RV h (Lf ρ s) false v a):RV (AdN w) Lf0 true v (borP n s a):=by
 cases a with
 | ptr id k i off =>
  have hl:=(AcE r).2;simp only[borP]
  cases hq:s[id]? with
  | none =>
   have hgd:s.getD id .dead=.dead:=by grind
   rw[hgd];exact .any _
  | some b =>
   have hgd:s.getD id .dead=b:=by grind
   rw[hgd]
   cases b with
   | arr e l =>
    simp only
    cases hd:decide (k=l.length)&&decide (i<l.length)with
    | false=>exact .any _
    | true =>
     simp at hd
     obtain⟨hd1,hd⟩:=hd;simp only[LfC,hq]at hl;obtain⟨_,g,tot,h1,rfl⟩:=hl.2 hd1
     rcases m.own id _ hq with⟨_,hn⟩|⟨g',tot',cur,t,h3,h4,h5,h6,h7,h8,h9,h10,h11⟩
     .grind
     .rw [h3]at h1
      simp at h1
      have hr:RL (AdN w) Lf0 true (cur.toList.take (l.length*e)) (flat (l.map (borC n s))):=by
       grind[bor_flat,bor_list,AyP]
      have:=RV.pin (fl:=true) g' 0 e (l.map (borC n s)) _ i off hr (fun x hx=>by
       grind[bor_cells]) (fun k v hk=>by
       rw[lce]at hk
       split at hk
       .unfold AdN
        rw[h4.cell,<- lby,lau,hk]
        grind
       grind) (by grind)
      grind
   | _=>exact .any _
 | _=>exact BgO m n r
theorem AsJ(m:Mine h ρ s w)(n:Nat):∀ {l:LY}{vs:List Value},RL h (Lf ρ s) false vs l->RL (AdN w) Lf0 true vs (l.map (borP n s))
 | [],_,r=>by cases r; exact .nil
 | a::l,_,r=>by cases r with|cons r1 r2=>exact .cons (A5E m n r1) (AsJ m n r2)
theorem BgP(m:Mine h ρ s w)(n:Nat){v:Value}{a:AV}(r:RV h (Lf ρ s) false v a):RV (AdN w) Lf0 true v (borF n s a):=by
 cases a with
 | fn f l =>
  obtain⟨vs,rfl,rl⟩:=A3K r;exact .fn f vs _ (AsJ m n rl)
 | _=>exact A5E m n r
theorem AlF(m:Mine h ρ s w)(n:Nat):∀ {l:LY}{vs:List Value},RL h (Lf ρ s) false vs l->RL (AdN w) Lf0 true vs (l.map (borF n s))
 | [],_,r=>by cases r; exact .nil
 | a::l,_,r=>by cases r with|cons r1 r2=>exact .cons (BgP m n r1) (AlF m n r2)
end
theorem Ct.borrowF{P:Program}{f:FuncId}{args:LY}{post:AV->Prop}(n:Nat)(s:LB)(hc:Pc P f (args.map (borF n s)) post)(hp:∀ r,post r->BjL r=true):Ct P f args s (fun r s'=>post r/\s'=s):=by
 refine⟨hc.1,fun h ρ w vs m r=>?_⟩;refine(hc.2 (AdN w) w vs AlE (AlF m n r)).mono ?_;rintro en w' ⟨v,r,h',rfl,hpo,hm',_,_,hs,rv⟩;refine⟨v,r,s,h,ρ,rfl,⟨hpo,rfl⟩,m.same hs,Later.same hs,?_⟩;have:=hp r hpo
 cases rv with
 | int k n=>exact .int k n
 | bool b=>exact .bool b
 | str s=>exact .str s
 | _=>cases this
theorem CtH.borrowF{P:Program}{g:Std}{f:FuncId}{args:LY}{post:AV->Prop}(n:Nat)(s:LB)(hc:PcH P g f (args.map (borF n s)) post)(hp:∀ r,post r->BjL r=true):CtH P g f args s (fun r s'=>post r/\s'=s):=by
 refine⟨hc.1,fun h ρ w vs hg m r=>?_⟩;refine(hc.2 (AdN w) w vs (fun k o e=>(hg k o e).1) AlE (AlF m n r)).mono ?_;rintro en w' ⟨v,r,h',rfl,hpo,hm',_,_,hs,rv⟩;refine⟨v,r,s,h,ρ,rfl,⟨hpo,rfl⟩,m.same hs,Later.same hs,?_⟩;have:=hp r hpo
 cases rv with
 | int k n=>exact .int k n
 | bool b=>exact .bool b
 | str s=>exact .str s
 | _=>cases this
end Go.Av
namespace Go.Proofs.YtccfklnmolggiaaGreatDoor
open Av RowKit Proofs.Tryz
set_option maxRecDepth 100000
set_option maxHeartbeats 1000000
theorem ApV(x n:Int)(h1:1<=n)(h2:n<=9223372036854775807) :
  Pc prog 75 [.int .i64 x,.int .i64 n] (· = .int .i64 (x%n)):=by
 refine AbG (AaZ func75 rfl ntmps75 hB75 (by simp) fun h ρ w=>goW rfl 200 ?_);have hm:x.tmod n=if 0<=x\/n ∣ x then x%n else x%n-n.natAbs:=by
  rw[Int.tmod_eq_emod]; split <;> simp
 have hlt:=Int.emod_lt_of_pos x (show 0<n by omega);have hge:=Int.emod_nonneg x (show n≠0 by omega);have hna:(n.natAbs:Int)=n:=by omega
 rw[hna]at hm;simp only[go_sem];refine⟨fun _=>by omega,fun _=>⟨by omega,fun h3=>?_,fun h3=>?_⟩⟩
 .refine aret [4] rfl ⟨?_,rfl⟩
  show AV.int .i64 _=_
  rw[hm]at h3 |-
  split at h3
  .omega
  .rw [if_neg (by assumption),show x%n-n+n=x%n by omega]
   exact congrArg _ (IntWalk.i64_in _ ⟨by omega,by omega⟩)
 .refine aret [4] rfl ⟨?_,rfl⟩
  show AV.int .i64 _=_
  rw[hm]at h3 |-
  split at h3
  .rw [if_pos (by assumption)]
  .omega
def str(L:List Int)(at':Int):AV:=.agg [.fz 1 (L.map (.int .i64)),.int .i64 at']
def noDbl:LU->Bool
 | a::b::r=>!(a==32&&b==32)&&noDbl (b::r)
 | _=>true
structure TextOk(p:UInt8->Bool)(t:LU):Prop where
 ne:t≠[]
 all:t.all p=true
 dbl:noDbl t=true
 hd:t.head?≠some 32
 lst:t.getLast?≠some 32
theorem AsK:∀ t:LU,noDbl t=true->Lib.index t [32,32]=-1
 | [],_=>rfl
 | [a],_=>by
  grind[Lib.index]
 | a::b::r,h=>by
  simp only[noDbl,lac,lbr]at h;have h1:([32,32]).isPrefixOf (a::b::r)=false:=by
   cases hq:([32,32]).isPrefixOf (a::b::r)with
   | false=>rfl
   | true =>
    simp[List.isPrefixOf]at hq
    obtain⟨rfl,rfl⟩:=hq
    simp at h
  rw[Lib.index];simp only[h1,lan,if_false];rw[AsK (b::r) h.2];rfl
theorem A5F{t:LU}(h:t.head?≠some 32):Lib.hasPrefix t [32]=false:=by
 cases t<;>grind[Lib.hasPrefix]
theorem A5G{t:LU}(h:t.getLast?≠some 32):Lib.hasSuffix t [32]=false:=by
 unfold Lib.hasSuffix
 cases hq:([32]).isSuffixOf t with
 | false=>rfl
 | true =>
  rw[List.isSuffixOf_iff_suffix]at hq;obtain⟨r,rfl⟩:=hq
  grind
theorem AyQ{p:UInt8->Bool}{t:LU}(hp:∀ c,p c=true->okB c=true)(h:TextOk p t):plainL t=true:=by
 have h1:t.all okB=true:=by
  have:=h.all
  grind
 simp[plainL,h1,A5F h.hd,A5G h.lst,Lib.contains,AsK t h.dbl]
theorem AdS:∀ {a b:LU},noDbl a=true->noDbl b=true->a.getLast?≠some 32\/b.head?≠some 32->noDbl (a++b)=true
 | [],b,_,h,_=>h
 | [x],[],_,_,_=>rfl
 | [x],y::b,_,h,e=>by
  grind[noDbl]
 | x::y::a,b,h,h',e=>by
  simp only[noDbl,lac]at h;have ih:=AdS h.2 h' (by simpa using e);simp only[las,noDbl,lac]at ih |-;exact⟨h.1,ih⟩
theorem TextOk.join{p:UInt8->Bool}{a b:LU}(hb:p 32=true)(x:TextOk p a)(y:TextOk p b):TextOk p (a++32::b):=by
 refine⟨by simp,?_,?_,?_,?_⟩
 .simp only [List.all_append,laz,x.all,y.all,hb,lbo]
 .have h:noDbl (32::b)=true:=by
   have:=AdS (a:=[32]) rfl y.dbl (.inr y.hd)
   grind
  exact AdS x.dbl h (.inl x.lst)
 .have:=x.ne
  cases a with
  | nil=>grind
  | cons c a=>simpa using x.hd
 .have:=y.lst
  cases b with
  | nil=>exact(y.ne rfl).elim
  | cons c b =>
   grind
theorem TextOk.pre{p q:UInt8->Bool}{a b:LU}(hpq:∀ c,q c=true->p c=true)(ha:a.all p=true)(h1:noDbl a=true)(h2:a.head?≠some 32)(h0:a≠[])(y:TextOk q b):TextOk p (a++b):=by
 refine⟨by simp_all,?_,AdS h1 y.dbl (.inr y.hd),?_,?_⟩
 .have:b.all p=true:=by
   have:=y.all
   grind
  grind
 .simp_all
 .have:=y.lst
  cases hq:b.getLast? with
  | none=>exact(y.ne (List.getLast?_eq_none_iff.1 hq)).elim
  | some z=>grind
theorem TextOk.weak{p q:UInt8->Bool}{b:LU}(hpq:∀ c,q c=true->p c=true)(y:TextOk q b):TextOk p b :=
 ⟨y.ne,by have:=y.all; grind,y.dbl,y.hd,y.lst⟩
def textB(p:UInt8->Bool)(t:LU):Bool:=t != []&&(t.all p&&(noDbl t&&(t.head? != some 32&&t.getLast? != some 32)))
theorem ApW{p:UInt8->Bool}{t:LU}(h:textB p t=true):TextOk p t:=by
 simp only[textB,lac,bne_iff_ne,ne_eq]at h;exact⟨h.1,h.2.1,h.2.2.1,h.2.2.2.1,h.2.2.2.2⟩
set_option maxRecDepth 100000
def NameL:List LU:=[[65,78,78],[66,79],[68,82,46,32,88],[65,78,78,45,77,65,82,73,69]]
def SetL:List LU:=[[72,65,76,76],[77,73,76,76],[66,65,82,78,32,47,32,76,79,70,84]]
theorem BbL:Pc prog 130 [] (· = .fz 1 (NameL.map .str)):=by
 refine zpIF func130 rfl fun h ρ w=>?_
 simp only[go_sem];exact zt [0]
theorem BgQ:Pc prog 82 [] (· = .fz 1 (SetL.map .str)):=by
 refine zpIF func82 rfl fun h ρ w=>?_
 simp only[go_sem];exact zt [0]
def wordC(c:UInt8):Bool:=okB c&&(c != 40&&(c != 41&&c != 86))
def textC(c:UInt8):Bool:=okB c&&c != 86
theorem AfV(c:UInt8)(h:wordC c=true):textC c=true:=by
 simp only[wordC,textC,lac]at h |-;exact⟨h.1,h.2.2.2⟩
theorem AyR(c:UInt8)(h:textC c=true):okB c=true:=by
 simp only[textC,lac]at h;exact h.1
def WordL:List LU:=[[114,97,105,110],[84,119,111],[103,117,110,115],[65,78,78],[66,111],[97],[116,104,101],[114,101,100],[99,97,114,46],[115,111,108,100,105,101,114,115],[49,50],
 [100,111,110,39,116],[45,45],[97,98,99,100,101,102,103,104,105,106,107,108,109,110,111,112,113,114,115,116,117,118,119,120,121,122,97,98,99,100,101,102,103,104,105,106,107,108,109,110,111,112,113,114,115,116,117,118,119,120,121,122],[99,97,114]]
theorem BgR:(WordL.all fun x=>textB wordC x&&decide (x.length<=52))=true:=by decide +kernel
theorem A5H{x:LU}(h:x∈WordL):TextOk wordC x/\x.length<=52:=by
 have:=List.all_eq_true.1 BgR x h;simp only[lac,lao]at this;exact⟨ApW this.1,this.2⟩
def runL:Int->List Pa->Option Int
 | l,[]=>some l
 | l,p::r=>if paraOk p&&followsL p.kind l then runL p.kind r else none
theorem runL_append:∀ (a b:List Pa)(l e:Int),runL l a=some e->runL l (a++b)=runL e b
 | [],b,l,e,h=>by
  grind[runL]
 | p::a,b,l,e,h=>by
  simp only[runL]at h;simp only[las,runL]
  split at h
  .rename_i hc
   rw[if_pos hc];exact runL_append a b p.kind e h
  .simp at h
theorem BbM{a:List Pa}{l e:Int}{p:Pa}(h:runL l a=some e)(h1:paraOk p=true)(h2:followsL p.kind e=true):runL l (a++[p])=some p.kind:=by
 simp_all[runL_append,runL]
def TurnL:List LU:=[[67,85,84,32,84,79],[70,65,68,69,32,79,85,84,46],[69,78,68],[65,78,78]]
def PreA:List LU:=[[64],[62,32],[35,32],[92],[40],[35]]
def PreB:List LU:=[[40],[92],[35],[64]]
structure DrawnP(p:Pa):Prop where
 text:TextOk textC p.text
 kind:1<=p.kind/\p.kind<=5
 name:p.kind=2->p.text∈NameL
 turn:p.kind=5->p.text∈TurnL
 ok:paraOk p=true
theorem AfW{k:Int}{t:LU}(hk:k=1\/k=4)(h:TextOk textC t)(hl:t.length<=2000):DrawnP ⟨k,t⟩:=by
 have hp:=AyQ AyR h;have hn:(t != [])=true:=by simpa using h.ne
 refine⟨h,by simp only; omega,by simp only; omega,by simp only; omega,?_⟩<;>grind[paraOk]
theorem AvY{t:LU}(h:TextOk wordC t)(hl:t.length<=200):DrawnP ⟨3,t⟩:=by
 have h':=h.weak AfV;have hp:=AyQ AyR h';have hn:(t != [])=true:=by simpa using h.ne
 have hc:Lib.containsAny t [40,41]=false:=by
  have:Lib.NoAny t [40,41] t.length:=fun j b _ hj=>by
   have:=List.all_eq_true.1 h.all b (laj hj)
   grind[wordC]
  grind[Lib.containsAny,Lib.indexAny_none]
 refine⟨h',by simp,by simp,by simp,?_⟩<;>grind[paraOk]
theorem BbN:(NameL.all fun t=>textB textC t&&paraOk ⟨2,t⟩)=true:=by decide +kernel
theorem BbO:(TurnL.all fun t=>textB textC t&&paraOk ⟨5,t⟩)=true:=by decide +kernel
theorem AnN{t:LU}(h:t∈NameL):DrawnP ⟨2,t⟩:=by
 have:=List.all_eq_true.1 BbN t h
 simp at this
 exact⟨ApW this.1,by simp,fun _=>h,by simp,this.2⟩
theorem A1D{t:LU}(h:t∈TurnL):DrawnP ⟨5,t⟩:=by
 have:=List.all_eq_true.1 BbO t h
 simp at this
 exact⟨ApW this.1,by simp,by simp,fun _=>h,this.2⟩
def preB(a:LU):Bool:=a.all textC&&(noDbl a&&(a.head? != some 32&&(a != []&&decide (a.length<=2))))
theorem pre_all:(PreA.all preB&&PreB.all preB)=true:=by decide +kernel
theorem AjO{a t:LU}(h:a∈PreA\/a∈PreB)(y:TextOk wordC t):TextOk textC (a++t)/\a.length<=2:=by
 grind[preB,pre_all,TextOk.pre,AfV]
def pwP(k:Int):Nat:=if k=1\/k=4 then 4 else if k=3 then 1 else 3
def wtL(l:List Pa):Nat:=(l.map fun p=>pwP p.kind).sum
theorem wtL_one(a:List Pa)(p:Pa):wtL (a++[p])=wtL a+pwP p.kind:=by simp[wtL]
theorem A1E(a b:List Pa):wtL (a++b)=wtL a+wtL b:=by simp[wtL]
structure Block(b:List Pa):Prop where
 run:∀ l,l≠2->l≠3->∃ e,runL l b=some e/\e≠2/\e≠3
 len:1<=b.length/\b.length<=5
 all:∀ p∈b,DrawnP p
 wt:wtL b<=13
theorem AfG{k l:Int}(hk:k≠3)(hk':k≠4)(h2:l≠2)(h3:l≠3):followsL k l=true:=by grind[followsL]
theorem AlG{p:Pa}(h:DrawnP p)(hk:p.kind=1\/p.kind=5):Block [p]:=by
 refine⟨fun l h2 h3=>⟨p.kind,?_,by omega,by omega⟩,by simp,by grind,by grind[wtL,pwP]⟩
 simp[runL,h.ok,AfG (show p.kind≠3 by omega) (show p.kind≠4 by omega) h2 h3]
theorem AaG(ps:List Pa):(flat (ps.map paA)).all Av.frozen=true:=by
 induction ps<;>grind[flat,cellsOf,paA,Av.frozen]
theorem ApX(id e:Nat)(l:LY)(L:List Int)(k:Int):frz id e l (str L k)=str L k:=rfl
theorem AjP(id e:Nat)(l:LY)(L:List Int)(k:Int):frzC id e l (str L k)=str L k:=rfl
structure DrawnS(x:Sc):Prop where
 no:x.no=[]
 place:1<=x.place/\x.place<=3
 set:x.set∈SetL
 time:1<=x.time/\x.time<=5
 run:∃ e,runL 0 x.Lc=some e/\e≠2/\e≠3
 len:x.Lc.length<=60
 all:∀ p∈x.Lc,DrawnP p
 wt:wtL x.Lc<=143
def TitleL:List LU:=[[84],[84,104,101,32,77,105,108,108],[65,32,45,32,66]]
structure DrawnR(x:Sr):Prop where
 Lj:x.Lj∈TitleL
 len:x.Lb.length<=5
 all:∀ y∈x.Lb,DrawnS y
 first:∀ y,x.Lb.head? = some y->y.time≠5
theorem AaT(ps:List Sc):(flat (ps.map scA)).all Av.frozen=true:=by
 induction ps with
 | nil=>rfl
 | cons y l ih=>simpa[flat,cellsOf,scA,Av.frozen]using ih
def digB(c:UInt8):Bool:=digI c.toNat
def capB(c:UInt8):Bool:=capI c.toNat
def digs(s:LU):LU:=s.takeWhile digB
def caps(s:LU):LU:=s.dropWhile digB
theorem AjA{p:UInt8->Bool}:∀ {s:LU}{k:Nat},k<=s.length->(s.take k).all p=true->(k=s.length\/p (s.getD k 0)=false)->s.takeWhile p=s.take k/\s.dropWhile p=s.drop k
 | [],k,hk,_,_=>by simp
 | c::s,0,_,_,e=>by
  simp_all
 | c::s,k+1,hk,h,e=>by
  simp only[lcb,laz,lac]at h;have ih:=AjA (by simpa using hk) h.2 (by simpa using e)
  simp[h.1,ih.1,ih.2]
def numberL(s:LU):Bool :=
 (caps s).all capB&&(!(decide (((caps s).length:Int)>5)||Lib.hasSuffix (caps s) [65]) &&
  (if digs s=[48] then caps s != [] else decide (1<=(digs s).length)&&(decide ((digs s).length<=3)&&((s.getD 0 0).toNat:Int) != 48)))
theorem AjB(s:LU)(hs:s.length<1000000):Pc prog 48 [.str s] (· = .bool (numberL s)):=by
 refine zpIN func48 rfl fun h ρ w=>?_
 simp only[go_sem];refine AyG (ι:=Nat) (κ:=Unit) (fun i=>s.length-i) (fun i=>[(3,.int .i64 i),(0,.str s)]) (fun _=>[]) (fun i=>i<=s.length/\(s.take i).all digB=true)
  (fun _=>[(3,.int .i64 (digs s).length),(0,.str s)]) (fun _=>[]) (fun _=>s=digs s++caps s) 0 ⟨by omega,by simp⟩ ?_ ?_ ?_
 .refine Lo ?_
  simp only[go_sem]
 .rintro-hd
  have hdl:(digs s).length<=s.length:=(congrArg List.length hd).symm▸by simp
  have edr:List.drop (digs s).length s=caps s:=(congrArg (List.drop (digs s).length) hd).trans (by simp);have etk:List.take (digs s).length s=digs s:=(congrArg (List.take (digs s).length) hd).trans (by simp);have hcl:(caps s).length<=s.length:=(congrArg List.length hd).symm▸by simp
  apply zgN;simp only[go_sem,edr];refine⟨by omega,by omega,by omega,?_⟩;refine AyG (ι:=Nat) (κ:=Unit) (fun i=>(caps s).length-i) (fun i=>[(23,.int .i64 i),(22,.int .i64 (caps s).length),(4,.str (caps s)),(3,.int .i64 (digs s).length),(0,.str s)]) (fun _=>[]) (fun i=>i<=(caps s).length/\((caps s).take i).all capB=true)
   (fun _=>[(4,.str (caps s)),(3,.int .i64 (digs s).length),(0,.str s)]) (fun _=>[]) (fun _=>(caps s).all capB=true) 0 ⟨by omega,by simp⟩ ?_ ?_ ?_
  .refine Lo ?_
   simp only[go_sem]
  .rintro-hc
   by_cases h5:((caps s).length:Int)>5
   .have d5:decide (((caps s).length:Int)>5)=true:=by simpa using h5
    apply zgN;simp only[go_sem,d5];exact aret [2] rfl ⟨by simp[resV,Av.get,numberL,d5],rfl⟩
   have d5:decide (((caps s).length:Int)>5)=false:=by simpa using h5
   apply zgN;simp only[go_sem,d5];refine zpN (AdR (caps s) [65] (by omega)) ?_
   cases e6:Lib.hasSuffix (caps s) [65]with
   | true =>
    simp only[go_sem];exact aret [2] rfl ⟨by simp[resV,Av.get,numberL,e6],rfl⟩
   | false =>
   by_cases h7:digs s=[48]
   .have d7:(digs s==[48])=true:=by simpa using h7
    simp only[go_sem,etk,d7];refine⟨by omega,by omega,?_⟩;exact aret [2] rfl ⟨by simp[resV,Av.get,numberL,h7,d5,e6,hc],rfl⟩
   have d7:(digs s==[48])=false:=by simpa using h7
   by_cases h8:((digs s).length:Int)>=1
   .have d8:decide (((digs s).length:Int)>=1)=true:=by simpa using h8
    have d8':decide (1<=(digs s).length)=true:=by simp; omega
    by_cases h9:((digs s).length:Int)<=3
    .have d9:decide (((digs s).length:Int)<=3)=true:=by simpa using h9
     have d9':decide ((digs s).length<=3)=true:=by simp; omega
     simp only[go_sem,etk,d7,d8,d9];refine⟨by omega,by omega,by omega,?_⟩;exact aret [2] rfl ⟨by simp only[resV,Av.get,numberL,d5,e6,hc,if_neg h7,d8',d9']; rfl,rfl⟩
    .have d9:decide (((digs s).length:Int)<=3)=false:=by simpa using h9
     have d9':decide ((digs s).length<=3)=false:=by simp; omega
     simp only[go_sem,etk,d7,d8,d9];refine⟨by omega,by omega,?_⟩;exact aret [2] rfl ⟨by simp only[resV,Av.get,numberL,d5,e6,hc,if_neg h7,d8',d9']; rfl,rfl⟩
   .have d8:decide (((digs s).length:Int)>=1)=false:=by simpa using h8
    have d8':decide (1<=(digs s).length)=false:=decide_eq_false (by omega);simp only[go_sem,etk,d7,d8];refine⟨by omega,by omega,?_⟩;exact aret [2] rfl ⟨by simp only[resV,Av.get,numberL,d5,e6,hc,if_neg h7,d8']; rfl,rfl⟩
  .rintro i ⟨g1,g2⟩ J Q hJ hQ
   apply zgN
   by_cases hi:(i:Int)<(caps s).length
   .have hil:i<(caps s).length:=by omega
    have hgd:(caps s).getD i 0=(caps s)[i]:=by simp[List.getD,hil]
    simp only[go_sem,hi,hgd];refine⟨by omega,?_⟩;refine zpN (AaO _) ?_
    cases c1:capI ((caps s)[i].toNat:Int)with
    | true =>
     simp only[go_sem];rw[ic i]
     repeat refine ao ?_
     refine ainv (hJ (i+1) ⟨by omega,AbA hil g2 c1⟩ (by omega)) (Lo ?_);simp only[go_sem]
    | false =>
     simp only[go_sem];exact aret [2] rfl ⟨by simp[resV,Av.get,numberL,AcQ hil (p:=capB) c1],rfl⟩
   .simp only [go_sem,hi]
    have hall:(caps s).all capB=true:=by
     have ht:(caps s).take i=caps s:=lag (by omega);rw[ht]at g2; exact g2
    refine ainv (hQ () hall) (Lo ?_);simp only[go_sem]
 .rintro i ⟨g1,g2⟩ J Q hJ hQ
  have out:(i=s.length\/digB (s.getD i 0)=false)->((digs s).length=i/\s=digs s++caps s):=fun e=>by
   obtain⟨e1,e2⟩:=AjA g1 g2 e;exact⟨by rw[digs,e1]; simp; omega,by simp[digs,caps]⟩
  apply zgN
  by_cases hi:(i:Int)<s.length
  .have hil:i<s.length:=by omega
   have hgd:s.getD i 0=s[i]:=by simp[List.getD,hil]
   simp only[go_sem,hi,hgd];refine⟨by omega,?_⟩;refine zpN (AcJ _) ?_
   cases c1:digI (s[i].toNat:Int)with
   | true =>
    simp only[go_sem];rw[ic i]
    repeat refine ao ?_
    refine ainv (hJ (i+1) ⟨by omega,AbA hil g2 c1⟩ (by omega)) (Lo ?_);simp only[go_sem]
   | false =>
    obtain⟨e1,e2⟩:=out (.inr (by rw[hgd]; exact c1));simp only[go_sem];refine ainv (hQ () e2) (Lo ?_);rw[e1];simp only[go_sem]
  .simp only [go_sem,hi]
   obtain⟨e1,e2⟩:=out (.inl (by omega));refine ainv (hQ () e2) (Lo ?_);rw[e1];simp only[go_sem]
def pN(s:LU):Int:=(Lib.atoi (digs s)).getD 0
def okD(s:LU):Prop:=1<=(digs s).length/\(digs s).length<=18
theorem AyS{c:UInt8}(h:digB c=true):Lib.digitVal c=some (c.toNat-48):=by
 grind[digB,digI,Lib.digitVal]
theorem AdT:∀ (l:LU)(acc:Nat),l.all digB=true->∃ n,Lib.decFrom acc l=some n
 | [],acc,_=>⟨acc,rfl⟩
 | c::l,acc,h=>by
  simp only[laz,lac]at h;obtain⟨n,hn⟩:=AdT l (acc*10+(c.toNat-48)) h.2;exact⟨n,by rw[Lib.decFrom,AyS h.1]; exact hn⟩
theorem AeQ(s:LU):(digs s).all digB=true:=List.all_takeWhile
theorem A5I{s:LU}(h:okD s):Lib.atoi (digs s)=some (pN s):=by
 obtain⟨n,hn⟩:=AdT (digs s) 0 (AeQ s);have h1:=h.1;have ha:=AeQ s;have key:Lib.atoi (digs s)=some (n:Int):=by
  cases hq:digs s with
  | nil=>grind
  | cons b r =>
   rw[hq]at hn ha;simp only[laz,lac,digB,digI,lao]at ha;have b1:(b==45)=false:=by
    cases hb:b==45<;>simp_all
   have b2:(b==43)=false:=by
    cases hb:b==43<;>simp_all
   grind[Lib.atoi,Lib.decNat]
 grind[pN]
theorem AfX{w w':World}(b:Below w.heap.size w w'):Same w w':=⟨b.os,b.tape,⟨b.output,trivial⟩,b.size,b.block⟩
theorem AvZ(s:LU):∀ h vs',RL h Lf0 true vs' [.str s]->vs'=[.string ⟨s.toArray⟩]:=by
 intro h vs' r
 cases r with|cons r1 r=>cases r; grind[rv_str]
theorem BgS(k:IntKind)(n:Int):∀ h vs',RL h Lf0 true vs' [.int k n]->vs'=[.int k n]:=by
 intro h vs' r
 cases r with|cons r1 r=>cases r; grind[A4W]
theorem BgT(s:LU)(k:IntKind)(n:Int):∀ h vs',RL h Lf0 true vs' [.str s,.int k n]->vs'=[.string ⟨s.toArray⟩,.int k n]:=by
 intro h vs' r
 cases r with|cons r1 r=>cases r with|cons r2 r=>cases r<;>grind[rv_str,A4W]
theorem AwA(s:LU)(n:Int)(hl:s.length<=18)(h:Lib.atoi s=some n):Pc prog 77 [.str s] (· = .tup [.int .i64 n,.raw .nilIface]) :=
 AiW [_] (.tuple #[.int .i64 n,.nilIface]) hB77 (AvZ s) (fun h=>.tup [_,_] [_,_] (.cons (.int _ _) (.cons (.raw _) .nil)))
  fun w=>(Any.strconv_Atoi Tryz.lays172 ⟨s.toArray⟩ n (by simpa[ByteArray.size]using hl) h w).mono fun e w' ⟨h1,t,h2⟩=>⟨h1,h2▸AfX (Lib.bytesWorld_below _ _ _)⟩
theorem AmX(a b:LU):Pc prog 128 [.str a,.str b] (· = .int .i64 (Lib.compareBytes a b)) :=
 AiW [_,_] (.int .i64 (Lib.compareBytes a b)) hB128 (AbY a b) (fun h=>.int _ _) fun w=>(Any.strings_Compare Tryz.lays106 ⟨a.toArray⟩ ⟨b.toArray⟩ w).mono fun e w' ⟨h1,h2⟩=>⟨h1,h2▸.refl w⟩
theorem AdJ(s:LU)(c:Nat)(hlen:s.length*c<=1000000)(hc:c<=1000000):Pc prog 112 [.str s,.int .i64 c] (· = .str (Lib.repeatL s c)) :=
 AiW [_,.int .i64 c] (.string ⟨(Lib.repeatL s c).toArray⟩) hB112 (BgT s .i64 c) (fun h=>.str _)
  fun w=>(Any.strings_Repeat Tryz.lays105 Tryz.Builder_Extra_105 ⟨s.toArray⟩ c w (by omega) (by simp[ByteArray.size]; omega)).mono fun e w' ⟨h1,h2⟩=>⟨h1,AfX h2⟩
theorem AjC(x:Int):Pc prog 167 [.int .i64 x] (· = .bool false):=by
 refine zpIN func167 rfl fun h ρ w=>?_
 simp only[go_sem];exact aret [2] rfl ⟨by simp[resV,Av.get],rfl⟩
def cmpI(x y:Int):Int:=if x<y then -1 else if x>y then 1 else 0
theorem A1F(x y:Int):Pc prog 127 [.int .i64 x,.int .i64 y] (· = .int .i64 (cmpI x y)):=by
 refine zpIN func127 rfl fun h ρ w=>?_
 simp only[go_sem];refine zpN (AjC _) ?_;simp only[go_sem];refine zpN (AjC _) ?_
 by_cases h1:x<y
 .have d1:decide (x<y)=true:=by simpa using h1
  simp only[go_sem,d1];exact aret [4] rfl ⟨by simp[resV,Av.get,cmpI,h1],rfl⟩
 have d1:decide (x<y)=false:=by simpa using h1
 by_cases h2:x>y
 .have d2:decide (x>y)=true:=by simpa using h2
  simp only[go_sem,d1,d2];exact aret [4] rfl ⟨by simp[resV,Av.get,cmpI,h1,h2],rfl⟩
 have d2:decide (x>y)=false:=by simpa using h2
 simp only[go_sem,d1,d2];exact aret [4] rfl ⟨by simp[resV,Av.get,cmpI,h1,h2],rfl⟩
def orI(x y:Int):Int:=if x=0 then y else x
theorem or_pc(x y:Int):Pc prog 126 [.fz 1 [.int .i64 x,.int .i64 y]] (· = .int .i64 (orI x y)):=by
 refine zpIN func126 rfl fun h ρ w=>?_
 simp only[go_sem];refine AbD (around (zgN ?_))
 by_cases h1:x=0
 .have d1:(x != 0)=false:=by simpa using h1
  simp only[go_sem,d1];refine AdQ (around (zgN ?_))
  by_cases h2:y=0
  .have d2:(y != 0)=false:=by simpa using h2
   simp only[go_sem,d2];refine AdQ (around (zgN ?_));simp only[go_sem];exact aret [2] rfl ⟨by simp[resV,Av.get,orI,h1,h2],rfl⟩
  have d2:(y != 0)=true:=by simpa using h2
  simp only[go_sem,d2];exact aret [2] rfl ⟨by simp[resV,Av.get,orI,h1],rfl⟩
 have d1:(x != 0)=true:=by simpa using h1
 simp only[go_sem,d1];exact aret [2] rfl ⟨by simp[resV,Av.get,orI,h1],rfl⟩
def compareN(a b:LU):Int:=orI (cmpI (pN a) (pN b)) (Lib.compareBytes (caps a) (caps b))
abbrev bys(l:LU):LY:=l.map fun b=>.int .u8 b.toNat
theorem AjQ(l:LU):(bys l).all AdF=true/\(bys l).map Go.Av.byteOf=l:=by
 refine⟨by grind[AdF],?_⟩
 induction l<;>simp_all[Go.Av.byteOf]
