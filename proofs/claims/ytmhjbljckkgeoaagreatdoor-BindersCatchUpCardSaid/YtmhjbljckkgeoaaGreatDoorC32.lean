/- How many pages there are at most: plain law. -/
import Derived.Test.YtmhjbljckkgeoaaGreatDoorC31
set_option maxRecDepth 100000
set_option linter.all false
namespace Go.Proofs.YtmhjbljckkgeoaaGreatDoor
open Av RowKit
def lenS(l:List LU):Nat:=(l.map List.length).sum
theorem lenS_append(a b:List LU):lenS (a++b)=lenS a+lenS b:=by simp[lenS]
theorem lenS_one(a:LU):lenS [a]=a.length:=by simp[lenS]
theorem AtW{W:Nat}(hW:0<W):∀ (n:Nat)(w:LU),w.length<=n->lenS (chop W w).1+(chop W w).2.length=w.length/\lenS (chop W w).1=W*(chop W w).1.length/\(w≠[]->(chop W w).2≠[])/\(chop W w).2.length<=W
 | 0,w,h=>by grind[chop_end,lenS]
 | n+1,w,h=>by
  by_cases hc:W<w.length
  .obtain ⟨h1,h2,h3,h4⟩:=AtW hW n (w.drop W) (by simp; omega)
   rw[AdG hc hW];have ht:(w.take W).length=W:=by simp; omega
   have hd:(w.drop W).length=w.length-W:=by simp
   refine⟨?_,?_,fun _=>h3 fun e=>?_,h4⟩
   .simp only [lenS,lak,List.sum_cons,ht]at h1 |-; omega
   .simp only [lenS,lak,List.sum_cons,ht,lal]at h2 |-; rw[Nat.mul_add]; omega
   .have:=congrArg List.length e
    simp at this; omega
  .rw [chop_end hc]; simp[lenS]; omega
def WI(W:Nat)(st:List LU×LU):Prop:=W*st.1.length<=2*lenS st.1+st.2.length/\(st.2=[]->st.1=[])
def byS(st:List LU×LU):Nat:=lenS st.1+st.2.length
theorem BeH{W:Nat}(hW:0<W){st:List LU×LU}(h:WI W st)(w:LU):WI W (wrapS W st w)/\byS (wrapS W st w)<=byS st+w.length+1/\(w≠[]\/st.2≠[]->(wrapS W st w).2≠[]):=by
 obtain⟨dn,cur⟩:=st;obtain⟨h1,h2⟩:=h;simp only at h1 h2;unfold wrapS
 by_cases hw:w=[]
 .subst hw
  simp only[lbf,if_true];exact⟨⟨h1,h2⟩,by omega,by simp⟩
 .have hwb:(w==[])=false:=by grind
  simp only[hwb,lan,if_false]
  split
  .refine ⟨⟨?_,by simp⟩,?_,by simp⟩<;>grind[byS]
  .obtain ⟨c1,c2,c3,c4⟩:=AtW hW w.length w (lab _)
   generalize (chop W w).2=re at c1 c3 c4 |-
   by_cases hc:cur=[]
   .grind[byS,WI]
   .have hcb:(cur != [])=true:=by grind
    have hfit:¬ cur.length+1+w.length<=W:=by grind
    simp only[hcb,if_true];refine⟨⟨?_,fun e=>absurd e (c3 hw)⟩,?_,fun _=>c3 hw⟩
    .simp only [lah,lal,laq,lenS_append,lenS_one,Nat.mul_add,lay,Nat.mul_one]
     omega
    grind[byS,lenS_append,lenS_one]
theorem AjF{W:Nat}(hW:0<W):∀ (ws:List LU)(st:List LU×LU),WI W st->WI W (ws.foldl (wrapS W) st)/\byS (ws.foldl (wrapS W) st)<=byS st+((ws.map List.length).sum+ws.length)/\((∃ w∈ws,w≠[])\/st.2≠[]->(ws.foldl (wrapS W) st).2≠[])
 | [],st,h=>⟨h,by simp,by simp⟩
 | w::r,st,h=>by
  obtain⟨a1,a2,a3⟩:=BeH hW h w;obtain⟨b1,b2,b3⟩:=AjF hW r _ a1;refine⟨b1,?_,fun hx=>b3 ?_⟩
  .simp; omega
  .rcases hx with⟨x,hx,hne⟩|hx
   .rcases List.mem_cons.1 hx with rfl|hx
    .exact .inr (a3 (.inl hne))
    .exact .inl ⟨x,hx,hne⟩
   .exact .inr (a3 (.inr hx))
theorem AgF{W:Nat}(hW:0<W)(t:LU):W*(wrapL W t).length<=2*(t.length+1)+W:=by
 obtain⟨a1,a2,a3⟩:=AjF hW (splitW t) ([],[]) ⟨by simp,by simp⟩;have hs:=splitW_sum t;have e:byS (([],[]):List LU×LU)=0:=by grind[byS,lenS]
 unfold wrapL wrapF;generalize (splitW t).foldl (wrapS W) ([],[])=st at a1 a2 |-;have:=a1.1
 grind[byS,Nat.mul_add]
theorem AfG{W:Nat}(hW:0<W){t:LU}(h0:t≠[])(h1:t.head?≠some 32):1<=(wrapL W t).length:=by
 have hex:∃ w∈splitW t,w≠[]:=by
  cases t with
  | nil=>grind
  | cons c r =>
   have hc:(c==32)=false:=by grind
   simp only[splitW,hc,lan,if_false]
   cases splitW r<;>simp_all[consW]
 have:=(AjF hW (splitW t) ([],[]) ⟨by simp,by simp⟩).2.2 (.inl hex)
 grind[wrapL,wrapF]
def scK:Option Nat->Int->Option Nat
 | none,_=>none
 | some n,k=>if k==2 then some 0 else if n<16 then some (n+1) else none
theorem AjG:∀ l:List Int,l.foldl scK none=none
 | []=>rfl
 | a::r=>by simp[scK,AjG r]
theorem A5K:∀ (l:List Int)(n:Nat),(∀ k∈l,(k==2)=false)->17<=n+l.length->n<=16->l.foldl scK (some n)=none
 | [],n,_,h,h'=>by grind
 | a::r,n,hl,h,h'=>by
  have ha:=hl a (by simp);simp only[List.foldl_cons,scK,ha,lan,if_false]
  by_cases hn:n<16
  .rw [if_pos hn]
   exact A5K r (n+1) (fun k hk=>hl k (by simp[hk])) (by simp at h; omega) (by omega)
  .rw [if_neg hn]; exact AjG r
theorem BeI:∀ (l:List Int)(n m:Nat),l.foldl scK (some n)=some m->n<=16->m<=16
 | [],n,m,h,hn=>by grind
 | a::r,n,m,h,hn=>by
  simp only[List.foldl_cons,scK]at h
  split at h
  .exact BeI r 0 m h (by omega)
  .split at h
   .exact BeI r (n+1) m h (by omega)
   grind[AjG]
theorem BlX(n m:Nat)(hn:1<=n):(List.replicate n (2:Int)).foldl scK (some m)=some 0:=by
 obtain⟨n,rfl⟩:∃ k,n=k+1:=⟨n-1,by omega⟩;clear hn
 induction n generalizing m with
 | zero=>rfl
 | succ n ih=>exact ih 0
theorem A5L:∀ (n m:Nat),m+n<=16->(List.replicate n (1:Int)).foldl scK (some m)=some (m+n)
 | 0,m,_=>rfl
 | n+1,m,h=>by
  rw[List.replicate_succ,List.foldl_cons];simp only[scK,show((1:Int)==2)=false from rfl,lan,if_false,if_pos (show m<16 by omega)];rw[A5L n (m+1) (by omega)]
  congr 1; omega
theorem A1T{l:List Int}{m:Nat}(h:l.foldl scK (some 0)=some m){k:Nat}(hk:17<=k)(hl:k<=l.length):∃ j,k<=j+17/\j<k/\(l.getD j 0==2)=true:=by
 have e:l=l.take (k-17)++(((l.take k).drop (k-17))++l.drop k):=by
  grind[lbd]
 by_cases hx:∃ x∈(l.take k).drop (k-17),(x==2)=true
 .obtain ⟨x,hx,h2⟩:=hx
  obtain⟨j,hj,rfl⟩:=List.mem_iff_getElem.1 hx
  simp at hj
  refine⟨k-17+j,by omega,by omega,?_⟩<;>grind
 .rw [e,List.foldl_append]at h
  cases hq:(l.take (k-17)).foldl scK (some 0)with
  | none=>grind[AjG]
  | some q =>
   have hq16:=BeI _ _ _ hq (by omega);rw[hq,List.foldl_append,A5K _ q (fun x hxm=>by
    grind) (by grind) hq16,AjG]at h
   grind
def AgG(b:Bl):Prop:=b.kind=1\/(b.kind=3/\b.kinds.length=b.Lb.length/\∃ m,b.kinds.foldl scK (some 0)=some m)\/b.Lb.length<=40
theorem AhE{b:Bl}{fr j0:Nat}(h:breaksL b fr j0=true)(hf:fr<j0):∀ c,j0<=c->∃ j,AcN b fr c=some j/\j0<=j
 | 0,hc=>by omega
 | c+1,hc=>by
  simp only[AcN];rw[if_pos (show fr<c+1 by omega)]
  split
  .exact ⟨c+1,rfl,hc⟩
  .rename_i hn
   have:j0<=c:=by
    by_cases e:j0=c+1
    .subst e; exact absurd h hn
    .omega
   exact AhE h hf c this
theorem A5M{b:Bl}{fr:Nat}:∀ c j,AcN b fr c=some j->fr<j
 | 0,j,h=>by grind[AcN]
 | c+1,j,h=>by
  simp only[AcN]at h
  split at h
  .split at h
   .grind
   .exact A5M c j h
  grind
theorem A1U{b:Bl}{fr room:Nat}(hne:stopL b fr room≠b.Lb.length):fr<stopL b fr room/\room<b.Lb.length-fr:=by
 unfold stopL at hne |-
 split at hne
 .omega
 .rename_i h
  rw[if_neg h];refine⟨?_,by omega⟩
  split
  .rename_i j hj; exact A5M _ _ hj
  omega
theorem BlY{b:Bl}(hb:AgG b){fr room:Nat}(hr:53<=room)(hne:stopL b fr room≠b.Lb.length):fr+36<=stopL b fr room:=by
 have h2:=(A1U hne).2;unfold stopL;have key:∃ j0,breaksL b fr j0=true/\fr+36<=j0/\j0<=min (fr+room-grp b) (b.Lb.length-1):=by
  rcases hb with hk|⟨hk,hl,m,hm⟩|hl
  .refine ⟨fr+room-1,?_,by omega,?_⟩
   .simp only [breaksL,hk,lbf,if_true,lag,laj]; omega
   grind[grp]
  .obtain ⟨j,h3,h4,h5⟩:=A1T hm (k:=fr+room-1) (by omega) (by omega)
   refine⟨j+1,?_,by omega,?_⟩
   .simp only [breaksL,hk,show((3:Int)==1)=false from rfl,lbf,lan,if_false,if_true,Nat.add_sub_cancel,h5,laz,lag,laj]
    omega
   grind[grp]
  omega
 grind[AhE]
theorem AfS(b:Bl)(s:LS):(breakS b s).Lh.length=s.Lh.length+1/\(breakS b s).Li.length<=1:=by
 grind[breakS,addS,flushS]
theorem AoN{b:Bl}(hb:AgG b):∀ (f fr:Nat)(s:LS),s.Li.length<=1->36*(placeB b f fr s).Lh.length<=36*s.Lh.length+(b.Lb.length-fr)
 | 0,fr,s,_=>by simp[placeB]
 | f+1,fr,s,h=>by
  unfold placeB
  split
  .grind[addS]
  .rename_i hne
   have h1:=BlY hb (by omega) hne;have h2:=A1U hne;generalize stopL b fr (54-s.Li.length)=tz at h1 h2 |-;obtain⟨h3,h4⟩:=AfS b (addS s (partL' b fr tz));have:=AoN hb f tz _ h4
   grind[addS]
theorem A8D{b:Bl}(hb:AgG b)(f fr:Nat)(s:LS):36*(placeB b f fr s).Lh.length<=36*s.Lh.length+36+(b.Lb.length-fr):=by
 cases f with
 | zero=>grind[placeB]
 | succ f =>
  unfold placeB
  split
  .grind[addS]
  .rename_i hne
   have h2:=A1U hne;generalize stopL b fr (54-s.Li.length)=tz at h2 |-;obtain⟨h3,h4⟩:=AfS b (addS s (partL' b fr tz));have:=AoN hb f tz _ h4
   grind[addS]
def costP(bs:List Bl):Nat:=(bs.map fun b=>72+b.Lb.length).sum
theorem layTo_few{bs:List Bl}(hb:∀ b∈bs,AgG b):∀ i,i<=bs.length->36*(layTo bs i).Lh.length<=costP (bs.take i)
 | 0,_=>by grind[layTo]
 | i+1,hi=>by
  have ih:=layTo_few hb i (by omega);have hl:i<bs.length:=by omega
  have h1:=A8D (hb _ (lac hl)) (bs[i].Lb.length+1) 0 (openS bs i bs[i] (layTo bs i));have h2:(openS bs i bs[i] (layTo bs i)).Lh.length<=(layTo bs i).Lh.length+1:=by
   grind[openS,gapS,firstS,turnS,flushS]
  grind[costP,lad,layTo]
theorem A5N{bs:List Bl}(hb:∀ b∈bs,AgG b):36*(layL bs).Lh.length<=costP bs+36:=by
 grind[layTo_few,layL,flushS]
theorem A5O{p:Pa}(hp:DrawnP p)(hj:joins p=false):AgG (newB p)/\72+(newB p).Lb.length<=36*pwP p.kind:=by
 have hok:=hp.ok;simp only[paraOk,lag,laj]at hok;simp only[joins,Bool.or_eq_false_iff,lax]at hj;unfold newB
 by_cases k1:p.kind=1
 .have hw:=AgF (W:=60) (by omega) p.text
  simp only[k1,lbf,if_true,pwP];exact⟨.inl rfl,by grind⟩
 .by_cases k5:p.kind=5
  .simp only [k5,show((5:Int)==1)=false from rfl,lbf,lan,if_false,if_true,pwP]
   exact⟨.inr (.inr (by simp)),by simp⟩
  .have k2:p.kind=2:=by omega
   simp only[k2,show((2:Int)==1)=false from rfl,show((2:Int)==5)=false from rfl,lan,if_false,pwP];exact⟨.inr (.inr (by simp)),by simp⟩
def CurB(e:Int)(b:Bl):Prop:=(e=2\/e=3\/e=4->b.kind=3/\b.kinds.length=b.Lb.length/\∃ m,b.kinds.foldl scK (some 0)=some m/\(e=2->m<=1)/\(e=4->m=0))/\AgG b
theorem BsU{p:Pa}(hp:DrawnP p)(hj:joins p=false):CurB p.kind (newB p):=by
 refine⟨fun h=>?_,(A5O hp hj).1⟩;simp only[joins,Bool.or_eq_false_iff,lax]at hj;have k2:p.kind=2:=by omega
 simp only[newB,k2,show((2:Int)==1)=false from rfl,show((2:Int)==5)=false from rfl,lan,if_false];exact⟨trivial,rfl,1,rfl,fun _=>lab _,fun h=>absurd h (by omega)⟩
theorem BlZ{p:Pa}(hp:DrawnP p)(hj:joins p=true){e:Int}{b:Bl}(h:CurB e b)(hf:followsL p.kind e=true):CurB p.kind (moreB b p)/\(moreB b p).Lb.length<=b.Lb.length+36*pwP p.kind:=by
 have hok:=hp.ok;simp only[paraOk,lag,laj]at hok;simp only[joins,lbi,beq_iff_eq]at hj;unfold moreB addB
 rcases hj with k3|k4
 .simp only [k3,followsL,lbf,if_true,lbi,beq_iff_eq]at hf
  obtain⟨b1,b2,m,b3,b4,b5⟩:=h.1 (by omega);have hw:=AgF (W:=30) (by omega) (asideT p.text);have ht:(asideT p.text).length=p.text.length+2:=by simp[asideT]
  have hl4:p.text.length<=200:=by
   grind
  have hm:m<=1:=by omega
  simp only[k3,lbf,if_true,pwP];have hfold:=A5L (wrapL 30 (asideT p.text)).length m (by omega);have hfull:(b.kinds++List.replicate (wrapL 30 (asideT p.text)).length (1:Int)).foldl scK (some 0)=some (m+(wrapL 30 (asideT p.text)).length):=by grind
  refine⟨⟨fun _=>⟨b1,by simp[b2],_,hfull,by omega,by omega⟩,.inr (.inl ⟨b1,by simp[b2],_,hfull⟩)⟩,?_⟩<;>grind
 .have hf':e=2\/e=3\/e=4:=by
   grind[followsL]
  obtain⟨b1,b2,m,b3,b4,b5⟩:=h.1 hf';have hw:=AgF (W:=35) (by omega) p.text;have hs:=AfG (W:=35) (by omega) hp.text.ne hp.text.hd;simp only[k4,show((4:Int)==3)=false from rfl,lan,if_false,pwP];have hfull:(b.kinds++List.replicate (wrapL 35 p.text).length (2:Int)).foldl scK (some 0)=some 0:=by grind[BlX]
  refine⟨⟨fun _=>⟨b1,by simp[b2],_,hfull,by omega,fun _=>rfl⟩,.inr (.inl ⟨b1,by simp[b2],_,hfull⟩)⟩,?_⟩<;>grind
theorem AoO:∀ (ps:List Pa)(s:List Bl×Bl)(e e':Int),(∀ p∈ps,DrawnP p)->runL e ps=some e'->CurB e s.2->(∀ b∈s.1,AgG b) ->
  (∀ b∈(ps.foldl bstep s).1++[(ps.foldl bstep s).2],AgG b)/\costP ((ps.foldl bstep s).1++[(ps.foldl bstep s).2])<=costP (s.1++[s.2])+36*wtL ps
 | [],s,e,e',_,_,h,hs=>by
  refine⟨fun b hb=>?_,by grind⟩
  rcases List.mem_append.1 hb with hb|hb
  .grind
  .rw [List.mem_singleton.1 hb]; exact h.2
 | p::r,s,e,e',hd,hr,h,hs=>by
  have hp:=hd p (by simp);simp only[runL]at hr
  split at hr
  .rename_i hc
   simp at hc
   have hw:wtL (p::r)=pwP p.kind+wtL r:=by simp[wtL]
   cases hj:joins p with
   | true =>
    obtain⟨c1,c2⟩:=BlZ hp hj h hc.2;have e1:bstep s p=(s.1,moreB s.2 p):=by grind[bstep]
    obtain⟨a1,a2⟩:=AoO r (bstep s p) p.kind e' (fun q hq=>hd q (by simp[hq])) hr (by rw[e1]; exact c1) (by rw[e1]; exact hs);refine⟨by exact a1,?_⟩;refine Nat.le_trans a2 ?_;rw[e1];simp only[costP,laf,lak,lao,List.sum_append,List.sum_cons,List.sum_nil,Nat.mul_add];omega
   | false =>
    have c1:=BsU hp hj;have c2:=(A5O hp hj).2;have e1:bstep s p=(s.1++[s.2],newB p):=by grind[bstep]
    obtain⟨a1,a2⟩:=AoO r (bstep s p) p.kind e' (fun q hq=>hd q (by grind)) hr (by grind) (by
     rw[e1]; intro b hb
     rcases List.mem_append.1 hb with hb|hb
     .grind
     .rw [List.mem_singleton.1 hb]; exact h.2)
    grind[costP]
  grind
theorem A1V:([0,1,2,3].all fun p=>decide ((AlM p).length<=9))=true:=by decide
theorem A8E:([0,1,2,3,4,5].all fun p=>decide ((AxF p).length<=5))=true:=by decide
theorem BeJ:(SetL.all fun t=>decide (t.length<=12))=true:=by decide +kernel
theorem BmA{x:Sc}(h:SceneD x):(wrapL 60 (headL x)).length<=36:=by
 have h1:=AgE h.no;have h2:=List.all_eq_true.1 BeJ x.set h.set;have h3:(AlM x.place).length<=9:=by
  have hp:=h.place
  grind[A1V]
 have h4:(AxF x.time).length<=5:=by
  have hp:=h.time
  grind[A8E]
 have h5:(headLine x).length<=40:=by grind[headLine]
 have h6:(headL x).length<=1041:=by
  grind[headL]
 have:=AgF (W:=60) (by omega) (headL x);omega
theorem AxS{x:Sc}(h:SceneD x):(∀ b∈blocksL x,AgG b)/\costP (blocksL x)<=108+36*wtL x.Ld:=by
 obtain⟨e,hr,_,_⟩:=h.run;have hh:=BmA h;have hg:AgG ⟨0,wrapL 60 (headL x),[],[]⟩:=.inr (.inr (by grind));obtain⟨a1,a2⟩:=AoO x.Ld ([],⟨0,wrapL 60 (headL x),[],[]⟩) 0 e h.all hr ⟨by omega,hg⟩ (by simp);refine⟨a1,Nat.le_trans a2 ?_⟩<;>grind[costP]
theorem costP_append(a b:List Bl):costP (a++b)=costP a+costP b:=by simp[costP]
theorem AoP(xs:List Sc)(hx:∀ x∈xs,SceneD x)(h5:xs.length<=5):∀ nos:List LU,nos.length<=5->(∀ n∈nos,∃ x,atNo xs n=some x)->(layL (entsB xs nos)).Lh.length<=999:=by
 intro nos hn ha;have key:∀ l:List LU,(∀ n∈l,∃ x,atNo xs n=some x)->(∀ b∈entsB xs l,AgG b)/\costP (entsB xs l)<=(108+36*143)*l.length:=by
  intro l
  induction l with
  | nil=>grind[entsB,costP]
  | cons n r ih =>
   intro h;obtain⟨x,hx'⟩:=h n (by simp);have hd:=hx x (AeP hx').1;obtain⟨s1,s2⟩:=AxS hd;have hw:=hd.wt
   grind[entsB,entB,costP_append]
 obtain⟨k1,k2⟩:=key nos ha;have:=A5N k1;omega
def lvsTo(pg:List (List Ln))(fi:List LU)(i:Nat):List Le':=(List.range i).map fun(k:Nat)=>⟨Lib.itoa ((k:Int)+1),1,fi.getD k [],pg.getD k []⟩
theorem A8F(pg:List (List Ln))(fi:List LU)(i:Nat):lvsTo pg fi (i+1)=lvsTo pg fi i++[⟨Lib.itoa ((i:Int)+1),1,fi.getD i [],pg.getD i []⟩]:=by
 grind[lvsTo,List.range_succ]
theorem AfH(pg:List (List Ln))(fi:List LU)(i:Nat):(lvsTo pg fi i).length=i:=by simp[lvsTo]
def lockL(xs:List Sc):List Le':=lvsTo (layL (entsB xs (nosL xs))).Lh (firstsI xs (nosL xs)) (layL (entsB xs (nosL xs))).Lh.length
theorem AdS(l:List Le'):(flat (l.map leA)).all Av.frozen=true:=by
 induction l<;>grind[flat,cellsOf,leA,Av.frozen]
theorem AcK(n:Nat)(l:List Le'):lowB n (.arr 4 (l.map leA))=true:=AaH (AdS l)
theorem AoQ{xs:List Sc}{n:LU}(h:n∈nosL xs):∃ x,atNo xs n=some x:=by
 obtain⟨y,hy,rfl⟩:=List.mem_map.1 h;unfold atNo
 cases hq:xs.find? (fun x=>x.no==y.no)<;>grind
structure StoryD(xs:List Sc):Prop where
 sc:∀ x∈xs,SceneD x
 num:∀ x∈xs,numberL x.no=true
 rise:(nosL xs).Pairwise nLt
 few:xs.length<=5
theorem StoryD.ent{xs:List Sc}(h:StoryD xs)(no:Int)(ti:LU)(lv:List Le'):EntOf ⟨no,ti,xs,[],lv⟩ (nosL xs):=by
 refine⟨by simp,h.rise,fun n hn=>?_⟩;obtain⟨y,hy,rfl⟩:=List.mem_map.1 hn;exact h.num y hy
theorem StoryD.md{xs:List Sc}(h:StoryD xs):MdOk xs (nosL xs):=by
 have:=h.few;refine⟨h.sc,h.rise.imp fun hlt e=>by grind[nLt_irrefl],by omega,by grind[nosL],fun n hn=>?_⟩;obtain⟨y,hy,rfl⟩:=List.mem_map.1 hn;exact h.num y hy
end Go.Proofs.YtmhjbljckkgeoaaGreatDoor
namespace Go.Av
open RowKit
variable [Tr]
theorem CtH.liftN{P:Program}{g:Std}{f:FuncId}{args:LY}{post:AV->LB->Prop}(hc:CtH P g f args [] post)(ha:args.all nr1=true)(hmp:∀ r s',post r s'->s'.all mpOk=true)
  (s:LB):CtH P g f args s (fun r2 s2=>∃ r s',post r s'/\r2=shV s.length r/\s2=s++s'.map (shB s.length)):=by
 refine⟨hc.1,fun h ρ w vs hg m r=>?_⟩;have hm0:Mine h (fun _=>none) [] w:=⟨m.mem,fun id blk e=>by grind,fun _ _=>rfl,fun i j g t t' e=>by grind,fun i g t e=>by grind⟩;refine(hc.2 h (fun _=>none) w vs (fun k o e=>⟨(hg k o e).1,fun i t x=>by cases x⟩) hm0 ((AiQ (Lf':=Lf0) r ha).thaw (fun _ _ _ x=>x))).mono ?_;rintro en w' ⟨v,r,s1,h',ρ1,rfl,hpost,m',lt,rv⟩;have hgood:∀ i g t,ρ1 i=some (g,t)->w.heap.size<=g:=fun i g t e=>by
  rcases lt.newown i g t e with⟨j,t',hj⟩|h<;>grind
 have hblk:=fun k hk=>lt.block k hk (fun i t e=>by cases e)
 have hnew:∀ b o,h b o=none->h' b o≠none->w.heap.size<=b:=fun b o e n=>by
  rcases lt.hnew b o e n with⟨j,t',hj⟩|h<;>grind
 obtain⟨ρ2,hρ2⟩:∃ ρ2:Own,ρ2=fun k=>if k<s.length then ρ k else ρ1 (k-s.length):=⟨_,rfl⟩
 have hlo:∀ i,i<s.length->ρ2 i=ρ i:=fun i hi=>by grind
 have hhi:∀ i,ρ2 (i+s.length)=ρ1 i:=fun i=>by
  grind
 have hkeep:∀ v a,Lf ρ s v a->Lf ρ2 (s++s1.map (shB s.length)) v a:=fun v a x=>BoU hlo x
 have hst:∀ id,(s++s1.map (shB s.length))[id+s.length]? = (s1[id]?).map (shB s.length):=fun id=>by
  grind
 have hown:∀ i g t,ρ2 i=some (g,t)->(i<s.length/\ρ i=some (g,t)/\g<w.heap.size)\/(s.length<=i/\ρ1 (i-s.length)=some (g,t)/\w.heap.size<=g):=fun i g t e=>by
  by_cases hi:i<s.length
  .rw [hlo i hi]at e
   exact .inl ⟨hi,e,m.lt e⟩
  grind
 refine⟨v,_,_,h',ρ2,rfl,⟨r,s1,hpost,rfl,rfl⟩,⟨m'.mem,?_,?_,?_,?_⟩,⟨lt.hle,fun b o e n=>.inr (hnew b o e n),hkeep,lt.os,lt.tape,lt.output,lt.size,fun k hk _=>hblk k hk,?_⟩,BoT hst hhi rv⟩
 .intro i blk e
  by_cases hi:i<s.length
  .rw [lbz hi]at e
   exact(m.own i blk e).mono lt.hle hkeep (hlo i hi) (fun g t hg=>hblk g (m.lt hg))
  .obtain ⟨j,rfl⟩:∃ j,i=j+s.length:=⟨i-s.length,by omega⟩
   rw[hst]at e
   cases hb:s1[j]? with
   | none=>grind
   | some b =>
    rw[hb]at e
    simp at e
    subst e;have o:=m'.own j b hb;have hmb:=List.all_eq_true.1 (hmp _ _ hpost) b (lar hb)
    cases b with
    | arr es l =>
     rcases o with⟨h1,h2⟩|⟨g,tot,cur,t,h1,h2,h3,h4,h5,h6,h7,h8,h9⟩
     .exact .inl ⟨by grind,(hhi j).trans h2⟩
     .refine .inr ⟨g,tot,cur,t,(hhi j).trans h1,h2,h3,by grind,h5,h6,?_,h8,?_⟩
      .grind[shC_cells]
      grind[shC_flat,AnE]
    | mp es =>
     obtain⟨g,en,cl,h1,h2,h3,h4⟩:=o;refine⟨g,en,cl,(hhi j).trans h1,h2,by grind,fun k x y hx hy=>?_⟩;rw[lbw]at hx;obtain⟨x',hx',rfl⟩:=Option.map_eq_some_iff.1 hx;obtain⟨p,q⟩:=h4 k x' y hx' hy;exact⟨p.thaw (fun _ _ _ x=>x),A0Q hst hhi q⟩
    | dead=>exact(hhi j).trans o
 .intro i hi
  simp at hi
  have e2:ρ2 i=ρ1 (i-s.length):=by grind
  rw[e2];exact m'.out _ (by omega)
 .intro i j g t t' hi hj
  rcases hown i g t hi with⟨a1,a2,a3⟩|⟨a1,a2,a3⟩ <;> rcases hown j g t' hj with⟨b1,b2,b3⟩|⟨b1,b2,b3⟩
  .exact m.inj i j g t t' a2 b2
  .omega
  .omega
  .have:=m'.inj _ _ g t t' a2 b2
   omega
 .intro i g t e o
  rcases hown i g t e with⟨a1,a2,a3⟩|⟨a1,a2,a3⟩
  .cases hq:h' g o with
   | none=>rfl
   | some z =>
    have:=hnew g o (m.disj i g t a2 o) (by grind);omega
  .exact m'.disj _ g t a2 o
 grind
end Go.Av
namespace Go.Proofs.YtmhjbljckkgeoaaGreatDoor
open Av RowKit
theorem BsV(σ:List Nat)(xs:List Sc):(xs.map scA).map (renC σ)=xs.map scA:=by
 rw[lbb];exact lbe fun s _=>rfl
theorem CtH.impF{P:Program}{g:Std}{f:FuncId}{args:LY}{s:LB}{p q:AV->LB->Prop}(h:CtH P g f args s p)(hpq:∀ r s',p r s'->q r s'):CtH P g f args s q :=
 ⟨h.1,fun hh ρ w vs hg m r=>(h.2 hh ρ w vs hg m r).mono fun en w' ⟨v,r,s1,h',ρ',e,hp,rest⟩=>⟨v,r,s1,h',ρ',e,hpq _ _ hp,rest⟩⟩
theorem index_no{c:UInt8}:∀ l:LU,(∀ x∈l,x≠c)->Lib.index l [c]=-1
 | [],_=>rfl
 | b::l,h=>by
  have hb:(c==b)=false:=by simpa using fun e=>h b (by simp) e.symm
  have ih:=index_no l fun x hx=>h x (by simp[hx])
  simp[Lib.index,List.isPrefixOf,hb,ih]
theorem ArD{c:UInt8}(b:LU):∀ a:LU,(∀ x∈a,x≠c)->Lib.index (a++c::b) [c]=(a.length:Int)
 | [],_=>by grind[Lib.index]
 | x::a,h=>by
  have hb:(c==x)=false:=by simpa using fun e=>h x (by simp) e.symm
  have ih:=ArD b a fun y hy=>h y (by simp[hy])
  have hn:((a.length:Int)==-1)=false:=by
   rw[lax]; omega
  simp only[lbc,Lib.index,List.isPrefixOf,hb,ih,lce,lan,if_false,hn,lal];omega
theorem AjH(p:UInt8->Bool):∀ (l:LU)(x:UInt8),x∈l.takeWhile p->p x=true
 | [],x,h=>by simp_all
 | a::l,x,h=>by
  rw[List.takeWhile_cons]at h
  split at h
  .rcases List.mem_cons.1 h with rfl|h
   .assumption
   .exact AjH p l x h
  .simp at h
theorem AoR{a:LU}(h:numberL a=true):∀ x∈a,x≠45:=by
 intro x hx e;subst e;rw[AbD a]at hx
 rcases List.mem_append.1 hx with hx|hx
 .exact absurd (AjH digB a 45 hx) (by decide)
 .exact absurd (List.all_eq_true.1 (AaM h).2.2.2 45 hx) (by decide)
theorem A1W{a:LU}(h:numberL a=true):Lib.cut a [45]=(a,[],false):=by
 grind[Lib.cut,index_no,AoR]
theorem cut_two{a:LU}(h:numberL a=true)(b:LU):Lib.cut (a++45::b) [45]=(a,b,true):=by
 unfold Lib.cut;rw[ArD b a (AoR h),if_pos (by omega)]
 simp
theorem AtX{a:LU}(h:numberL a=true):endsL a=(a,a):=by grind[endsL,A1W]
theorem BmB{a:LU}(h:numberL a=true)(b:LU):endsL (a++45::b)=(a,b):=by grind[endsL,cut_two]
theorem leafName_one{a:LU}(h:numberL a=true):leafNameL a=true:=by grind[leafNameL,A1W]
theorem AlO{a b:LU}(h:numberL a=true)(h':numberL b=true)(hl:nLt a b):leafNameL (a++45::b)=true:=by
 grind[leafNameL,cut_two,compareN_lt]
theorem num_ne{a:LU}(h:numberL a=true):a≠[]:=fun e=>by subst e; exact absurd h (by decide)
theorem A5P{a b:LU}(ha:a=[]\/numberL a=true):∀ f n,f+n<=6->btw a b f n≠[]->numberL (btw a b f n)=true/\(a=[]\/nLt a (btw a b f n))/\(b=[]\/nLt (btw a b f n) b)
 | 0,n,_,h=>absurd rfl h
 | f+1,n,hn,h=>by
  simp only[btw]at h |-
  split
  .rename_i hf
   simp only[fitsB,lag,bne_iff_ne,ne_eq,lbi,beq_iff_eq,laj]at hf;obtain⟨h1,h2⟩:=A7J ha (by omega) hf.1;exact⟨h1,h2,hf.2.imp id compareN_lt.1⟩
  .rename_i hf
   rw[if_neg hf]at h;exact A5P ha f (n+1) (by omega) h
theorem AdI{a b:LU}(ha:a=[]\/numberL a=true)(h:AaQ a b≠[]):numberL (AaQ a b)=true/\(a=[]\/nLt a (AaQ a b))/\(b=[]\/nLt (AaQ a b) b):=A5P ha 6 0 (by omega) h
def lastN(out:List LU)(last:LU):LU:=if out=[] then last else(endsL (out.getD (out.length-1) [])).2
def AgH(upper last:LU):Nat->List LU->Option (List LU)
 | 0,out=>some out
 | n+1,out=>if AaQ (lastN out last) upper=[] then none else AgH upper last n (out++[AaQ (lastN out last) upper])
def joinN(had:List LU)(many:Nat):LU:=(endsL (had.getD (many-1) [])).1++45::(endsL (had.getD (had.length-1) [])).2
def AoS(had:List LU)(many:Nat)(last upper:LU):Option (List LU) :=
 if many<had.length then some ((had.take many).set (many-1) (joinN had many))
 else AgH upper last (many-had.length) had
theorem nr1_caps{caps:LY}(hc:caps.all frozen0=true):caps.all nr1=true:=by
 rw[List.all_eq_true]at hc |-;intro x hx;have:=hc x hx
 cases x <;> first|exact AqF this|grind[frozen0]
theorem nr1_cons{a:AV}{caps:LY}(ha:nr1 a=true)(hc:caps.all frozen0=true):(a::caps).all nr1=true:=by
 grind[nr1_caps]
def aboveP(last:LU)(no:LU):Bool:=last==[]||decide (compareN no last>0)
def sc0:Sc:=⟨[],0,[],0,[]⟩
def upF(E:List LU)(last:LU):LU:=match E.find? (aboveP last)with
 | some e=>e
 | none=>[]
def lastY(ys:List Sc):LU:=if ys=[] then[] else(ys.getD (ys.length-1) sc0).no
def AqC(E:List LU)(last:LU)(x:Sc):LU:=if x.no=[] then AaQ last (upF E last) else x.no
def ysTo(E:List LU)(xs:List Sc):Nat->List Sc
 | 0=>[]
 | i+1=>ysTo E xs i++[{ xs.getD i sc0 with no:=AqC E (lastY (ysTo E xs i)) (xs.getD i sc0) }]
theorem AhF(E:List LU)(xs:List Sc):∀ i,(ysTo E xs i).length=i
 | 0=>rfl
 | i+1=>by simp[ysTo,AhF E xs i]
def AcG(xs:List Sc):Nat->LU
 | 0=>[]
 | i+1=>if(xs.getD i sc0).no=[] then AcG xs i else(xs.getD i sc0).no
def RunS(xs:List Sc)(E:List LU)(i:Nat):Prop:=∀ j,j<i->(xs.getD j sc0).no≠[]->(xs.getD j sc0).no∈E/\(AcG xs j=[]\/nLt (AcG xs j) (xs.getD j sc0).no)
theorem BeK{xs:List Sc}{E:List LU}{i:Nat}(h:RunS xs E i)(h0:(xs.getD i sc0).no=[]):RunS xs E (i+1):=fun j hj hn=>by
 by_cases e:j=i
 .grind
 .exact h j (by omega) hn
theorem A5Q{xs:List Sc}{E:List LU}{i:Nat}(h:RunS xs E i)(hm:(xs.getD i sc0).no∈E)(hl:AcG xs i=[]\/nLt (AcG xs i) (xs.getD i sc0).no):RunS xs E (i+1):=fun j hj hn=>by
 by_cases e:j=i
 .grind
 .exact h j (by omega) hn
structure RenI(E:List LU)(xs:List Sc)(i:Nat):Prop where
 num:∀ y∈ysTo E xs i,numberL y.no=true
 rise:(nosL (ysTo E xs i)).Pairwise nLt
 gap:∀ e∈E,(AcG xs i=[]\/nLt (AcG xs i) e)->lastY (ysTo E xs i)=[]\/nLt (lastY (ysTo E xs i)) e
theorem AkS(ys:List Sc)(y:Sc):lastY (ys++[y])=y.no:=by
 simp_all[lastY]
theorem AxT{ys:List Sc}(h:∀ y∈ys,numberL y.no=true):lastY ys=[]\/numberL (lastY ys)=true:=by
 grind[lastY,List.length_pos_iff]
theorem lastY_top{ys:List Sc}(h:(nosL ys).Pairwise nLt){y:Sc}(hy:y∈ys):y.no=lastY ys\/nLt y.no (lastY ys):=by
 grind[List.mem_iff_getElem,lastY,lbj,nosL]
theorem BeL{ys:List Sc}(h:(nosL ys).Pairwise nLt){y:Sc}(hy:lastY ys=[]\/nLt (lastY ys) y.no)(hn:∀ z∈ys,numberL z.no=true):(nosL (ys++[y])).Pairwise nLt:=by
 simp only[nosL,laf,lak,lao];refine List.pairwise_append.2 ⟨h,by simp,fun a ha b hb=>?_⟩<;>grind[lastY_top,num_ne,lastY,nLt_trans]
theorem above_iff{last e:LU}:aboveP last e=true ↔ last=[]\/nLt last e:=by
 grind[aboveP,AnJ]
theorem BwP{E:List LU}(hE:E.Pairwise nLt){last e:LU}(he:e∈E)(h:last=[]\/nLt last e):upF E last∈E/\(upF E last=e\/nLt (upF E last) e):=by
 unfold upF
 grind[above_iff,List.find?_eq_some_iff_getElem,List.mem_iff_getElem,lbj]
theorem BsW{E:List LU}(hE:∀ e∈E,numberL e=true)(last:LU):upF E last=[]\/numberL (upF E last)=true:=by
 grind[upF]
theorem AxU{xs:List Sc}{E:List LU}(hE:∀ e∈E,numberL e=true):∀ {i:Nat},RunS xs E i->AcG xs i=[]\/numberL (AcG xs i)=true
 | 0,_=>.inl rfl
 | i+1,h=>by
  unfold AcG
  split
  .exact AxU hE fun j hj hn=>h j (by omega) hn
  .rename_i hn
   exact .inr (hE _ (h i (by omega) hn).1)
theorem ren_start{E:List LU}{xs:List Sc}:RenI E xs 0:=⟨by simp[ysTo],by simp[ysTo,nosL],fun e _ _=>.inl (by grind[ysTo,lastY])⟩
theorem BmC{E:List LU}{xs:List Sc}{i:Nat}(hE:E.Pairwise nLt)(hn:∀ e∈E,numberL e=true)(hr:RunS xs E (i+1))(h:RenI E xs i)(hne:AqC E (lastY (ysTo E xs i)) (xs.getD i sc0)≠[]):RenI E xs (i+1):=by
 have hln:=AxT h.num;have key:numberL (AqC E (lastY (ysTo E xs i)) (xs.getD i sc0))=true/\(lastY (ysTo E xs i)=[]\/nLt (lastY (ysTo E xs i)) (AqC E (lastY (ysTo E xs i)) (xs.getD i sc0))) /\
   (∀ e∈E,(AcG xs (i+1)=[]\/nLt (AcG xs (i+1)) e)->nLt (AqC E (lastY (ysTo E xs i)) (xs.getD i sc0)) e):=by
  unfold AqC at hne |-
  by_cases h0:(xs.getD i sc0).no=[]
  .rw [if_pos h0]at hne |-
   obtain⟨b1,b2,b3⟩:=AdI hln hne;refine⟨b1,b2,fun e he hs=>?_⟩;have e1:AcG xs (i+1)=AcG xs i:=by grind[AcG]
   rw[e1]at hs;obtain⟨u1,u2⟩:=BwP hE he (h.gap e he hs)
   grind[num_ne,nLt_trans]
  .rw [if_neg h0]
   obtain⟨r1,r2⟩:=hr i (by omega) h0;have e1:AcG xs (i+1)=(xs.getD i sc0).no:=by grind[AcG]
   refine⟨hn _ r1,h.gap _ r1 r2,fun e he hs=>?_⟩<;>grind
 obtain⟨k1,k2,k3⟩:=key;refine⟨fun y hy=>?_,?_,fun e he hs=>?_⟩
 .simp only [ysTo,lbq,List.mem_singleton]at hy
  rcases hy with hy|rfl
  .exact h.num y hy
  omega
 .exact BeL h.rise k2 h.num
 grind[ysTo,AkS]
def Lm(E:List LU)(ys:List Sc):List LU:=E.filter fun e=>decide (e ∉ nosL ys)
theorem A8G(E:List LU)(ys:List Sc)(i:Nat)(h:i<E.length):Lm (E.take (i+1)) ys=if E[i]∈nosL ys then Lm (E.take i) ys else Lm (E.take i) ys++[E[i]]:=by
 grind[lad,Lm]
theorem BeM(E:List LU)(ys:List Sc):(Lm E ys).length<=E.length:=List.length_filter_le _ _
def drZ:AV:=.agg [.int .i64 0,.str [],.raw (.slice none 0 0),.raw (.slice none 0 0),.raw (.slice none 0 0)]
theorem BeN(Y:List Sc)(x:Sc)(r:List Sc):List.getD ((Y++x::r).map scA) Y.length .any=.agg [.str x.no,.int .i64 x.place,.str x.set,.int .i64 x.time,.fz 2 (x.Ld.map paA)]:=by grind[scA]
theorem BsX(Y:List Sc)(x:Sc)(r:List Sc)(no':LU):((Y++x::r).map scA).set Y.length (.agg [.str no',.int .i64 x.place,.str x.set,.int .i64 x.time,.fz 2 (x.Ld.map paA)])=((Y++[{ x with no:=no' }])++r).map scA:=by simp[scA]
theorem BmD(Y:List Sc)(x:Sc)(r:List Sc):List.getD ((Y++[x]++r).map scA) Y.length .any=.agg [.str x.no,.int .i64 x.place,.str x.set,.int .i64 x.time,.fz 2 (x.Ld.map paA)]:=by
 grind[BeN]
theorem BsY(n:Nat)(l:List Sc):lowB n (.arr 5 (l.map scA))=true:=AaH (AaG l)
