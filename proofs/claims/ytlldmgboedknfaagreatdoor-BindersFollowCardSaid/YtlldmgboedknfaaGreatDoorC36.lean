/- How many pages there are at most: plain law. -/
import Derived.Test.YtlldmgboedknfaaGreatDoorC35
set_option maxRecDepth 100000
set_option maxHeartbeats 2000000
set_option linter.unusedSimpArgs false
set_option linter.unusedVariables false
namespace Go.Proofs.YtlldmgboedknfaaGreatDoor
open Go Go.Av Go.RowKit _root_.Go.Proofs.Tryz
def lenS(l:List (List UInt8)):Nat:=(l.map List.length).sum
theorem lenS_append(a b:List (List UInt8)):lenS (a++b)=lenS a+lenS b:=by simp[lenS]
theorem lenS_one(a:List UInt8):lenS [a]=a.length:=by simp[lenS]
theorem A5M{W:Nat}(hW:0<W):∀ (n:Nat)(w:List UInt8),w.length<=n->lenS (chop W w).1+(chop W w).2.length=w.length/\lenS (chop W w).1=W*(chop W w).1.length/\(w≠[]->(chop W w).2≠[])/\(chop W w).2.length<=W
 | 0,w,h=>by rw[AdO (by omega)]; simp[lenS]; omega
 | n+1,w,h=>by
  by_cases hc:W<w.length
  .obtain ⟨h1,h2,h3,h4⟩:=A5M hW n (w.drop W) (by simp; omega)
   rw[AeC hc hW];have ht:(w.take W).length=W:=by simp; omega
   have hd:(w.drop W).length=w.length-W:=by simp
   refine⟨?_,?_,fun _=>h3 fun e=>?_,h4⟩
   .simp only [lenS,List.map_cons,List.sum_cons,ht]at h1 |-; omega
   .simp only [lenS,List.map_cons,List.sum_cons,ht,List.length_cons]at h2 |-; rw[Nat.mul_add]; omega
   .have:=congrArg List.length e
    simp at this; omega
  .rw [AdO hc]; simp[lenS]; omega
def WI(W:Nat)(st:List (List UInt8)×List UInt8):Prop:=W*st.1.length<=2*lenS st.1+st.2.length/\(st.2=[]->st.1=[])
def byS(st:List (List UInt8)×List UInt8):Nat:=lenS st.1+st.2.length
theorem BeM{W:Nat}(hW:0<W){st:List (List UInt8)×List UInt8}(h:WI W st)(w:List UInt8):WI W (wrapS W st w)/\byS (wrapS W st w)<=byS st+w.length+1/\(w≠[]\/st.2≠[]->(wrapS W st w).2≠[]):=by
 obtain⟨dn,cur⟩:=st;obtain⟨h1,h2⟩:=h;simp only at h1 h2;unfold wrapS
 by_cases hw:w=[]
 .subst hw
  simp only[beq_self_eq_true,if_true];exact⟨⟨h1,h2⟩,by omega,by simp⟩
 .have hwb:(w==[])=false:=by simpa using hw
  simp only[hwb,Bool.false_eq_true,if_false];have hwl:1<=w.length:=by cases w with|nil=>simp at hw|cons=>simp
  split
  .refine ⟨⟨?_,by simp⟩,?_,by simp⟩
   .simp only [List.length_append,List.length_cons]; omega
   .simp only [byS,List.length_append,List.length_cons]; omega
  .rename_i hn
   obtain⟨c1,c2,c3,c4⟩:=A5M hW w.length w (Nat.le_refl _);generalize (chop W w).1=ch at c1 c2 |-;generalize (chop W w).2=re at c1 c3 c4 |-;have hre:1<=re.length:=by
    have:=c3 hw
    cases re with|nil=>simp at this|cons=>simp
   by_cases hc:cur=[]
   .subst hc
    have hd:dn=[]:=h2 rfl;subst hd;simp only[bne_self_eq_false,Bool.false_eq_true,if_false,List.nil_append,byS,lenS,WI]at *;exact⟨⟨by omega,fun e=>absurd e (c3 hw)⟩,by simp; omega,fun _=>c3 hw⟩
   .have hcb:(cur != [])=true:=by simpa using hc
    have hfit:¬ cur.length+1+w.length<=W:=by simpa[hcb]using hn
    simp only[hcb,if_true];refine⟨⟨?_,fun e=>absurd e (c3 hw)⟩,?_,fun _=>c3 hw⟩
    .simp only [List.length_append,List.length_cons,List.length_nil,lenS_append,lenS_one,Nat.mul_add,Nat.zero_add,Nat.mul_one]
     have hk:ch=[]\/W<=W*ch.length:=by
      cases ch with
      | nil=>exact .inl rfl
      | cons a r=>exact .inr (by simp only[List.length_cons,Nat.mul_add]; omega)
     rcases hk with rfl|hk
     .simp [lenS]at c1 c2 |-; simp[lenS]at h1; omega
     .omega
    .simp only [byS,lenS_append,lenS_one]; omega
theorem ApM{W:Nat}(hW:0<W):∀ (ws:List (List UInt8))(st:List (List UInt8)×List UInt8),WI W st->WI W (ws.foldl (wrapS W) st)/\byS (ws.foldl (wrapS W) st)<=byS st+((ws.map List.length).sum+ws.length)/\((∃ w∈ws,w≠[])\/st.2≠[]->(ws.foldl (wrapS W) st).2≠[])
 | [],st,h=>⟨h,by simp,by simp⟩
 | w::r,st,h=>by
  obtain⟨a1,a2,a3⟩:=BeM hW h w;obtain⟨b1,b2,b3⟩:=ApM hW r _ a1;refine⟨b1,?_,fun hx=>b3 ?_⟩
  .simp only [List.foldl_cons,List.map_cons,List.sum_cons,List.length_cons]; omega
  .rcases hx with⟨x,hx,hne⟩|hx
   .rcases List.mem_cons.1 hx with rfl|hx
    .exact .inr (a3 (.inl hne))
    .exact .inl ⟨x,hx,hne⟩
   .exact .inr (a3 (.inr hx))
theorem AgP{W:Nat}(hW:0<W)(t:List UInt8):W*(AbH W t).length<=2*(t.length+1)+W:=by
 obtain⟨a1,a2,a3⟩:=ApM hW (splitW t) ([],[]) ⟨by simp,by simp⟩;have hs:=AkV t;have e:byS (([],[]):List (List UInt8)×List UInt8)=0:=by simp[byS,lenS]
 unfold AbH wrapF;generalize (splitW t).foldl (wrapS W) ([],[])=st at a1 a2 |-;obtain⟨dn,cur⟩:=st;have:=a1.1;simp only[byS]at a2 this e
 split
 .simp only [List.length_append,List.length_cons,List.length_nil,Nat.mul_add,Nat.mul_one,Nat.zero_add]; omega
 .simp only; omega
theorem AlC{W:Nat}(hW:0<W){t:List UInt8}(h0:t≠[])(h1:t.head?≠some 32):1<=(AbH W t).length:=by
 have hex:∃ w∈splitW t,w≠[]:=by
  cases t with
  | nil=>simp at h0
  | cons c r =>
   have hc:(c==32)=false:=by simpa using h1
   simp only[splitW,hc,Bool.false_eq_true,if_false]
   cases splitW r with
   | nil=>exact⟨[c],by simp[AoM],by simp⟩
   | cons w ws=>exact⟨c::w,by simp[AoM],by simp⟩
 have:=(ApM hW (splitW t) ([],[]) ⟨by simp,by simp⟩).2.2 (.inl hex);unfold AbH;have hb:((wrapF W t).2 != [])=true:=by simpa[wrapF]using this
 rw[if_pos hb]
 simp
def scK:Option Nat->Int->Option Nat
 | none,_=>none
 | some n,k=>if k==2 then some 0 else if n<16 then some (n+1) else none
theorem AjP:∀ l:List Int,l.foldl scK none=none
 | []=>rfl
 | a::r=>by simp[scK,AjP r]
theorem A5N:∀ (l:List Int)(n:Nat),(∀ k∈l,(k==2)=false)->17<=n+l.length->n<=16->l.foldl scK (some n)=none
 | [],n,_,h,h'=>by simp at h; omega
 | a::r,n,hl,h,h'=>by
  have ha:=hl a (by simp);simp only[List.foldl_cons,scK,ha,Bool.false_eq_true,if_false]
  by_cases hn:n<16
  .rw [if_pos hn]
   exact A5N r (n+1) (fun k hk=>hl k (by simp[hk])) (by simp at h; omega) (by omega)
  .rw [if_neg hn]; exact AjP r
theorem BeN:∀ (l:List Int)(n m:Nat),l.foldl scK (some n)=some m->n<=16->m<=16
 | [],n,m,h,hn=>by simp at h; omega
 | a::r,n,m,h,hn=>by
  simp only[List.foldl_cons,scK]at h
  split at h
  .exact BeN r 0 m h (by omega)
  .split at h
   .exact BeN r (n+1) m h (by omega)
   .rw [AjP]at h; simp at h
theorem BkG(n m:Nat)(hn:1<=n):(List.replicate n (2:Int)).foldl scK (some m)=some 0:=by
 obtain⟨n,rfl⟩:∃ k,n=k+1:=⟨n-1,by omega⟩;clear hn
 induction n generalizing m with
 | zero=>rfl
 | succ n ih=>rw[List.replicate_succ,List.foldl_cons]; exact ih 0
theorem A5O:∀ (n m:Nat),m+n<=16->(List.replicate n (1:Int)).foldl scK (some m)=some (m+n)
 | 0,m,_=>rfl
 | n+1,m,h=>by
  rw[List.replicate_succ,List.foldl_cons];simp only[scK,show((1:Int)==2)=false from rfl,Bool.false_eq_true,if_false,if_pos (show m<16 by omega)];rw[A5O n (m+1) (by omega)]
  congr 1; omega
theorem BqE{l:List Int}{m:Nat}(h:l.foldl scK (some 0)=some m){k:Nat}(hk:17<=k)(hl:k<=l.length):∃ j,k<=j+17/\j<k/\(l.getD j 0==2)=true:=by
 have e:l=l.take (k-17)++(((l.take k).drop (k-17))++l.drop k):=by
  rw[<- List.append_assoc];have:l.take (k-17)=(l.take k).take (k-17):=by rw[List.take_take]; congr 1; omega
  rw[this,List.take_append_drop,List.take_append_drop]
 by_cases hx:∃ x∈(l.take k).drop (k-17),(x==2)=true
 .obtain ⟨x,hx,h2⟩:=hx
  obtain⟨j,hj,rfl⟩:=List.mem_iff_getElem.1 hx;simp only[List.length_drop,List.length_take]at hj;refine⟨k-17+j,by omega,by omega,?_⟩;have hlt:k-17+j<l.length:=by omega
  simp only[List.getElem_drop,List.getElem_take]at h2
  simpa[List.getD,hlt]using h2
 .rw [e,List.foldl_append]at h
  cases hq:(l.take (k-17)).foldl scK (some 0)with
  | none=>rw[hq,AjP]at h; simp at h
  | some q =>
   have hq16:=BeN _ _ _ hq (by omega);rw[hq,List.foldl_append,A5N _ q (fun x hxm=>by
    by_cases h2:(x==2)=true
    .exact absurd ⟨x,hxm,h2⟩ hx
    .simpa using h2) (by simp; omega) hq16,AjP]at h
   simp at h
def AjQ(b:Bl):Prop:=b.kind=1\/(b.kind=3/\b.kinds.length=b.lines.length/\∃ m,b.kinds.foldl scK (some 0)=some m)\/b.lines.length<=40
theorem A5P{b:Bl}{fr j0:Nat}(h:breaksL b fr j0=true)(hf:fr<j0):∀ c,j0<=c->∃ j,AgL b fr c=some j/\j0<=j
 | 0,hc=>by omega
 | c+1,hc=>by
  simp only[AgL];rw[if_pos (show fr<c+1 by omega)]
  split
  .exact ⟨c+1,rfl,hc⟩
  .rename_i hn
   have:j0<=c:=by
    by_cases e:j0=c+1
    .subst e; exact absurd h hn
    .omega
   exact A5P h hf c this
theorem A5Q{b:Bl}{fr:Nat}:∀ c j,AgL b fr c=some j->fr<j
 | 0,j,h=>by simp[AgL]at h
 | c+1,j,h=>by
  simp only[AgL]at h
  split at h
  .split at h
   .simp at h; omega
   .exact A5Q c j h
  .simp at h
theorem A2J{b:Bl}{fr room:Nat}(hne:stopL b fr room≠b.lines.length):fr<stopL b fr room/\room<b.lines.length-fr:=by
 unfold stopL at hne |-
 split at hne
 .exact absurd rfl hne
 .rename_i h
  rw[if_neg h];refine⟨?_,by omega⟩
  split
  .rename_i j hj; exact A5Q _ _ hj
  .omega
theorem BkH{b:Bl}(hb:AjQ b){fr room:Nat}(hr:53<=room)(hne:stopL b fr room≠b.lines.length):fr+36<=stopL b fr room:=by
 have h2:=(A2J hne).2;unfold stopL;rw[if_neg (by omega)];have key:∃ j0,breaksL b fr j0=true/\fr+36<=j0/\j0<=min (fr+room-grp b) (b.lines.length-1):=by
  rcases hb with hk|⟨hk,hl,m,hm⟩|hl
  .refine ⟨fr+room-1,?_,by omega,?_⟩
   .simp only [breaksL,hk,beq_self_eq_true,if_true,Bool.and_eq_true,decide_eq_true_eq]; omega
   .simp only [grp,hk]; simp; omega
  .obtain ⟨j,h3,h4,h5⟩:=BqE hm (k:=fr+room-1) (by omega) (by omega)
   refine⟨j+1,?_,by omega,?_⟩
   .simp only [breaksL,hk,show((3:Int)==1)=false from rfl,beq_self_eq_true,Bool.false_eq_true,if_false,if_true,Nat.add_sub_cancel,h5,Bool.true_and,Bool.and_eq_true,decide_eq_true_eq]
    split <;> omega
   .simp only [grp,hk,beq_self_eq_true,if_true]; omega
  .omega
 obtain⟨j0,k1,k2,k3⟩:=key;obtain⟨j,k4,k5⟩:=A5P k1 (by omega) _ k3;rw[k4];simp only; omega
theorem AfU(b:Bl)(s:LS):(breakS b s).pages.length=s.pages.length+1/\(breakS b s).page.length<=1:=by
 unfold breakS;simp only[addS,flushS]
 constructor
 .simp
 .split <;> simp
theorem ApN{b:Bl}(hb:AjQ b):∀ (f fr:Nat)(s:LS),s.page.length<=1->36*(placeB b f fr s).pages.length<=36*s.pages.length+(b.lines.length-fr)
 | 0,fr,s,_=>by simp[placeB]
 | f+1,fr,s,h=>by
  unfold placeB
  split
  .simp only [addS]; omega
  .rename_i hne
   have h1:=BkH hb (by omega) hne;have h2:=A2J hne;generalize stopL b fr (54-s.page.length)=tz at h1 h2 |-;obtain⟨h3,h4⟩:=AfU b (addS s (partL' b fr tz));have:=ApN hb f tz _ h4;rw[h3]at this;simp only[addS]at this |-;omega
theorem A8J{b:Bl}(hb:AjQ b)(f fr:Nat)(s:LS):36*(placeB b f fr s).pages.length<=36*s.pages.length+36+(b.lines.length-fr):=by
 cases f with
 | zero=>simp[placeB]; omega
 | succ f =>
  unfold placeB
  split
  .simp only [addS]; omega
  .rename_i hne
   have h2:=A2J hne;generalize stopL b fr (54-s.page.length)=tz at h2 |-;obtain⟨h3,h4⟩:=AfU b (addS s (partL' b fr tz));have:=ApN hb f tz _ h4;rw[h3]at this;simp only[addS]at this |-;omega
def costP(bs:List Bl):Nat:=(bs.map fun b=>72+b.lines.length).sum
theorem AyL{bs:List Bl}(hb:∀ b∈bs,AjQ b):∀ i,i<=bs.length->36*(layTo bs i).pages.length<=costP (bs.take i)
 | 0,_=>by simp[layTo,costP]
 | i+1,hi=>by
  have ih:=AyL hb i (by omega);have hl:i<bs.length:=by omega
  have h1:=A8J (hb _ (List.getElem_mem hl)) (bs[i].lines.length+1) 0 (openS bs i bs[i] (layTo bs i));have h2:(openS bs i bs[i] (layTo bs i)).pages.length<=(layTo bs i).pages.length+1:=by
   unfold openS gapS firstS turnS
   split <;> split <;> simp[flushS]
  have h3:costP (bs.take (i+1))=costP (bs.take i)+(72+bs[i].lines.length):=by
   rw[List.take_succ_eq_append_getElem hl]; simp only[costP,List.map_append,List.sum_append,List.map_cons,List.map_nil,List.sum_cons,List.sum_nil]; omega
  simp only[layTo,List.getElem?_eq_getElem hl];omega
theorem A5R{bs:List Bl}(hb:∀ b∈bs,AjQ b):36*(layL bs).pages.length<=costP bs+36:=by
 have h:=AyL hb bs.length (Nat.le_refl _);rw[List.take_length]at h;unfold layL
 split
 .simp [flushS]; omega
 .omega
theorem A5S{p:Pa}(hp:DrawnP p)(hj:joins p=false):AjQ (newB p)/\72+(newB p).lines.length<=36*pwP p.kind:=by
 have hk:=hp.kind;have hok:=hp.ok;simp only[paraOk,Bool.and_eq_true,decide_eq_true_eq]at hok;have hl:=hok.2.2.2.2.1;simp only[joins,Bool.or_eq_false_iff,beq_eq_false_iff_ne]at hj;unfold newB
 by_cases k1:p.kind=1
 .have hw:=AgP (W:=60) (by omega) p.text
  simp only[k1,beq_self_eq_true,if_true,pwP];exact⟨.inl rfl,by simp; omega⟩
 .have e1:(p.kind==1)=false:=by simpa using k1
  by_cases k5:p.kind=5
  .simp only [k5,show((5:Int)==1)=false from rfl,beq_self_eq_true,Bool.false_eq_true,if_false,if_true,pwP]
   exact⟨.inr (.inr (by simp)),by simp⟩
  .have e5:(p.kind==5)=false:=by simpa using k5
   have k2:p.kind=2:=by omega
   simp only[k2,show((2:Int)==1)=false from rfl,show((2:Int)==5)=false from rfl,Bool.false_eq_true,if_false,pwP];exact⟨.inr (.inr (by simp)),by simp⟩
def CurB(e:Int)(b:Bl):Prop:=(e=2\/e=3\/e=4->b.kind=3/\b.kinds.length=b.lines.length/\∃ m,b.kinds.foldl scK (some 0)=some m/\(e=2->m<=1)/\(e=4->m=0))/\AjQ b
theorem BqF{p:Pa}(hp:DrawnP p)(hj:joins p=false):CurB p.kind (newB p):=by
 refine⟨fun h=>?_,(A5S hp hj).1⟩;simp only[joins,Bool.or_eq_false_iff,beq_eq_false_iff_ne]at hj;have k2:p.kind=2:=by omega
 simp only[newB,k2,show((2:Int)==1)=false from rfl,show((2:Int)==5)=false from rfl,Bool.false_eq_true,if_false];exact⟨trivial,rfl,1,rfl,fun _=>Nat.le_refl _,fun h=>absurd h (by omega)⟩
theorem BkI{p:Pa}(hp:DrawnP p)(hj:joins p=true){e:Int}{b:Bl}(h:CurB e b)(hf:followsL p.kind e=true):CurB p.kind (moreB b p)/\(moreB b p).lines.length<=b.lines.length+36*pwP p.kind:=by
 have hk:=hp.kind;have hok:=hp.ok;simp only[paraOk,Bool.and_eq_true,decide_eq_true_eq]at hok;have hl:=hok.2.2.2.2.1;have hl3:=hok.2.2.2.2.2.2.1;simp only[joins,Bool.or_eq_true,beq_iff_eq]at hj;unfold moreB addB
 rcases hj with k3|k4
 .simp only [k3,followsL,beq_self_eq_true,if_true,Bool.or_eq_true,beq_iff_eq]at hf
  obtain⟨b1,b2,m,b3,b4,b5⟩:=h.1 (by omega);have hw:=AgP (W:=30) (by omega) (asideT p.text);have ht:(asideT p.text).length=p.text.length+2:=by simp[asideT]
  have hl4:p.text.length<=200:=by
   have:p.text.length<=200/\Lib.containsAny p.text [40,41]=false:=by simpa[k3]using hl3
   exact this.1
  have hm:m<=1:=by rcases hf with e|e; exact b4 e; have:=b5 e; omega
  simp only[k3,beq_self_eq_true,if_true,pwP];have hfold:=A5O (AbH 30 (asideT p.text)).length m (by omega);have hfull:(b.kinds++List.replicate (AbH 30 (asideT p.text)).length (1:Int)).foldl scK (some 0)=some (m+(AbH 30 (asideT p.text)).length):=by rw[List.foldl_append,b3,hfold]
  refine⟨⟨fun _=>⟨b1,by simp[b2],_,hfull,by omega,by omega⟩,.inr (.inl ⟨b1,by simp[b2],_,hfull⟩)⟩,?_⟩
  simp; omega
 .have hf':e=2\/e=3\/e=4:=by
   simpa[k4,followsL]using hf
  obtain⟨b1,b2,m,b3,b4,b5⟩:=h.1 hf';have hw:=AgP (W:=35) (by omega) p.text;have hs:=AlC (W:=35) (by omega) hp.text.ne hp.text.hd;simp only[k4,show((4:Int)==3)=false from rfl,Bool.false_eq_true,if_false,pwP];have hfull:(b.kinds++List.replicate (AbH 35 p.text).length (2:Int)).foldl scK (some 0)=some 0:=by rw[List.foldl_append,b3,BkG _ _ hs]
  refine⟨⟨fun _=>⟨b1,by simp[b2],_,hfull,by omega,fun _=>rfl⟩,.inr (.inl ⟨b1,by simp[b2],_,hfull⟩)⟩,?_⟩
  simp; omega
theorem ApO:∀ (ps:List Pa)(s:List Bl×Bl)(e e':Int),(∀ p∈ps,DrawnP p)->runL e ps=some e'->CurB e s.2->(∀ b∈s.1,AjQ b) ->
  (∀ b∈(ps.foldl bstep s).1++[(ps.foldl bstep s).2],AjQ b)/\costP ((ps.foldl bstep s).1++[(ps.foldl bstep s).2])<=costP (s.1++[s.2])+36*wtL ps
 | [],s,e,e',_,_,h,hs=>by
  refine⟨fun b hb=>?_,by simp[wtL]⟩
  rcases List.mem_append.1 hb with hb|hb
  .exact hs b hb
  .rw [List.mem_singleton.1 hb]; exact h.2
 | p::r,s,e,e',hd,hr,h,hs=>by
  have hp:=hd p (by simp);simp only[runL]at hr
  split at hr
  .rename_i hc
   simp only[Bool.and_eq_true]at hc;have hw:wtL (p::r)=pwP p.kind+wtL r:=by simp[wtL]
   cases hj:joins p with
   | true =>
    obtain⟨c1,c2⟩:=BkI hp hj h hc.2;have e1:bstep s p=(s.1,moreB s.2 p):=by simp[bstep,hj]
    obtain⟨a1,a2⟩:=ApO r (bstep s p) p.kind e' (fun q hq=>hd q (by simp[hq])) hr (by rw[e1]; exact c1) (by rw[e1]; exact hs);refine⟨by rw[List.foldl_cons]; exact a1,?_⟩;rw[List.foldl_cons,hw];refine Nat.le_trans a2 ?_;rw[e1];simp only[costP,List.map_append,List.map_cons,List.map_nil,List.sum_append,List.sum_cons,List.sum_nil,Nat.mul_add];omega
   | false =>
    have c1:=BqF hp hj;have c2:=(A5S hp hj).2;have e1:bstep s p=(s.1++[s.2],newB p):=by simp[bstep,hj]
    obtain⟨a1,a2⟩:=ApO r (bstep s p) p.kind e' (fun q hq=>hd q (by simp[hq])) hr (by rw[e1]; exact c1) (by
     rw[e1]; intro b hb
     rcases List.mem_append.1 hb with hb|hb
     .exact hs b hb
     .rw [List.mem_singleton.1 hb]; exact h.2)
    refine⟨by rw[List.foldl_cons]; exact a1,?_⟩;rw[List.foldl_cons,hw];refine Nat.le_trans a2 ?_;rw[e1];simp only[costP,List.map_append,List.map_cons,List.map_nil,List.sum_append,List.sum_cons,List.sum_nil,Nat.mul_add];omega
  .simp at hr
theorem A2K:([0,1,2,3].all fun p=>decide ((AlT p).length<=9))=true:=by decide
theorem A8K:([0,1,2,3,4,5].all fun p=>decide ((AxS p).length<=5))=true:=by decide
theorem BeO:(SetL.all fun t=>decide (t.length<=12))=true:=by decide +kernel
theorem BkJ{x:Sc}(h:SceneD x):(AbH 60 (headL x)).length<=36:=by
 have h1:=AlV h.no;have h2:=List.all_eq_true.1 BeO x.set h.set;have h3:(AlT x.place).length<=9:=by
  have hp:=h.place;have:=List.all_eq_true.1 A2K x.place (by simp; omega)
  simpa using this
 have h4:(AxS x.time).length<=5:=by
  have hp:=h.time;have:=List.all_eq_true.1 A8K x.time (by simp; omega)
  simpa using this
 simp only[decide_eq_true_eq]at h2;have h5:(headLine x).length<=40:=by simp[headLine]; omega
 have h6:(headL x).length<=1041:=by
  unfold headL
  split
  .simp; omega
  .omega
 have:=AgP (W:=60) (by omega) (headL x);omega
theorem AyM{x:Sc}(h:SceneD x):(∀ b∈blocksL x,AjQ b)/\costP (blocksL x)<=108+36*wtL x.paras:=by
 obtain⟨e,hr,_,_⟩:=h.run;have hh:=BkJ h;have hg:AjQ ⟨0,AbH 60 (headL x),[],[]⟩:=.inr (.inr (by simp only; omega));obtain⟨a1,a2⟩:=ApO x.paras ([],⟨0,AbH 60 (headL x),[],[]⟩) 0 e h.all hr ⟨by omega,hg⟩ (by simp);refine⟨a1,Nat.le_trans a2 ?_⟩
 simp[costP]; omega
theorem costP_append(a b:List Bl):costP (a++b)=costP a+costP b:=by simp[costP]
theorem AyN(xs:List Sc)(hx:∀ x∈xs,SceneD x)(h5:xs.length<=5):∀ nos:List (List UInt8),nos.length<=5->(∀ n∈nos,∃ x,atNo xs n=some x)->(layL (entsB xs nos)).pages.length<=999:=by
 intro nos hn ha;have key:∀ l:List (List UInt8),(∀ n∈l,∃ x,atNo xs n=some x)->(∀ b∈entsB xs l,AjQ b)/\costP (entsB xs l)<=(108+36*143)*l.length:=by
  intro l
  induction l with
  | nil=>intro _; exact⟨by simp[entsB],by simp[entsB,costP]⟩
  | cons n r ih =>
   intro h;obtain⟨i1,i2⟩:=ih fun m hm=>h m (by simp[hm])
   obtain⟨x,hx'⟩:=h n (by simp);have hd:=hx x (AhM hx').1;obtain⟨s1,s2⟩:=AyM hd;have hw:=hd.wt;have e:entsB xs (n::r)=blocksL x++entsB xs r:=by simp[entsB,entB,hx']
   rw[e];refine⟨fun b hb=>?_,?_⟩
   .rcases List.mem_append.1 hb with hb|hb
    .exact s1 b hb
    .exact i1 b hb
   .rw [costP_append,List.length_cons,Nat.mul_add]
    have:36*wtL x.paras<=36*143:=Nat.mul_le_mul_left _ hw;omega
 obtain⟨k1,k2⟩:=key nos ha;have:=A5R k1;have h6:(108+36*143)*nos.length<=(108+36*143)*5:=Nat.mul_le_mul_left _ hn;omega
def lvsTo(pg:List (List Ln))(fi:List (List UInt8))(i:Nat):List Le':=(List.range i).map fun(k:Nat)=>⟨Lib.itoa ((k:Int)+1),1,fi.getD k [],pg.getD k []⟩
theorem lvsTo_step(pg:List (List Ln))(fi:List (List UInt8))(i:Nat):lvsTo pg fi (i+1)=lvsTo pg fi i++[⟨Lib.itoa ((i:Int)+1),1,fi.getD i [],pg.getD i []⟩]:=by
 simp[lvsTo,List.range_succ]
theorem lvsTo_len(pg:List (List Ln))(fi:List (List UInt8))(i:Nat):(lvsTo pg fi i).length=i:=by simp[lvsTo]
def lockL(xs:List Sc):List Le':=lvsTo (layL (entsB xs (nosL xs))).pages (firstsI xs (nosL xs)) (layL (entsB xs (nosL xs))).pages.length
theorem AfH(l:List Le'):(flat (l.map leA)).all Av.frozen=true:=by
 induction l with
 | nil=>rfl
 | cons y l ih=>simpa[flat,cellsOf,leA,Av.frozen]using ih
theorem AcE(n:Nat)(l:List Le'):lowB n (.arr 4 (l.map leA))=true:=AbL (AfH l)
theorem AyO{xs:List Sc}{n:List UInt8}(h:n∈nosL xs):∃ x,atNo xs n=some x:=by
 obtain⟨y,hy,rfl⟩:=List.mem_map.1 h;unfold atNo
 cases hq:xs.find? (fun x=>x.no==y.no)with
 | some x=>exact⟨x,rfl⟩
 | none =>
  have:=List.find?_eq_none.1 hq y hy
  simp at this
structure StoryD(xs:List Sc):Prop where
 sc:∀ x∈xs,SceneD x
 num:∀ x∈xs,numberL x.no=true
 rise:(nosL xs).Pairwise nLt
 few:xs.length<=5
theorem StoryD.ent{xs:List Sc}(h:StoryD xs)(no:Int)(ti:List UInt8)(lv:List Le'):EntOf ⟨no,ti,xs,[],lv⟩ (nosL xs):=by
 refine⟨by simp,h.rise,fun n hn=>?_⟩;obtain⟨y,hy,rfl⟩:=List.mem_map.1 hn;exact h.num y hy
theorem StoryD.md{xs:List Sc}(h:StoryD xs):MdOk xs (nosL xs):=by
 have:=h.few;refine⟨h.sc,h.rise.imp fun hlt e=>by subst e; exact AaH _ hlt,by omega,by simp[nosL]; omega,fun n hn=>?_⟩;obtain⟨y,hy,rfl⟩:=List.mem_map.1 hn;exact h.num y hy
theorem BkK{St:Std}(hS:LibOk St)(x:Sr)(hx:ScriptOk x)(hd:StoryD x.scenes):PcH prog St 5 [srA x] (· = .tup [drA ⟨1,x.title,x.scenes,[],lockL x.scenes⟩,.int .i64 0]):=by
 have hck:=AfE hS x hx;have hnb:=AuS hS x hx hd.num hd.rise;obtain⟨ti,xs⟩:=x;simp only at hd;have hm:=hd.md;have hfew:=AyN xs hd.sc hd.few (nosL xs) (by have:=hd.few; simp[nosL]; omega) fun n hn=>AyO hn
 have he:Pc prog 21 [.agg [.int .i64 1,.str ti,.fz 5 (xs.map scA),.raw (.slice none 0 0),.raw (.slice none 0 0)]] (· = .fz 1 ((nosL xs).map .str)) :=
  Pc.wk (AiL 1 ti xs [] (nosL xs) (hd.ent 1 ti []) (by simp) (by have:=hd.few; omega) (.slice none 0 0) rfl) ⟨.inr ⟨_,_,rfl,rfl,.inl rfl,.inl rfl,.inl rfl,.inr (.inr ⟨1,rfl,rfl⟩),.inl rfl,trivial⟩,trivial⟩
 have hmd:=ApC hS 1 ti xs (nosL xs) hm (.slice none 0 0) (.slice none 0 0) rfl rfl;simp only[lockL];have hfl:(firstsI xs (nosL xs)).length=(layL (entsB xs (nosL xs))).pages.length:=by simp only[firstsI,List.length_map,firsts_pages]
 generalize firstsI xs (nosL xs)=fi at *;generalize (layL (entsB xs (nosL xs))).pages=pg at *;have d9:decide ((pg.length:Int)>999)=false:=by simp; omega
 simp only[srA,drA]at hck hnb |-;refine zqIF func5 rfl fun h ρ w hg=>?_
 simp only[go_sem];refine zqF hg (hck) ?_;simp only[go_sem];refine zqF hg (hnb) ?_;simp only[go_sem];refine zr [.fz 1 ((nosL xs).map .str),.tup [.fz 1 (pg.map pgA),.fz 1 (fi.map .str)]] mixed ?_;simp only[go_sem,List.length_map];refine⟨he.at,rfl,hmd.at hg,rfl,rfl,?_⟩;refine zgF ?_;simp only[go_sem,d9,List.length_map];refine AaI (ι:=Nat) (fun i=>pg.length-i)
  (fun i=>[(42,.int .i64 i),(41,.int .i64 pg.length),(40,.fz 1 (pg.map pgA)),(9,.fz 1 (fi.map .str)),(7,.ptr 3 1 0 0),(2,.ptr 1 1 0 0)])
  (fun i=>[.arr 2 [.agg [.str ti,.fz 5 (xs.map scA)]],.arr 5 [.agg [.int .i64 0,.str [],.raw (.slice none 0 0),.raw (.slice none 0 0),.raw (.slice none 0 0)]],.arr 2 [.agg [.str ti,.fz 5 (xs.map scA)]],.arr 5 [.agg [.int .i64 1,.str ti,.fz 5 (xs.map scA),.fz 1 [],.sl 4 0 i i]],.arr 4 ((lvsTo pg fi i).map leA)]) (fun i=>i<=pg.length) 0 (by simp) ?_ ?_
 .refine Shift.trans (Shift.cells 3 4 [.agg [.int .i64 1,.str ti,.fz 5 (xs.map scA),.fz 1 [],.sl 4 0 0 0]] rfl rfl (by simp[cellsOf]) ⟨.refl,.refl,.refl,.fz,.sl,trivial⟩) (Shift.weakS ?_ (by simp[lvsTo]))
  simp only[go_sem]
 .intro i g1 J hJ
  by_cases gi:i<pg.length
  .have di:decide ((i:Int)<(pg.length:Int))=true:=by simp; omega
   have gf:i<fi.length:=by omega
   have hp:=A2E gi;have hf:=AcB gf;have hln:(List.map leA (lvsTo pg fi i)).length=i:=by simp[lvsTo_len]
   have hap:List.map leA (lvsTo pg fi i)++[.agg [.str (Lib.itoa ((i:Int)+1)),.int .i64 1,.str fi[i],.fz 1 (pg[i].map .str)]]=List.map leA (lvsTo pg fi (i+1)):=by
    rw[lvsTo_step,List.map_append]; simp[leA,List.getD,gi,gf]
   have hfin:=hJ (i+1) (by omega) (by omega);refine zgF ?_;simp only[go_sem,di,hp,List.length_map]
   repeat refine aqa ?_
   refine zr [.str (Lib.itoa ((i:Int)+1))] mixed ?_;simp only[go_sem,hf,hap,hln,List.length_map]
   repeat refine And.intro (by first|exact(AjC hS _ (by omega) (by omega)).at hg|omega|exact .inl trivial|rfl|(simp; done)|(simp; omega)) ?_
   refine zgF ?_;simp only[go_sem]
   repeat refine aqa ?_
   rw[ic i];refine ainv hfin (Shift.low 5 (by simp) (by simp) ?_ ?_)
   .simp only[go_sem,↓AcE,lowB,flat]
   .simp only [go_sem]
  .have di:decide ((i:Int)<(pg.length:Int))=false:=by simp; omega
   have hi:i=pg.length:=by omega
   subst hi;refine AWp.shift (Shift.frz 4 rfl (AfH _)) ?_;have htk:List.take pg.length (List.map leA (lvsTo pg fi pg.length))=List.map leA (lvsTo pg fi pg.length):=List.take_of_length_le (by simp[lvsTo_len]);simp only[go_sem,frzE,frzC,frz,frz1,frzB,List.length_map,lvsTo_len,Nat.le_refl,htk];refine zgF ?_;simp only[go_sem,di];exact AbB [.cell 2 32,.tmp 3] rfl [_,_] ⟨by simp only[go_sem,sideIs],rfl,trivial⟩ ⟨rfl,rfl⟩
end Go.Proofs.YtlldmgboedknfaaGreatDoor
set_option linter.unusedSectionVars false
namespace Go.Av
open Go Go.RowKit
variable [Tr]
def sh1(n:Nat):AV->AV
 | .sl id o l c=>.sl (id+n) o l c
 | .ptr id m i o=>.ptr (id+n) m i o
 | .mp id=>.mp (id+n)
 | .agg _=>.any
 | .tup _=>.any
 | .fn _ _=>.any
 | a=>a
def shC(n:Nat):AV->AV
 | .agg r=>.agg (r.map (sh1 n))
 | a=>sh1 n a
def shV(n:Nat):AV->AV
 | .tup r=>.tup (r.map (shC n))
 | .agg r=>.agg (r.map (sh1 n))
 | a=>sh1 n a
def shB(n:Nat):Blk->Blk
 | .arr e l=>.arr e (l.map (shC n))
 | .mp es=>.mp (es.map fun x=>(x.1,shC n x.2))
 | b=>b
section
variable {h:Mem}{ρ1 ρ2:Own}{s1 s2:List Blk}{n:Nat}
theorem A2L(hs:∀ id,s2[id+n]? = (s1[id]?).map (shB n))(hr:∀ id,ρ2 (id+n)=ρ1 id){v:Value}{a:AV}(l:Lf ρ1 s1 v a):Lf ρ2 s2 v (sh1 n a):=by
 refine⟨l.1,?_⟩;have l:=l.2
 cases a with
 | sl id a b c =>
  simp only[sh1,LfC,hs,hr]at l |-
  cases hq:s1[id]? with
  | none=>rw[hq]at l; exact l.elim
  | some b=>rw[hq]at l; cases b <;> simp only[Option.map_some,shB,List.length_map]at l |- <;> exact l
 | ptr id a b c =>
  simp only[sh1,LfC,hs,hr]at l |-
  cases hq:s1[id]? with
  | none=>rw[hq]at l; exact l.elim
  | some b=>rw[hq]at l; cases b <;> simp only[Option.map_some,shB,List.length_map]at l |- <;> exact l
 | mp id =>
  simp only[sh1,LfC,hs,hr]at l |-
  cases hq:s1[id]? with
  | none=>rw[hq]at l; exact l.elim
  | some b=>rw[hq]at l; cases b <;> simp only[Option.map_some,shB]at l |- <;> exact l
 | _=>exact l.elim
theorem BeP(hs:∀ id,s2[id+n]? = (s1[id]?).map (shB n))(hr:∀ id,ρ2 (id+n)=ρ1 id){v:Value}{a:AV}(r:RV h (Lf ρ1 s1) false v a):RV h (Lf ρ2 s2) false v (sh1 n a):=by
 have frz:frozen a=true->RV h (Lf ρ2 s2) false v a:=fun hf=>(AkG r hf).thaw (fun _ _ _ x=>x)
 cases a with
 | sl id o l c=>exact .leaf (A2L hs hr (AbO r))
 | ptr id n i o=>exact .leaf (A2L hs hr (AcV r))
 | mp id=>exact .leaf (A2L hs hr (AhT r))
 | agg r=>exact .any _
 | tup r=>exact .any _
 | fn f r=>exact .any _
 | _=>exact frz rfl
theorem ApP(hs:∀ id,s2[id+n]? = (s1[id]?).map (shB n))(hr:∀ id,ρ2 (id+n)=ρ1 id):∀ {l:List AV}{vs:List Value},RL h (Lf ρ1 s1) false vs l->RL h (Lf ρ2 s2) false vs (l.map (sh1 n))
 | [],_,r=>by cases r; exact .nil
 | a::l,_,r=>by cases r with|cons r1 r2=>exact .cons (BeP hs hr r1) (ApP hs hr r2)
theorem A2M(hs:∀ id,s2[id+n]? = (s1[id]?).map (shB n))(hr:∀ id,ρ2 (id+n)=ρ1 id){v:Value}{a:AV}(r:RV h (Lf ρ1 s1) false v a):RV h (Lf ρ2 s2) false v (shC n a):=by
 cases a with
 | agg l =>
  obtain⟨vs,rfl,rl⟩:=AaN r;exact .agg vs _ (ApP hs hr rl)
 | _=>exact BeP hs hr r
theorem A5T(hs:∀ id,s2[id+n]? = (s1[id]?).map (shB n))(hr:∀ id,ρ2 (id+n)=ρ1 id):∀ {l:List AV}{vs:List Value},RL h (Lf ρ1 s1) false vs l->RL h (Lf ρ2 s2) false vs (l.map (shC n))
 | [],_,r=>by cases r; exact .nil
 | a::l,_,r=>by cases r with|cons r1 r2=>exact .cons (A2M hs hr r1) (A5T hs hr r2)
theorem BmT(hs:∀ id,s2[id+n]? = (s1[id]?).map (shB n))(hr:∀ id,ρ2 (id+n)=ρ1 id){v:Value}{a:AV}(r:RV h (Lf ρ1 s1) false v a):RV h (Lf ρ2 s2) false v (shV n a):=by
 cases a with
 | tup l =>
  obtain⟨vs,rfl,rl⟩:=A0I r;exact .tup vs _ (A5T hs hr rl)
 | agg l =>
  obtain⟨vs,rfl,rl⟩:=AaN r;exact .agg vs _ (ApP hs hr rl)
 | _=>exact BeP hs hr r
theorem shC_cells(n:Nat)(x:AV):cellsOf (shC n x)=(cellsOf x).map (sh1 n):=by cases x <;> rfl
theorem shC_flat(n:Nat):∀ l,flat (l.map (shC n))=(flat l).map (sh1 n)
 | []=>rfl
 | x::r=>by simp only[List.map_cons,flat,shC_cells,shC_flat n r,List.map_append]
theorem BmU{ρ ρ2:Own}{s t:List Blk}(hr:∀ i,i<s.length->ρ2 i=ρ i){v:Value}{a:AV}(l:Lf ρ s v a):Lf ρ2 (s++t) v a:=by
 refine⟨l.1,?_⟩;have l:=l.2;have key:∀ id b,s[id]? = some b->(s++t)[id]? = some b/\ρ2 id=ρ id:=fun id b hb=>by
  have hi:=(List.getElem?_eq_some_iff.1 hb).1;exact⟨by rw[List.getElem?_append_left hi,hb],hr id hi⟩
 cases a with
 | sl id a b c =>
  simp only[LfC]at l |-
  cases hq:s[id]? with
  | none=>rw[hq]at l; exact l.elim
  | some b=>rw[hq]at l; obtain⟨k1,k2⟩:=key id b hq; rw[k1,k2]; exact l
 | ptr id a b c =>
  simp only[LfC]at l |-
  cases hq:s[id]? with
  | none=>rw[hq]at l; exact l.elim
  | some b=>rw[hq]at l; obtain⟨k1,k2⟩:=key id b hq; rw[k1,k2]; exact l
 | mp id =>
  simp only[LfC]at l |-
  cases hq:s[id]? with
  | none=>rw[hq]at l; exact l.elim
  | some b=>rw[hq]at l; obtain⟨k1,k2⟩:=key id b hq; rw[k1,k2]; exact l
 | _=>exact l.elim
end
theorem Ct.liftN{P:Program}{f:FuncId}{args:List AV}{post:AV->List Blk->Prop}(hc:Ct P f args [] post)(ha:args.all nr1=true)(hmp:∀ r s',post r s'->s'.all mpOk=true)
  (s:List Blk):Ct P f args s (fun r2 s2=>∃ r s',post r s'/\r2=shV s.length r/\s2=s++s'.map (shB s.length)):=by
 refine⟨hc.1,fun h ρ w vs m r=>?_⟩;have hm0:Mine h (fun _=>none) [] w:=⟨m.mem,fun id blk e=>by simp at e,fun _ _=>rfl,fun i j g t t' e=>by simp at e,fun i g t e=>by simp at e⟩;refine(hc.2 h (fun _=>none) w vs hm0 ((AiY (Lf':=Lf0) r ha).thaw (fun _ _ _ x=>x))).mono ?_;rintro en w' ⟨v,r,s1,h',ρ1,rfl,hpost,m',lt,rv⟩;have hgood:∀ i g t,ρ1 i=some (g,t)->w.heap.size<=g:=fun i g t e=>by
  rcases lt.newown i g t e with⟨j,t',hj⟩|h
  .cases hj
  .exact h
 have hblk:∀ k,k<w.heap.size->w'.heap[k]? = w.heap[k]?:=fun k hk=>lt.block k hk (fun i t e=>by cases e)
 have hnew:∀ b o,h b o=none->h' b o≠none->w.heap.size<=b:=fun b o e n=>by
  rcases lt.hnew b o e n with⟨j,t',hj⟩|h
  .cases hj
  .exact h
 obtain⟨ρ2,hρ2⟩:∃ ρ2:Own,ρ2=fun k=>if k<s.length then ρ k else ρ1 (k-s.length):=⟨_,rfl⟩
 have hlo:∀ i,i<s.length->ρ2 i=ρ i:=fun i hi=>by rw[hρ2]; simp[hi]
 have hhi:∀ i,ρ2 (i+s.length)=ρ1 i:=fun i=>by
  rw[hρ2]
  show(if i+s.length<s.length then ρ (i+s.length) else ρ1 (i+s.length-s.length))=_
  rw[if_neg (by omega),Nat.add_sub_cancel]
 have hkeep:∀ v a,Lf ρ s v a->Lf ρ2 (s++s1.map (shB s.length)) v a:=fun v a x=>BmU hlo x
 have hst:∀ id,(s++s1.map (shB s.length))[id+s.length]? = (s1[id]?).map (shB s.length):=fun id=>by
  rw[List.getElem?_append_right (by omega),Nat.add_sub_cancel,List.getElem?_map]
 have hown:∀ i g t,ρ2 i=some (g,t)->(i<s.length/\ρ i=some (g,t)/\g<w.heap.size)\/(s.length<=i/\ρ1 (i-s.length)=some (g,t)/\w.heap.size<=g):=fun i g t e=>by
  by_cases hi:i<s.length
  .rw [hlo i hi]at e
   exact .inl ⟨hi,e,m.lt e⟩
  .have e2:ρ2 i=ρ1 (i-s.length):=by rw[<- hhi]; congr 1; omega
   rw[e2]at e;exact .inr ⟨by omega,e,hgood _ g t e⟩
 refine⟨v,_,_,h',ρ2,rfl,⟨r,s1,hpost,rfl,rfl⟩,⟨m'.mem,?_,?_,?_,?_⟩,⟨lt.hle,fun b o e n=>.inr (hnew b o e n),hkeep,lt.os,lt.tape,lt.output,lt.size,fun k hk _=>hblk k hk,?_⟩,BmT hst hhi rv⟩
 .intro i blk e
  by_cases hi:i<s.length
  .rw [List.getElem?_append_left hi]at e
   exact(m.own i blk e).mono lt.hle hkeep (hlo i hi) (fun g t hg=>hblk g (m.lt hg))
  .obtain ⟨j,rfl⟩:∃ j,i=j+s.length:=⟨i-s.length,by omega⟩
   rw[hst]at e
   cases hb:s1[j]? with
   | none=>rw[hb]at e; cases e
   | some b =>
    rw[hb]at e;simp only[Option.map_some,Option.some.injEq]at e;subst e;have o:=m'.own j b hb;have hmb:=List.all_eq_true.1 (hmp _ _ hpost) b (List.mem_of_getElem? hb)
    cases b with
    | arr es l =>
     rcases o with⟨h1,h2⟩|⟨g,tot,cur,t,h1,h2,h3,h4,h5,h6,h7,h8,h9⟩
     .exact .inl ⟨by simp[h1],(hhi j).trans h2⟩
     .refine .inr ⟨g,tot,cur,t,(hhi j).trans h1,h2,h3,by simpa using h4,h5,h6,?_,h8,?_⟩
      .intro x hx
       obtain⟨y,hy,rfl⟩:=List.mem_map.1 hx;rw[shC_cells,List.length_map];exact h7 y hy
      .rw [shC_flat,List.length_map]
       exact ApP hst hhi h9
    | mp es =>
     obtain⟨g,en,cl,h1,h2,h3,h4,h5⟩:=o;refine⟨g,en,cl,(hhi j).trans h1,h2,by rw[lvs_map]; simpa using h3,fun k x y hx hy=>?_,h5.map _⟩;rw[lvs_map,List.getElem?_map]at hx;obtain⟨x',hx',rfl⟩:=Option.map_eq_some_iff.1 hx;obtain⟨p,q⟩:=h4 k x' y hx' hy;exact⟨p.thaw (fun _ _ _ x=>x),A2M hst hhi q⟩
    | it mid n seen=>cases hmb
    | dead=>exact(hhi j).trans o
 .intro i hi
  simp at hi
  have e2:ρ2 i=ρ1 (i-s.length):=by rw[<- hhi]; congr 1; omega
  rw[e2];exact m'.out _ (by omega)
 .intro i j g t t' hi hj
  rcases hown i g t hi with⟨a1,a2,a3⟩|⟨a1,a2,a3⟩ <;> rcases hown j g t' hj with⟨b1,b2,b3⟩|⟨b1,b2,b3⟩
  .exact m.inj i j g t t' a2 b2
  .omega
  .omega
  .have:=m'.inj _ _ g t t' a2 b2
   omega
 .intro i g t e o
  rcases hown i g t e with⟨a1,a2,a3⟩|⟨a1,a2,a3⟩
  .cases hq:h' g o with
   | none=>rfl
   | some z =>
    have:=hnew g o (m.disj i g t a2 o) (by rw[hq]; simp);omega
  .exact m'.disj _ g t a2 o
 .intro i g t e
  rcases hown i g t e with⟨a1,a2,a3⟩|⟨a1,a2,a3⟩
  .exact .inl ⟨i,t,a2⟩
  .exact .inr a3
def AeG(w:World):Mem:=fun b o=>match w.cell? ⟨b,o,none⟩with
 | some v=>if v.oneCell'=true then some v else none
 | none=>none
theorem AyP{w:World}:∀ b o v,AeG w b o=some v->w.cell? ⟨b,o,none⟩=some v/\v.oneCell'=true:=fun b o v e=>by
 unfold AeG at e
 cases hc:w.cell? ⟨b,o,none⟩with
 | none=>rw[hc]at e; cases e
 | some u =>
  rw[hc]at e;simp only at e
  split at e
  .cases e; exact⟨rfl,by assumption⟩
  .cases e
theorem BkL{h:Mem}{w:World}(hm:∀ b o v,h b o=some v->w.cell? ⟨b,o,none⟩=some v/\v.oneCell'=true):∀ b o v,h b o=some v->AeG w b o=some v:=fun b o v e=>by
 obtain⟨h1,h2⟩:=hm b o v e;unfold AeG;rw[h1]
 simp[h2]
def bor:Nat->List Blk->AV->AV
 | 0,_,a=>match a with
  | .sl _ _ _ _=>.any
  | .ptr _ _ _ _=>.any
  | .mp _=>.any
  | .agg _=>.any
  | .tup _=>.any
  | .fn _ _=>.any
  | a=>a
 | n+1,s,a=>match a with
  | .sl id off len cap=>match s.getD id .dead with
   | .arr e l=>bif decide (off+cap=l.length)&&decide (len<=cap) then .fz e (((l.drop off).take len).map fun x=>match x with
    | .agg r=>.agg (r.map (bor n s))
    | x=>bor n s x) else .any
   | _=>.any
  | .ptr _ _ _ _=>.any
  | .mp _=>.any
  | .agg _=>.any
  | .tup _=>.any
  | .fn _ _=>.any
  | a=>a
def borC(n:Nat)(s:List Blk):AV->AV
 | .agg r=>.agg (r.map (bor n s))
 | x=>bor n s x
theorem BmV(n:Nat)(s:List Blk)(id off len cap:Nat):bor (n+1) s (.sl id off len cap)=match s.getD id .dead with
   | .arr e l=>bif decide (off+cap=l.length)&&decide (len<=cap) then .fz e (((l.drop off).take len).map (borC n s)) else .any
   | _=>.any:=rfl
theorem bor_cells(n:Nat)(s:List Blk)(x:AV):cellsOf (borC n s x)=(cellsOf x).map (bor n s):=by
 have key:∀ a,cellsOf (bor n s a)=[bor n s a]:=fun a=>by
  cases n with
  | zero=>cases a <;> rfl
  | succ n =>
   cases a with
   | sl id off len cap =>
    rw[BmV]
    split
    .cases decide (off+cap=_)&&decide (len<=cap) <;> rfl
    .rfl
   | _=>rfl
 cases x with
 | agg r=>rfl
 | _=>exact key _
theorem bor_flat(n:Nat)(s:List Blk):∀ l,flat (l.map (borC n s))=(flat l).map (bor n s)
 | []=>rfl
 | x::r=>by simp only[List.map_cons,flat,bor_cells,bor_flat n s r,List.map_append]
section
variable {h:Mem}{ρ:Own}{s:List Blk}{w:World}
theorem BeQ{v:Value}{a:AV}(m:Mine h ρ s w)(r:RV h (Lf ρ s) false v a)(hf:frozen a=true):RV (AeG w) Lf0 true v a :=
 (AkG r hf).thaw (BkL m.mem)
theorem AmS{n:Nat}(hn:∀ {v:Value}{a:AV},RV h (Lf ρ s) false v a->RV (AeG w) Lf0 true v (bor n s a)):∀ {l:List AV}{vs:List Value},RL h (Lf ρ s) false vs l->RL (AeG w) Lf0 true vs (l.map (bor n s))
 | [],_,r=>by cases r; exact .nil
 | a::l,_,r=>by cases r with|cons r1 r2=>exact .cons (hn r1) (AmS hn r2)
theorem A5U(m:Mine h ρ s w):∀ (n:Nat){v:Value}{a:AV},RV h (Lf ρ s) false v a->RV (AeG w) Lf0 true v (bor n s a)
 | 0,v,a,r=>by
  cases a with
  | sl id o l c=>exact .any _
  | ptr id m i o=>exact .any _
  | mp id=>exact .any _
  | agg r=>exact .any _
  | tup r=>exact .any _
  | fn f r=>exact .any _
  | _=>exact BeQ m r rfl
 | n+1,v,a,r=>by
  cases a with
  | sl id off len cap =>
   rw[BmV];have hl:=(AbO r).2
   cases hq:s[id]? with
   | none=>simp only[LfC,hq]at hl
   | some b =>
    have hgd:s.getD id .dead=b:=by rw[List.getD_eq_getElem?_getD,hq]; rfl
    rw[hgd]
    cases b with
    | arr e l =>
     simp only
     cases hd:decide (off+cap=l.length)&&decide (len<=cap)with
     | false=>exact .any _
     | true =>
      simp only[Bool.and_eq_true,decide_eq_true_eq]at hd;obtain⟨hc,hlc⟩:=hd;simp only[LfC,hq]at hl;simp only[cond_true]
      rcases hl.2 hc with⟨rfl,rfl,a,rfl⟩|⟨g,tot,h1,rfl,_⟩
      .simp only [List.take_zero,List.map_nil]
       cases a with
       | none=>simpa[at0]using RV.fznil e
       | some a=>simpa[at0]using RV.fz (h:=AeG w) (Lf:=Lf0) (fl:=true) a.1 a.2 0 e [] [] .nil (by simp) (by simp) (Nat.le_refl _)
      .rcases m.own id _ hq with⟨_,hn⟩|⟨g',tot',cur,t,h3,h4,h5,h6,h7,h8,h9,h10,h11⟩
       .rw [hn]at h1; cases h1
       .rw [h3]at h1
        simp only[Option.some.injEq,Prod.mk.injEq]at h1;obtain⟨rfl,rfl⟩:=h1;have hfl:=AaL h9;have hlen:(((l.drop off).take len).map (borC n s)).length=len:=by simp; omega
        have hr:RL (AeG w) Lf0 true (((cur.toList.take (l.length*e)).drop (off*e)).take (len*e)) (flat (((l.drop off).take len).map (borC n s))):=by
         rw[bor_flat,<- AbX (l:=l.drop off) (esz:=e) (fun x hx=>h9 x (List.mem_of_mem_drop hx)) len,<- AbC h9 off,List.map_take,List.map_drop];exact((AmS (fun r=>A5U m n r) h11).drop _).take _
        have:=RV.fz (h:=AeG w) (Lf:=Lf0) (fl:=true) g' (off*e) (tot'-off) e (((l.drop off).take len).map (borC n s)) _ hr (fun x hx=>by
         obtain⟨y,hy,rfl⟩:=List.mem_map.1 hx;rw[bor_cells,List.length_map];exact h9 y (List.mem_of_mem_drop (List.mem_of_mem_take hy))) (fun k v hk=>by
         rw[List.getElem?_take]at hk
         split at hk
         .rw [List.getElem?_drop,List.getElem?_take]at hk
          split at hk
          .have h12:=h10 v (List.mem_of_getElem? hk)
           unfold AeG;rw[h4.cell,<- Array.getElem?_toList,hk]
           simp[h12]
          .simp at hk
         .simp at hk) (by rw[hlen]; omega)
        rwa [hlen]at this
    | _=>exact .any _
  | ptr id m i o=>exact .any _
  | mp id=>exact .any _
  | agg r=>exact .any _
  | tup r=>exact .any _
  | fn f r=>exact .any _
  | _=>exact BeQ m r rfl
theorem BqG(m:Mine h ρ s w)(n:Nat){v:Value}{a:AV}(r:RV h (Lf ρ s) false v a):RV (AeG w) Lf0 true v (borC n s a):=by
 cases a with
 | agg l =>
  obtain⟨vs,rfl,rl⟩:=AaN r;exact .agg vs _ (AmS (fun r=>A5U m n r) rl)
 | _=>exact A5U m n r
end
def BtJ:AV->Bool
 | .int _ _=>true
 | .bool _=>true
 | .str _=>true
 | _=>false
