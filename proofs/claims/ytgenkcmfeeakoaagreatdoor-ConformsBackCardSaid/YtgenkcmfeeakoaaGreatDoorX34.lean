/- Parts of leaves: plain law; leavesFault, walked. -/
import Derived.Test.YtgenkcmfeeakoaaGreatDoorX33
set_option maxRecDepth 100000
set_option linter.all false
namespace Go.Proofs.YtgenkcmfeeakoaaGreatDoor
open Av RowKit Proofs.Tryz
def fst(l:List Le')(j:Nat):LU:=(l.getD j le0).first
def rat(rs:List (Nat×Nat))(k:Nat):Nat×Nat:=rs.getD k (0,0)
structure RInv(l:List Le')(i:Nat)(rs:List (Nat×Nat)):Prop where
 one:∀ k,k<rs.length->(rat rs k).1<(rat rs k).2/\(rat rs k).2<=i/\fst l (rat rs k).1≠[]/\∀ j,(rat rs k).1<j->j<(rat rs k).2->fst l j=[]
 adj:∀ k,k+1<rs.length->(rat rs k).2=(rat rs (k+1)).1
 last:0<rs.length->(rat rs (rs.length-1)).2=i
 begins:∀ j,j<i->fst l j≠[]->0<rs.length/\(rat rs 0).1<=j
theorem rat_app{rs:List (Nat×Nat)}{r:Nat×Nat}{k:Nat}:rat (rs++[r]) k=if k<rs.length then rat rs k else if k=rs.length then r else(0,0):=by
 grind[rat]
theorem BxK{rs:List (Nat×Nat)}{r:Nat×Nat}{k m:Nat}(hm:m<rs.length):rat (rs.set m r) k=if k=m then r else rat rs k:=by
 grind[rat]
theorem BiA{l:List Le'}{i:Nat}{rs:List (Nat×Nat)}(h:RInv l i rs)(hi:i<l.length):RInv l (i+1) (runStep rs i l[i]):=by
 have hf:fst l i=l[i].first:=by grind[fst]
 unfold runStep
 by_cases h0:l[i].first=[]
 .simp only [h0,ne_eq,not_true_eq_false,if_false]
  by_cases hr:rs=[]
  .refine ⟨fun k hk=>by grind,fun k hk=>by grind,fun hk=>by grind,fun j hj hne=>?_⟩
   by_cases e:j=i
   .grind
   .have:=(h.begins j (by omega) hne).1; grind
  .rw [if_neg hr]
   have hp:=List.length_pos_iff.2 hr;have hl:=h.last hp;have ho:=h.one (rs.length-1) (by omega);have hm:rs.length-1<rs.length:=by omega
   have hset:∀ k,rat (rs.set (rs.length-1) ((rat rs (rs.length-1)).1,i+1)) k=if k=rs.length-1 then((rat rs (rs.length-1)).1,i+1) else rat rs k:=fun k=>BxK hm
   show RInv l (i+1) (rs.set (rs.length-1) ((rat rs (rs.length-1)).1,i+1))
   refine⟨fun k hk=>?_,fun k hk=>?_,fun hk=>?_,fun j hj hne=>?_⟩
   .rw [List.length_set]at hk
    rw[hset]
    by_cases e:k=rs.length-1
    .grind
    .rw [if_neg e]
     have:=h.one k hk
     grind
   .rw [List.length_set]at hk
    rw[hset,hset,if_neg (by omega)];have:=h.adj k hk
    grind
   .grind
   .rw [List.length_set,hset]
    by_cases e:j=i
    .grind
    .have:=h.begins j (by omega) hne
     grind
 .simp only [h0,ne_eq,not_false_eq_true,if_true]
  refine⟨fun k hk=>?_,fun k hk=>?_,fun hk=>?_,fun j hj hne=>?_⟩
  .rw [rat_app]
   rw[lah]at hk
   by_cases e:k<rs.length
   .rw [if_pos e]
    have:=h.one k e
    grind
   grind
  .rw [lah]at hk
   simp at hk
   rw[rat_app,rat_app,if_pos (by omega)]
   by_cases e:k+1<rs.length
   .rw [if_pos e]; exact h.adj k e
   .rw [if_neg e,if_pos (by omega)]
    have:=h.last (by omega)
    grind
  .grind[rat_app]
  .rw [rat_app,lah]
   refine⟨by simp,?_⟩
   by_cases e:0<rs.length
   .rw [if_pos e]
    by_cases e2:j=i
    .subst e2
     have:=h.one 0 e;omega
    .exact (h.begins j (by omega) hne).2
   .rw [if_neg e,if_pos (by omega)]
    by_cases e2:j=i
    .omega
    .exact absurd (h.begins j (by omega) hne).1 e
theorem AlR(l:List Le'):∀ i,i<=l.length->RInv l i (runsTo l i)
 | 0,_=>⟨fun k hk=>by grind[runsTo],fun k hk=>by grind[runsTo],fun hk=>by grind[runsTo],fun j hj=>by omega⟩
 | i+1,h=>by
  have hi:i<l.length:=by omega
  simp only[runsTo,lab hi];exact BiA (AlR l i (by omega)) hi
theorem AcQ(l:List Le'):RInv l l.length (AaC l):=AlR l _ (lad _)
theorem AzI{l:List Le'}{k:Nat}(hk:k<(AaC l).length)(h:(rat (AaC l) k).2<l.length):fst l (rat (AaC l) k).2≠[]:=by
 have hi:=AcQ l
 by_cases e:k+1<(AaC l).length
 .rw [hi.adj k e]
  exact(hi.one (k+1) e).2.2.1
 .have:=hi.last (by omega)
  grind
def ixN(E:List LU)(x:LU):Nat:=(E.findIdx? (fun y=>x==y)).getD E.length
def segE(E:List LU)(l:List Le')(r:Nat×Nat):List LU :=
 (E.take (if r.2<l.length then ixN E (fst l r.2) else E.length)).drop (ixN E (fst l r.1))
theorem AiP{E:List LU}{x:LU}(h:x∈E):∃ hi:ixN E x<E.length,E[ixN E x]=x/\idxP (fun y=>x==y) E=(ixN E x:Int):=by
 unfold ixN idxP
 cases hq:E.findIdx? (fun y=>x==y)<;>grind[List.findIdx?_eq_some_iff_getElem]
theorem AmZ{E:List LU}(hE:E.Pairwise nLt){x y:LU}(hx:x∈E)(hy:y∈E)(h:nLt x y):ixN E x<ixN E y:=by
 obtain⟨i1,i2,_⟩:=AiP hx;obtain⟨j1,j2,_⟩:=AiP hy
 grind[nLt_irrefl,lcc,nLt_trans]
structure LvOk(d:Dr)(E:List LU):Prop where
 empt:E=[] ↔ d.La=[]
 head:E≠[]->fst d.La 0=E.getD 0 []
 mem:∀ j,j<d.La.length->fst d.La j≠[]->fst d.La j∈E
 rise:∀ i j,i<j->j<d.La.length->fst d.La i≠[]->fst d.La j≠[]->nLt (fst d.La i) (fst d.La j)
 Lh:∀ k,k<(AaC d.La).length->(layL (entsB d.Lc (segE E d.La (rat (AaC d.La) k)))).Lh=((d.La.take (rat (AaC d.La) k).2).drop (rat (AaC d.La) k).1).map (·.Lb)
def lastF(l:List Le'):Nat->LU
 | 0=>[]
 | i+1=>if fst l i=[] then lastF l i else fst l i
structure AInv(l:List Le')(E:List LU)(i:Nat):Prop where
 mem:∀ j,j<i->fst l j≠[]->fst l j∈E
 rise:∀ a b,a<b->b<i->fst l a≠[]->fst l b≠[]->nLt (fst l a) (fst l b)
 top:∀ j,j<i->fst l j≠[]->lastF l i≠[]/\(fst l j=lastF l i\/nLt (fst l j) (lastF l i))
 isAt:lastF l i≠[]->∃ j,j<i/\fst l j=lastF l i
theorem BiB{l:List Le'}{E:List LU}{i:Nat}(h:AInv l E i)(h0:fst l i=[]):AInv l E (i+1):=by
 have e:lastF l (i+1)=lastF l i:=by grind[lastF]
 refine⟨fun j hj hn=>?_,fun a b hab hb ha hb'=>?_,fun j hj hn=>?_,fun hn=>?_⟩
 .by_cases q:j=i
  .grind
  .exact h.mem j (by omega) hn
 .by_cases q:b=i
  .grind
  .exact h.rise a b hab (by omega) ha hb'
 .rw [e]
  by_cases q:j=i
  .grind
  .exact h.top j (by omega) hn
 .rw [e]at hn |-
  obtain⟨j,h1,h2⟩:=h.isAt hn
  grind
theorem BqF{l:List Le'}{E:List LU}{i:Nat}(h:AInv l E i)(h0:fst l i≠[])(hm:fst l i∈E)(hr:lastF l i≠[]->nLt (lastF l i) (fst l i)):AInv l E (i+1):=by
 have e:lastF l (i+1)=fst l i:=by grind[lastF]
 have key:∀ j,j<i->fst l j≠[]->nLt (fst l j) (fst l i):=fun j hj hn=>by
  obtain⟨t1,t2⟩:=h.top j hj hn
  grind[nLt_trans]
 refine⟨fun j hj hn=>?_,fun a b hab hb ha hb'=>?_,fun j hj hn=>?_,fun hn=>?_⟩
 .by_cases q:j=i
  .grind
  .exact h.mem j (by omega) hn
 .by_cases q:b=i
  .grind
  .exact h.rise a b hab (by omega) ha hb'
 all_goals grind
theorem AvR{d:Dr}{E:List LU}(hE:EntOf d E):∀ x∈E,x≠[]:=fun x hx e=>by
 have:=hE.num x hx;subst e;exact absurd this (by decide)
theorem AsX{xs:List Sc}{E:List LU}(hm:MdOk xs E)(a b:Nat):MdOk xs ((E.take b).drop a):=by
 refine⟨hm.sc,hm.nod,hm.few,?_,fun n hn=>hm.num n (lau (lba hn))⟩;have:=hm.fewN
 grind
theorem AiE{xs:List Sc}{nos:List LU}(hm:MdOk xs nos):(layL (entsB xs nos)).Lh.length<=1000000000000/\∀ p∈(layL (entsB xs nos)).Lh,1<=p.length/\p.length<=54:=by
 have h1:=BaX hm;rw[firsts_pages]at h1;refine⟨h1,(BhP fun b hb=>?_).1⟩;obtain⟨n,hn,hb⟩:=List.mem_flatMap.1 hb;exact((AeW hm.sc (hm.num n hn)).1 b hb).1.own
def insN(x:LU):List LU->List LU
 | []=>[x]
 | y::r=>if compareN x y<0 then x::y::r else y::insN x r
theorem ApS(x:LU):∀ l,(insN x l).Perm (x::l)
 | []=>.refl _
 | y::r=>by
  rw[insN]
  split
  .exact .refl _
  .exact ((ApS x r).cons y).trans (.swap _ _ _)
theorem ApT{x:LU}(hx:numberL x=true):∀ l:List LU,l.Pairwise nLt->(∀ y∈l,numberL y=true)->x ∉ l->(insN x l).Pairwise nLt
 | [],_,_,_=>by simp[insN]
 | y::r,h,hn,hm=>by
  obtain⟨h1,h2⟩:=List.pairwise_cons.1 h
  simp at hm
  rw[insN]
  split
  .rename_i hlt
   have hlt:=compareN_lt.1 hlt;refine List.pairwise_cons.2 ⟨fun w hw=>?_,h⟩
   rcases List.mem_cons.1 hw with rfl|hw
   .exact hlt
   .exact nLt_trans hlt (h1 w hw)
  .rename_i hlt
   have hlt:=fun e=>hlt (compareN_lt.2 e)
   have hyx:nLt y x:=by
    by_cases h3:nLt y x
    .exact h3
    .exact absurd (number_eq hx (hn y (by simp)) (ApB hlt h3)) hm.1
   refine List.pairwise_cons.2 ⟨fun w hw=>?_,ApT hx r h2 (fun z hz=>hn z (by simp[hz])) hm.2⟩
   rcases List.mem_cons.1 ((ApS x r).mem_iff.1 hw)with rfl|hw
   .exact hyx
   .exact h1 w hw
theorem A3U:∀ (g m:List LU),m.Pairwise nLt->g.Pairwise nLt->(∀ y∈m,numberL y=true)->(∀ y∈g,numberL y=true)->(∀ y∈g,y ∉ m)->∃ E:List LU,E.Perm (g++m)/\E.Pairwise nLt
 | [],m,h1,_,_,_,_=>⟨m,.refl _,h1⟩
 | x::g,m,h1,h2,h3,h4,h5=>by
  obtain⟨a1,a2⟩:=List.pairwise_cons.1 h2;obtain⟨E,p,s⟩:=A3U g m h1 a2 h3 (fun y hy=>h4 y (by grind)) (fun y hy=>h5 y (by grind));refine⟨insN x E,(ApS x E).trans (p.cons x),ApT (h4 x (by simp)) E s (fun y hy=>?_) fun hm=>?_⟩<;>grind[nLt_irrefl]
structure DrIn(d:Dr):Prop where
 script:ScriptOk ⟨d.Lk,d.Lc⟩
 sc:∀ x∈d.Lc,SceneD x
 Lp:∀ n∈d.Lp,numberL n=true
 Lm:d.Lp.length<=1000
 Lo:d.La.length<=100000
 La:∀ f∈d.La,f.name.length<1000000/\f.first.length<1000000/\f.Lb.length<1000000/\∀ s∈f.Lb,s.length<4000000
theorem BtO{d:Dr}(h:DrIn d)(hn:NumsOk d):∃ E,EntOf d E/\MdOk d.Lc E:=by
 have hno:∀ y∈nosL d.Lc,numberL y=true:=fun y hy=>by
  obtain⟨x,hx,rfl⟩:=List.mem_map.1 hy;exact(h.sc x hx).no.resolve_left (hn.all x hx)
 obtain⟨E,p,s⟩:=A3U d.Lp (nosL d.Lc) hn.rise hn.riseG hno h.Lp hn.apart;have hnum:∀ x∈E,numberL x=true:=fun x hx=>by
  rcases List.mem_append.1 (p.mem_iff.1 hx)with hx|hx
  .exact h.Lp x hx
  grind
 have hf:=hn.few;refine⟨E,⟨p,s,hnum⟩,h.sc,hn.rise.imp fun hlt e=>by grind[nLt_irrefl],by omega,?_,hnum⟩;have:=p.length_eq
 grind[nosL]
theorem BtP{d:Dr}{E F:List LU}(h:EntOf d E)(h':EntOf d F):E=F :=
 sorted_eq nLt_irrefl (fun _ _ _=>nLt_trans) h.sorted h'.sorted fun x=>(h.perm.trans h'.perm.symm).mem_iff
structure DraftOk(d:Dr):Prop where
 no:1<=d.no/\d.no<=30
 nums:NumsOk d
 binder:BinderOk d.La
 made:∀ f∈d.La,f.Lj<=d.no
 lv:∀ E,EntOf d E->LvOk d E
theorem BiC(xs:List Sc)(hl:xs.length<=100000):Pc prog 57 [.fz 5 (xs.map scA)] (· = .fz 5 (xs.map scA)):=by
 cases xs with
 | nil=>exact clone0_pc
 | cons x xs=>exact BmY (n:=(x::xs).length) (by simp) (AaF _) (AmW x xs (by simp at hl; omega))
def lenS(l:List LU):Nat:=(l.map List.length).sum
theorem lenS_append(a b:List LU):lenS (a++b)=lenS a+lenS b:=by simp[lenS]
theorem lenS_one(a:LU):lenS [a]=a.length:=by simp[lenS]
theorem AvS{W:Nat}(hW:0<W):∀ (n:Nat)(w:LU),w.length<=n->lenS (chop W w).1+(chop W w).2.length=w.length/\lenS (chop W w).1=W*(chop W w).1.length/\(w≠[]->(chop W w).2≠[])/\(chop W w).2.length<=W
 | 0,w,h=>by grind[chop_end,lenS]
 | n+1,w,h=>by
  by_cases hc:W<w.length
  .obtain ⟨h1,h2,h3,h4⟩:=AvS hW n (w.drop W) (by simp; omega)
   rw[AfR hc hW];have ht:(w.take W).length=W:=by simp; omega
   have hd:(w.drop W).length=w.length-W:=by simp
   refine⟨?_,?_,fun _=>h3 fun e=>?_,h4⟩
   .simp only [lenS,lal,List.sum_cons,ht]at h1 |-; omega
   .simp only [lenS,lal,List.sum_cons,ht,lam]at h2 |-; rw[Nat.mul_add]; omega
   .have:=congrArg List.length e
    simp at this; omega
  .rw [chop_end hc]; simp[lenS]; omega
def WI(W:Nat)(st:List LU×LU):Prop:=W*st.1.length<=2*lenS st.1+st.2.length/\(st.2=[]->st.1=[])
def byS(st:List LU×LU):Nat:=lenS st.1+st.2.length
theorem BiD{W:Nat}(hW:0<W){st:List LU×LU}(h:WI W st)(w:LU):WI W (AcF W st w)/\byS (AcF W st w)<=byS st+w.length+1/\(w≠[]\/st.2≠[]->(AcF W st w).2≠[]):=by
 obtain⟨dn,cur⟩:=st;obtain⟨h1,h2⟩:=h;simp only at h1 h2;unfold AcF
 by_cases hw:w=[]
 .subst hw
  simp only[lbl,if_true];exact⟨⟨h1,h2⟩,by omega,by simp⟩
 .have hwb:(w==[])=false:=by grind
  simp only[hwb,lan,if_false]
  split
  .refine ⟨⟨?_,by simp⟩,?_,by simp⟩<;>grind[byS]
  .obtain ⟨c1,c2,c3,c4⟩:=AvS hW w.length w (lad _)
   generalize (chop W w).2=re at c1 c3 c4 |-
   by_cases hc:cur=[]
   .grind[byS,WI]
   .have hcb:(cur != [])=true:=by grind
    have hfit:¬ cur.length+1+w.length<=W:=by grind
    simp only[hcb,if_true];refine⟨⟨?_,fun e=>absurd e (c3 hw)⟩,?_,fun _=>c3 hw⟩
    .simp only [lah,lam,lap,lenS_append,lenS_one,Nat.mul_add,laq,Nat.mul_one]
     omega
    grind[byS,lenS_append,lenS_one]
theorem AkH{W:Nat}(hW:0<W):∀ (ws:List LU)(st:List LU×LU),WI W st->WI W (ws.foldl (AcF W) st)/\byS (ws.foldl (AcF W) st)<=byS st+((ws.map List.length).sum+ws.length)/\((∃ w∈ws,w≠[])\/st.2≠[]->(ws.foldl (AcF W) st).2≠[])
 | [],st,h=>⟨h,by simp,by simp⟩
 | w::r,st,h=>by
  obtain⟨a1,a2,a3⟩:=BiD hW h w;obtain⟨b1,b2,b3⟩:=AkH hW r _ a1;refine⟨b1,?_,fun hx=>b3 ?_⟩
  .simp; omega
  .rcases hx with⟨x,hx,hne⟩|hx
   .rcases List.mem_cons.1 hx with rfl|hx
    .exact .inr (a3 (.inl hne))
    .exact .inl ⟨x,hx,hne⟩
   .exact .inr (a3 (.inr hx))
theorem AhH{W:Nat}(hW:0<W)(t:LU):W*(wrapL W t).length<=2*(t.length+1)+W:=by
 obtain⟨a1,a2,a3⟩:=AkH hW (splitW t) ([],[]) ⟨by simp,by simp⟩;have hs:=splitW_sum t;have e:byS (([],[]):List LU×LU)=0:=by grind[byS,lenS]
 unfold wrapL wrapF;generalize (splitW t).foldl (AcF W) ([],[])=st at a1 a2 |-;have:=a1.1
 grind[byS,Nat.mul_add]
theorem AfT{W:Nat}(hW:0<W){t:LU}(h0:t≠[])(h1:t.head?≠some 32):1<=(wrapL W t).length:=by
 have hex:∃ w∈splitW t,w≠[]:=by
  cases t with
  | nil=>grind
  | cons c r =>
   have hc:(c==32)=false:=by grind
   simp only[splitW,hc,lan,if_false]
   cases splitW r<;>simp_all[consW]
 have:=(AkH hW (splitW t) ([],[]) ⟨by simp,by simp⟩).2.2 (.inl hex)
 grind[wrapL,wrapF]
def scK:Option Nat->Int->Option Nat
 | none,_=>none
 | some n,k=>if k==2 then some 0 else if n<16 then some (n+1) else none
theorem AkI:∀ l:List Int,l.foldl scK none=none
 | []=>rfl
 | a::r=>by simp[scK,AkI r]
theorem A8B:∀ (l:List Int)(n:Nat),(∀ k∈l,(k==2)=false)->17<=n+l.length->n<=16->l.foldl scK (some n)=none
 | [],n,_,h,h'=>by grind
 | a::r,n,hl,h,h'=>by
  have ha:=hl a (by simp);simp only[List.foldl_cons,scK,ha,lan,if_false]
  by_cases hn:n<16
  .rw [if_pos hn]
   exact A8B r (n+1) (fun k hk=>hl k (by simp[hk])) (by simp at h; omega) (by omega)
  .rw [if_neg hn]; exact AkI r
theorem BiE:∀ (l:List Int)(n m:Nat),l.foldl scK (some n)=some m->n<=16->m<=16
 | [],n,m,h,hn=>by grind
 | a::r,n,m,h,hn=>by
  simp only[List.foldl_cons,scK]at h
  split at h
  .exact BiE r 0 m h (by omega)
  .split at h
   .exact BiE r (n+1) m h (by omega)
   grind[AkI]
theorem BqG(n m:Nat)(hn:1<=n):(List.replicate n (2:Int)).foldl scK (some m)=some 0:=by
 obtain⟨n,rfl⟩:∃ k,n=k+1:=⟨n-1,by omega⟩;clear hn
 induction n generalizing m with
 | zero=>rfl
 | succ n ih=>exact ih 0
theorem A8C:∀ (n m:Nat),m+n<=16->(List.replicate n (1:Int)).foldl scK (some m)=some (m+n)
 | 0,m,_=>rfl
 | n+1,m,h=>by
  rw[List.replicate_succ,List.foldl_cons];simp only[scK,show((1:Int)==2)=false from rfl,lan,if_false,if_pos (show m<16 by omega)];rw[A8C n (m+1) (by omega)]
  congr 1; omega
theorem A3V{l:List Int}{m:Nat}(h:l.foldl scK (some 0)=some m){k:Nat}(hk:17<=k)(hl:k<=l.length):∃ j,k<=j+17/\j<k/\(l.getD j 0==2)=true:=by
 have e:l=l.take (k-17)++(((l.take k).drop (k-17))++l.drop k):=by
  grind[lbs]
 by_cases hx:∃ x∈(l.take k).drop (k-17),(x==2)=true
 .obtain ⟨x,hx,h2⟩:=hx
  obtain⟨j,hj,rfl⟩:=List.mem_iff_getElem.1 hx
  simp at hj
  refine⟨k-17+j,by omega,by omega,?_⟩<;>grind
 .rw [e,List.foldl_append]at h
  cases hq:(l.take (k-17)).foldl scK (some 0)with
  | none=>grind[AkI]
  | some q =>
   have hq16:=BiE _ _ _ hq (by omega);rw[hq,List.foldl_append,A8B _ q (fun x hxm=>by
    grind) (by grind) hq16,AkI]at h
   grind
def AhI(b:Bl):Prop:=b.kind=1\/(b.kind=3/\b.kinds.length=b.Lb.length/\∃ m,b.kinds.foldl scK (some 0)=some m)\/b.Lb.length<=40
theorem AiF{b:Bl}{fr j0:Nat}(h:breaksL b fr j0=true)(hf:fr<j0):∀ c,j0<=c->∃ j,AeO b fr c=some j/\j0<=j
 | 0,hc=>by omega
 | c+1,hc=>by
  simp only[AeO];rw[if_pos (show fr<c+1 by omega)]
  split
  .exact ⟨c+1,rfl,hc⟩
  .rename_i hn
   have:j0<=c:=by
    by_cases e:j0=c+1
    .subst e; exact absurd h hn
    .omega
   exact AiF h hf c this
theorem A8D{b:Bl}{fr:Nat}:∀ c j,AeO b fr c=some j->fr<j
 | 0,j,h=>by grind[AeO]
 | c+1,j,h=>by
  simp only[AeO]at h
  split at h
  .split at h
   .grind
   .exact A8D c j h
  grind
theorem A3W{b:Bl}{fr room:Nat}(hne:stopL b fr room≠b.Lb.length):fr<stopL b fr room/\room<b.Lb.length-fr:=by
 unfold stopL at hne |-
 split at hne
 .omega
 .rename_i h
  rw[if_neg h];refine⟨?_,by omega⟩
  split
  .rename_i j hj; exact A8D _ _ hj
  omega
theorem BqH{b:Bl}(hb:AhI b){fr room:Nat}(hr:53<=room)(hne:stopL b fr room≠b.Lb.length):fr+36<=stopL b fr room:=by
 have h2:=(A3W hne).2;unfold stopL;have key:∃ j0,breaksL b fr j0=true/\fr+36<=j0/\j0<=min (fr+room-grp b) (b.Lb.length-1):=by
  rcases hb with hk|⟨hk,hl,m,hm⟩|hl
  .refine ⟨fr+room-1,?_,by omega,?_⟩
   .simp only [breaksL,hk,lbl,if_true,lae,lag]; omega
   grind[grp]
  .obtain ⟨j,h3,h4,h5⟩:=A3V hm (k:=fr+room-1) (by omega) (by omega)
   refine⟨j+1,?_,by omega,?_⟩
   .simp only [breaksL,hk,show((3:Int)==1)=false from rfl,lbl,lan,if_false,if_true,lcf,h5,lbt,lae,lag]
    omega
   grind[grp]
  omega
 grind[AiF]
theorem AgO(b:Bl)(s:LS):(breakS b s).Lh.length=s.Lh.length+1/\(breakS b s).Li.length<=1:=by
 grind[breakS,addS,flushS]
theorem ApU{b:Bl}(hb:AhI b):∀ (f fr:Nat)(s:LS),s.Li.length<=1->36*(placeB b f fr s).Lh.length<=36*s.Lh.length+(b.Lb.length-fr)
 | 0,fr,s,_=>by simp[placeB]
 | f+1,fr,s,h=>by
  unfold placeB
  split
  .grind[addS]
  .rename_i hne
   have h1:=BqH hb (by omega) hne;have h2:=A3W hne;generalize stopL b fr (54-s.Li.length)=tz at h1 h2 |-;obtain⟨h3,h4⟩:=AgO b (addS s (partL' b fr tz));have:=ApU hb f tz _ h4
   grind[addS]
theorem BaY{b:Bl}(hb:AhI b)(f fr:Nat)(s:LS):36*(placeB b f fr s).Lh.length<=36*s.Lh.length+36+(b.Lb.length-fr):=by
 cases f with
 | zero=>grind[placeB]
 | succ f =>
  unfold placeB
  split
  .grind[addS]
  .rename_i hne
   have h2:=A3W hne;generalize stopL b fr (54-s.Li.length)=tz at h2 |-;obtain⟨h3,h4⟩:=AgO b (addS s (partL' b fr tz));have:=ApU hb f tz _ h4
   grind[addS]
def costP(bs:List Bl):Nat:=(bs.map fun b=>72+b.Lb.length).sum
theorem layTo_few{bs:List Bl}(hb:∀ b∈bs,AhI b):∀ i,i<=bs.length->36*(layTo bs i).Lh.length<=costP (bs.take i)
 | 0,_=>by grind[layTo]
 | i+1,hi=>by
  have ih:=layTo_few hb i (by omega);have hl:i<bs.length:=by omega
  have h1:=BaY (hb _ (lac hl)) (bs[i].Lb.length+1) 0 (openS bs i bs[i] (layTo bs i));have h2:(openS bs i bs[i] (layTo bs i)).Lh.length<=(layTo bs i).Lh.length+1:=by
   grind[openS,gapS,firstS,turnS,flushS]
  grind[costP,laf,layTo]
theorem A8E{bs:List Bl}(hb:∀ b∈bs,AhI b):36*(layL bs).Lh.length<=costP bs+36:=by
 grind[layTo_few,layL,flushS]
theorem A8F{p:Pa}(hp:DrawnP p)(hj:joins p=false):AhI (newB p)/\72+(newB p).Lb.length<=36*pwP p.kind:=by
 have hok:=hp.ok;simp only[paraOk,lae,lag]at hok;simp only[joins,lch,lbe]at hj;unfold newB
 by_cases k1:p.kind=1
 .have hw:=AhH (W:=60) (by omega) p.text
  simp only[k1,lbl,if_true,pwP];exact⟨.inl rfl,by grind⟩
 .by_cases k5:p.kind=5
  .simp only [k5,show((5:Int)==1)=false from rfl,lbl,lan,if_false,if_true,pwP]
   exact⟨.inr (.inr (by simp)),by simp⟩
  .have k2:p.kind=2:=by omega
   simp only[k2,show((2:Int)==1)=false from rfl,show((2:Int)==5)=false from rfl,lan,if_false,pwP];exact⟨.inr (.inr (by simp)),by simp⟩
def CurB(e:Int)(b:Bl):Prop:=(e=2\/e=3\/e=4->b.kind=3/\b.kinds.length=b.Lb.length/\∃ m,b.kinds.foldl scK (some 0)=some m/\(e=2->m<=1)/\(e=4->m=0))/\AhI b
theorem BxL{p:Pa}(hp:DrawnP p)(hj:joins p=false):CurB p.kind (newB p):=by
 refine⟨fun h=>?_,(A8F hp hj).1⟩;simp only[joins,lch,lbe]at hj;have k2:p.kind=2:=by omega
 simp only[newB,k2,show((2:Int)==1)=false from rfl,show((2:Int)==5)=false from rfl,lan,if_false];exact⟨trivial,rfl,1,rfl,fun _=>lad _,fun h=>absurd h (by omega)⟩
theorem BqI{p:Pa}(hp:DrawnP p)(hj:joins p=true){e:Int}{b:Bl}(h:CurB e b)(hf:followsL p.kind e=true):CurB p.kind (moreB b p)/\(moreB b p).Lb.length<=b.Lb.length+36*pwP p.kind:=by
 have hok:=hp.ok;simp only[paraOk,lae,lag]at hok;simp only[joins,lbj,lbr]at hj;unfold moreB addB
 rcases hj with k3|k4
 .simp only [k3,followsL,lbl,if_true,lbj,lbr]at hf
  obtain⟨b1,b2,m,b3,b4,b5⟩:=h.1 (by omega);have hw:=AhH (W:=30) (by omega) (asideT p.text);have ht:(asideT p.text).length=p.text.length+2:=by simp[asideT]
  have hl4:p.text.length<=200:=by
   grind
  have hm:m<=1:=by omega
  simp only[k3,lbl,if_true,pwP];have hfold:=A8C (wrapL 30 (asideT p.text)).length m (by omega);have hfull:(b.kinds++List.replicate (wrapL 30 (asideT p.text)).length (1:Int)).foldl scK (some 0)=some (m+(wrapL 30 (asideT p.text)).length):=by grind
  refine⟨⟨fun _=>⟨b1,by simp[b2],_,hfull,by omega,by omega⟩,.inr (.inl ⟨b1,by simp[b2],_,hfull⟩)⟩,?_⟩<;>grind
 .have hf':e=2\/e=3\/e=4:=by
   grind[followsL]
  obtain⟨b1,b2,m,b3,b4,b5⟩:=h.1 hf';have hw:=AhH (W:=35) (by omega) p.text;have hs:=AfT (W:=35) (by omega) hp.text.ne hp.text.hd;simp only[k4,show((4:Int)==3)=false from rfl,lan,if_false,pwP];have hfull:(b.kinds++List.replicate (wrapL 35 p.text).length (2:Int)).foldl scK (some 0)=some 0:=by grind[BqG]
  refine⟨⟨fun _=>⟨b1,by simp[b2],_,hfull,by omega,fun _=>rfl⟩,.inr (.inl ⟨b1,by simp[b2],_,hfull⟩)⟩,?_⟩<;>grind
theorem ApV:∀ (ps:List Pa)(s:List Bl×Bl)(e e':Int),(∀ p∈ps,DrawnP p)->runL e ps=some e'->CurB e s.2->(∀ b∈s.1,AhI b) ->
  (∀ b∈(ps.foldl bstep s).1++[(ps.foldl bstep s).2],AhI b)/\costP ((ps.foldl bstep s).1++[(ps.foldl bstep s).2])<=costP (s.1++[s.2])+36*wtL ps
 | [],s,e,e',_,_,h,hs=>by
  refine⟨fun b hb=>?_,by grind⟩
  rcases List.mem_append.1 hb with hb|hb
  .grind
  .rw [List.mem_singleton.1 hb]; exact h.2
 | p::r,s,e,e',hd,hr,h,hs=>by
  have hp:=hd p (by simp);simp only[runL]at hr
  split at hr
  .rename_i hc
   simp at hc
   have hw:wtL (p::r)=pwP p.kind+wtL r:=by simp[wtL]
   cases hj:joins p with
   | true =>
    obtain⟨c1,c2⟩:=BqI hp hj h hc.2;have e1:bstep s p=(s.1,moreB s.2 p):=by grind[bstep]
    obtain⟨a1,a2⟩:=ApV r (bstep s p) p.kind e' (fun q hq=>hd q (by simp[hq])) hr (by rw[e1]; exact c1) (by rw[e1]; exact hs);refine⟨by exact a1,?_⟩;refine lcl a2 ?_;rw[e1];simp only[costP,lak,lal,las,List.sum_append,List.sum_cons,List.sum_nil,Nat.mul_add];omega
   | false =>
    have c1:=BxL hp hj;have c2:=(A8F hp hj).2;have e1:bstep s p=(s.1++[s.2],newB p):=by grind[bstep]
    obtain⟨a1,a2⟩:=ApV r (bstep s p) p.kind e' (fun q hq=>hd q (by grind)) hr (by grind) (by
     rw[e1]; intro b hb
     rcases List.mem_append.1 hb with hb|hb
     .grind
     .rw [List.mem_singleton.1 hb]; exact h.2)
    grind[costP]
  grind
theorem A3X:([0,1,2,3].all fun p=>decide ((AmC p).length<=9))=true:=by decide
theorem BaZ:([0,1,2,3,4,5].all fun p=>decide ((AyZ p).length<=5))=true:=by decide
theorem BiF:(SetL.all fun t=>decide (t.length<=12))=true:=by decide +kernel
theorem BqJ{x:Sc}(h:SceneD x):(wrapL 60 (headL x)).length<=36:=by
 have h1:=AhG h.no;have h2:=List.all_eq_true.1 BiF x.set h.set;have h3:(AmC x.place).length<=9:=by
  have hp:=h.place
  grind[A3X]
 have h4:(AyZ x.time).length<=5:=by
  have hp:=h.time
  grind[BaZ]
 have h5:(headLine x).length<=40:=by grind[headLine]
 have h6:(headL x).length<=1041:=by
  grind[headL]
 have:=AhH (W:=60) (by omega) (headL x);omega
theorem AzJ{x:Sc}(h:SceneD x):(∀ b∈blocksL x,AhI b)/\costP (blocksL x)<=108+36*wtL x.Ld:=by
 obtain⟨e,hr,_,_⟩:=h.run;have hh:=BqJ h;have hg:AhI ⟨0,wrapL 60 (headL x),[],[]⟩:=.inr (.inr (by grind));obtain⟨a1,a2⟩:=ApV x.Ld ([],⟨0,wrapL 60 (headL x),[],[]⟩) 0 e h.all hr ⟨by omega,hg⟩ (by simp);refine⟨a1,lcl a2 ?_⟩<;>grind[costP]
theorem costP_append(a b:List Bl):costP (a++b)=costP a+costP b:=by simp[costP]
theorem ApW(xs:List Sc)(hx:∀ x∈xs,SceneD x)(h5:xs.length<=5):∀ nos:List LU,nos.length<=5->(∀ n∈nos,∃ x,atNo xs n=some x)->(layL (entsB xs nos)).Lh.length<=999:=by
 intro nos hn ha;have key:∀ l:List LU,(∀ n∈l,∃ x,atNo xs n=some x)->(∀ b∈entsB xs l,AhI b)/\costP (entsB xs l)<=(108+36*143)*l.length:=by
  intro l
  induction l with
  | nil=>grind[entsB,costP]
  | cons n r ih =>
   intro h;obtain⟨x,hx'⟩:=h n (by simp);have hd:=hx x (AgM hx').1;obtain⟨s1,s2⟩:=AzJ hd;have hw:=hd.wt
   grind[entsB,entB,costP_append]
 obtain⟨k1,k2⟩:=key nos ha;have:=A8E k1;omega
def lvsTo(pg:List (List Ln))(fi:List LU)(i:Nat):List Le':=(List.range i).map fun(k:Nat)=>⟨Lib.itoa ((k:Int)+1),1,fi.getD k [],pg.getD k []⟩
theorem BbA(pg:List (List Ln))(fi:List LU)(i:Nat):lvsTo pg fi (i+1)=lvsTo pg fi i++[⟨Lib.itoa ((i:Int)+1),1,fi.getD i [],pg.getD i []⟩]:=by
 grind[lvsTo,List.range_succ]
theorem AfU(pg:List (List Ln))(fi:List LU)(i:Nat):(lvsTo pg fi i).length=i:=by simp[lvsTo]
def lockL(xs:List Sc):List Le':=lvsTo (layL (entsB xs (nosL xs))).Lh (firstsI xs (nosL xs)) (layL (entsB xs (nosL xs))).Lh.length
theorem AsY(l:List Le'):(flat (l.map leA)).all Av.frozen=true:=by
 induction l<;>grind[flat,cellsOf,leA,Av.frozen]
theorem A3Y(n:Nat)(l:List Le'):lowB n (.arr 4 (l.map leA))=true:=AaD (AsY l)
theorem ApX{xs:List Sc}{n:LU}(h:n∈nosL xs):∃ x,atNo xs n=some x:=by
 obtain⟨y,hy,rfl⟩:=List.mem_map.1 h;unfold atNo
 cases hq:xs.find? (fun x=>x.no==y.no)<;>grind
structure StoryD(xs:List Sc):Prop where
 sc:∀ x∈xs,SceneD x
 num:∀ x∈xs,numberL x.no=true
 rise:(nosL xs).Pairwise nLt
 few:xs.length<=5
theorem StoryD.ent{xs:List Sc}(h:StoryD xs)(no:Int)(ti:LU)(lv:List Le'):EntOf ⟨no,ti,xs,[],lv⟩ (nosL xs):=by
 refine⟨by simp,h.rise,fun n hn=>?_⟩;obtain⟨y,hy,rfl⟩:=List.mem_map.1 hn;exact h.num y hy
theorem StoryD.md{xs:List Sc}(h:StoryD xs):MdOk xs (nosL xs):=by
 have:=h.few;refine⟨h.sc,h.rise.imp fun hlt e=>by grind[nLt_irrefl],by omega,by grind[nosL],fun n hn=>?_⟩;obtain⟨y,hy,rfl⟩:=List.mem_map.1 hn;exact h.num y hy
theorem BxM(σ:List Nat)(xs:List Sc):(xs.map scA).map (renC σ)=xs.map scA:=by
 rw[lbi];exact lbg fun s _=>rfl
theorem index_no{c:UInt8}:∀ l:LU,(∀ x∈l,x≠c)->Lib.index l [c]=-1
 | [],_=>rfl
 | b::l,h=>by
  have hb:(c==b)=false:=by simpa using fun e=>h b (by simp) e.symm
  have ih:=index_no l fun x hx=>h x (by simp[hx])
  simp[Lib.index,List.isPrefixOf,hb,ih]
theorem AsZ{c:UInt8}(b:LU):∀ a:LU,(∀ x∈a,x≠c)->Lib.index (a++c::b) [c]=(a.length:Int)
 | [],_=>by grind[Lib.index]
 | x::a,h=>by
  have hb:(c==x)=false:=by simpa using fun e=>h x (by simp) e.symm
  have ih:=AsZ b a fun y hy=>h y (by simp[hy])
  have hn:((a.length:Int)==-1)=false:=by
   rw[lbe]; omega
  simp only[lbb,Lib.index,List.isPrefixOf,hb,ih,Bool.false_and,lan,if_false,hn,lam];omega
theorem AkJ(p:UInt8->Bool):∀ (l:LU)(x:UInt8),x∈l.takeWhile p->p x=true
 | [],x,h=>by simp_all
 | a::l,x,h=>by
  rw[List.takeWhile_cons]at h
  split at h
  .rcases List.mem_cons.1 h with rfl|h
   .assumption
   .exact AkJ p l x h
  .simp at h
theorem ApY{a:LU}(h:numberL a=true):∀ x∈a,x≠45:=by
 intro x hx e;subst e;rw[AbF a]at hx
 rcases List.mem_append.1 hx with hx|hx
 .exact absurd (AkJ digB a 45 hx) (by decide)
 .exact absurd (List.all_eq_true.1 (AaZ h).2.2.2 45 hx) (by decide)
theorem A3Z{a:LU}(h:numberL a=true):Lib.cut a [45]=(a,[],false):=by
 grind[Lib.cut,index_no,ApY]
theorem cut_two{a:LU}(h:numberL a=true)(b:LU):Lib.cut (a++45::b) [45]=(a,b,true):=by
 unfold Lib.cut;rw[AsZ b a (ApY h),if_pos (by omega)]
 simp
theorem AvT{a:LU}(h:numberL a=true):endsL a=(a,a):=by grind[endsL,A3Z]
theorem BqK{a:LU}(h:numberL a=true)(b:LU):endsL (a++45::b)=(a,b):=by grind[endsL,cut_two]
theorem leafName_one{a:LU}(h:numberL a=true):leafNameL a=true:=by grind[leafNameL,A3Z]
theorem AmE{a b:LU}(h:numberL a=true)(h':numberL b=true)(hl:nLt a b):leafNameL (a++45::b)=true:=by
 grind[leafNameL,cut_two,compareN_lt]
theorem num_ne{a:LU}(h:numberL a=true):a≠[]:=fun e=>by subst e; exact absurd h (by decide)
theorem A8G{a b:LU}(ha:a=[]\/numberL a=true):∀ f n,f+n<=6->btw a b f n≠[]->numberL (btw a b f n)=true/\(a=[]\/nLt a (btw a b f n))/\(b=[]\/nLt (btw a b f n) b)
 | 0,n,_,h=>absurd rfl h
 | f+1,n,hn,h=>by
  simp only[btw]at h |-
  split
  .rename_i hf
   simp only[fitsB,lae,bne_iff_ne,ne_eq,lbj,lbr,lag]at hf;obtain⟨h1,h2⟩:=BaO ha (by omega) hf.1;exact⟨h1,h2,hf.2.imp id compareN_lt.1⟩
  .rename_i hf
   rw[if_neg hf]at h;exact A8G ha f (n+1) (by omega) h
theorem AdD{a b:LU}(ha:a=[]\/numberL a=true)(h:AaS a b≠[]):numberL (AaS a b)=true/\(a=[]\/nLt a (AaS a b))/\(b=[]\/nLt (AaS a b) b):=A8G ha 6 0 (by omega) h
def lastN(out:List LU)(last:LU):LU:=if out=[] then last else(endsL (out.getD (out.length-1) [])).2
def AhJ(upper last:LU):Nat->List LU->Option (List LU)
 | 0,out=>some out
 | n+1,out=>if AaS (lastN out last) upper=[] then none else AhJ upper last n (out++[AaS (lastN out last) upper])
def joinN(had:List LU)(many:Nat):LU:=(endsL (had.getD (many-1) [])).1++45::(endsL (had.getD (had.length-1) [])).2
def ApZ(had:List LU)(many:Nat)(last upper:LU):Option (List LU) :=
 if many<had.length then some ((had.take many).set (many-1) (joinN had many))
 else AhJ upper last (many-had.length) had
def aboveP(last:LU)(no:LU):Bool:=last==[]||decide (compareN no last>0)
def sc0:Sc:=⟨[],0,[],0,[]⟩
def upF(E:List LU)(last:LU):LU:=match E.find? (aboveP last)with
 | some e=>e
 | none=>[]
def lastY(ys:List Sc):LU:=if ys=[] then[] else(ys.getD (ys.length-1) sc0).no
def AqZ(E:List LU)(last:LU)(x:Sc):LU:=if x.no=[] then AaS last (upF E last) else x.no
def ysTo(E:List LU)(xs:List Sc):Nat->List Sc
 | 0=>[]
 | i+1=>ysTo E xs i++[{ xs.getD i sc0 with no:=AqZ E (lastY (ysTo E xs i)) (xs.getD i sc0) }]
theorem AiG(E:List LU)(xs:List Sc):∀ i,(ysTo E xs i).length=i
 | 0=>rfl
 | i+1=>by simp[ysTo,AiG E xs i]
def AcC(xs:List Sc):Nat->LU
 | 0=>[]
 | i+1=>if(xs.getD i sc0).no=[] then AcC xs i else(xs.getD i sc0).no
def RunS(xs:List Sc)(E:List LU)(i:Nat):Prop:=∀ j,j<i->(xs.getD j sc0).no≠[]->(xs.getD j sc0).no∈E/\(AcC xs j=[]\/nLt (AcC xs j) (xs.getD j sc0).no)
theorem BiG{xs:List Sc}{E:List LU}{i:Nat}(h:RunS xs E i)(h0:(xs.getD i sc0).no=[]):RunS xs E (i+1):=fun j hj hn=>by
 by_cases e:j=i
 .grind
 .exact h j (by omega) hn
theorem A8H{xs:List Sc}{E:List LU}{i:Nat}(h:RunS xs E i)(hm:(xs.getD i sc0).no∈E)(hl:AcC xs i=[]\/nLt (AcC xs i) (xs.getD i sc0).no):RunS xs E (i+1):=fun j hj hn=>by
 by_cases e:j=i
 .grind
 .exact h j (by omega) hn
structure RenI(E:List LU)(xs:List Sc)(i:Nat):Prop where
 num:∀ y∈ysTo E xs i,numberL y.no=true
 rise:(nosL (ysTo E xs i)).Pairwise nLt
 gap:∀ e∈E,(AcC xs i=[]\/nLt (AcC xs i) e)->lastY (ysTo E xs i)=[]\/nLt (lastY (ysTo E xs i)) e
theorem AlS(ys:List Sc)(y:Sc):lastY (ys++[y])=y.no:=by
 simp_all[lastY]
theorem AzK{ys:List Sc}(h:∀ y∈ys,numberL y.no=true):lastY ys=[]\/numberL (lastY ys)=true:=by
 grind[lastY,List.length_pos_iff]
theorem lastY_top{ys:List Sc}(h:(nosL ys).Pairwise nLt){y:Sc}(hy:y∈ys):y.no=lastY ys\/nLt y.no (lastY ys):=by
 grind[List.mem_iff_getElem,lastY,lcc,nosL]
theorem BiH{ys:List Sc}(h:(nosL ys).Pairwise nLt){y:Sc}(hy:lastY ys=[]\/nLt (lastY ys) y.no)(hn:∀ z∈ys,numberL z.no=true):(nosL (ys++[y])).Pairwise nLt:=by
 simp only[nosL,lak,lal,las];refine List.pairwise_append.2 ⟨h,by simp,fun a ha b hb=>?_⟩<;>grind[lastY_top,num_ne,lastY,nLt_trans]
theorem above_iff{last e:LU}:aboveP last e=true ↔ last=[]\/nLt last e:=by
 grind[aboveP,ApC]
theorem B0Z{E:List LU}(hE:E.Pairwise nLt){last e:LU}(he:e∈E)(h:last=[]\/nLt last e):upF E last∈E/\(upF E last=e\/nLt (upF E last) e):=by
 unfold upF
 grind[above_iff,List.find?_eq_some_iff_getElem,List.mem_iff_getElem,lcc]
theorem BxN{E:List LU}(hE:∀ e∈E,numberL e=true)(last:LU):upF E last=[]\/numberL (upF E last)=true:=by
 grind[upF]
theorem AzL{xs:List Sc}{E:List LU}(hE:∀ e∈E,numberL e=true):∀ {i:Nat},RunS xs E i->AcC xs i=[]\/numberL (AcC xs i)=true
 | 0,_=>.inl rfl
 | i+1,h=>by
  unfold AcC
  split
  .exact AzL hE fun j hj hn=>h j (by omega) hn
  .rename_i hn
   exact .inr (hE _ (h i (by omega) hn).1)
theorem ren_start{E:List LU}{xs:List Sc}:RenI E xs 0:=⟨by simp[ysTo],by simp[ysTo,nosL],fun e _ _=>.inl (by grind[ysTo,lastY])⟩
theorem BqL{E:List LU}{xs:List Sc}{i:Nat}(hE:E.Pairwise nLt)(hn:∀ e∈E,numberL e=true)(hr:RunS xs E (i+1))(h:RenI E xs i)(hne:AqZ E (lastY (ysTo E xs i)) (xs.getD i sc0)≠[]):RenI E xs (i+1):=by
 have hln:=AzK h.num;have key:numberL (AqZ E (lastY (ysTo E xs i)) (xs.getD i sc0))=true/\(lastY (ysTo E xs i)=[]\/nLt (lastY (ysTo E xs i)) (AqZ E (lastY (ysTo E xs i)) (xs.getD i sc0))) /\
   (∀ e∈E,(AcC xs (i+1)=[]\/nLt (AcC xs (i+1)) e)->nLt (AqZ E (lastY (ysTo E xs i)) (xs.getD i sc0)) e):=by
  unfold AqZ at hne |-
  by_cases h0:(xs.getD i sc0).no=[]
  .rw [if_pos h0]at hne |-
   obtain⟨b1,b2,b3⟩:=AdD hln hne;refine⟨b1,b2,fun e he hs=>?_⟩;have e1:AcC xs (i+1)=AcC xs i:=by grind[AcC]
   rw[e1]at hs;obtain⟨u1,u2⟩:=B0Z hE he (h.gap e he hs)
   grind[num_ne,nLt_trans]
  .rw [if_neg h0]
   obtain⟨r1,r2⟩:=hr i (by omega) h0;have e1:AcC xs (i+1)=(xs.getD i sc0).no:=by grind[AcC]
   refine⟨hn _ r1,h.gap _ r1 r2,fun e he hs=>?_⟩<;>grind
 obtain⟨k1,k2,k3⟩:=key;refine⟨fun y hy=>?_,?_,fun e he hs=>?_⟩
 .simp only [ysTo,lcb,List.mem_singleton]at hy
  rcases hy with hy|rfl
  .exact h.num y hy
  omega
 .exact BiH h.rise k2 h.num
 grind[ysTo,AlS]
def Lm(E:List LU)(ys:List Sc):List LU:=E.filter fun e=>decide (e ∉ nosL ys)
theorem BbB(E:List LU)(ys:List Sc)(i:Nat)(h:i<E.length):Lm (E.take (i+1)) ys=if E[i]∈nosL ys then Lm (E.take i) ys else Lm (E.take i) ys++[E[i]]:=by
 grind[laf,Lm]
theorem BiI(E:List LU)(ys:List Sc):(Lm E ys).length<=E.length:=List.length_filter_le _ _
def drZ:AV:=.agg [.int .i64 0,.str [],.raw (.slice none 0 0),.raw (.slice none 0 0),.raw (.slice none 0 0)]
theorem BiJ(Y:List Sc)(x:Sc)(r:List Sc):List.getD ((Y++x::r).map scA) Y.length .any=.agg [.str x.no,.int .i64 x.place,.str x.set,.int .i64 x.time,.fz 2 (x.Ld.map paA)]:=by grind[scA]
theorem BxO(Y:List Sc)(x:Sc)(r:List Sc)(no':LU):((Y++x::r).map scA).set Y.length (.agg [.str no',.int .i64 x.place,.str x.set,.int .i64 x.time,.fz 2 (x.Ld.map paA)])=((Y++[{ x with no:=no' }])++r).map scA:=by simp[scA]
theorem BqM(Y:List Sc)(x:Sc)(r:List Sc):List.getD ((Y++[x]++r).map scA) Y.length .any=.agg [.str x.no,.int .i64 x.place,.str x.set,.int .i64 x.time,.fz 2 (x.Ld.map paA)]:=by
 grind[BiJ]
theorem BxP(n:Nat)(l:List Sc):lowB n (.arr 5 (l.map scA))=true:=AaD (AaF l)
