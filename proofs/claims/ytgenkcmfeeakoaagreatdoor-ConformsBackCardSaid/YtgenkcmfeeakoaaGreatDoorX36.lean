/- The leaves of the next draft are right: plain law. -/
import Derived.Test.YtgenkcmfeeakoaaGreatDoorX35
set_option maxRecDepth 100000
set_option linter.all false
namespace Go.Proofs.YtgenkcmfeeakoaaGreatDoor
open Av RowKit
section
variable {α β:Type}
def offP(g:α->List β)(ps:List α)(m:Nat):Nat:=((ps.take m).flatMap g).length
theorem AqH{g:α->List β}{ps:List α}{m:Nat}(h:m<ps.length):offP g ps (m+1)=offP g ps m+(g ps[m]).length:=by
 grind[offP,laf]
theorem AdE{g:α->List β}{ps:List α}:∀ {j i:Nat},i<=j->j<=ps.length->offP g ps i<=offP g ps j
 | 0,i,h,_=>by
  grind
 | j+1,i,h,hj=>by
  by_cases e:i=j+1
  .subst e; exact lad _
  .have:=AdE (g:=g) (ps:=ps) (show i<=j by omega) (by omega)
   have:=AqH (g:=g) (show j<ps.length by omega);omega
theorem offP_end(g:α->List β)(ps:List α):offP g ps ps.length=(ps.flatMap g).length:=by grind[offP]
theorem AvX{g:α->List β}{ps:List α}(hne:∀ q∈ps,g q≠[]){i j:Nat}(h:i<j)(hj:j<=ps.length):offP g ps i<offP g ps j:=by
 have h1:=AqH (g:=g) (show i<ps.length by omega);have h2:=List.length_pos_iff.2 (hne _ (lac (show i<ps.length by omega)));have h3:=AdE (g:=g) (show i+1<=j by omega) hj;omega
theorem BxY(g:α->List β):∀ (ps:List α)(j:Nat),j<(ps.flatMap g).length->∃ m,m<ps.length/\offP g ps m<=j/\j<offP g ps (m+1)
 | ps,j,h=>by
  have key:∀ n,n<=ps.length->j<offP g ps n->∃ m,m<n/\offP g ps m<=j/\j<offP g ps (m+1):=by
   intro n
   induction n<;>grind[offP]
  simp_all[offP_end]
theorem AvY{g:α->List β}{ps:List α}{m:Nat}(h:m<ps.length):((ps.flatMap g).take (offP g ps (m+1))).drop (offP g ps m)=g ps[m]:=by
 have e:ps.flatMap g=((ps.take m).flatMap g++g ps[m])++(ps.drop (m+1)).flatMap g:=by
  conv=>lhs; rw[<- lbs (m+1) ps,List.flatMap_append,laf h,List.flatMap_append]
  simp
 grind[offP,AqH]
theorem AvZ{g:α->List β}{ps:List α}{m j:Nat}(h:m<ps.length)(h1:offP g ps m<=j)(h2:j<offP g ps (m+1)):(ps.flatMap g)[j]? = (g ps[m])[j-offP g ps m]?:=by
 rw[<- AvY (g:=g) h,List.getElem?_drop,lce,show offP g ps m+(j-offP g ps m)=j by omega,if_pos h2]
end
theorem AzT(pg:List (List Ln))(fi:List LU)(h:fi.length=pg.length):(List.range pg.length).map (fun k=>(pg.getD k [],fi.getD k []))=pg.zip fi:=by
 apply List.ext_getElem
 all_goals grind
def pr(f:Le'):List Ln×LU:=(f.Lb,f.first)
theorem BxZ(no:Int)(g fi:List LU)(pg:List (List Ln))(h:fi.length=pg.length):(mkLv no g fi pg pg.length).map pr=pg.zip fi:=by
 unfold mkLv;rw[lbi];exact AzT pg fi h
theorem BiW{ys:List Sc}{E:List LU}{lv:List Le'}{no:Int}:∀ (k:Nat)(s:LU×List Le'),relTo ys E lv no k=some s->s.2.map pr=(List.range k).flatMap fun k=>pfL ys (sgI E lv k)
 | 0,s,h=>by
  grind[relTo]
 | k+1,s,h=>by
  simp only[relTo]at h
  cases hq:relTo ys E lv no k with
  | none=>grind
  | some t =>
   rw[hq]at h;have ih:=BiW k t hq;simp only[BbC]at h;rw[List.range_succ,List.flatMap_append,<- ih]
   simp
   split at h
   .simp_all[pfL,sgI,entsB,A4D]
   .split at h
    .grind
    .simp at h
     subst h
     simp
     rw[BxZ _ _ _ _ (by grind[firstsI,pgI',firsts_pages])];rfl
theorem AzU{ys:List Sc}{E:List LU}{lv:List Le'}(h:RelOk ys E lv):∀ i,(List.range i).flatMap (fun k=>sgI E lv k)=E.take (stI E lv i)
 | 0=>by simp[stI]
 | i+1=>by
  rw[List.range_succ,List.flatMap_append,AzU h i]
  simp
  rw[sgI,<- BqP E (A8I h).1]
theorem BiX{ys:List Sc}{E:List LU}{lv:List Le'}{no:Int}(h:RelOk ys E lv){la:LU}{l:List Le'}(hl:relTo ys E lv no ((AaC lv).length+1)=some (la,l)) :
  ∃ ps:List (List LU),ps.flatten=E/\l.map pr=ps.flatMap (pfL ys)/\∀ q∈ps,Part ys q:=by
 have h1:=BiW _ _ hl;have h2:=AzU h ((AaC lv).length+1);rw[stI_end,laz]at h2
 suffices H:∀ n,∃ ps:List (List LU),ps.flatten=(List.range n).flatMap (fun k=>sgI E lv k)/\(List.range n).flatMap (fun k=>pfL ys (sgI E lv k))=ps.flatMap (pfL ys)/\∀ q∈ps,Part ys q by
  obtain⟨ps,a1,a2,a3⟩:=H ((AaC lv).length+1)
  grind
 intro n
 induction n with
 | zero=>grind
 | succ n ih =>
  obtain⟨qs,b1,b2,b3⟩:=AnA _ (sgI E lv n) (lad _) (BiN h n)
  grind[List.range_succ]
theorem BiY{E:List LU}(hE:E.Pairwise nLt){i:Nat}(h:i<E.length):ixN E E[i]=i:=by
 obtain⟨h1,h2,_⟩:=AiP (lac h)
 grind[lcc,nLt_irrefl]
theorem pf_fst(xs:List Sc)(nos:List LU):(pfL xs nos).map (·.1)=(layL (entsB xs nos)).Lh:=by
 grind[pfL,List.map_fst_zip,firstsI,firsts_pages]
theorem B1D{d:Dr}{E:List LU}(hE:E.Pairwise nLt)(hn:∀ e∈E,numberL e=true){ps:List (List LU)}(h1:ps.flatten=E)(h2:d.La.map pr=ps.flatMap (pfL d.Lc))(h3:∀ q∈ps,Part d.Lc q):LvOk d E:=by
 have hfl:ps.flatMap id=E:=by simp_all
 have hpn:∀ q∈ps,pfL d.Lc q≠[]:=fun q hq e=>by
  obtain⟨p,t,hp,_⟩:=(h3 q hq).head
  grind
 have hqn:∀ q∈ps,(id q)≠[]:=fun q hq=>(h3 q hq).ne
 have hlen:d.La.length=(ps.flatMap (pfL d.Lc)).length:=by grind
 have hEl:E.length=(ps.flatMap id).length:=by grind
 have hhead:∀ m,(hm:m<ps.length)->∃ he:offP id ps m<E.length,E[offP id ps m]=ps[m].getD 0 []:=fun m hm=>by
  have hlt:=AvX hqn (show m<m+1 by omega) hm;have hle:=AdE (g:=id) (show m+1<=ps.length by omega) (lad _);rw[offP_end]at hle;have he:offP id ps m<E.length:=by omega
  refine⟨he,?_⟩;have hg:=AvZ hm (lad _) hlt
  grind
 have hfst:∀ j,j<d.La.length->(d.La.map pr)[j]? = some (pr (d.La.getD j le0)):=fun j hj=>by grind
 have hanch:∀ m,(hm:m<ps.length)->offP (pfL d.Lc) ps m<d.La.length/\fst d.La (offP (pfL d.Lc) ps m)=ps[m].getD 0 []:=fun m hm=>by
  have hlt:=AvX hpn (show m<m+1 by omega) hm;have hle:=AdE (g:=pfL d.Lc) (show m+1<=ps.length by omega) (lad _);rw[offP_end]at hle;have hj:offP (pfL d.Lc) ps m<d.La.length:=by omega
  refine⟨hj,?_⟩;have hg:=AvZ hm (lad _) hlt;rw[<- h2,hfst _ hj,Nat.sub_self]at hg;obtain⟨p,t,hp,_⟩:=(h3 _ (lac hm)).head;rw[hp]at hg;simp only[List.getElem?_cons_zero,lao,pr,lck]at hg;exact hg.2
 have hback:∀ j,j<d.La.length->fst d.La j≠[]->∃ m,∃ hm:m<ps.length,j=offP (pfL d.Lc) ps m:=fun j hj hne=>by
  obtain⟨m,hm,a1,a2⟩:=BxY (pfL d.Lc) ps j (by omega);refine⟨m,hm,?_⟩;have hg:=AvZ hm a1 a2;rw[<- h2,hfst _ hj]at hg;obtain⟨p,t,hp,ht⟩:=(h3 _ (lac hm)).head;rw[hp]at hg
  by_cases e:j=offP (pfL d.Lc) ps m
  .exact e
  .exfalso
   obtain⟨q,hq⟩:∃ q,j-offP (pfL d.Lc) ps m=q+1:=⟨j-offP (pfL d.Lc) ps m-1,by omega⟩;rw[hq,List.getElem?_cons_succ]at hg;have hmem:=lar hg.symm;exact hne (ht _ hmem)
 refine⟨?_,?_,?_,?_,?_⟩
 .constructor
  .intro e
   cases ps<;>grind
  .intro e
   cases ps<;>grind
 .intro hne
  cases ps with
  | nil=>grind
  | cons q r =>
   have:=(hanch 0 (by simp)).2;have h0:offP (pfL d.Lc) (q::r) 0=0:=by simp[offP]
   grind
 .grind
 .intro i j hij hj hi0 hj0
  obtain⟨m,hm,rfl⟩:=hback i (by omega) hi0;obtain⟨m',hm',rfl⟩:=hback j hj hj0;rw[(hanch m hm).2,(hanch m' hm').2];obtain⟨he,he2⟩:=hhead m hm;obtain⟨he',he2'⟩:=hhead m' hm';rw[<- he2,<- he2'];have hmm:m<m':=by
   by_cases e:m<m'
   .exact e
   .have:=AdE (g:=pfL d.Lc) (ps:=ps) (show m'<=m by omega) (by omega)
    omega
  exact List.pairwise_iff_getElem.1 hE _ _ he he' (AvX hqn hmm (by omega))
 .intro k hk
  have hr:=(AcQ d.La).one k hk;have hnx:=fun h=>AzI hk h
  generalize rat (AaC d.La) k=r at *;obtain⟨r1,r2⟩:=r;simp only at hr hnx |-;obtain⟨hr1,hr2,hr3,hr4⟩:=hr;obtain⟨m,hm,e1⟩:=hback r1 (by omega) hr3;have hlt:=AvX hpn (show m<m+1 by omega) hm;have hle:=AdE (g:=pfL d.Lc) (show m+1<=ps.length by omega) (lad _);rw[offP_end]at hle;have e2:r2=offP (pfL d.Lc) ps (m+1):=by
   have up:r2<=offP (pfL d.Lc) ps (m+1):=by
    by_cases hm1:m+1<ps.length
    .have ha:=hanch (m+1) hm1
     by_cases hc:r2<=offP (pfL d.Lc) ps (m+1)
     .omega
     .have:=hr4 _ (by omega) (show offP (pfL d.Lc) ps (m+1)<r2 by omega)
      rw[ha.2]at this;obtain⟨he,he2⟩:=hhead (m+1) hm1
      grind[num_ne,lac]
    grind[offP_end]
   by_cases hlt2:r2<d.La.length
   .obtain ⟨m',hm',e3⟩:=hback r2 hlt2 (hnx hlt2)
    have:m<m':=by
     by_cases e:m<m'
     .exact e
     .have:=AdE (g:=pfL d.Lc) (ps:=ps) (show m'<=m by omega) (by omega)
      omega
    have:=AdE (g:=pfL d.Lc) (ps:=ps) (show m+1<=m' by omega) (by omega);omega
   omega
  have hx1:ixN E (fst d.La r1)=offP id ps m:=by
   grind[BiY]
  have hx2:(if r2<d.La.length then ixN E (fst d.La r2) else E.length)=offP id ps (m+1):=by
   grind[offP_end,BiY]
  unfold segE;simp only;rw[hx1,hx2];have hsE:=AvY (g:=id) hm;rw[hfl]at hsE;rw[hsE];have hsL:=AvY (g:=pfL d.Lc) hm;rw[<- h2,<- e1,<- e2,<- lco,<- List.map_drop]at hsL;have:=congrArg (List.map (·.1)) hsL;rw[pf_fst,lbi]at this;exact this.symm
end Go.Proofs.YtgenkcmfeeakoaaGreatDoor
namespace Go.Proofs.YtgenkcmfeeakoaaGreatDoor
open Av RowKit
def fstE(g:List LU):LU:=(endsL (g.getD 0 [])).1
def lstE(g:List LU):LU:=(endsL (g.getD (g.length-1) [])).2
theorem BiZ(l:List LU)(x:LU):(l++[x]).getD ((l++[x]).length-1) []=x:=by simp
theorem AtG{l:List LU}{x:LU}(hh:∀ n∈l,leafNameL n=true)(h:AeP l)(hx:l=[]\/nLt (lstE l) (endsL x).1):AeP (l++[x]):=by
 unfold AeP at h |-;refine List.pairwise_append.2 ⟨h,by simp,fun a ha b hb=>?_⟩<;>grind[List.mem_iff_getElem,lstE,lcc,ends_num,nLt_trans]
theorem AqI{upper last:LU}(hl:last=[]\/numberL last=true):∀ (n:Nat)(out g:List LU),(∀ x∈out,leafNameL x=true)->AeP out->(out≠[]->last=[]\/nLt last (fstE out))->(out≠[]->upper=[]\/nLt (lstE out) upper)->AhJ upper last n out=some g->g≠[] ->
  AeP g/\(last=[]\/nLt last (fstE g))/\(upper=[]\/nLt (lstE g) upper)
 | 0,out,g,hh,hr,h1,h2,h,hne=>by
  grind[AhJ]
 | n+1,out,g,hh,hr,h1,h2,h,hne=>by
  simp only[AhJ]at h
  split at h
  .grind
  .rename_i hb
   have hs:=AdD (AqA hh hl) hb;have he:=AvT hs.1;refine AqI hl n _ g (fun x hx=>?_) (AtG hh hr ?_) (fun _=>?_) (fun _=>?_) h hne
   .grind[leafName_one]
   .grind[lastN,lstE,List.length_pos_iff,num_ne,ends_num]
   all_goals grind[lastN,fstE,lstE,BiZ]
theorem BbF{had:List LU}{many:Nat}{last upper:LU}{g:List LU}(h0:1<=many)(hh:∀ n∈had,leafNameL n=true)(hr:AeP had)(hl:last=[]\/numberL last=true)(h1:had≠[]->last=[]\/nLt last (fstE had))(h2:had≠[]->upper=[]\/nLt (lstE had) upper)(hg:ApZ had many last upper=some g) :
  AeP g/\(last=[]\/nLt last (fstE g))/\(upper=[]\/nLt (lstE g) upper):=by
 have hlen:=(AzN h0 hh hr hl hg).1;unfold ApZ at hg
 split at hg
 .simp at hg
  subst hg;have e1:=ends_num (hh _ (AdS (show many-1<had.length by omega)));have hj:endsL (joinN had many)=((endsL (had.getD (many-1) [])).1,lstE had):=BqK e1.1 _;have hset:(had.take many).set (many-1) (joinN had many)=had.take (many-1)++[joinN had many]:=by
   obtain⟨m,rfl⟩:∃ m,many=m+1:=⟨many-1,by omega⟩
   grind[laf]
  rw[hset];have htn:∀ n∈had.take (many-1),leafNameL n=true:=fun n hn=>hh n (lau hn)
  refine⟨AtG htn (hr.sublist (List.take_sublist _ _)) ?_,?_,?_⟩
  .by_cases hm:many=1
   .grind
   .right
    have hl1:(had.take (many-1)).length=many-1:=by grind
    have e2:lstE (had.take (many-1))=(endsL (had.getD (many-2) [])).2:=by
     simp only[lstE,hl1]
     grind
    rw[e2,hj];have:=List.pairwise_iff_getElem.1 hr (many-2) (many-1) (by omega) (by omega) (by omega)
    grind
  .grind[fstE]
  grind[lstE]
 grind[AqI]
structure NmI(lv:List Le')(k:Nat)(s:LU×List Le'):Prop where
 rise:AeP (s.2.map (·.name))
 last:(s.2=[]/\s.1=[])\/(s.2≠[]/\s.1=lstE (s.2.map (·.name)))
 bound:s.1=[]\/k=0\/upI lv (k-1)=[]\/nLt s.1 (upI lv (k-1))
theorem BtR{lv:List Le'}{k:Nat}(hk:k<(AaC lv).length):upI lv k=(endsL (lv.getD (rat (AaC lv) k).1 le0).name).1:=if_pos hk
theorem BjA{lv:List Le'}{i:Nat}(h:i<lv.length):(lv.map (·.name)).getD i []=(lv.getD i le0).name:=by grind
theorem AwA{ys:List Sc}{E:List LU}{lv:List Le'}(h:RelOk ys E lv){k:Nat}(hk:k<(AaC lv).length):nmI lv (k+1)≠[]/\fstE (nmI lv (k+1))=upI lv k/\(upI lv (k+1)=[]\/nLt (lstE (nmI lv (k+1))) (upI lv (k+1))):=by
 have hr:=(AcQ lv).one k hk;have hadj:=(AcQ lv).adj k;have hup:=BtR hk;have hnm:nmI lv (k+1)=((lv.map (·.name)).take (rat (AaC lv) k).2).drop (rat (AaC lv) k).1:=by
  grind[nmI,List.map_drop,lco]
 have hlen:(nmI lv (k+1)).length=(rat (AaC lv) k).2-(rat (AaC lv) k).1:=by grind
 refine⟨fun e=>by grind,?_,?_⟩
 .grind[fstE]
 .by_cases hk1:k+1<(AaC lv).length
  .have hr1:=(AcQ lv).one (k+1) hk1
   rw[BtR hk1,<- BjA (by omega),<- hadj hk1];have e:lstE (nmI lv (k+1))=(endsL ((lv.map (·.name)).getD ((rat (AaC lv) k).2-1) [])).2:=by
    grind[lstE]
   have:=List.pairwise_iff_getElem.1 h.riseN ((rat (AaC lv) k).2-1) (rat (AaC lv) k).2 (by grind) (by grind) (by omega)
   grind
  grind[upI]
theorem AzV{ys:List Sc}{E:List LU}{lv:List Le'}{no:Int}(h:RelOk ys E lv):∀ (k:Nat)(s:LU×List Le'),k<=(AaC lv).length+1->relTo ys E lv no k=some s->NmI lv k s/\(∀ f∈s.2,leafNameL f.name=true)/\(s.1=[]\/numberL s.1=true)
 | 0,s,_,hs=>by
  simp only[relTo,lao]at hs;subst hs;exact⟨⟨by simp[AeP],.inl ⟨rfl,rfl⟩,.inl rfl⟩,by simp,.inl rfl⟩
 | k+1,s,hk,hs=>by
  simp only[relTo]at hs
  cases hq:relTo ys E lv no k with
  | none=>grind
  | some t =>
   rw[hq]at hs;obtain⟨hN,hn,hl⟩:=AzV h k t (by omega) hq;simp only[BbC]at hs;have hlow:nmI lv k≠[]->t.1=[]\/nLt t.1 (fstE (nmI lv k)):=fun hne=>by
    rcases hN.bound with b|b|b|b
    .grind
    .subst b; exact absurd rfl hne
    .obtain ⟨m,rfl⟩:∃ m,k=m+1:=⟨k-1,by
      have:k≠0:=fun e=>by subst e; exact hne rfl
      omega⟩
     have:=(AwA h (k:=m) (by omega)).2.1;rw[lcf]at b;rw[b]at this;have hp:=List.length_pos_iff.2 hne;exact absurd this (num_ne (ends_num ((BiM h (m+1)).1 _ (AdS hp)).1).1)
    .obtain ⟨m,rfl⟩:∃ m,k=m+1:=⟨k-1,by
      have:k≠0:=fun e=>by subst e; exact hne rfl
      omega⟩
     grind[AwA]
   have hhigh:nmI lv k≠[]->upI lv k=[]\/nLt (lstE (nmI lv k)) (upI lv k):=fun hne=>by
    obtain⟨m,rfl⟩:∃ m,k=m+1:=⟨k-1,by
     have:k≠0:=fun e=>by subst e; exact hne rfl
     omega⟩
    grind[AwA]
   split at hs
   .simp at hs
    subst hs;refine⟨⟨hN.rise,hN.last,?_⟩,hn,hl⟩;rw[lcf]
    by_cases h0:k=0
    .grind[relTo]
    .obtain ⟨m,rfl⟩:∃ m,k=m+1:=⟨k-1,by omega⟩
     obtain⟨n1,n2,n3⟩:=AwA h (k:=m) (by omega)
     rcases hlow n1 with b|b
     .grind
     .rcases n3 with b3|b3
      .grind
      .refine .inr (.inr (.inr ?_))
       have hp:=List.length_pos_iff.2 n1;have hok:=BiM h (m+1);have hfl:fstE (nmI lv (m+1))=lstE (nmI lv (m+1))\/nLt (fstE (nmI lv (m+1))) (lstE (nmI lv (m+1))):=by
        grind[ends_num,fstE,lstE,BiK]
       grind[nLt_trans]
   .split at hs
    .grind
    .rename_i hst g hg
     simp at hs
     subst hs;obtain⟨st1,st2⟩:=A8I h (k:=k);have hsne:sgI E lv k≠[]:=fun e=>by
      grind[sgI,lap]
     have hP:=A4A (BiN h k) hsne
     change 1<=(pgI' ys E lv k).length at hP
     have hok:=BiM h k;have hgl:=AzN hP (fun n hn=>(hok.1 n hn).1) hok.2.1 hl hg;obtain⟨r1,r2,r3⟩:=BbF hP (fun n hn=>(hok.1 n hn).1) hok.2.1 hl hlow hhigh hg;have hmap:(mkLv no g (firstsI ys (sgI E lv k)) (pgI' ys E lv k) (pgI' ys E lv k).length).map (·.name)=g:=by
      unfold mkLv;rw[lbi,<- hgl.1];apply List.ext_getElem
      all_goals grind
     have hgne:g≠[]:=fun e=>by grind
     have hgp:=List.length_pos_iff.2 hgne;have hlst:(endsL (g.getD (g.length-1) [])).2=lstE (t.2.map (·.name)++g):=by
      unfold lstE
      congr 2
      simp only[lay,lah];rw[lcg (by omega),show(t.2.map (fun f=>f.name)).length+g.length-1-(t.2.map (fun f=>f.name)).length=g.length-1 by omega]
     refine⟨⟨?_,.inr ⟨?_,?_⟩,?_⟩,fun f hf=>?_,.inr (ends_num (hgl.2 _ (AdS (by omega)))).2.1⟩
     .simp only [lak,hmap]
      unfold AeP;refine List.pairwise_append.2 ⟨hN.rise,r1,fun a ha b hb=>?_⟩;have hne:t.2≠[]:=fun e=>by grind
      have hlast:t.1=lstE (t.2.map (·.name)):=by
       rcases hN.last with⟨e,_⟩|⟨_,e⟩<;>grind
      have hmp:t.2.map (·.name)≠[]:=by grind
      have hp:=List.length_pos_iff.2 hmp;have hall:∀ n∈t.2.map (·.name),leafNameL n=true:=fun n hn'=>by
       obtain⟨f,hf,rfl⟩:=List.mem_map.1 hn'
       grind
      have h3:=r2.resolve_left fun e=>by
       rw[hlast]at e;exact num_ne (ends_num (hall _ (AdS (show(t.2.map (·.name)).length-1<_ by omega)))).2.1 e
      have ha2:(endsL a).2=t.1\/nLt (endsL a).2 t.1:=by
       obtain⟨j,hj,rfl⟩:=List.mem_iff_getElem.1 ha;rw[hlast];have hlt:(t.2.map (·.name)).length-1<(t.2.map (·.name)).length:=by omega
       have e:lstE (t.2.map (·.name))=(endsL ((t.2.map (·.name))[(t.2.map (·.name)).length-1])).2:=by
        grind[lstE]
       rw[e]
       by_cases e2:j=(t.2.map (·.name)).length-1
       .grind
       .right
        have h4:=List.pairwise_iff_getElem.1 hN.rise j ((t.2.map (·.name)).length-1) hj hlt (by omega)
        grind[ends_num,nLt_trans]
      have hb2:fstE g=(endsL b).1\/nLt (fstE g) (endsL b).1:=by
       obtain⟨j,hj,rfl⟩:=List.mem_iff_getElem.1 hb;have e:fstE g=(endsL g[0]).1:=by simp[fstE,List.getD,hgp]
       rw[e]
       by_cases e2:j=0
       .grind
       .right
        have h4:=List.pairwise_iff_getElem.1 r1 0 j hgp hj (by omega)
        rcases(ends_num (hgl.2 _ (lac hgp))).2.2 with e5|e5
        .grind
        .exact nLt_trans e5 h4
      have hab:nLt (endsL a).2 (fstE g):=by
       grind[nLt_trans]
      grind[nLt_trans]
     .grind[lap]
     .grind
     .rw [lcf]
      rcases r3 with e|e
      .grind
      .exact .inr (.inr (.inr e))
     grind
def okE(l:LU):Prop:=(∀ c∈l,plainC c=true)/\∀ h:l≠[],l.getLast h≠32
theorem okE_nil:okE []:=⟨by simp,fun h=>absurd rfl h⟩
theorem AwB{l:LU}(h:okE l)(hl:l.length<=80):LineFit l:=by
 refine⟨hl,?_,List.all_eq_true.2 h.1⟩;rw[Lib.hasSuffix,Bool.eq_false_iff];intro he;rw[List.isSuffixOf_iff_suffix]at he;obtain⟨t,rfl⟩:=he;exact h.2 (by simp) (by simp)
theorem AtH{a b:LU}(ha:∀ c∈a,plainC c=true)(hb:okE b)(hne:b≠[]):okE (a++b):=by
 refine⟨fun c hc=>?_,fun h=>?_⟩
 .rcases List.mem_append.1 hc with hc|hc
  .grind
  .exact hb.1 c hc
 .rw [List.getLast_append_of_ne_nil _ hne]; exact hb.2 hne
theorem BjB:plainC 32=true:=by decide
def AqJ(w:LU):Prop:=∀ c∈w,plainC c=true/\c≠32
theorem AwC{w:LU}(h:AqJ w):okE w:=⟨fun c hc=>(h c hc).1,fun hne=>(h _ (List.getLast_mem hne)).2⟩
theorem AmG:∀ t:LU,(∀ c∈t,plainC c=true)->∀ w∈splitW t,AqJ w
 | [],_,w,hw=>by simp[splitW]at hw; intro c hc; grind
 | c::r,h,w,hw=>by
  have ih:=AmG r fun x hx=>h x (by simp[hx])
  rw[splitW]at hw
  split at hw
  .rcases List.mem_cons.1 hw with rfl|hw
   .intro c hc; simp at hc
   .exact ih w hw
  .rename_i hc
   have hc:c≠32:=by simpa using hc
   cases hq:splitW r with
   | nil =>
    rw[hq]at hw
    simp[consW]at hw
    subst hw;intro x hx;rw[List.mem_singleton.1 hx]; exact⟨h c (by simp),hc⟩
   | cons v vs =>
    rw[hq]at hw ih
    rcases List.mem_cons.1 hw with rfl|hw
    .intro x hx
     rcases List.mem_cons.1 hx with rfl|hx
     .exact ⟨h x (by simp),hc⟩
     .exact ih v (by simp) x hx
    .exact ih w (by simp[hw])
theorem BbG{w:LU}(h:AqJ w)(n:Nat):AqJ (w.take n):=fun c hc=>h c (lau hc)
theorem BbH{w:LU}(h:AqJ w)(n:Nat):AqJ (w.drop n):=fun c hc=>h c (lba hc)
theorem AtI{W:Nat}(hW:0<W):∀ (n:Nat)(w:LU),w.length<=n->AqJ w->(∀ l∈(chop W w).1,AqJ l/\l.length<=W/\l≠[])/\AqJ (chop W w).2/\(chop W w).2.length<=W
 | 0,w,h,hw=>by grind[chop_end]
 | n+1,w,h,hw=>by
  by_cases hc:W<w.length
  .obtain ⟨h1,h2,h3⟩:=AtI hW n (w.drop W) (by simp; omega) (BbH hw W)
   rw[AfR hc hW];refine⟨fun l hl=>?_,h2,h3⟩
   rcases List.mem_cons.1 hl with rfl|hl
   .refine ⟨BbG hw W,by simp; omega,fun e=>?_⟩
    have:=congrArg List.length e;simp only[lci,lap]at this;omega
   .exact h1 l hl
  .rw [chop_end hc]; exact⟨by simp,hw,by simp only; omega⟩
structure WF(W:Nat)(st:List LU×LU):Prop where
 done:∀ l∈st.1,okE l/\l.length<=W/\l≠[]
 cur:okE st.2/\st.2.length<=W
theorem BjC{W:Nat}(hW:0<W){st:List LU×LU}(h:WF W st){w:LU}(hw:AqJ w):WF W (AcF W st w):=by
 obtain⟨dn,cur⟩:=st;obtain⟨h1,h2⟩:=h;unfold AcF
 by_cases h0:w=[]
 .subst h0
  exact⟨h1,h2⟩
 .have hwb:(w==[])=false:=by grind
  simp only[hwb,lan,if_false]
  split
  .rename_i hc
   refine⟨h1,?_,by grind⟩;have:cur++32::w=(cur++[32])++w:=by simp
   rw[this];refine AtH (fun c hc'=>?_) (AwC hw) h0
   rcases List.mem_append.1 hc' with hc'|hc'
   .exact h2.1.1 c hc'
   grind[BjB]
  .obtain ⟨c1,c2,c3⟩:=AtI hW _ w (lad _) hw
   refine⟨fun l hl=>?_,AwC c2,c3⟩<;>grind[AwC]
theorem AzW{W:Nat}(hW:0<W):∀ (ws:List LU)(st:List LU×LU),WF W st->(∀ w∈ws,AqJ w)->WF W (ws.foldl (AcF W) st)
 | [],st,h,_=>h
 | w::r,st,h,hw=>AzW hW r _ (BjC hW h (hw w (by simp))) fun v hv=>hw v (by grind)
theorem AkK{W:Nat}(hW:0<W){t:LU}(ht:∀ c∈t,plainC c=true):∀ l∈wrapL W t,okE l/\l.length<=W/\l≠[]:=by
 have h:=AzW hW (splitW t) ([],[]) ⟨by simp,okE_nil,by simp⟩ (AmG t ht);intro l hl;unfold wrapL wrapF at hl
 split at hl
 .rcases List.mem_append.1 hl with hl|hl
  .exact h.done l hl
  .rw [List.mem_singleton.1 hl]; exact⟨h.cur.1,h.cur.2,by grind⟩
 .exact h.done l hl
theorem AzX(n:Nat):∀ c∈Lib.repeatL [32] n,plainC c=true:=by
 intro c hc;have:c=32:=by
  induction n<;>grind[Lib.repeatL]
 grind[BjB]
theorem AtJ{n:Nat}{l:LU}(h:okE l)(hne:l≠[])(hl:n+l.length<=80):LineFit (indent n l):=AwB (AtH (AzX n) h hne) (by grind[indent_len])
def fitB(l:LU):Bool:=decide (l.length<=80)&&(!Lib.hasSuffix l [32]&&l.all plainC)
theorem AkL{l:LU}(h:fitB l=true):LineFit l:=by
 simp only[fitB,lae,lag,lbv]at h;exact⟨h.1,h.2.1,h.2.2⟩
theorem AzY:(NameL.all fun t=>fitB (indent 20 t)&&fitB (indent 20 t++A3T))=true:=by decide +kernel
theorem BjD:(TurnL.all fun t=>fitB (turnLine t))=true:=by decide +kernel
theorem BqU:LineFit AcT:=AkL (by decide +kernel)
theorem ByA:LineFit []:=AkL (by decide)
theorem BbI:(SetL.all fun t=>t.all plainC)=true:=by decide +kernel
theorem AzZ:([0,1,2,3].all fun p=>(AmC p).all plainC)=true:=by decide +kernel
theorem A4H:([0,1,2,3,4,5].all fun p=>(AyZ p).all plainC)=true:=by decide +kernel
theorem BjE{c:UInt8}(h:okB c=true):plainC c=true:=by
 grind[okB,plainC]
structure FitB(b:Bl):Prop where
 Lb:∀ l∈b.Lb,LineFit l
 name:b.kind=3->b.name∈NameL
theorem AiI{p:Pa}(h:DrawnP p):∀ c∈p.text,plainC c=true:=fun c hc=>by
 have hok:=h.ok
 grind[paraOk,plainL,BjE]
theorem BqV{p:Pa}(h:DrawnP p)(hj:joins p=false):FitB (newB p):=by
 have hk:=h.kind;simp only[joins,lch,lbe]at hj;unfold newB
 by_cases k1:p.kind=1
 .simp only [k1,lbl,if_true]
  refine⟨fun l hl=>?_,by simp⟩;obtain⟨a1,a2,a3⟩:=AkK (by omega) (AiI h) l hl
  grind[AwB]
 .by_cases k5:p.kind=5
  .simp only [k5,show((5:Int)==1)=false from rfl,lbl,lan,if_false,if_true]
   refine⟨fun l hl=>?_,by simp⟩;rw[List.mem_singleton.1 hl];exact AkL (List.all_eq_true.1 BjD _ (h.turn k5))
  .have k2:p.kind=2:=by omega
   simp only[k2,show((2:Int)==1)=false from rfl,show((2:Int)==5)=false from rfl,lan,if_false];have hn:=h.name k2;have:=List.all_eq_true.1 AzY _ hn;refine⟨fun l hl=>?_,fun _=>hn⟩<;>grind[AkL]
theorem BjF{p:Pa}(h:DrawnP p){b:Bl}(hb:FitB b):FitB (moreB b p):=by
 unfold moreB addB
 split
 .refine ⟨fun l hl=>?_,hb.name⟩
  rcases List.mem_append.1 hl with hl|hl
  .exact hb.Lb l hl
  .obtain ⟨l',hl',rfl⟩:=List.mem_map.1 hl
   have hpl:∀ c∈asideT p.text,plainC c=true:=fun c hc=>by
    simp only[asideT,List.mem_cons,lcb,List.not_mem_nil,or_false]at hc
    rcases hc with rfl|hc|rfl
    .decide
    .grind[AiI]
    .decide
   obtain⟨a1,a2,a3⟩:=AkK (by omega) hpl l' hl'
   grind[AtJ]
 .refine ⟨fun l hl=>?_,hb.name⟩
  rcases List.mem_append.1 hl with hl|hl
  .exact hb.Lb l hl
  .obtain ⟨l',hl',rfl⟩:=List.mem_map.1 hl
   obtain⟨a1,a2,a3⟩:=AkK (by omega) (AiI h) l' hl'
   grind[AtJ]
theorem A0A:∀ (ps:List Pa)(s:List Bl×Bl),(∀ p∈ps,DrawnP p)->(∀ b∈s.1++[s.2],FitB b)->∀ b∈(ps.foldl bstep s).1++[(ps.foldl bstep s).2],FitB b
 | [],s,_,h=>h
 | p::r,s,hp,h=>by
  have h1:=hp p (by simp);refine A0A r (bstep s p) (fun q hq=>hp q (by simp[hq])) fun b hb=>?_
  unfold bstep at hb
  cases hj:joins p with
  | true =>
   rw[hj,if_pos rfl]at hb
   rcases List.mem_append.1 hb with hb|hb
   .exact h b (List.mem_append.2 (.inl hb))
   .rw [List.mem_singleton.1 hb]
    exact BjF h1 (h _ (by simp))
  | false =>
   rw[hj,if_neg (by simp)]at hb
   rcases List.mem_append.1 hb with hb|hb
   .exact h b hb
   .rw [List.mem_singleton.1 hb]
    exact BqV h1 hj
theorem AmH{a:LU}(h:numberL a=true):∀ c∈a,plainC c=true:=by
 intro c hc;have key:∀ n:Fin 256,(digI n.1=true\/capI n.1=true)->(!(decide (((n.1:Nat):Int)<32)||decide (((n.1:Nat):Int)>126)))=true:=by decide +kernel
 have hd:∀ c:UInt8,digB c=true\/capB c=true->plainC c=true:=fun c h=>key ⟨c.toNat,c.toNat_lt⟩ h
 rw[AbF a]at hc
 rcases List.mem_append.1 hc with hc|hc
 .exact hd c (.inl (AkJ digB a c hc))
 .exact hd c (.inr (List.all_eq_true.1 (AaZ h).2.2.2 c hc))
theorem AtK{x:Sc}(h:SceneD x):∀ c∈headL x,plainC c=true:=by
 have h2:=List.all_eq_true.1 BbI x.set h.set;have h3:(AmC x.place).all plainC=true:=by
  have hp:=h.place
  grind[AzZ]
 have h4:(AyZ x.time).all plainC=true:=by
  have hp:=h.time
  grind[A4H]
 have hl:∀ c∈headLine x,plainC c=true:=fun c hc=>by
  simp only[headLine,lcb,List.mem_cons,List.not_mem_nil,or_false]at hc
  rcases hc with(((hc|rfl)|hc)|rfl|rfl|rfl)|hc
  .grind
  .decide
  .grind
  .decide
  .decide
  .decide
  grind
 intro c hc;unfold headL at hc
 split at hc
 .simp only [lcb,List.mem_cons,List.not_mem_nil,or_false]at hc
  rcases hc with(hc|rfl)|hc
  .exact AmH (h.no.resolve_left (by grind)) c hc
  .decide
  grind
 grind
theorem BjG{xs:List Sc}(hx:∀ x∈xs,SceneD x){no:LU}(hn:numberL no=true):∀ b∈entB xs no,FitB b:=by
 unfold entB
 cases h:atNo xs no with
 | none =>
  intro b hb;rw[List.mem_singleton.1 hb];refine⟨fun l hl=>?_,fun e=>absurd e (by simp[goneB])⟩;have hpl:∀ c∈goneT no,plainC c=true:=fun c hc=>by
   simp only[goneT,lcb]at hc
   rcases hc with hc|hc
   .grind[AmH]
   .revert c; decide +kernel
  obtain⟨a1,a2,a3⟩:=AkK (by omega) hpl l hl
  grind[AwB]
 | some x =>
  have hd:=hx x (AgM h).1;refine A0A x.Ld _ hd.all fun b hb=>?_
  simp at hb
  subst hb;refine⟨fun l hl=>?_,fun e=>absurd e (by simp)⟩;obtain⟨a1,a2,a3⟩:=AkK (by omega) (AtK hd) l hl
  grind[AwB]
def fS(s:LS):Prop:=(∀ p∈s.Lh,∀ l∈p,LineFit l)/\∀ l∈s.Li,LineFit l
theorem f_flush{s:LS}(h:fS s):fS (flushS s):=by
 refine⟨fun p hp=>?_,by simp[flushS]⟩;simp only[flushS,lcb,List.mem_singleton]at hp
 rcases hp with hp|rfl
 .exact h.1 p hp
 .exact h.2
theorem BqW{s:LS}(h:fS s){l:List Ln}(hl:∀ x∈l,LineFit x):fS (addS s l):=by
 refine⟨h.1,fun x hx=>?_⟩;simp only[addS,lcb]at hx
 rcases hx with hx|hx
 .exact h.2 x hx
 grind
theorem ByB{b:Bl}(hb:FitB b){s:LS}(h:fS s):fS (breakS b s):=by
 refine BqW (f_flush (BqW h fun x hx=>?_)) fun x hx=>?_
 .grind[BqU]
 .split at hx
  .rw [List.mem_singleton.1 hx]
   have:=List.all_eq_true.1 AzY _ (hb.name (by grind))
   simp at this
   exact AkL this.2
  grind
theorem BjH{b:Bl}(hb:FitB b):∀ (f fr:Nat)(s:LS),fS s->fS (placeB b f fr s)
 | 0,_,s,h=>h
 | f+1,fr,s,h=>by
  have hp:∀ tz,∀ x∈partL' b fr tz,LineFit x:=fun tz x hx=>hb.Lb x (lau (lba hx))
  unfold placeB
  split
  .exact BqW h (hp _)
  .exact BjH hb f _ _ (ByB hb (BqW h (hp _)))
theorem B1E{bs:List Bl}{i:Nat}{b:Bl}{s:LS}(h:fS s):fS (openS bs i b s):=by
 grind[fS,turnS,f_flush,firstS,openS,gapS,ByA]
theorem B1F{bs:List Bl}(hb:∀ b∈bs,FitB b):∀ i,i<=bs.length->fS (layTo bs i)
 | 0,_=>⟨by simp[layTo],by simp[layTo]⟩
 | i+1,hi=>by
  have hl:i<bs.length:=by omega
  simp only[layTo,lab hl];exact BjH (hb _ (lac hl)) _ _ _ (B1E (B1F hb i (by omega)))
theorem A0B{xs:List Sc}{nos:List LU}(hm:MdOk xs nos):∀ p∈(layL (entsB xs nos)).Lh,LinesOk p:=by
 have hb:∀ b∈entsB xs nos,FitB b:=fun b hb=>by
  obtain⟨n,hn,hb⟩:=List.mem_flatMap.1 hb;exact BjG hm.sc (hm.num n hn) b hb
 have h1:=B1F hb _ (lad _);have h2:fS (layL (entsB xs nos)):=by grind[layL,f_flush]
 intro p hp;obtain⟨h3,h4⟩:=(AiE hm).2 p hp;exact⟨h4,fun e=>by grind,h2.1 p hp⟩
theorem BqX{no:Int}{g fi:List LU}{pg:List (List Ln)}{n:Nat}{f:Le'}(h:f∈mkLv no g fi pg n):f.Lj=no:=by
 grind[mkLv]
theorem A0C{ys:List Sc}{E:List LU}{lv:List Le'}{no:Int}:∀ (k:Nat)(s:LU×List Le'),relTo ys E lv no k=some s->∀ f∈s.2,f.Lj=no
 | 0,s,h=>by
  grind[relTo]
 | k+1,s,h=>by
  simp only[relTo]at h
  cases hq:relTo ys E lv no k with
  | none=>rw[hq]at h; simp at h
  | some t =>
   rw[hq]at h;have ih:=A0C k t hq;simp only[BbC]at h
   split at h
   .simp at h
    subst h; exact ih
   .split at h
    .simp at h
    .simp at h
     subst h;intro f hf
     rcases List.mem_append.1 hf with hf|hf
     .exact ih f hf
     .exact BqX hf
theorem BjI{ys:List Sc}{E:List LU}{lv:List Le'}{no:Int}(h:RelOk ys E lv){la:LU}{l:List Le'}(hl:relTo ys E lv no ((AaC lv).length+1)=some (la,l)):∀ f∈l,LinesOk f.Lb/\(f.first=[]\/numberL f.first=true):=by
 have h1:=BiW _ _ hl;intro f hf;have:pr f∈l.map pr:=List.mem_map.2 ⟨f,hf,rfl⟩;rw[h1]at this;obtain⟨k,_,hk⟩:=List.mem_flatMap.1 this;have hm:=BiN h k;have h2:=List.of_mem_zip hk;refine⟨A0B hm _ h2.1,?_⟩;obtain⟨i,_,hi⟩:=List.mem_map.1 h2.2
 rcases AeJ ys (sgI E lv k) i with⟨m,h3,_,h4⟩|⟨_,h4⟩
 .right
  exact hm.num _ (by grind)
 grind
theorem BbJ{lv:List Le'}{f:Le'}:(fixL lv f).Lj=f.Lj\/∃ x∈lv,(fixL lv f).Lj=x.Lj:=by
 grind[fixL]
theorem BbK{E:List LU}{zs:List Sc}(hz:∀ y,zs.head? = some y->y.time≠5):∀ i,i<=zs.length->∀ y,(ysTo E zs i).head? = some y->y.time≠5:=by
 intro i
 induction i with
 | zero=>grind[ysTo]
 | succ i ih =>
  intro hi y hy
  cases i with
  | zero =>
   simp only[ysTo,lbx,List.head?_cons,lao]at hy;subst hy;have:=hz (zs.getD 0 sc0) (by
    cases zs<;>grind)
   omega
  | succ i =>
   grind[ysTo]
structure NextOk(d:Dr)(x:Sr)(N:Dr):Prop where
 ok:DraftOk N
 inn:DrIn N
 no:N.no=d.no+1
 Lc:N.Lc.length=x.Lc.length
 Lk:N.Lk=x.Lk
theorem next_ok{d:Dr}{x:Sr}{E E':List LU}{la:LU}{l:List Le'}(hd:DrIn d)(ht:1<=x.Lk.length/\x.Lk.length<=60)(hp:plainL x.Lk=true)(hsc:∀ y∈x.Lc,SceneD y)(hfirst:∀ y,x.Lc.head? = some y->y.time≠5)(h66:x.Lc.length<=66)(h:NextG d x E E' la l):NextOk d x (nextD d x E l):=by
 obtain⟨ok,no,ent,run,ren,few,ent',rel,La,many⟩:=h;have hyl:=AiG E x.Lc x.Lc.length;have hys:=AtE (lad _) hsc ren;have hrise:=ren.rise;have hnum:=ren.num;have hf5:=BbK (E:=E) hfirst x.Lc.length (lad _);obtain⟨ps,hp1,hp2,hp3⟩:=BiX rel La;have hnm:=AzV rel _ _ (lad _) La;have hdr:=A0C _ _ La;have hpt:=BjI rel La;have hgs:=AtF (ys:=ysTo E x.Lc x.Lc.length) ent.sorted;have hdn:=ok.no;unfold nextD;generalize ysTo E x.Lc x.Lc.length=ys at *;have hsum:=A6U ys fun y hy=>(hys y hy).len
 have hnod:(hasNo ys).Nodup:=by
  unfold hasNo;exact(hrise.imp fun hlt e=>by grind[nLt_irrefl]).sublist List.filter_sublist
 have hdraft:∀ f∈l,1<=(fixL d.La f).Lj/\(fixL d.La f).Lj<=d.no+1:=fun f hf=>by
  rcases BbJ (lv:=d.La) (f:=f)with e|⟨y,hy,e⟩
  .grind
  .rw [e]
   have h1:=(ok.binder.all y hy).Lj;have h2:=ok.made y hy;omega
 have hmapn:(l.map (fixL d.La)).map (·.name)=l.map (·.name):=by
  grind[lbg,AiH]
 have hmapp:(l.map (fixL d.La)).map pr=l.map pr:=by
  grind[lbg,pr,AiH]
 have hgn:=fun n hn=>ent.num n (hgs.2 n hn).1
 refine⟨⟨?_,?_,?_,?_,?_⟩,⟨?_,hys,hgn,?_,?_,?_⟩,rfl,hyl,rfl⟩
 .grind
 .exact ⟨fun y hy=>num_ne (hnum y hy),hrise,hgs.1,fun y hy=>(hgs.2 y hy).2,by grind⟩
 .refine ⟨by grind,fun f hf=>?_,fun i hi=>?_⟩
  .obtain ⟨f0,hf0,rfl⟩:=List.mem_map.1 hf
   have hl:=AiH d.La f0;have h1:=hdraft f0 hf0;have h2:=hpt f0 hf0;exact⟨by grind,by omega,by grind,by grind⟩
  .have hr:=hnm.1.rise
   simp at hi
   have:=List.pairwise_iff_getElem.1 hr i (i+1) (by grind) (by grind) (by omega)
   grind
 .grind
 .intro E2 hE2
  have:=BtP hE2 ⟨ent'.perm,ent'.sorted,ent'.num⟩;subst this;exact B1D ent'.sorted ent'.num hp1 (by grind) hp3
 .exact ⟨ht,hp,by grind,by grind,BiU ys [] true hys hnod (by simp) fun _=>hf5⟩
 .grind
 .grind
 .intro f hf
  obtain⟨f0,hf0,rfl⟩:=List.mem_map.1 hf;have hl:=AiH d.La f0;have h2:=hpt f0 hf0;rw[hl.2.1,hl.2.2,hl.1];refine⟨by grind[AeY],?_,by have:=h2.1.few; omega,fun s hs=>by have:=(h2.1.all s hs).len; omega⟩
  rcases h2.2 with e|e
  .grind
  .have:=(AaN e).2.1; omega
end Go.Proofs.YtgenkcmfeeakoaaGreatDoor
namespace Go.Av
open RowKit
variable [Tr]
def B1G:Op->Bool
 | .indexAddr ..|.fieldAddr ..=>true
 | .binOp .add ..|.binOp .sub ..=>true
 | _=>false
def B1H:Op->Bool
 | .store ..=>true
 | _=>false
def swp(x y:Oper):Bool:=B1G x.op&&B1H y.op||B1H x.op&&B1G y.op
section
variable {cx:Cx}{ops:Array Oper}{s:LB}{K:Env->LB->Prop}
end
section
variable {c:Cx}{k:List It}{e:Env}{s:LB}
end
end Go.Av
namespace Go.Proofs.YtgenkcmfeeakoaaGreatDoor
open Av RowKit
abbrev Lq:={ f:Le' // leafNameL f.name=true }
def d00:Lq:=⟨⟨[49],0,[],[]⟩,by decide +kernel⟩
def kf(x:Lq):LU:=(endsL x.1.name).1
def kl(x y:Lq):Prop:=nLt (kf x) (kf y)
theorem BtS(x:Lq):numberL (kf x)=true:=(ends_num x.2).1
theorem BqY{x y z:Lq}(h1:kl x y)(h2:kl y z):kl x z:=nLt_trans h1 h2
theorem BjJ(x:Lq):¬ kl x x:=nLt_irrefl _
def le(x y:Lq):Prop:=¬ kl y x
theorem le_refl(x:Lq):le x x:=BjJ x
theorem BqZ{x y:Lq}(h:le x y):kl x y\/kf x=kf y:=by
 by_cases h1:kl x y
 .grind
 .exact .inr (number_eq (BtS x) (BtS y) (ApB h1 h))
theorem le_trans{x y z:Lq}(h1:le x y)(h2:le y z):le x z:=fun h=>by
 rcases BqZ h1 with e1|e1
 .exact h2 (BqY h e1)
 .unfold kl at h
  rw[e1]at h;exact h2 h
theorem LeafOk.bound{f:Le'}(h:LeafOk f):f.name.length<1000000/\f.first.length<1000000/\f.Lb.length<1000000/\∀ s∈f.Lb,s.length<4000000:=by
 refine⟨by have:=AeY h.name; omega,?_,by have:=h.Lb.few; omega,fun s hs=>by have:=(h.Lb.all s hs).len; omega⟩
 rcases h.first with e|e
 .grind
 .have:=(AaN e).2.1; omega
theorem BinderOk.riseN{l:List Le'}(h:BinderOk l):AeP (l.map (·.name)):=by
 refine A8L (fun n hn=>?_) fun i hi=>?_
 .obtain ⟨f,hf,rfl⟩:=List.mem_map.1 hn
  exact(h.all f hf).name
 .simp at hi
  simpa using h.rise i hi
theorem BinderOk.apart{l:List Le'}(h:BinderOk l):(l.map (·.name)).Nodup:=AqC (fun n hn=>by
 obtain⟨f,hf,rfl⟩:=List.mem_map.1 hn;exact(h.all f hf).name) h.riseN
theorem BinderOk.sub{l m:List Le'}(h:BinderOk l)(hs:m.Sublist l):BinderOk m:=by
 refine⟨lcl hs.length_le h.few,fun f hf=>h.all f (hs.subset hf),fun i hi=>?_⟩;have:=List.pairwise_iff_getElem.1 (h.riseN.sublist (hs.map _)) i (i+1) (by grind) (by grind) (by omega)
 grind
