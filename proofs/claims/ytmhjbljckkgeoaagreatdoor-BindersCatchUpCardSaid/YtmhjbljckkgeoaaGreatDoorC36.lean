/- Stable merging: plain law of the middle case. -/
import Derived.Test.YtmhjbljckkgeoaaGreatDoorC35
set_option maxRecDepth 100000
set_option maxHeartbeats 8000000
set_option linter.all false
namespace Go.Proofs.YtmhjbljckkgeoaaGreatDoor
open Av RowKit Proofs.Tryz
theorem AyN{l:List Lq}{a m b:Nat}(h:¬ (a<m/\m<b))(h1:Srt l a m)(h2:Srt l m b):Good l l a b:=by
 refine⟨.refl _,?_,fun _ _=>rfl,fun t h3 h4=>⟨t,h3,h4,rfl⟩⟩;intro s t hs hst ht
 by_cases c:a<m
 .exact h1 s t hs hst (by omega)
 .exact h2 s t (by omega) hst ht
structure MidQ(l q1:List Lq)(a m b c R:Nat):Prop where
 s1:Srt q1 a R
 s2:Srt q1 R c
 s3:Srt q1 c (c+m-R)
 s4:Srt q1 (c+m-R) b
 x:∀ s t,a<=s->s<c->c<=t->t<b->le (q1.getD s d00) (q1.getD t d00)
 inn:∀ t,a<=t->t<b->∃ u,a<=u/\u<b/\q1.getD t d00=l.getD u d00
 out:∀ t,t<a\/b<=t->q1.getD t d00=l.getD t d00
theorem BwW{l q1:List Lq}{a m b c st0 r0 R:Nat}(hm1:a+1<m)(hm2:m+1<b)(hc:c=(a+b) / 2)(h1:Srt l a m)(h2:Srt l m b)
  (hst:(c<m/\st0=c+m-b/\r0=c)\/(¬ c<m/\st0=a/\r0=m)) (hf:r0<=l.length)
  (hR:bsF (fun x=>!decide (keyC (l.getD (c+m-1-x) d00) (l.getD x d00)<0)) l.length st0 r0=R)
  (hq:∀ t,q1.getD t d00=if t<R then l.getD t d00 else if t<c then l.getD (m+(t-R)) d00 else if t<c+m-R then l.getD (t-(c-R)) d00 else l.getD t d00):MidQ l q1 a m b c R:=by
 have w1:st0<=r0/\a<=st0/\c+m<=b+st0/\r0<=m/\r0<=c/\c<b:=by
  omega
 obtain⟨w1,w2,w3,w4,w5,w6⟩:=w1;have hbd:=ApF (fun x=>!decide (keyC (l.getD (c+m-1-x) d00) (l.getD x d00)<0)) l.length st0 r0 w1;obtain⟨s1,s2⟩:=AjM (P:=fun x=>!decide (keyC (l.getD (c+m-1-x) d00) (l.getD x d00)<0)) l.length st0 r0 w1 (by omega) fun x y hx hxy hy hp=>by
  rw[A5Z]at hp |-;exact le_trans (h1 x y (by omega) hxy (by omega)) (le_trans hp (h2.le' (by omega) (by omega) (by omega)))
 simp only[A5Z]at s1;have s2:=fun x h1 h4=>by
  have:=s2 x h1 h4;simp only[Bool.not_eq_false',A5Y]at this;omega
 rw[hR]at s1 s2 hbd;have qa:∀ t,t<R->q1.getD t d00=l.getD t d00:=fun t h=>by grind
 have qb:∀ t,R<=t->t<c->q1.getD t d00=l.getD (m+(t-R)) d00:=fun t h h'=>by rw[hq,if_neg (by omega),if_pos h']
 have qc:∀ t,c<=t->t<c+m-R->q1.getD t d00=l.getD (t-(c-R)) d00:=fun t h h'=>by rw[hq,if_neg (by omega),if_neg (by omega),if_pos h']
 have qd:∀ t,c<=t->c+m-R<=t->q1.getD t d00=l.getD t d00:=fun t h h'=>by rw[hq,if_neg (by omega),if_neg (by omega),if_neg (by omega)]
 refine⟨fun s t e1 e2 e3=>?_,fun s t e1 e2 e3=>?_,fun s t e1 e2 e3=>?_,fun s t e1 e2 e3=>?_,fun s t e1 e2 e3 e4=>?_,fun t e1 e2=>?_,fun t e1=>?_⟩
 .rw [qa s (by omega),qa t (by omega)]; exact h1 s t e1 e2 (by omega)
 .rw [qb s (by omega) (by omega),qb t (by omega) (by omega)]; exact h2 _ _ (by omega) (by omega) (by omega)
 .rw [qc s (by omega) (by omega),qc t (by omega) (by omega)]; exact h1 _ _ (by omega) (by omega) (by omega)
 .rw [qd s (by omega) (by omega),qd t (by omega) (by omega)]; exact h2 _ _ (by omega) (by omega) (by omega)
 .by_cases c1:s<R
  .rw [qa s c1]
   by_cases c2:t<c+m-R
   .rw [qc t e3 c2]; exact h1.le' (by omega) (by omega) (by omega)
   .rw [qd t e3 (by omega)]
    have h3:=s1 (R-1) (by omega) (by omega);exact le_trans (h1.le' (by omega) (by omega) (by omega)) (le_trans h3 (h2.le' (by omega) (by omega) (by omega)))
  .rw [qb s (by omega) e2]
   by_cases c2:t<c+m-R
   .rw [qc t e3 c2]
    have h3:=s2 R (lab _) (by omega);exact le_trans (h2.le' (by omega) (by omega) (by omega)) (le_trans (BfN h3) (h1.le' (by omega) (by omega) (by omega)))
   .rw [qd t e3 (by omega)]
    exact h2.le' (by omega) (by omega) (by omega)
 .by_cases c1:t<R
  .exact ⟨t,e1,e2,qa t c1⟩
  .by_cases c2:t<c
   .exact ⟨_,by omega,by omega,qb t (by omega) c2⟩
   .by_cases c3:t<c+m-R
    .exact ⟨_,by omega,by omega,qc t (by omega) c3⟩
    .exact ⟨_,e1,e2,qd t (by omega) (by omega)⟩
 .rcases e1 with e1|e1
  .grind
  .exact qd t (by omega) (by omega)
theorem BmV{l q1 q2 q3:List Lq}{a m b c R:Nat}(hc:a<=c/\c<=b)(p:q1.Perm l)(h:MidQ l q1 a m b c R)(hr:R<=c/\R<=m)
  (g2:Srt q1 a R->Srt q1 R c->Good q1 q2 a c) (g3:Srt q2 c (c+m-R)->Srt q2 (c+m-R) b->Good q2 q3 c b):Good l q3 a b:=by
 have G2:=g2 h.s1 h.s2;have G3:=g3 (fun s t e1 e2 e3=>by rw[G2.out s (by omega),G2.out t (by omega)]; exact h.s3 s t e1 e2 e3) (fun s t e1 e2 e3=>by rw[G2.out s (by omega),G2.out t (by omega)]; exact h.s4 s t e1 e2 e3);refine⟨G3.perm.trans (G2.perm.trans p),fun s t e1 e2 e3=>?_,fun t e1=>?_,fun t e1 e2=>?_⟩
 .by_cases c1:t<c
  .rw [G3.out s (by omega),G3.out t (by omega)]; exact G2.srt s t e1 e2 c1
  .by_cases c2:c<=s
   .exact G3.srt s t c2 e2 e3
   .rw [G3.out s (by omega)]
    obtain⟨u,u1,u2,u3⟩:=G2.inn s e1 (by omega);obtain⟨v,v1,v2,v3⟩:=G3.inn t (by omega) e3;rw[u3,v3,G2.out v (by omega)];exact h.x u v u1 u2 v1 v2
 .rw [G3.out t (by omega),G2.out t (by omega),h.out t e1]
 .have key:∃ v,a<=v/\v<b/\q3.getD t d00=q1.getD v d00:=by
   by_cases c1:t<c
   .obtain ⟨u,u1,u2,u3⟩:=G2.inn t e1 c1
    exact⟨u,u1,by omega,by rw[G3.out t (by omega),u3]⟩
   .obtain ⟨v,v1,v2,v3⟩:=G3.inn t (by omega) e2
    exact⟨v,by omega,v2,by rw[v3,G2.out v (by omega)]⟩
  obtain⟨v,v1,v2,v3⟩:=key;obtain⟨u,u1,u2,u3⟩:=h.inn v v1 v2
  grind
theorem BwX{l:List Lq}{m c R:Nat}(hr:R<m)(he:m<c+m-R)(hl:m+(c-R)<=l.length)(t:Nat) :
  (rotF m (c+m-R-R) (m-R) (c+m-R-m) l).getD t d00=if t<R then l.getD t d00 else if t<c then l.getD (m+(t-R)) d00 else if t<c+m-R then l.getD (t-(c-R)) d00 else l.getD t d00:=by
 rw[AuM m _ _ _ l t (by omega) (by omega) (by omega) (by omega) (by omega)];rw[show m-(m-R)=R by omega,show c+m-R-m=c-R by omega,show R+(c-R)=c by omega,show m+(c-R)=c+m-R by omega]
theorem BwY{l:List Lq}{m c R:Nat}(h:¬ (R<m/\m<c+m-R))(hr:R<=c/\R<=m)(t:Nat) :
  l.getD t d00=if t<R then l.getD t d00 else if t<c then l.getD (m+(t-R)) d00 else if t<c+m-R then l.getD (t-(c-R)) d00 else l.getD t d00:=by
 .·grind
def BpM(St:Std)(N:Nat):Prop:=∀ (l:List Lq)(a m b:Nat),b-a<N->a<m->m<b->b<=l.length->l.length<1000000 ->
 ∃ l':List Lq,l'.Perm l/\(Srt l a m->Srt l m b->Good l l' a b)/\CtH prog St 134 [.sl 0 0 l.length l.length,.int .i64 a,.int .i64 m,.int .i64 b,.fn (.func 38) []] [.arr 4 (l.map lqA)] (ApD l')
theorem AuN{St:Std}(hS:LibOk St)(l:List Lq)(a m b:Nat)(ih:BpM St (b-a))(h1:a+1<m)(h2:m+1<b)(h3:b<=l.length)(hl:l.length<1000000) :
  ∃ l':List Lq,l'.Perm l/\(Srt l a m->Srt l m b->Good l l' a b)/\CtH prog St 134 [.sl 0 0 l.length l.length,.int .i64 a,.int .i64 m,.int .i64 b,.fn (.func 38) []] [.arr 4 (l.map lqA)] (ApD l'):=by
 have d0:((m:Int)-(a:Int)==1)=false:=by simp; omega
 have dxx:((b:Int)-(m:Int)==1)=false:=by simp; omega
 obtain⟨c,hc⟩:∃ c,c=(a+b) / 2:=⟨_,rfl⟩;have e1:((a:Int)+(b:Int)) / 2=(c:Int):=by omega
 obtain⟨st0,r0,w1,w2,w3,w4,hst⟩:∃ st0 r0:Nat,st0<=r0/\c+m<=b+st0/\r0<=c+m/\r0<=l.length/\((c<m/\st0=c+m-b/\r0=c)\/(¬ c<m/\st0=a/\r0=m)):=by
  by_cases hm:c<m
  .exact ⟨c+m-b,c,by omega,by omega,by omega,by omega,.inl ⟨hm,rfl,rfl⟩⟩
  .exact ⟨a,m,by omega,by omega,by omega,by omega,.inr ⟨hm,rfl,rfl⟩⟩
 obtain⟨R,hR⟩:∃ R,bsF (fun x=>!decide (keyC (l.getD (c+m-1-x) d00) (l.getD x d00)<0)) l.length st0 r0=R:=⟨_,rfl⟩;have hRb:=ApF (fun x=>!decide (keyC (l.getD (c+m-1-x) d00) (l.getD x d00)<0)) l.length st0 r0 w1;rw[hR]at hRb;obtain⟨q1,p1,f1q,hq1⟩:∃ q1:List Lq,q1.Perm l/\(∀ t,q1.getD t d00=if t<R then l.getD t d00 else if t<c then l.getD (m+(t-R)) d00 else if t<c+m-R then l.getD (t-(c-R)) d00 else l.getD t d00)/\((R<m/\m<c+m-R/\Ct prog 196 [.sl 0 0 l.length l.length,.int .i64 R,.int .i64 m,.int .i64 ((c+m-R:Nat):Int),.fn (.func 38) []] [.arr 4 (l.map lqA)] (ApD q1))\/(¬ (R<m/\m<c+m-R)/\q1=l)):=by
  by_cases h:R<m/\m<c+m-R
  .exact ⟨_,ApE m _ _ _ _ (by omega) (by omega),fun t=>BwX h.1 h.2 (by omega) t,.inl ⟨h.1,h.2,BtN l R m (c+m-R) 38 h.1 h.2 (by omega) hl⟩⟩
  .exact ⟨l,.refl _,fun t=>BwY h (by omega) t,.inr ⟨h,rfl⟩⟩
 obtain⟨q2,p2,f2q,hq2⟩:∃ q2:List Lq,q2.Perm l/\(Srt q1 a R->Srt q1 R c->Good q1 q2 a c)/\((a<R/\R<c/\CtH prog St 134 [.sl 0 0 l.length l.length,.int .i64 a,.int .i64 R,.int .i64 c,.fn (.func 38) []] [.arr 4 (q1.map lqA)] (ApD q2))\/(¬ (a<R/\R<c)/\q2=q1)):=by
  by_cases h:a<R/\R<c
  .obtain ⟨q',hp,hg',hc'⟩:=ih q1 a R c (by omega) h.1 h.2 (by rw[p1.length_eq]; omega) (by rw[p1.length_eq]; omega)
   rw[p1.length_eq]at hc';exact⟨q',hp.trans p1,hg',.inl ⟨h.1,h.2,hc'⟩⟩
  .exact ⟨q1,p1,AyN h,.inr ⟨h,rfl⟩⟩
 obtain⟨q3,p3,f3q,hq3⟩:∃ q3:List Lq,q3.Perm l/\(Srt q2 c (c+m-R)->Srt q2 (c+m-R) b->Good q2 q3 c b)/\((c<c+m-R/\c+m-R<b/\CtH prog St 134 [.sl 0 0 l.length l.length,.int .i64 c,.int .i64 ((c+m-R:Nat):Int),.int .i64 b,.fn (.func 38) []] [.arr 4 (q2.map lqA)] (ApD q3))\/(¬ (c<c+m-R/\c+m-R<b)/\q3=q2)):=by
  by_cases h:c<c+m-R/\c+m-R<b
  .obtain ⟨q',hp,hg',hc'⟩:=ih q2 c (c+m-R) b (by omega) h.1 h.2 (by rw[p2.length_eq]; omega) (by rw[p2.length_eq]; omega)
   rw[p2.length_eq]at hc';exact⟨q',hp.trans p2,hg',.inl ⟨h.1,h.2,hc'⟩⟩
  .exact ⟨q2,p2,AyN h,.inr ⟨h,rfl⟩⟩
 refine⟨q3,p3,fun o1 o2=>BmV (R:=R) (c:=c) (by omega) p1 (BwW h1 h2 hc o1 o2 hst w4 hR f1q) (by omega) f2q f3q,?_⟩;refine AcP func134 rfl ntmps134 hB134 (by simp) fun h ρ w hg=>goB rfl 66 ?_
 simp only[go_sem,d0,dxx,e1]
 repeat refine And.intro (by first|omega|rfl|exact A5V (by omega) (by omega)|(simp; done)) ?_
 refine acut (ι:=Unit) (fun _=>[(21,.int .i64 r0),(20,.int .i64 st0),(19,.int .i64 ((c:Int)+m)),(18,.int .i64 c),(4,.fn (.func 38) []),(3,.int .i64 b),(2,.int .i64 m),(1,.int .i64 a),(0,.sl 0 0 l.length l.length)]) (fun _=>[.arr 4 (l.map lqA)])
  (fun _=>True) ?_ ?_
 .intro J hJ
  have hfin:=hJ () trivial
  rcases hst with⟨hm,e5,e6⟩|⟨hm,e5,e6⟩
  .rw [e5,e6]at hfin
   have dm:decide ((m:Int)>(c:Int))=true:=by simp; omega
   apply zgB;simp only[go_sem,dm]
   repeat refine ao ?_
   rw[show(c:Int)+(m:Int)-(b:Int)=((c+m-b:Nat):Int) by omega];refine ainv hfin (Lu ?_ rfl);simp only[go_sem]
  .have dm:decide ((m:Int)>(c:Int))=false:=by simp; omega
   rw[e5,e6]at hfin;apply zgB;simp only[go_sem,dm];refine ainv hfin (Lu ?_ rfl);simp only[go_sem]
 rintro⟨⟩ _;apply zgB;simp only[go_sem]
 repeat refine ao ?_
 refine AaC (ι:=Nat×Nat) (fun y=>y.2-y.1) (fun y=>[(22,.int .i64 ((c:Int)+m-1)),(21,.int .i64 y.2),(20,.int .i64 y.1),(19,.int .i64 ((c:Int)+m)),(18,.int .i64 c),(4,.fn (.func 38) []),(3,.int .i64 b),(2,.int .i64 m),(1,.int .i64 a),(0,.sl 0 0 l.length l.length)]) (fun _=>[.arr 4 (l.map lqA)])
  (fun y=>y.1<=y.2/\c+m<=b+y.1/\y.2<=c+m/\y.2<=l.length/\∃ f,y.2-y.1<=f/\bsF (fun x=>!decide (keyC (l.getD (c+m-1-x) d00) (l.getD x d00)<0)) f y.1 y.2=R) (st0,r0) ⟨w1,w2,w3,w4,l.length,by simp only; omega,hR⟩ ?_ ?_
 .refine Lu ?_ rfl
  simp only[go_sem]
 rintro⟨i,j⟩ ⟨g1,g2,g3,g4,f0,f1,f2⟩ J hJ;simp only at g1 g2 g3 g4 f1 f2 hJ |-
 by_cases hij:i<j
 .obtain ⟨f3,rfl⟩:∃ f3,f0=f3+1:=⟨f0-1,by omega⟩
  rw[bsF,if_pos hij]at f2;have di:decide ((i:Int)<(j:Int))=true:=by simp; omega
  obtain⟨x,hx⟩:∃ x,x=(i+j) / 2:=⟨_,rfl⟩;have e1:((i:Int)+(j:Int)) / 2=(x:Int):=by omega
  have e2:((x:Int)).toNat=x:=by omega
  have e3:((c:Int)+(m:Int)-1-(x:Int)).toNat=c+m-1-x:=by omega
  have p1:=AbP l x (by omega);have p2:=AbP l (c+m-1-x) (by omega);have hc2:=AjL hS (l[c+m-1-x]'(by omega)) (l[x]'(by omega));simp only[lqA,leA]at hc2;apply zgB;simp only[go_sem,di,e1]
  repeat refine And.intro (by first|omega|rfl|exact A5V (by omega) (by omega)|(simp; done)|(simp[inr]; omega)) ?_
  refine zr [.int .i64 (keyC (l[c+m-1-x]'(by omega)) (l[x]'(by omega)))] AaF ?_
  cases dc:decide (keyC (l[c+m-1-x]'(by omega)) (l[x]'(by omega))<0)with
  | false =>
   have hP:(!decide (keyC (l.getD (c+m-1-x) d00) (l.getD x d00)<0))=true:=by rw[atD (by omega),atD (by omega),dc]; rfl
   rw[<- hx,if_pos hP]at f2;have hfin:=hJ (x+1,j) ⟨by simp only; omega,by simp only; omega,g3,g4,f3,by simp only; omega,f2⟩ (by simp only; omega);simp only[go_sem,e2,e3,p1,p2,dc,laa]
   repeat first|refine And.intro (by first|exact hc2.at hg) ?_|refine aj ?_
   apply zgB;simp only[go_sem]
   repeat refine ao ?_
   rw[ic x];refine ainv hfin (Lu ?_ rfl);simp only[go_sem]
  | true =>
   have hP:¬ (!decide (keyC (l.getD (c+m-1-x) d00) (l.getD x d00)<0))=true:=by rw[atD (by omega),atD (by omega),dc]; simp
   rw[<- hx,if_neg hP]at f2;have hfin:=hJ (i,x) ⟨by simp only; omega,g2,by simp only; omega,by simp only; omega,f3,by simp only; omega,f2⟩ (by simp only; omega);simp only[go_sem,e2,e3,p1,p2,dc,laa]
   repeat first|refine And.intro (by first|exact hc2.at hg) ?_|refine aj ?_
   apply zgB;simp only[go_sem];refine ainv hfin (Lu ?_ rfl);simp only[go_sem]
 .have di:decide ((i:Int)<(j:Int))=false:=by simp; omega
  rw[A2F hij]at f2;subst f2;clear hJ;obtain⟨en,hen⟩:∃ en,c+m-i=en:=⟨_,rfl⟩;have een:(c:Int)+(m:Int)-(i:Int)=(en:Int):=by omega
  rw[hen]at hq1 hq3;refine goB rfl 25 ?_;simp only[go_sem,di,een]
  repeat refine ao ?_
  refine acut (ι:=Unit) (fun _=>[(24,.int .i64 en),(20,.int .i64 i),(18,.int .i64 c),(4,.fn (.func 38) []),(3,.int .i64 b),(1,.int .i64 a),(0,.sl 0 0 l.length l.length)]) (fun _=>[.arr 4 (q1.map lqA)]) (fun _=>True) ?_ ?_
  .intro J hJ
   have hfin:=hJ () trivial
   rcases hq1 with⟨t1,t2,hr⟩|⟨hno,rfl⟩
   .have d1:decide ((i:Int)<(m:Int))=true:=by simp; omega
    have d2:decide ((m:Int)<(en:Int))=true:=by simp; omega
    apply zgB;simp only[go_sem,d1,d2];refine za (hr) ?_;rintro _ _ ⟨rfl,rfl⟩;apply zgB;simp only[go_sem];refine ainv hfin (Lu ?_ rfl);simp only[go_sem]
   .by_cases t1:i<m
    .have d1:decide ((i:Int)<(m:Int))=true:=by simp; omega
     have d2:decide ((m:Int)<(en:Int))=false:=by simp; omega
     apply zgB;simp only[go_sem,d1,d2];refine ainv hfin (Lu ?_ rfl);simp only[go_sem]
    .have d1:decide ((i:Int)<(m:Int))=false:=by simp; omega
     apply zgB;simp only[go_sem,d1];refine ainv hfin (Lu ?_ rfl);simp only[go_sem]
  rintro⟨⟩ _;refine goB rfl 1 ?_;simp only[go_sem];refine acut (ι:=Unit) (fun _=>[(24,.int .i64 en),(18,.int .i64 c),(4,.fn (.func 38) []),(3,.int .i64 b),(0,.sl 0 0 l.length l.length)]) (fun _=>[.arr 4 (q2.map lqA)]) (fun _=>True) ?_ ?_
  .intro J hJ
   have hfin:=hJ () trivial
   rcases hq2 with⟨t1,t2,hr⟩|⟨hno,rfl⟩
   .have d1:decide ((a:Int)<(i:Int))=true:=by simp; omega
    have d2:decide ((i:Int)<(c:Int))=true:=by simp; omega
    apply zgB;simp only[go_sem,d1,d2];refine zaH hg (hr) ?_;rintro _ _ ⟨rfl,rfl⟩;apply zgB;simp only[go_sem];refine ainv hfin (Lu ?_ rfl);simp only[go_sem]
   .by_cases t1:a<i
    .have d1:decide ((a:Int)<(i:Int))=true:=by simp; omega
     have d2:decide ((i:Int)<(c:Int))=false:=by simp; omega
     apply zgB;simp only[go_sem,d1,d2];refine ainv hfin (Lu ?_ rfl);simp only[go_sem]
    .have d1:decide ((a:Int)<(i:Int))=false:=by simp; omega
     apply zgB;simp only[go_sem,d1];refine ainv hfin (Lu ?_ rfl);simp only[go_sem]
  rintro⟨⟩ _
  rcases hq3 with⟨t1,t2,hr⟩|⟨hno,rfl⟩
  .have d1:decide ((c:Int)<(en:Int))=true:=by simp; omega
   have d2:decide ((en:Int)<(b:Int))=true:=by simp; omega
   apply zgB;simp only[go_sem,d1,d2];refine zaH hg (hr) ?_;rintro _ _ ⟨rfl,rfl⟩;apply zgB;simp only[go_sem];exact zt []
  .by_cases t1:c<en
   .have d1:decide ((c:Int)<(en:Int))=true:=by simp; omega
    have d2:decide ((en:Int)<(b:Int))=false:=by simp; omega
    apply zgB;simp only[go_sem,d1,d2];exact zt []
   .have d1:decide ((c:Int)<(en:Int))=false:=by simp; omega
    apply zgB;simp only[go_sem,d1];exact zt []
theorem AjN{St:Std}(hS:LibOk St):∀ N,BpM St N:=by
 intro N
 induction N using Nat.strongRecOn with
 | _ N ih =>
  intro l a m b hN h1 h2 h3 hl
  by_cases t1:m=a+1
  .subst t1
   refine⟨_,AuI _ _ _ _ ?_,fun _ o2=>BmU h2 h3 o2,AuK hS l a b h2 h3 hl⟩;have:=(ApF (fun c=>decide (keyC (l.getD c d00) (l.getD a d00)<0)) b (a+1) b (by omega)).2;omega
  .by_cases t2:b=m+1
   .subst t2
    exact⟨_,AuJ _ _ _ _ (by omega),fun o1 _=>BfR h1 h3 o1,AqD hS l a m (by omega) h3 hl⟩
   .exact AuN hS l a m b (ih (b-a) hN) (by omega) (by omega) h3 hl
theorem AfI{l:List Lq}{a b:Nat}(h:Srt l a b):Good l l a b:=⟨.refl _,h,fun _ _=>rfl,fun t h3 h4=>⟨t,h3,h4,rfl⟩⟩
structure Near(l l':List Lq)(a b:Nat):Prop where
 perm:l'.Perm l
 out:∀ t,t<a\/b<=t->l'.getD t d00=l.getD t d00
 inn:∀ t,a<=t->t<b->∃ u,a<=u/\u<b/\l'.getD t d00=l.getD u d00
theorem Good.near{l l':List Lq}{a b:Nat}(h:Good l l' a b):Near l l' a b:=⟨h.perm,h.out,h.inn⟩
theorem Near.next{q q' r:List Lq}{a b c:Nat}(h1:Near q q' a c)(h2:Good q' r a b)(h:c<=b):Good q r a b:=by
 refine⟨h2.perm.trans h1.perm,h2.srt,fun t ht=>?_,fun t h3 h4=>?_⟩
 .rw [h2.out t ht,h1.out t (by omega)]
 .obtain ⟨u,u1,u2,u3⟩:=h2.inn t h3 h4
  by_cases c1:u<c
  .obtain ⟨v,v1,v2,v3⟩:=h1.inn u u1 c1
   grind
  .exact ⟨u,u1,u2,by rw[u3,h1.out u (by omega)]⟩
theorem AyO(a i:Nat):∀ (f j:Nat)(q:List Lq),j<=f->a<=j->j<=i->i<q.length ->
  (∀ s t,a<=s->s<t->t<=i->s≠j->t≠j->le (q.getD s d00) (q.getD t d00))->(∀ t,j<t->t<=i->le (q.getD j d00) (q.getD t d00))->Good q (insF a f j q) a (i+1)
 | 0,j,q,h1,h2,h3,h4,s1,s2=>by
  refine AfI fun s t e1 e2 e3=>?_
  by_cases c:s=j
  .grind
  .exact s1 s t e1 e2 (by omega) c (by omega)
 | f+1,j,q,h1,h2,h3,h4,s1,s2=>by
  rw[insF]
  split
  .rename_i hc
   obtain⟨hc,hk⟩:=hc;rw[keyC_lt]at hk;have g:∀ t,((q.set j (q.getD (j-1) d00)).set (j-1) (q.getD j d00)).getD t d00=if t=j-1 then q.getD j d00 else if t=j then q.getD (j-1) d00 else q.getD t d00:=fun t=>by
    rw[set_getD,List.length_set,set_getD]
    by_cases c1:t=j-1
    .rw [if_pos ⟨c1,by omega⟩,if_pos c1]
    .rw [if_neg (fun x=>c1 x.1),if_neg c1]
     by_cases c2:t=j
     .grind
     grind
   have hp:((q.set j (q.getD (j-1) d00)).set (j-1) (q.getD j d00)).Perm q:=by
    rw[atD (by omega),atD (by omega)]
    simp_all[List.set_set_perm]
   generalize (q.set j (q.getD (j-1) d00)).set (j-1) (q.getD j d00)=q' at *;have hl:=hp.length_eq;have G:=AyO a i f (j-1) q' (by omega) (by omega) (by omega) (by omega) (fun s t e1 e2 e3 e4 e5=>by
     rw[g,g,if_neg e4,if_neg e5]
     by_cases c1:s=j
     .rw [if_pos c1,if_neg (by omega)]
      exact s1 _ _ (by omega) (by omega) (by omega) (by omega) (by omega)
     .rw [if_neg c1]
      by_cases c2:t=j
      .rw [if_pos c2]; exact s1 _ _ (by omega) (by omega) (by omega) (by omega) (by omega)
      grind) (fun t e1 e2=>by
     rw[g,g,if_pos rfl,if_neg (by omega)]
     by_cases c1:t=j
     .simp_all[BfN]
     .rw [if_neg c1]; exact s2 t (by omega) e2)
   refine Near.next ⟨hp,fun t ht=>?_,fun t h5 h6=>?_⟩ G (lab _)
   .rw [g,if_neg (by omega),if_neg (by omega)]
   .rw [g]
    split
    .exact ⟨j,by omega,by omega,rfl⟩
    .split
     .exact ⟨j-1,by omega,by omega,rfl⟩
     .exact ⟨t,h5,h6,rfl⟩
  .rename_i hc
   refine AfI fun s t e1 e2 e3=>?_
   by_cases c:s=j
   .grind
   .by_cases c2:t=j
    .have hk:le (q.getD (j-1) d00) (q.getD j d00):=fun hk=>hc ⟨by omega,keyC_lt.2 hk⟩
     rw[c2]
     by_cases c3:s=j-1
     .grind
     .exact le_trans (s1 s (j-1) e1 (by omega) (by omega) c (by omega)) hk
    grind
theorem A6A(a b:Nat):∀ (f i:Nat)(q:List Lq),b<=i+f->a<=i->b<=q.length->Srt q a i->(i<=b\/b<=a)->Good q (isQ a b f i q) a b
 | 0,i,q,h1,h2,h3,h4,_=>AfI (h4.sub (lab _) (by omega))
 | f+1,i,q,h1,h2,h3,h4,h5=>by
  rw[isQ]
  split
  .have G:=AyO a i i i q (lab _) h2 (lab _) (by omega) (fun s t e1 e2 e3 e4 e5=>h4 s t e1 e2 (by omega)) (fun t e1 e2=>by omega)
   refine G.near.next (A6A a b f (i+1) _ (by omega) (by omega) (by rw[G.perm.length_eq]; exact h3) G.srt (by omega)) (by omega)
  .exact AfI (h4.sub (lab _) (by omega))
def insS(q:List Lq)(a b:Nat):List Lq:=isQ a b (b+1-(a+1)) (a+1) q
theorem AyP{q:List Lq}{a b:Nat}(h0:a<=b)(h:b<=q.length):Good q (insS q a b) a b:=by
 by_cases c:a<b
 .exact A6A a b _ _ q (by omega) (by omega) h (fun s t e1 e2 e3=>by omega) (by omega)
 .have:insS q a b=q:=by
   unfold insS;rw[show b+1-(a+1)=0 by omega];rfl
  rw[this];exact AfI fun s t e1 e2 e3=>by omega
def BA(q:List Lq)(bs n j:Nat):Prop:=∀ k,k<j->Srt q (k*bs) (min (k*bs+bs) n)
def BB(q:List Lq)(bs n a:Nat):Prop:=∀ k,a<=k*bs->Srt q (k*bs) (min (k*bs+bs) n)
theorem BpN{k j bs:Nat}(h:k<j):k*bs+bs<=j*bs:=by
 have:=lbg bs (show k+1<=j by omega)
 grind
theorem BfS{q q':List Lq}{bs n j a:Nat}(ha:a=j*bs)(h:BA q bs n j)(g:Good q q' a (a+bs)):BA q' bs n (j+1):=by
 intro k hk s t e1 e2 e3
 by_cases c:k<j
 .have:=BpN (bs:=bs) c
  rw[g.out s (by omega),g.out t (by omega)];exact h k c s t e1 e2 e3
 .obtain rfl:k=j:=by omega
  exact g.srt s t (by omega) e2 (by omega)
theorem ba_end{q q':List Lq}{bs n j a:Nat}(ha:a=j*bs)(hn:n<=a+bs)(h:BA q bs n j)(g:Good q q' a n):BB q' bs n 0:=by
 intro k _ s t e1 e2 e3
 by_cases c:k<j
 .have:=BpN (bs:=bs) c
  rw[g.out s (by omega),g.out t (by omega)];exact h k c s t e1 e2 e3
 .have:j*bs<=k*bs:=lbg bs (by omega)
  exact g.srt s t (by omega) e2 (by omega)
theorem BtQ{q:List Lq}{bs n j a:Nat}(ha:a=j*bs)(hn:n<=a+bs)(h:BA q bs n j)(g:Srt q a n):BB q bs n 0:=by grind[ba_end,AfI]
theorem BpO{q:List Lq}{bs n j a:Nat}(ha:a=j*(bs*2))(h:BB q bs n a)(e:Nat)(he:e<=n):Srt q a (min (a+bs) e)/\Srt q (a+bs) (min (a+2*bs) e):=by
 have e1:2*j*bs=a:=by grind
 have e2:(2*j+1)*bs=a+bs:=by grind
 have h1:=h (2*j) (by omega);have h2:=h (2*j+1) (by omega);rw[e1]at h1;rw[e2]at h2;exact⟨h1.sub (lab _) (by omega),h2.sub (lab _) (by omega)⟩
theorem BtR{q q':List Lq}{bs n a e:Nat}(h:BB q bs n a)(g:Good q q' a e)(he:e<=a+2*bs):BB q' bs n (a+2*bs):=by
 intro k hk s t e1 e2 e3;rw[g.out s (by omega),g.out t (by omega)];exact h k (by omega) s t e1 e2 e3
theorem BwZ{q:List Lq}{bs n:Nat}(h:BB q bs n 0)(hn:n<=bs):Srt q 0 n:=by
 have:=h 0 (by omega)
 grind
theorem A6B(q:List Lq)(bs n:Nat):BA q bs n 0:=fun k hk=>absurd hk (by omega)
def BfT(l:List Lq)(r:AV)(s:LB):Prop:=∃ l',l'.Perm l/\Srt l' 0 l.length/\ApD l' r s
theorem BtS{St:Std}(hS:LibOk St)(l:List Lq)(hl:l.length<1000000) :
  CtH prog St 84 [.sl 0 0 l.length l.length,.int .i64 l.length,.fn (.func 38) []] [.arr 4 (l.map lqA)] (BfT l):=by
 refine zdIB func84 rfl fun h ρ w hg=>?_
 simp only[go_sem];refine AaC (ι:=Nat×List Lq) (fun y=>l.length-y.1) (fun y=>[(8,.int .i64 ((y.1+20:Nat):Int)),(7,.int .i64 y.1),(6,.int .i64 20),(2,.fn (.func 38) []),(1,.int .i64 l.length),(0,.sl 0 0 l.length l.length)]) (fun y=>[.arr 4 (y.2.map lqA)])
  (fun y=>y.1<=l.length/\y.2.Perm l/\∃ j,y.1=j*20/\BA y.2 20 l.length j) (0,l) ⟨by simp,.refl _,0,rfl,A6B _ _ _⟩ ?_ ?_
 .refine Lu ?_ rfl
  simp only[go_sem]
 rintro⟨a,q⟩ ⟨g1,g2,j0,f1,f2⟩ J hJ;simp only at g1 g2 f1 f2 hJ |-;have hq:=g2.length_eq
 by_cases t1:a+20<=l.length
 .have d1:decide (((a+20:Nat):Int)<=(l.length:Int))=true:=by simp; omega
  have hr:=AhQ hS q a (a+20) (by omega) (by omega) (by omega);have hgd:=AyP (q:=q) (a:=a) (b:=a+20) (by omega) (by omega);rw[hq]at hr;apply zgB;simp only[go_sem,d1];refine zaH hg (hr) ?_;rintro _ _ ⟨rfl,rfl⟩;have hfin:=hJ (a+20,insS q a (a+20)) ⟨by simp only; omega,hgd.perm.trans g2,j0+1,by simp only; omega,BfS f1 f2 hgd⟩ (by simp only; omega);apply zgB;simp only[go_sem]
  repeat refine ao ?_
  rw[show((a+20:Nat):Int)+20=((a+20+20:Nat):Int) by omega];refine ainv hfin (Lu ?_ rfl);simp only[go_sem]
 have d1:decide (((a+20:Nat):Int)<=(l.length:Int))=false:=by simp; omega
 have hr:=AhQ hS q a l.length (by omega) (by omega) (by omega);rw[hq]at hr;apply zgB;simp only[go_sem,d1];refine zaH hg (hr) ?_;rintro _ _ ⟨rfl,rfl⟩;obtain⟨q',hq'⟩:∃ q',insS q a l.length=q':=⟨_,rfl⟩;have hgd:=AyP (q:=q) (a:=a) (b:=l.length) (by omega) (by omega);rw[hq']at hgd;have hB:=ba_end f1 (by omega) f2 hgd;have hp:q'.Perm q:=hgd.perm;rw[show isQ a l.length (l.length+1-(a+1)) (a+1) q=q' from hq'];clear hJ J;apply zgB;simp only[go_sem];refine AaC (ι:=Nat×List Lq) (fun y=>l.length-y.1) (fun y=>[(6,.int .i64 y.1),(2,.fn (.func 38) []),(1,.int .i64 l.length),(0,.sl 0 0 l.length l.length)]) (fun y=>[.arr 4 (y.2.map lqA)])
  (fun y=>1<=y.1/\y.2.Perm l/\BB y.2 y.1 l.length 0) (20,q') ⟨by simp,hp.trans g2,hB⟩ ?_ ?_
 .refine Lu ?_ rfl
  simp only[go_sem]
 clear hr hp hgd hB f1 f2 hq' q' hq g2 g1 q d1 t1 a;rintro⟨bs,q⟩ ⟨g1,g2,f1⟩ J hJ;simp only at g1 g2 f1 hJ |-
 by_cases t1:bs<l.length
 .have d1:decide ((bs:Int)<(l.length:Int))=true:=by simp; omega
  apply zgB;simp only[go_sem,d1]
  repeat refine ao ?_
  rw[show(2:Int)*(bs:Int)=((0+2*bs:Nat):Int) by omega];refine AaC (ι:=Nat×List Lq) (fun y=>l.length-y.1) (fun y=>[(8,.int .i64 ((y.1+2*bs:Nat):Int)),(7,.int .i64 y.1),(6,.int .i64 bs),(2,.fn (.func 38) []),(1,.int .i64 l.length),(0,.sl 0 0 l.length l.length)]) (fun y=>[.arr 4 (y.2.map lqA)])
   (fun y=>y.1<=l.length/\y.2.Perm l/\∃ j,y.1=j*(bs*2)/\BA y.2 (bs*2) l.length j/\BB y.2 bs l.length y.1) (0,q) ⟨by simp,g2,0,(Nat.zero_mul _).symm,A6B _ _ _,f1⟩ ?_ ?_
  .refine Lu ?_ rfl
   simp only[go_sem]
  clear g2 f1 q;rintro⟨a,q⟩ ⟨k1,k2,j0,h1,h2,h3⟩ K hK;simp only at k1 k2 h1 h2 h3 hK |-;have hq:=k2.length_eq
  by_cases t2:a+2*bs<=l.length
  .have d2:decide (((a+2*bs:Nat):Int)<=(l.length:Int))=true:=by simp; omega
   obtain⟨q',hp,hg',hr⟩:=AjN hS (2*bs+1) q a (a+bs) (a+2*bs) (by omega) (by omega) (by omega) (by omega) (by omega);obtain⟨o1,o2⟩:=BpO h1 h3 (a+2*bs) t2;have hgd:=hg' (o1.sub (lab _) (by omega)) (o2.sub (lab _) (by omega));rw[hq,show((a+bs:Nat):Int)=(a:Int)+(bs:Int) by omega]at hr;apply zgB;simp only[go_sem,d2]
   repeat refine ao ?_
   refine zaH hg (hr) ?_;rintro _ _ ⟨rfl,rfl⟩;have hfin:=hK (a+2*bs,q') ⟨by simp only; omega,hp.trans k2,j0+1,by simp only; rw[Nat.add_mul,Nat.one_mul,<- h1]; omega,BfS h1 h2 (by rw[Nat.mul_comm bs 2]; exact hgd),BtR h3 hgd (lab _)⟩ (by simp only; omega);apply zgB;simp only[go_sem]
   repeat refine ao ?_
   rw[show((a+2*bs:Nat):Int)+2*(bs:Int)=((a+2*bs+2*bs:Nat):Int) by omega];refine ainv hfin (Lu ?_ rfl);simp only[go_sem]
  have d2:decide (((a+2*bs:Nat):Int)<=(l.length:Int))=false:=by simp; omega
  obtain⟨o1,o2⟩:=BpO h1 h3 l.length (lab _)
  by_cases t3:a+bs<l.length
  .have d3:decide ((a:Int)+(bs:Int)<(l.length:Int))=true:=by simp; omega
   obtain⟨q',hp,hg',hr⟩:=AjN hS (l.length-a+1) q a (a+bs) l.length (by omega) (by omega) (by omega) (by omega) (by omega);have hgd:=hg' (o1.sub (lab _) (by omega)) (o2.sub (lab _) (by omega));rw[hq,show((a+bs:Nat):Int)=(a:Int)+(bs:Int) by omega]at hr;apply zgB;simp only[go_sem,d2,d3]
   repeat refine ao ?_
   refine zaH hg (hr) ?_;rintro _ _ ⟨rfl,rfl⟩;have hfin:=hJ (bs*2,q') ⟨by simp only; omega,hp.trans k2,ba_end h1 (by omega) h2 hgd⟩ (by simp only; omega);apply zgB;simp only[go_sem]
   repeat refine ao ?_
   rw[show(bs:Int)*2=((bs*2:Nat):Int) by omega];refine ainv hfin (Lu ?_ rfl);simp only[go_sem]
  .have d3:decide ((a:Int)+(bs:Int)<(l.length:Int))=false:=by simp; omega
   have hfin:=hJ (bs*2,q) ⟨by simp only; omega,k2,BtQ h1 (by omega) h2 (o1.sub (lab _) (by omega))⟩ (by simp only; omega);apply zgB;simp only[go_sem,d2,d3]
   repeat refine ao ?_
   rw[show(bs:Int)*2=((bs*2:Nat):Int) by omega];refine ainv hfin (Lu ?_ rfl);simp only[go_sem]
 have d1:decide ((bs:Int)<(l.length:Int))=false:=by simp; omega
 have hs:=BwZ f1 (by omega);apply zgB;simp only[go_sem,d1];exact aret [] rfl ⟨q,g2,hs,rfl,rfl⟩
theorem A2G{St:Std}(hS:LibOk St)(l:List Lq)(hl:l.length<1000000) :
  CtH prog St 37 [.sl 0 0 l.length l.length,.fn (.func 38) []] [.arr 4 (l.map lqA)] (BfT l):=by
 have hr:=BtS hS l hl;refine zdIB func37 rfl fun h ρ w hg=>?_
 simp only[go_sem,laa]
 repeat refine aqe ?_
 refine zaH hg (hr) ?_;rintro _ _ ⟨l',h1,h2,rfl,rfl⟩;apply zgB;simp only[go_sem];exact aret [] rfl ⟨l',h1,h2,rfl,rfl⟩
theorem BxA{l nl:List Lq}(hn:nl.Pairwise kl)(hp:l.Perm nl)(hs:Srt l 0 l.length):l=nl:=by
 refine List.Perm.eq_of_pairwise (le:=le) (fun a b ha hb h1 h2=>?_) ?_ (hn.imp BfN) hp
 .have ha:=hp.mem_iff.1 ha
  obtain⟨i,hi,rfl⟩:=List.mem_iff_getElem.1 ha;obtain⟨j,hj,rfl⟩:=List.mem_iff_getElem.1 hb
  rcases Nat.lt_trichotomy i j with c|c|c
  .exact absurd (List.pairwise_iff_getElem.1 hn i j hi hj c) h2
  .subst c; rfl
  .exact absurd (List.pairwise_iff_getElem.1 hn j i hj hi c) h1
 .rw [lbj]
  intro i j hi hj hij;have:=hs i j (Nat.zero_le _) hij hj;rw[atD hi,atD hj]at this;exact this
structure LeafIn(f:Le'):Prop where
 Lb:f.Lb.length<=1000000
theorem AkU(f:Le')(hf:LeafIn f):Pc prog 36 [leA f] (· = leA f):=by
 have hl:=hf.Lb;obtain⟨nm,dr,fi,ls⟩:=f;simp only at hl;simp only[leA];refine zpIF func36 rfl fun h ρ w=>?_
 simp only[go_sem];refine za (AnR _ (ls.map .str) (AtG ls) (by simpa using hl)) ?_;rintro _ _ ⟨rfl,rfl⟩;apply zgF;simp only[go_sem];refine ARet.shift (Shift.frz 2 rfl (AcY ls)) ?_;have htk:List.take ls.length (List.map AV.str ls)=List.map AV.str ls:=lae (by simp);simp only[go_sem,frzE,frzC,frz,frz1,frzB,laa,lab,htk];exact AbF [.cell 2 54] rfl [_] ⟨by simp only[go_sem,sideIs],trivial⟩ ⟨rfl,rfl⟩
theorem AyQ(x y:Le')(hx:LeafIn x)(hy:LeafIn y):Pc prog 83 [leA x,leA y] (· = .bool (x.name==y.name&&(x.Lj==y.Lj&&(x.first==y.first&&x.Lb==y.Lb)))):=by
 have hl:=AfD x.Lb y.Lb (by have:=hx.Lb; omega) (by have:=hy.Lb; omega);obtain⟨nm,dr,fi,ls⟩:=x;obtain⟨nm',dr',fi',ls'⟩:=y;simp only[leA]at hl |-
 cases h1:nm==nm' with
 | false =>
  refine zpIB func83 rfl fun h ρ w=>?_
  simp only[go_sem,h1];exact zt [4]
 | true =>
  cases h2:dr==dr' with
  | false =>
   refine zpIB func83 rfl fun h ρ w=>?_
   simp only[go_sem,h1,h2];exact zt [4]
  | true =>
   cases h3:fi==fi' with
   | false =>
    refine zpIB func83 rfl fun h ρ w=>?_
    simp only[go_sem,h1,h2,h3];exact zt [4]
   | true =>
    refine zpIB func83 rfl fun h ρ w=>?_
    simp only[go_sem,h1,h2,h3];refine zpB (hl) ?_;simp only[go_sem];exact zt [4]
def ArS(x y:Le'):Bool:=x.name==y.name&&(x.Lj==y.Lj&&(x.first==y.first&&x.Lb==y.Lb))
theorem A8R{x y:Le'}:ArS x y=true ↔ x=y:=by
 obtain⟨a,b,c,d⟩:=x;obtain⟨a',b',c',d'⟩:=y
 simp[ArS]
theorem AeF(n:Nat)(l:List Le'):lowB n (.mp (sM (lvE l)))=true:=AoF (by intro p hp; simp only[lvE,List.mem_map]at hp; obtain⟨n,_,rfl⟩:=hp; rfl)
theorem A8S(l:List Le')(hl:l.length<=100000)(hd:(l.map (·.name)).Nodup):Ct prog 35 [.fz 4 (l.map leA)] [] (fun r s=>r=.mp 0/\s=[.mp (sM (lvE l))]):=by
 refine zcIF func35 rfl fun h ρ w=>?_
 simp only[go_sem,laa];refine AaC (ι:=Nat) (fun i=>l.length-i) (fun i=>[(9,.int .i64 i),(8,.int .i64 l.length),(7,.fz 4 (l.map leA)),(3,.mp 0)])
  (fun i=>[.mp (sM (lvE (l.take i)))]) (fun i=>i<=l.length) 0 (by simp) ?_ ?_
 .refine Lu ?_ (by simp[lvE,sM])
  simp only[go_sem]
 .intro i g6 J hJ
  by_cases gi:i<l.length
  .have di:decide ((i:Int)<(l.length:Int))=true:=by rw[laj]; omega
   have hle:=AaY gi;have m1:=BtA hd gi;have m2:=BmF (l.take i) l[i];rw[<- lad gi]at m2;simp only[leA]at m2;have hfin:=hJ (i+1) (by omega) (by omega);apply zgF;simp only[go_sem,di,hle,m1,m2,laa]
   repeat refine aqb ?_
   rw[ic i];refine ainv hfin (Shift.low 1 (by simp) (by simp) ?_ ?_)
   .simp only [lbk,lcc,las,lba,↓AeF,lbh]
   .simp only[go_sem]
  .have di:decide ((i:Int)<(l.length:Int))=false:=by rw[lai]; omega
   have hi:i=l.length:=by omega
   subst hi;rw[lap];apply zgF;simp only[go_sem,di];exact zt [2]
theorem sh_lvE(n:Nat)(l:List Le'):shB n (.mp (sM (lvE l)))=.mp (sM (lvE l)):=by
 unfold shB sM lvE;simp only[lbb];rfl
theorem Ct.impF{P:Program}{f:FuncId}{args:LY}{s:LB}{p q:AV->LB->Prop}(h:Ct P f args s p)(hpq:∀ r s',p r s'->q r s'):Ct P f args s q :=
 ⟨h.1,fun hh ρ w vs m r=>(h.2 hh ρ w vs m r).mono fun en w' ⟨v,r,s1,h',ρ',e,hp,rest⟩=>⟨v,r,s1,h',ρ',e,hpq _ _ hp,rest⟩⟩
theorem AjO(l:List Le')(hl:l.length<=100000)(hd:(l.map (·.name)).Nodup)(T:LB):Ct prog 35 [.fz 4 (l.map leA)] T (fun r s=>r=.mp T.length/\s=T++[.mp (sM (lvE l))]) :=
 Ct.impF ((A8S l hl hd).liftN rfl (by rintro _ _ ⟨_,rfl⟩; rfl) T) (by
  grind[sh_lvE,shV,sh1])
