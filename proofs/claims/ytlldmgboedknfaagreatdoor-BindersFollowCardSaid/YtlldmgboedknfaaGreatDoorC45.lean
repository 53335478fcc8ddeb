/- Stable merging: plain law of the middle case. -/
import Derived.Test.YtlldmgboedknfaaGreatDoorC44
set_option maxRecDepth 100000
set_option maxHeartbeats 8000000
set_option linter.unusedSimpArgs false
set_option linter.unusedVariables false
namespace Go.Proofs.YtlldmgboedknfaaGreatDoor
open Go Go.Av Go.RowKit _root_.Go.Proofs.Tryz
theorem AzR{l:List Lq}{a m b:Nat}(h:¬ (a<m/\m<b))(h1:Srt l a m)(h2:Srt l m b):Good l l a b:=by
 refine⟨.refl _,?_,fun _ _=>rfl,fun t h3 h4=>⟨t,h3,h4,rfl⟩⟩;intro s t hs hst ht
 by_cases c:a<m
 .exact h1 s t hs hst (by omega)
 .exact h2 s t (by omega) hst ht
structure MidQ(l q1:List Lq)(a m b c R:Nat):Prop where
 s1:Srt q1 a R
 s2:Srt q1 R c
 s3:Srt q1 c (c+m-R)
 s4:Srt q1 (c+m-R) b
 x:∀ s t,a<=s->s<c->c<=t->t<b->le (q1.getD s d00) (q1.getD t d00)
 inn:∀ t,a<=t->t<b->∃ u,a<=u/\u<b/\q1.getD t d00=l.getD u d00
 out:∀ t,t<a\/b<=t->q1.getD t d00=l.getD t d00
theorem BtV{l q1:List Lq}{a m b c st0 r0 R:Nat}(hm1:a+1<m)(hm2:m+1<b)(hc:c=(a+b) / 2)(h1:Srt l a m)(h2:Srt l m b)
  (hst:(c<m/\st0=c+m-b/\r0=c)\/(¬ c<m/\st0=a/\r0=m)) (hf:r0<=l.length)
  (hR:bsF (fun x=>!decide (keyC (l.getD (c+m-1-x) d00) (l.getD x d00)<0)) l.length st0 r0=R)
  (hq:∀ t,q1.getD t d00=if t<R then l.getD t d00 else if t<c then l.getD (m+(t-R)) d00 else if t<c+m-R then l.getD (t-(c-R)) d00 else l.getD t d00):MidQ l q1 a m b c R:=by
 have w1:st0<=r0/\a<=st0/\c+m<=b+st0/\r0<=m/\r0<=c/\c<b:=by
  rcases hst with⟨e1,e2,e3⟩|⟨e1,e2,e3⟩ <;> omega
 obtain⟨w1,w2,w3,w4,w5,w6⟩:=w1;have hbd:=AqK (fun x=>!decide (keyC (l.getD (c+m-1-x) d00) (l.getD x d00)<0)) l.length st0 r0 w1;obtain⟨s1,s2⟩:=AjZ (P:=fun x=>!decide (keyC (l.getD (c+m-1-x) d00) (l.getD x d00)<0)) l.length st0 r0 w1 (by omega) fun x y hx hxy hy hp=>by
  rw[A6M]at hp |-;exact le_trans (h1 x y (by omega) hxy (by omega)) (le_trans hp (h2.le' (by omega) (by omega) (by omega)))
 simp only[A6M]at s1;have s2:∀ x,bsF (fun x=>!decide (keyC (l.getD (c+m-1-x) d00) (l.getD x d00)<0)) l.length st0 r0<=x->x<r0->kl (l.getD (c+m-1-x) d00) (l.getD x d00):=fun x h1 h4=>by
  have:=s2 x h1 h4;simp only[Bool.not_eq_false',A6L]at this;exact this
 rw[hR]at s1 s2 hbd;clear hR;have qa:∀ t,t<R->q1.getD t d00=l.getD t d00:=fun t h=>by rw[hq,if_pos h]
 have qb:∀ t,R<=t->t<c->q1.getD t d00=l.getD (m+(t-R)) d00:=fun t h h'=>by rw[hq,if_neg (by omega),if_pos h']
 have qc:∀ t,c<=t->t<c+m-R->q1.getD t d00=l.getD (t-(c-R)) d00:=fun t h h'=>by rw[hq,if_neg (by omega),if_neg (by omega),if_pos h']
 have qd:∀ t,c<=t->c+m-R<=t->q1.getD t d00=l.getD t d00:=fun t h h'=>by rw[hq,if_neg (by omega),if_neg (by omega),if_neg (by omega)]
 refine⟨fun s t e1 e2 e3=>?_,fun s t e1 e2 e3=>?_,fun s t e1 e2 e3=>?_,fun s t e1 e2 e3=>?_,fun s t e1 e2 e3 e4=>?_,fun t e1 e2=>?_,fun t e1=>?_⟩
 .rw [qa s (by omega),qa t (by omega)]; exact h1 s t e1 e2 (by omega)
 .rw [qb s (by omega) (by omega),qb t (by omega) (by omega)]; exact h2 _ _ (by omega) (by omega) (by omega)
 .rw [qc s (by omega) (by omega),qc t (by omega) (by omega)]; exact h1 _ _ (by omega) (by omega) (by omega)
 .rw [qd s (by omega) (by omega),qd t (by omega) (by omega)]; exact h2 _ _ (by omega) (by omega) (by omega)
 .by_cases c1:s<R
  .rw [qa s c1]
   by_cases c2:t<c+m-R
   .rw [qc t e3 c2]; exact h1.le' (by omega) (by omega) (by omega)
   .rw [qd t e3 (by omega)]
    have h3:=s1 (R-1) (by rcases hst with⟨e1,e2,e3⟩|⟨e1,e2,e3⟩ <;> omega) (by omega);exact le_trans (h1.le' (by omega) (by omega) (by omega)) (le_trans h3 (h2.le' (by omega) (by omega) (by omega)))
  .rw [qb s (by omega) e2]
   by_cases c2:t<c+m-R
   .rw [qc t e3 c2]
    have h3:=s2 R (Nat.le_refl _) (by rcases hst with⟨e1,e2,e3⟩|⟨e1,e2,e3⟩ <;> omega);exact le_trans (h2.le' (by omega) (by omega) (by omega)) (le_trans (BgB h3) (h1.le' (by omega) (by omega) (by omega)))
   .rw [qd t e3 (by omega)]
    exact h2.le' (by omega) (by omega) (by omega)
 .by_cases c1:t<R
  .exact ⟨t,e1,e2,qa t c1⟩
  .by_cases c2:t<c
   .exact ⟨_,by omega,by omega,qb t (by omega) c2⟩
   .by_cases c3:t<c+m-R
    .exact ⟨_,by omega,by omega,qc t (by omega) c3⟩
    .exact ⟨_,e1,e2,qd t (by omega) (by omega)⟩
 .rcases e1 with e1|e1
  .exact qa t (by omega)
  .exact qd t (by omega) (by omega)
theorem BlO{l q1 q2 q3:List Lq}{a m b c R:Nat}(hc:a<=c/\c<=b)(p:q1.Perm l)(h:MidQ l q1 a m b c R)(hr:R<=c/\R<=m)
  (g2:Srt q1 a R->Srt q1 R c->Good q1 q2 a c) (g3:Srt q2 c (c+m-R)->Srt q2 (c+m-R) b->Good q2 q3 c b):Good l q3 a b:=by
 have G2:=g2 h.s1 h.s2;have G3:=g3 (fun s t e1 e2 e3=>by rw[G2.out s (by omega),G2.out t (by omega)]; exact h.s3 s t e1 e2 e3) (fun s t e1 e2 e3=>by rw[G2.out s (by omega),G2.out t (by omega)]; exact h.s4 s t e1 e2 e3);refine⟨G3.perm.trans (G2.perm.trans p),fun s t e1 e2 e3=>?_,fun t e1=>?_,fun t e1 e2=>?_⟩
 .by_cases c1:t<c
  .rw [G3.out s (by omega),G3.out t (by omega)]; exact G2.srt s t e1 e2 c1
  .by_cases c2:c<=s
   .exact G3.srt s t c2 e2 e3
   .rw [G3.out s (by omega)]
    obtain⟨u,u1,u2,u3⟩:=G2.inn s e1 (by omega);obtain⟨v,v1,v2,v3⟩:=G3.inn t (by omega) e3;rw[u3,v3,G2.out v (by omega)];exact h.x u v u1 u2 v1 v2
 .rw [G3.out t (by omega),G2.out t (by omega),h.out t e1]
 .have key:∃ v,a<=v/\v<b/\q3.getD t d00=q1.getD v d00:=by
   by_cases c1:t<c
   .obtain ⟨u,u1,u2,u3⟩:=G2.inn t e1 c1
    exact⟨u,u1,by omega,by rw[G3.out t (by omega),u3]⟩
   .obtain ⟨v,v1,v2,v3⟩:=G3.inn t (by omega) e2
    exact⟨v,by omega,v2,by rw[v3,G2.out v (by omega)]⟩
  obtain⟨v,v1,v2,v3⟩:=key;obtain⟨u,u1,u2,u3⟩:=h.inn v v1 v2;exact⟨u,u1,u2,v3.trans u3⟩
theorem BtW{l:List Lq}{m c R:Nat}(hr:R<m)(he:m<c+m-R)(hl:m+(c-R)<=l.length)(t:Nat) :
  (rotF m (c+m-R-R) (m-R) (c+m-R-m) l).getD t d00=if t<R then l.getD t d00 else if t<c then l.getD (m+(t-R)) d00 else if t<c+m-R then l.getD (t-(c-R)) d00 else l.getD t d00:=by
 rw[AvL m _ _ _ l t (by omega) (by omega) (by omega) (by omega) (by omega)];rw[show m-(m-R)=R by omega,show c+m-R-m=c-R by omega,show R+(c-R)=c by omega,show m+(c-R)=c+m-R by omega]
theorem BtX{l:List Lq}{m c R:Nat}(h:¬ (R<m/\m<c+m-R))(hr:R<=c/\R<=m)(t:Nat) :
  l.getD t d00=if t<R then l.getD t d00 else if t<c then l.getD (m+(t-R)) d00 else if t<c+m-R then l.getD (t-(c-R)) d00 else l.getD t d00:=by
 by_cases c1:t<R
 .rw [if_pos c1]
 .rw [if_neg c1]
  by_cases c2:t<c
  .rw [if_pos c2]; congr 1; omega
  .rw [if_neg c2]
   by_cases c3:t<c+m-R
   .rw [if_pos c3]; congr 1; omega
   .rw [if_neg c3]
def BmY(St:Std)(N:Nat):Prop:=∀ (l:List Lq)(a m b:Nat),b-a<N->a<m->m<b->b<=l.length->l.length<1000000 ->
 ∃ l':List Lq,l'.Perm l/\(Srt l a m->Srt l m b->Good l l' a b)/\CtH prog St 150 [.sl 0 0 l.length l.length,.int .i64 a,.int .i64 m,.int .i64 b,.fn (.func 45) []] [.arr 4 (l.map lqA)] (AqI l')
theorem AvM{St:Std}(hS:LibOk St)(l:List Lq)(a m b:Nat)(ih:BmY St (b-a))(h1:a+1<m)(h2:m+1<b)(h3:b<=l.length)(hl:l.length<1000000) :
  ∃ l':List Lq,l'.Perm l/\(Srt l a m->Srt l m b->Good l l' a b)/\CtH prog St 150 [.sl 0 0 l.length l.length,.int .i64 a,.int .i64 m,.int .i64 b,.fn (.func 45) []] [.arr 4 (l.map lqA)] (AqI l'):=by
 have d0:((m:Int)-(a:Int)==1)=false:=by simp; omega
 have dxx:((b:Int)-(m:Int)==1)=false:=by simp; omega
 obtain⟨c,hc⟩:∃ c,c=(a+b) / 2:=⟨_,rfl⟩;have e1:((a:Int)+(b:Int)) / 2=(c:Int):=by omega
 obtain⟨st0,r0,w1,w2,w3,w4,hst⟩:∃ st0 r0:Nat,st0<=r0/\c+m<=b+st0/\r0<=c+m/\r0<=l.length/\((c<m/\st0=c+m-b/\r0=c)\/(¬ c<m/\st0=a/\r0=m)):=by
  by_cases hm:c<m
  .exact ⟨c+m-b,c,by omega,by omega,by omega,by omega,.inl ⟨hm,rfl,rfl⟩⟩
  .exact ⟨a,m,by omega,by omega,by omega,by omega,.inr ⟨hm,rfl,rfl⟩⟩
 obtain⟨R,hR⟩:∃ R,bsF (fun x=>!decide (keyC (l.getD (c+m-1-x) d00) (l.getD x d00)<0)) l.length st0 r0=R:=⟨_,rfl⟩;have hRb:=AqK (fun x=>!decide (keyC (l.getD (c+m-1-x) d00) (l.getD x d00)<0)) l.length st0 r0 w1;rw[hR]at hRb;obtain⟨q1,p1,f1q,hq1⟩:∃ q1:List Lq,q1.Perm l/\(∀ t,q1.getD t d00=if t<R then l.getD t d00 else if t<c then l.getD (m+(t-R)) d00 else if t<c+m-R then l.getD (t-(c-R)) d00 else l.getD t d00)/\((R<m/\m<c+m-R/\Ct prog 200 [.sl 0 0 l.length l.length,.int .i64 R,.int .i64 m,.int .i64 ((c+m-R:Nat):Int),.fn (.func 45) []] [.arr 4 (l.map lqA)] (AqI q1))\/(¬ (R<m/\m<c+m-R)/\q1=l)):=by
  by_cases h:R<m/\m<c+m-R
  .exact ⟨_,AqJ m _ _ _ _ (by omega) (by omega),fun t=>BtW h.1 h.2 (by omega) t,.inl ⟨h.1,h.2,BqZ l R m (c+m-R) 45 h.1 h.2 (by omega) hl⟩⟩
  .exact ⟨l,.refl _,fun t=>BtX h (by omega) t,.inr ⟨h,rfl⟩⟩
 obtain⟨q2,p2,f2q,hq2⟩:∃ q2:List Lq,q2.Perm l/\(Srt q1 a R->Srt q1 R c->Good q1 q2 a c)/\((a<R/\R<c/\CtH prog St 150 [.sl 0 0 l.length l.length,.int .i64 a,.int .i64 R,.int .i64 c,.fn (.func 45) []] [.arr 4 (q1.map lqA)] (AqI q2))\/(¬ (a<R/\R<c)/\q2=q1)):=by
  by_cases h:a<R/\R<c
  .obtain ⟨q',hp,hg',hc'⟩:=ih q1 a R c (by omega) h.1 h.2 (by rw[p1.length_eq]; omega) (by rw[p1.length_eq]; omega)
   rw[p1.length_eq]at hc';exact⟨q',hp.trans p1,hg',.inl ⟨h.1,h.2,hc'⟩⟩
  .exact ⟨q1,p1,AzR h,.inr ⟨h,rfl⟩⟩
 obtain⟨q3,p3,f3q,hq3⟩:∃ q3:List Lq,q3.Perm l/\(Srt q2 c (c+m-R)->Srt q2 (c+m-R) b->Good q2 q3 c b)/\((c<c+m-R/\c+m-R<b/\CtH prog St 150 [.sl 0 0 l.length l.length,.int .i64 c,.int .i64 ((c+m-R:Nat):Int),.int .i64 b,.fn (.func 45) []] [.arr 4 (q2.map lqA)] (AqI q3))\/(¬ (c<c+m-R/\c+m-R<b)/\q3=q2)):=by
  by_cases h:c<c+m-R/\c+m-R<b
  .obtain ⟨q',hp,hg',hc'⟩:=ih q2 c (c+m-R) b (by omega) h.1 h.2 (by rw[p2.length_eq]; omega) (by rw[p2.length_eq]; omega)
   rw[p2.length_eq]at hc';exact⟨q',hp.trans p2,hg',.inl ⟨h.1,h.2,hc'⟩⟩
  .exact ⟨q2,p2,AzR h,.inr ⟨h,rfl⟩⟩
 refine⟨q3,p3,fun o1 o2=>BlO (R:=R) (c:=c) (by omega) p1 (BtV h1 h2 hc o1 o2 hst w4 hR f1q) (by omega) f2q f3q,?_⟩;refine AcN func150 rfl ntmps150 hB150 (by simp) fun h ρ w hg=>goB rfl 66 ?_
 simp only[go_sem,d0,dxx,e1]
 repeat refine And.intro (by first|omega|rfl|exact A6I (by omega) (by omega)|(simp; done)) ?_
 refine acut (ι:=Unit) (fun _=>[(21,.int .i64 r0),(20,.int .i64 st0),(19,.int .i64 ((c:Int)+m)),(18,.int .i64 c),(4,.fn (.func 45) []),(3,.int .i64 b),(2,.int .i64 m),(1,.int .i64 a),(0,.sl 0 0 l.length l.length)]) (fun _=>[.arr 4 (l.map lqA)])
  (fun _=>True) ?_ ?_
 .intro J hJ
  have hfin:=hJ () trivial
  rcases hst with⟨hm,e5,e6⟩|⟨hm,e5,e6⟩
  .rw [e5,e6]at hfin
   have dm:decide ((m:Int)>(c:Int))=true:=by simp; omega
   refine zgB ?_;simp only[go_sem,dm]
   repeat refine ao ?_
   rw[show(c:Int)+(m:Int)-(b:Int)=((c+m-b:Nat):Int) by omega];refine ainv hfin (Shift.weakS ?_ rfl);simp only[go_sem]
  .have dm:decide ((m:Int)>(c:Int))=false:=by simp; omega
   rw[e5,e6]at hfin;refine zgB ?_;simp only[go_sem,dm];refine ainv hfin (Shift.weakS ?_ rfl);simp only[go_sem]
 rintro⟨⟩ _;refine zgB ?_;simp only[go_sem]
 repeat refine ao ?_
 refine AaI (ι:=Nat×Nat) (fun y=>y.2-y.1) (fun y=>[(22,.int .i64 ((c:Int)+m-1)),(21,.int .i64 y.2),(20,.int .i64 y.1),(19,.int .i64 ((c:Int)+m)),(18,.int .i64 c),(4,.fn (.func 45) []),(3,.int .i64 b),(2,.int .i64 m),(1,.int .i64 a),(0,.sl 0 0 l.length l.length)]) (fun _=>[.arr 4 (l.map lqA)])
  (fun y=>y.1<=y.2/\c+m<=b+y.1/\y.2<=c+m/\y.2<=l.length/\∃ f,y.2-y.1<=f/\bsF (fun x=>!decide (keyC (l.getD (c+m-1-x) d00) (l.getD x d00)<0)) f y.1 y.2=R) (st0,r0) ⟨w1,w2,w3,w4,l.length,by simp only; omega,hR⟩ ?_ ?_
 .refine Shift.weakS ?_ rfl
  simp only[go_sem]
 rintro⟨i,j⟩ ⟨g1,g2,g3,g4,f0,f1,f2⟩ J hJ;simp only at g1 g2 g3 g4 f1 f2 hJ |-
 by_cases hij:i<j
 .obtain ⟨f3,rfl⟩:∃ f3,f0=f3+1:=⟨f0-1,by omega⟩
  rw[bsF,if_pos hij]at f2;have di:decide ((i:Int)<(j:Int))=true:=by simp; omega
  obtain⟨x,hx⟩:∃ x,x=(i+j) / 2:=⟨_,rfl⟩;have e1:((i:Int)+(j:Int)) / 2=(x:Int):=by omega
  have e2:((x:Int)).toNat=x:=by omega
  have e3:((c:Int)+(m:Int)-1-(x:Int)).toNat=c+m-1-x:=by omega
  have p1:=AbV l x (by omega);have p2:=AbV l (c+m-1-x) (by omega);have hc2:=AjY hS (l[c+m-1-x]'(by omega)) (l[x]'(by omega));simp only[lqA,leA]at hc2;refine zgB ?_;simp only[go_sem,di,e1]
  repeat refine And.intro (by first|omega|rfl|exact A6I (by omega) (by omega)|(simp; done)|(simp[inr]; omega)) ?_
  refine zr [.int .i64 (keyC (l[c+m-1-x]'(by omega)) (l[x]'(by omega)))] mixed ?_
  cases dc:decide (keyC (l[c+m-1-x]'(by omega)) (l[x]'(by omega))<0)with
  | false =>
   have hP:(!decide (keyC (l.getD (c+m-1-x) d00) (l.getD x d00)<0))=true:=by rw[atD (by omega),atD (by omega),dc]; rfl
   rw[<- hx,if_pos hP]at f2;have hfin:=hJ (x+1,j) ⟨by simp only; omega,by simp only; omega,g3,g4,f3,by simp only; omega,f2⟩ (by simp only; omega);simp only[go_sem,e2,e3,p1,p2,dc,List.length_map]
   repeat first|refine And.intro (by first|exact hc2.at hg) ?_|refine aj ?_
   refine zgB ?_;simp only[go_sem]
   repeat refine ao ?_
   rw[ic x];refine ainv hfin (Shift.weakS ?_ rfl);simp only[go_sem]
  | true =>
   have hP:¬ (!decide (keyC (l.getD (c+m-1-x) d00) (l.getD x d00)<0))=true:=by rw[atD (by omega),atD (by omega),dc]; simp
   rw[<- hx,if_neg hP]at f2;have hfin:=hJ (i,x) ⟨by simp only; omega,g2,by simp only; omega,by simp only; omega,f3,by simp only; omega,f2⟩ (by simp only; omega);simp only[go_sem,e2,e3,p1,p2,dc,List.length_map]
   repeat first|refine And.intro (by first|exact hc2.at hg) ?_|refine aj ?_
   refine zgB ?_;simp only[go_sem];refine ainv hfin (Shift.weakS ?_ rfl);simp only[go_sem]
 .have di:decide ((i:Int)<(j:Int))=false:=by simp; omega
  rw[A3A hij]at f2;subst f2;clear hJ;obtain⟨en,hen⟩:∃ en,c+m-i=en:=⟨_,rfl⟩;have een:(c:Int)+(m:Int)-(i:Int)=(en:Int):=by omega
  rw[hen]at hq1 hq3;refine goB rfl 25 ?_;simp only[go_sem,di,een]
  repeat refine ao ?_
  refine acut (ι:=Unit) (fun _=>[(24,.int .i64 en),(20,.int .i64 i),(18,.int .i64 c),(4,.fn (.func 45) []),(3,.int .i64 b),(1,.int .i64 a),(0,.sl 0 0 l.length l.length)]) (fun _=>[.arr 4 (q1.map lqA)]) (fun _=>True) ?_ ?_
  .intro J hJ
   have hfin:=hJ () trivial
   rcases hq1 with⟨t1,t2,hr⟩|⟨hno,rfl⟩
   .have d1:decide ((i:Int)<(m:Int))=true:=by simp; omega
    have d2:decide ((m:Int)<(en:Int))=true:=by simp; omega
    refine zgB ?_;simp only[go_sem,d1,d2];refine za (hr) ?_;rintro _ _ ⟨rfl,rfl⟩;refine zgB ?_;simp only[go_sem];refine ainv hfin (Shift.weakS ?_ rfl);simp only[go_sem]
   .by_cases t1:i<m
    .have d1:decide ((i:Int)<(m:Int))=true:=by simp; omega
     have d2:decide ((m:Int)<(en:Int))=false:=by simp; omega
     refine zgB ?_;simp only[go_sem,d1,d2];refine ainv hfin (Shift.weakS ?_ rfl);simp only[go_sem]
    .have d1:decide ((i:Int)<(m:Int))=false:=by simp; omega
     refine zgB ?_;simp only[go_sem,d1];refine ainv hfin (Shift.weakS ?_ rfl);simp only[go_sem]
  rintro⟨⟩ _;refine goB rfl 1 ?_;simp only[go_sem];refine acut (ι:=Unit) (fun _=>[(24,.int .i64 en),(18,.int .i64 c),(4,.fn (.func 45) []),(3,.int .i64 b),(0,.sl 0 0 l.length l.length)]) (fun _=>[.arr 4 (q2.map lqA)]) (fun _=>True) ?_ ?_
  .intro J hJ
   have hfin:=hJ () trivial
   rcases hq2 with⟨t1,t2,hr⟩|⟨hno,rfl⟩
   .have d1:decide ((a:Int)<(i:Int))=true:=by simp; omega
    have d2:decide ((i:Int)<(c:Int))=true:=by simp; omega
    refine zgB ?_;simp only[go_sem,d1,d2];refine zaH hg (hr) ?_;rintro _ _ ⟨rfl,rfl⟩;refine zgB ?_;simp only[go_sem];refine ainv hfin (Shift.weakS ?_ rfl);simp only[go_sem]
   .by_cases t1:a<i
    .have d1:decide ((a:Int)<(i:Int))=true:=by simp; omega
     have d2:decide ((i:Int)<(c:Int))=false:=by simp; omega
     refine zgB ?_;simp only[go_sem,d1,d2];refine ainv hfin (Shift.weakS ?_ rfl);simp only[go_sem]
    .have d1:decide ((a:Int)<(i:Int))=false:=by simp; omega
     refine zgB ?_;simp only[go_sem,d1];refine ainv hfin (Shift.weakS ?_ rfl);simp only[go_sem]
  rintro⟨⟩ _
  rcases hq3 with⟨t1,t2,hr⟩|⟨hno,rfl⟩
  .have d1:decide ((c:Int)<(en:Int))=true:=by simp; omega
   have d2:decide ((en:Int)<(b:Int))=true:=by simp; omega
   refine zgB ?_;simp only[go_sem,d1,d2];refine zaH hg (hr) ?_;rintro _ _ ⟨rfl,rfl⟩;refine zgB ?_;simp only[go_sem];exact zt []
  .by_cases t1:c<en
   .have d1:decide ((c:Int)<(en:Int))=true:=by simp; omega
    have d2:decide ((en:Int)<(b:Int))=false:=by simp; omega
    refine zgB ?_;simp only[go_sem,d1,d2];exact zt []
   .have d1:decide ((c:Int)<(en:Int))=false:=by simp; omega
    refine zgB ?_;simp only[go_sem,d1];exact zt []
theorem AkA{St:Std}(hS:LibOk St):∀ N,BmY St N:=by
 intro N
 induction N using Nat.strongRecOn with
 | _ N ih =>
  intro l a m b hN h1 h2 h3 hl
  by_cases t1:m=a+1
  .subst t1
   refine⟨_,AvG _ _ _ _ ?_,fun _ o2=>BlN h2 h3 o2,AvI hS l a b h2 h3 hl⟩;have:=(AqK (fun c=>decide (keyC (l.getD c d00) (l.getD a d00)<0)) b (a+1) b (by omega)).2;omega
  .by_cases t2:b=m+1
   .subst t2
    exact⟨_,AvH _ _ _ _ (by omega),fun o1 _=>BgF h1 h3 o1,ArA hS l a m (by omega) h3 hl⟩
   .exact AvM hS l a m b (ih (b-a) hN) (by omega) (by omega) h3 hl
theorem AfJ{l:List Lq}{a b:Nat}(h:Srt l a b):Good l l a b:=⟨.refl _,h,fun _ _=>rfl,fun t h3 h4=>⟨t,h3,h4,rfl⟩⟩
structure Near(l l':List Lq)(a b:Nat):Prop where
 perm:l'.Perm l
 out:∀ t,t<a\/b<=t->l'.getD t d00=l.getD t d00
 inn:∀ t,a<=t->t<b->∃ u,a<=u/\u<b/\l'.getD t d00=l.getD u d00
theorem Good.near{l l':List Lq}{a b:Nat}(h:Good l l' a b):Near l l' a b:=⟨h.perm,h.out,h.inn⟩
theorem Near.next{q q' r:List Lq}{a b c:Nat}(h1:Near q q' a c)(h2:Good q' r a b)(h:c<=b):Good q r a b:=by
 refine⟨h2.perm.trans h1.perm,h2.srt,fun t ht=>?_,fun t h3 h4=>?_⟩
 .rw [h2.out t ht,h1.out t (by omega)]
 .obtain ⟨u,u1,u2,u3⟩:=h2.inn t h3 h4
  by_cases c1:u<c
  .obtain ⟨v,v1,v2,v3⟩:=h1.inn u u1 c1
   exact⟨v,v1,by omega,by rw[u3,v3]⟩
  .exact ⟨u,u1,u2,by rw[u3,h1.out u (by omega)]⟩
theorem AzS(a i:Nat):∀ (f j:Nat)(q:List Lq),j<=f->a<=j->j<=i->i<q.length ->
  (∀ s t,a<=s->s<t->t<=i->s≠j->t≠j->le (q.getD s d00) (q.getD t d00))->(∀ t,j<t->t<=i->le (q.getD j d00) (q.getD t d00))->Good q (insF a f j q) a (i+1)
 | 0,j,q,h1,h2,h3,h4,s1,s2=>by
  refine AfJ fun s t e1 e2 e3=>?_
  by_cases c:s=j
  .rw [c]; exact s2 t (by omega) (by omega)
  .exact s1 s t e1 e2 (by omega) c (by omega)
 | f+1,j,q,h1,h2,h3,h4,s1,s2=>by
  rw[insF]
  split
  .rename_i hc
   obtain⟨hc,hk⟩:=hc;rw[keyC_lt]at hk;have g:∀ t,((q.set j (q.getD (j-1) d00)).set (j-1) (q.getD j d00)).getD t d00=if t=j-1 then q.getD j d00 else if t=j then q.getD (j-1) d00 else q.getD t d00:=fun t=>by
    rw[set_getD,List.length_set,set_getD]
    by_cases c1:t=j-1
    .rw [if_pos ⟨c1,by omega⟩,if_pos c1]
    .rw [if_neg (fun x=>c1 x.1),if_neg c1]
     by_cases c2:t=j
     .rw [if_pos ⟨c2,by omega⟩,if_pos c2]
     .rw [if_neg (fun x=>c2 x.1),if_neg c2]
   have hp:((q.set j (q.getD (j-1) d00)).set (j-1) (q.getD j d00)).Perm q:=by
    rw[atD (by omega),atD (by omega)];exact List.set_set_perm (by omega) (by omega)
   generalize (q.set j (q.getD (j-1) d00)).set (j-1) (q.getD j d00)=q' at *;have hl:=hp.length_eq;have G:=AzS a i f (j-1) q' (by omega) (by omega) (by omega) (by omega) (fun s t e1 e2 e3 e4 e5=>by
     rw[g,g,if_neg e4,if_neg e5]
     by_cases c1:s=j
     .rw [if_pos c1,if_neg (by omega)]
      exact s1 _ _ (by omega) (by omega) (by omega) (by omega) (by omega)
     .rw [if_neg c1]
      by_cases c2:t=j
      .rw [if_pos c2]; exact s1 _ _ (by omega) (by omega) (by omega) (by omega) (by omega)
      .rw [if_neg c2]; exact s1 _ _ e1 e2 e3 c1 c2) (fun t e1 e2=>by
     rw[g,g,if_pos rfl,if_neg (by omega)]
     by_cases c1:t=j
     .rw [if_pos c1]; exact BgB hk
     .rw [if_neg c1]; exact s2 t (by omega) e2)
   refine Near.next (c:=i+1) ⟨hp,fun t ht=>?_,fun t h5 h6=>?_⟩ G (Nat.le_refl _)
   .rw [g,if_neg (by omega),if_neg (by omega)]
   .rw [g]
    split
    .exact ⟨j,by omega,by omega,rfl⟩
    .split
     .exact ⟨j-1,by omega,by omega,rfl⟩
     .exact ⟨t,h5,h6,rfl⟩
  .rename_i hc
   refine AfJ fun s t e1 e2 e3=>?_
   by_cases c:s=j
   .rw [c]; exact s2 t (by omega) (by omega)
   .by_cases c2:t=j
    .have hk:le (q.getD (j-1) d00) (q.getD j d00):=fun hk=>hc ⟨by omega,keyC_lt.2 hk⟩
     rw[c2]
     by_cases c3:s=j-1
     .rw [c3]; exact hk
     .exact le_trans (s1 s (j-1) e1 (by omega) (by omega) c (by omega)) hk
    .exact s1 s t e1 e2 (by omega) c c2
theorem A6N(a b:Nat):∀ (f i:Nat)(q:List Lq),b<=i+f->a<=i->b<=q.length->Srt q a i->(i<=b\/b<=a)->Good q (isQ a b f i q) a b
 | 0,i,q,h1,h2,h3,h4,_=>AfJ (h4.sub (Nat.le_refl _) (by omega))
 | f+1,i,q,h1,h2,h3,h4,h5=>by
  rw[isQ]
  split
  .rename_i hc
   have G:=AzS a i i i q (Nat.le_refl _) h2 (Nat.le_refl _) (by omega) (fun s t e1 e2 e3 e4 e5=>h4 s t e1 e2 (by omega)) (fun t e1 e2=>by omega);refine G.near.next (A6N a b f (i+1) _ (by omega) (by omega) (by rw[G.perm.length_eq]; exact h3) G.srt (by omega)) (by omega)
  .exact AfJ (h4.sub (Nat.le_refl _) (by omega))
def insS(q:List Lq)(a b:Nat):List Lq:=isQ a b (b+1-(a+1)) (a+1) q
theorem AzT{q:List Lq}{a b:Nat}(h0:a<=b)(h:b<=q.length):Good q (insS q a b) a b:=by
 by_cases c:a<b
 .exact A6N a b _ _ q (by omega) (by omega) h (fun s t e1 e2 e3=>by omega) (by omega)
 .have:insS q a b=q:=by
   unfold insS;rw[show b+1-(a+1)=0 by omega];rfl
  rw[this];exact AfJ fun s t e1 e2 e3=>by omega
def BA(q:List Lq)(bs n j:Nat):Prop:=∀ k,k<j->Srt q (k*bs) (min (k*bs+bs) n)
def BB(q:List Lq)(bs n a:Nat):Prop:=∀ k,a<=k*bs->Srt q (k*bs) (min (k*bs+bs) n)
theorem BmZ{k j bs:Nat}(h:k<j):k*bs+bs<=j*bs:=by
 have:=Nat.mul_le_mul_right bs (show k+1<=j by omega);rw[Nat.succ_mul]at this; exact this
theorem BgG{q q':List Lq}{bs n j a:Nat}(ha:a=j*bs)(h:BA q bs n j)(g:Good q q' a (a+bs)):BA q' bs n (j+1):=by
 intro k hk s t e1 e2 e3
 by_cases c:k<j
 .have:=BmZ (bs:=bs) c
  rw[g.out s (by omega),g.out t (by omega)];exact h k c s t e1 e2 e3
 .obtain rfl:k=j:=by omega
  exact g.srt s t (by omega) e2 (by omega)
theorem BgH{q q':List Lq}{bs n j a:Nat}(ha:a=j*bs)(hn:n<=a+bs)(h:BA q bs n j)(g:Good q q' a n):BB q' bs n 0:=by
 intro k _ s t e1 e2 e3
 by_cases c:k<j
 .have:=BmZ (bs:=bs) c
  rw[g.out s (by omega),g.out t (by omega)];exact h k c s t e1 e2 e3
 .have:j*bs<=k*bs:=Nat.mul_le_mul_right bs (by omega)
  exact g.srt s t (by omega) e2 (by omega)
theorem BrC{q:List Lq}{bs n j a:Nat}(ha:a=j*bs)(hn:n<=a+bs)(h:BA q bs n j)(g:Srt q a n):BB q bs n 0:=BgH ha hn h (AfJ g)
theorem BnA{q:List Lq}{bs n j a:Nat}(ha:a=j*(bs*2))(h:BB q bs n a)(e:Nat)(he:e<=n):Srt q a (min (a+bs) e)/\Srt q (a+bs) (min (a+2*bs) e):=by
 have e1:2*j*bs=a:=by rw[ha,Nat.mul_comm bs 2,<- Nat.mul_assoc,Nat.mul_comm j 2]
 have e2:(2*j+1)*bs=a+bs:=by rw[Nat.succ_mul,e1]
 have h1:=h (2*j) (by omega);have h2:=h (2*j+1) (by omega);rw[e1]at h1;rw[e2]at h2;exact⟨h1.sub (Nat.le_refl _) (by omega),h2.sub (Nat.le_refl _) (by omega)⟩
theorem BrD{q q':List Lq}{bs n a e:Nat}(h:BB q bs n a)(g:Good q q' a e)(he:e<=a+2*bs):BB q' bs n (a+2*bs):=by
 intro k hk s t e1 e2 e3;rw[g.out s (by omega),g.out t (by omega)];exact h k (by omega) s t e1 e2 e3
theorem BtY{q:List Lq}{bs n:Nat}(h:BB q bs n 0)(hn:n<=bs):Srt q 0 n:=by
 have:=h 0 (by omega);rw[Nat.zero_mul]at this;exact this.sub (Nat.le_refl _) (by omega)
theorem A6O(q:List Lq)(bs n:Nat):BA q bs n 0:=fun k hk=>absurd hk (by omega)
def BgI(l:List Lq)(r:AV)(s:List Blk):Prop:=∃ l',l'.Perm l/\Srt l' 0 l.length/\AqI l' r s
theorem BrE{St:Std}(hS:LibOk St)(l:List Lq)(hl:l.length<1000000) :
  CtH prog St 99 [.sl 0 0 l.length l.length,.int .i64 l.length,.fn (.func 45) []] [.arr 4 (l.map lqA)] (BgI l):=by
 refine zdIB func99 rfl fun h ρ w hg=>?_
 simp only[go_sem];refine AaI (ι:=Nat×List Lq) (fun y=>l.length-y.1) (fun y=>[(8,.int .i64 ((y.1+20:Nat):Int)),(7,.int .i64 y.1),(6,.int .i64 20),(2,.fn (.func 45) []),(1,.int .i64 l.length),(0,.sl 0 0 l.length l.length)]) (fun y=>[.arr 4 (y.2.map lqA)])
  (fun y=>y.1<=l.length/\y.2.Perm l/\∃ j,y.1=j*20/\BA y.2 20 l.length j) (0,l) ⟨by simp,.refl _,0,rfl,A6O _ _ _⟩ ?_ ?_
 .refine Shift.weakS ?_ rfl
  simp only[go_sem]
 rintro⟨a,q⟩ ⟨g1,g2,j0,f1,f2⟩ J hJ;simp only at g1 g2 f1 f2 hJ |-;have hq:=g2.length_eq
 by_cases t1:a+20<=l.length
 .have d1:decide (((a+20:Nat):Int)<=(l.length:Int))=true:=by simp; omega
  have hr:=AiA hS q a (a+20) (by omega) (by omega) (by omega);have hgd:=AzT (q:=q) (a:=a) (b:=a+20) (by omega) (by omega);rw[hq]at hr;refine zgB ?_;simp only[go_sem,d1];refine zaH hg (hr) ?_;rintro _ _ ⟨rfl,rfl⟩;have hfin:=hJ (a+20,insS q a (a+20)) ⟨by simp only; omega,hgd.perm.trans g2,j0+1,by simp only; omega,BgG f1 f2 hgd⟩ (by simp only; omega);refine zgB ?_;simp only[go_sem]
  repeat refine ao ?_
  rw[show((a+20:Nat):Int)+20=((a+20+20:Nat):Int) by omega];refine ainv hfin (Shift.weakS ?_ rfl);simp only[go_sem]
 have d1:decide (((a+20:Nat):Int)<=(l.length:Int))=false:=by simp; omega
 have hr:=AiA hS q a l.length (by omega) (by omega) (by omega);rw[hq]at hr;refine zgB ?_;simp only[go_sem,d1];refine zaH hg (hr) ?_;rintro _ _ ⟨rfl,rfl⟩;obtain⟨q',hq'⟩:∃ q',insS q a l.length=q':=⟨_,rfl⟩;have hgd:=AzT (q:=q) (a:=a) (b:=l.length) (by omega) (by omega);rw[hq']at hgd;have hB:=BgH f1 (by omega) f2 hgd;have hp:q'.Perm q:=hgd.perm;rw[show isQ a l.length (l.length+1-(a+1)) (a+1) q=q' from hq'];clear hJ J;refine zgB ?_;simp only[go_sem];refine AaI (ι:=Nat×List Lq) (fun y=>l.length-y.1) (fun y=>[(6,.int .i64 y.1),(2,.fn (.func 45) []),(1,.int .i64 l.length),(0,.sl 0 0 l.length l.length)]) (fun y=>[.arr 4 (y.2.map lqA)])
  (fun y=>1<=y.1/\y.2.Perm l/\BB y.2 y.1 l.length 0) (20,q') ⟨by simp,hp.trans g2,hB⟩ ?_ ?_
 .refine Shift.weakS ?_ rfl
  simp only[go_sem]
 clear hr hp hgd hB f1 f2 hq' q' hq g2 g1 q d1 t1 a;rintro⟨bs,q⟩ ⟨g1,g2,f1⟩ J hJ;simp only at g1 g2 f1 hJ |-
 by_cases t1:bs<l.length
 .have d1:decide ((bs:Int)<(l.length:Int))=true:=by simp; omega
  refine zgB ?_;simp only[go_sem,d1]
  repeat refine ao ?_
  rw[show(2:Int)*(bs:Int)=((0+2*bs:Nat):Int) by omega];refine AaI (ι:=Nat×List Lq) (fun y=>l.length-y.1) (fun y=>[(8,.int .i64 ((y.1+2*bs:Nat):Int)),(7,.int .i64 y.1),(6,.int .i64 bs),(2,.fn (.func 45) []),(1,.int .i64 l.length),(0,.sl 0 0 l.length l.length)]) (fun y=>[.arr 4 (y.2.map lqA)])
   (fun y=>y.1<=l.length/\y.2.Perm l/\∃ j,y.1=j*(bs*2)/\BA y.2 (bs*2) l.length j/\BB y.2 bs l.length y.1) (0,q) ⟨by simp,g2,0,(Nat.zero_mul _).symm,A6O _ _ _,f1⟩ ?_ ?_
  .refine Shift.weakS ?_ rfl
   simp only[go_sem]
  clear g2 f1 q;rintro⟨a,q⟩ ⟨k1,k2,j0,h1,h2,h3⟩ K hK;simp only at k1 k2 h1 h2 h3 hK |-;have hq:=k2.length_eq
  by_cases t2:a+2*bs<=l.length
  .have d2:decide (((a+2*bs:Nat):Int)<=(l.length:Int))=true:=by simp; omega
   obtain⟨q',hp,hg',hr⟩:=AkA hS (2*bs+1) q a (a+bs) (a+2*bs) (by omega) (by omega) (by omega) (by omega) (by omega);obtain⟨o1,o2⟩:=BnA h1 h3 (a+2*bs) t2;have hgd:=hg' (o1.sub (Nat.le_refl _) (by omega)) (o2.sub (Nat.le_refl _) (by omega));rw[hq,show((a+bs:Nat):Int)=(a:Int)+(bs:Int) by omega]at hr;refine zgB ?_;simp only[go_sem,d2]
   repeat refine ao ?_
   refine zaH hg (hr) ?_;rintro _ _ ⟨rfl,rfl⟩;have hfin:=hK (a+2*bs,q') ⟨by simp only; omega,hp.trans k2,j0+1,by simp only; rw[Nat.add_mul,Nat.one_mul,<- h1]; omega,BgG h1 h2 (by rw[Nat.mul_comm bs 2]; exact hgd),BrD h3 hgd (Nat.le_refl _)⟩ (by simp only; omega);refine zgB ?_;simp only[go_sem]
   repeat refine ao ?_
   rw[show((a+2*bs:Nat):Int)+2*(bs:Int)=((a+2*bs+2*bs:Nat):Int) by omega];refine ainv hfin (Shift.weakS ?_ rfl);simp only[go_sem]
  have d2:decide (((a+2*bs:Nat):Int)<=(l.length:Int))=false:=by simp; omega
  obtain⟨o1,o2⟩:=BnA h1 h3 l.length (Nat.le_refl _)
  by_cases t3:a+bs<l.length
  .have d3:decide ((a:Int)+(bs:Int)<(l.length:Int))=true:=by simp; omega
   obtain⟨q',hp,hg',hr⟩:=AkA hS (l.length-a+1) q a (a+bs) l.length (by omega) (by omega) (by omega) (by omega) (by omega);have hgd:=hg' (o1.sub (Nat.le_refl _) (by omega)) (o2.sub (Nat.le_refl _) (by omega));rw[hq,show((a+bs:Nat):Int)=(a:Int)+(bs:Int) by omega]at hr;refine zgB ?_;simp only[go_sem,d2,d3]
   repeat refine ao ?_
   refine zaH hg (hr) ?_;rintro _ _ ⟨rfl,rfl⟩;have hfin:=hJ (bs*2,q') ⟨by simp only; omega,hp.trans k2,BgH h1 (by omega) h2 hgd⟩ (by simp only; omega);refine zgB ?_;simp only[go_sem]
   repeat refine ao ?_
   rw[show(bs:Int)*2=((bs*2:Nat):Int) by omega];refine ainv hfin (Shift.weakS ?_ rfl);simp only[go_sem]
  .have d3:decide ((a:Int)+(bs:Int)<(l.length:Int))=false:=by simp; omega
   have hfin:=hJ (bs*2,q) ⟨by simp only; omega,k2,BrC h1 (by omega) h2 (o1.sub (Nat.le_refl _) (by omega))⟩ (by simp only; omega);refine zgB ?_;simp only[go_sem,d2,d3]
   repeat refine ao ?_
   rw[show(bs:Int)*2=((bs*2:Nat):Int) by omega];refine ainv hfin (Shift.weakS ?_ rfl);simp only[go_sem]
 have d1:decide ((bs:Int)<(l.length:Int))=false:=by simp; omega
 have hs:=BtY f1 (by omega);refine zgB ?_;simp only[go_sem,d1];exact aret [] rfl ⟨q,g2,hs,rfl,rfl⟩
theorem A3B{St:Std}(hS:LibOk St)(l:List Lq)(hl:l.length<1000000) :
  CtH prog St 44 [.sl 0 0 l.length l.length,.fn (.func 45) []] [.arr 4 (l.map lqA)] (BgI l):=by
 have hr:=BrE hS l hl;refine zdIB func44 rfl fun h ρ w hg=>?_
 simp only[go_sem,List.length_map]
 repeat refine aqd ?_
 refine zaH hg (hr) ?_;rintro _ _ ⟨l',h1,h2,rfl,rfl⟩;refine zgB ?_;simp only[go_sem];exact aret [] rfl ⟨l',h1,h2,rfl,rfl⟩
theorem BtZ{l nl:List Lq}(hn:nl.Pairwise kl)(hp:l.Perm nl)(hs:Srt l 0 l.length):l=nl:=by
 refine List.Perm.eq_of_pairwise (le:=le) (fun a b ha hb h1 h2=>?_) ?_ (hn.imp BgB) hp
 .have ha:=hp.mem_iff.1 ha
  obtain⟨i,hi,rfl⟩:=List.mem_iff_getElem.1 ha;obtain⟨j,hj,rfl⟩:=List.mem_iff_getElem.1 hb
  rcases Nat.lt_trichotomy i j with c|c|c
  .exact absurd (List.pairwise_iff_getElem.1 hn i j hi hj c) h2
  .subst c; rfl
  .exact absurd (List.pairwise_iff_getElem.1 hn j i hj hi c) h1
 .rw [List.pairwise_iff_getElem]
  intro i j hi hj hij;have:=hs i j (Nat.zero_le _) hij hj;rw[atD hi,atD hj]at this;exact this
structure LeafIn(f:Le'):Prop where
 lines:f.lines.length<=1000000
theorem AlH(f:Le')(hf:LeafIn f):Pc prog 43 [leA f] (· = leA f):=by
 have hl:=hf.lines;obtain⟨nm,dr,fi,ls⟩:=f;simp only at hl;simp only[leA];refine zpIF func43 rfl fun h ρ w=>?_
 simp only[go_sem];refine za (AgK _ (ls.map .str) (AjI ls) (by simpa using hl)) ?_;rintro _ _ ⟨rfl,rfl⟩;refine zgF ?_;simp only[go_sem];refine ARet.shift (Shift.frz 2 rfl (AaZ ls)) ?_;have htk:List.take ls.length (List.map AV.str ls)=List.map AV.str ls:=List.take_of_length_le (by simp);simp only[go_sem,frzE,frzC,frz,frz1,frzB,List.length_map,Nat.le_refl,htk];exact AbB [.cell 2 41] rfl [_] ⟨by simp only[go_sem,sideIs],trivial⟩ ⟨rfl,rfl⟩
theorem AzU(x y:Le')(hx:LeafIn x)(hy:LeafIn y):Pc prog 96 [leA x,leA y] (· = .bool (x.name==y.name&&(x.draft==y.draft&&(x.first==y.first&&x.lines==y.lines)))):=by
 have hl:=AhI x.lines y.lines (by have:=hx.lines; omega) (by have:=hy.lines; omega);obtain⟨nm,dr,fi,ls⟩:=x;obtain⟨nm',dr',fi',ls'⟩:=y;simp only[leA]at hl |-
 cases h1:nm==nm' with
 | false =>
  refine zpIB func96 rfl fun h ρ w=>?_
  simp only[go_sem,h1];exact zt [4]
 | true =>
  cases h2:dr==dr' with
  | false =>
   refine zpIB func96 rfl fun h ρ w=>?_
   simp only[go_sem,h1,h2];exact zt [4]
  | true =>
   cases h3:fi==fi' with
   | false =>
    refine zpIB func96 rfl fun h ρ w=>?_
    simp only[go_sem,h1,h2,h3];exact zt [4]
   | true =>
    refine zpIB func96 rfl fun h ρ w=>?_
    simp only[go_sem,h1,h2,h3];refine zpB (hl) ?_;simp only[go_sem];exact zt [4]
def AsQ(x y:Le'):Bool:=x.name==y.name&&(x.draft==y.draft&&(x.first==y.first&&x.lines==y.lines))
theorem A9C{x y:Le'}:AsQ x y=true ↔ x=y:=by
 obtain⟨a,b,c,d⟩:=x;obtain⟨a',b',c',d'⟩:=y
 simp[AsQ]
theorem AeF(n:Nat)(l:List Le'):lowB n (.mp (sM (lvE l)))=true:=AgN (by intro p hp; simp only[lvE,List.mem_map]at hp; obtain⟨n,_,rfl⟩:=hp; rfl)
theorem A9D(l:List Le')(hl:l.length<=100000)(hd:(l.map (·.name)).Nodup):Ct prog 42 [.fz 4 (l.map leA)] [] (fun r s=>r=.mp 0/\s=[.mp (sM (lvE l))]):=by
 refine zcIF func42 rfl fun h ρ w=>?_
 simp only[go_sem,List.length_map];refine AaI (ι:=Nat) (fun i=>l.length-i) (fun i=>[(9,.int .i64 i),(8,.int .i64 l.length),(7,.fz 4 (l.map leA)),(3,.mp 0)])
  (fun i=>[.mp (sM (lvE (l.take i)))]) (fun i=>i<=l.length) 0 (by simp) ?_ ?_
 .refine Shift.weakS ?_ (by simp[lvE,sM])
  simp only[go_sem]
 .intro i g6 J hJ
  by_cases gi:i<l.length
  .have di:decide ((i:Int)<(l.length:Int))=true:=by rw[decide_eq_true_eq]; omega
   have hle:=AbQ gi;have m1:=BfG hd gi;have m2:=A6D (l.take i) l[i];rw[<- List.take_succ_eq_append_getElem gi]at m2;simp only[leA]at m2;have hfin:=hJ (i+1) (by omega) (by omega);refine zgF ?_;simp only[go_sem,di,hle,m1,m2,List.length_map]
   repeat refine aqa ?_
   rw[ic i];refine ainv hfin (Shift.low 1 (by simp) (by simp) ?_ ?_)
   .simp only [List.take_succ_cons,List.take_zero,List.all_cons,List.all_nil,↓AeF,Bool.and_self]
   .simp only[go_sem]
  .have di:decide ((i:Int)<(l.length:Int))=false:=by rw[decide_eq_false_iff_not]; omega
   have hi:i=l.length:=by omega
   subst hi;rw[List.take_length];refine zgF ?_;simp only[go_sem,di];exact zt [2]
theorem BuA(n:Nat)(l:List Le'):shB n (.mp (sM (lvE l)))=.mp (sM (lvE l)):=by
 unfold shB sM lvE;simp only[List.map_map];rfl
theorem Ct.impF{P:Program}{f:FuncId}{args:List AV}{s:List Blk}{p q:AV->List Blk->Prop}(h:Ct P f args s p)(hpq:∀ r s',p r s'->q r s'):Ct P f args s q :=
 ⟨h.1,fun hh ρ w vs m r=>(h.2 hh ρ w vs m r).mono fun en w' ⟨v,r,s1,h',ρ',e,hp,rest⟩=>⟨v,r,s1,h',ρ',e,hpq _ _ hp,rest⟩⟩
theorem AkB(l:List Le')(hl:l.length<=100000)(hd:(l.map (·.name)).Nodup)(T:List Blk):Ct prog 42 [.fz 4 (l.map leA)] T (fun r s=>r=.mp T.length/\s=T++[.mp (sM (lvE l))]) :=
 Ct.impF ((A9D l hl hd).liftN rfl (by rintro _ _ ⟨_,rfl⟩; rfl) T) (by
  rintro _ _ ⟨_,_,⟨rfl,rfl⟩,rfl,rfl⟩;simp only[↓BuA,shV,shC,sh1,List.map_cons,List.map_nil,Nat.zero_add];exact⟨trivial,trivial⟩)
def AcR(l:List Le')(f:Le'):Bool:=match l.find? (fun x=>x.name==f.name)with
 | some x=>!AsQ x f
 | none=>true
def sentL(l nl:List Le'):List Le':=nl.filter (AcR l)
def AvN(nl:List Le')(f:Le'):Bool:=(nl.find? (fun x=>x.name==f.name)).isNone
def thrL(l nl:List Le'):List (List UInt8):=(l.filter (AvN nl)).map (·.name)
def sdT(no:Int)(a b:AV):Blk:=.arr 3 [.agg [.int .i64 no,a,b]]
theorem AqL{p:Le'->Bool}{l:List Le'}{i:Nat}(h:i<l.length):(l.take (i+1)).filter p=(l.take i).filter p++(bif p l[i] then[l[i]] else[]):=by
 rw[List.take_succ_eq_append_getElem h,List.filter_append]
 cases hp:p l[i] <;> simp[hp]
theorem BgJ(id es:Nat)(q:List AV)(l:List Le'):frzB id es q (.mp (sM (lvE l)))=.mp (sM (lvE l)):=by
 unfold frzB sM lvE;simp only[List.map_map];rfl
theorem BrF(l:List Le')(hl:l.length<=100000)(hn:(l.map (·.name)).Nodup)(hi:∀ f∈l,LeafIn f)(d:Dr)(hdl:d.leaves.length<=100000)(hdn:(d.leaves.map (·.name)).Nodup)(hdi:∀ f∈d.leaves,LeafIn f) :
  Pc prog 40 [.fz 4 (l.map leA),drA d] (· = .agg [.int .i64 d.no,.fz 4 ((sentL l d.leaves).map leA),.fz 1 ((thrL l d.leaves).map .str)]):=by
 have hb1:=AkB l hl hn;have hb2:=AkB d.leaves hdl hdn;obtain⟨dno,dti,dsc,dgo,nl⟩:=d;simp only[drA]at hdl hdn hdi hb2 |-;refine zpIB func40 rfl fun h ρ w=>?_
 simp only[go_sem];refine BcY [1,4] 100 [] mixed (by decide) rfl rfl 100 ?_;simp only[go_sem,Go.Av.dxn,Go.Av.dxnc,↓Go.Av.AfF,↓Go.Av.AdT,Go.Av.dbrn];refine icc (hb1 _) ⟨_,_,rfl,rfl⟩ ?_;rintro _ _ ⟨rfl,rfl⟩;refine⟨Agr.push' (by simp) _,?_⟩;refine icc (hb2 _) ⟨_,_,rfl,rfl⟩ ?_;rintro _ _ ⟨rfl,rfl⟩;refine⟨Agr.push' (by simp) _,?_⟩;simp only[go_sem,Go.Av.dxn,Go.Av.dxnc,↓Go.Av.AfF,↓Go.Av.AdT,Go.Av.dbrn];refine zgB ?_;simp only[go_sem,List.length_map];refine AaI (ι:=Nat) (fun i=>nl.length-i) (fun i=>[(27,.int .i64 i),(26,.int .i64 nl.length),(25,.fz 4 (nl.map leA)),(7,.mp 3),(6,.mp 2),(5,.ptr 1 1 0 0),(4,.ptr 0 1 0 0),(0,.fz 4 (l.map leA))])
  (fun i=>[sdT 0 (.raw (.slice none 0 0)) (.raw (.slice none 0 0)),sdT dno (.sl 4 0 ((nl.take i).filter (AcR l)).length ((nl.take i).filter (AcR l)).length) (.raw (.slice none 0 0)),.mp (sM (lvE l)),.mp (sM (lvE nl)),.arr 4 (((nl.take i).filter (AcR l)).map leA)]) (fun i=>i<=nl.length) 0 (by simp) ?_ ?_
 .refine Shift.trans (Shift.cells 1 4 [.agg [.int .i64 dno,.sl 4 0 0 0,.raw (.slice none 0 0)]] rfl rfl (by simp[cellsOf]) ⟨.refl,.sl,.refl,trivial⟩) (Shift.weakS ?_ (by simp[sdT]))
  simp only[go_sem]
 .intro i g1 J hJ
  simp only[sdT]at hJ |-
  by_cases gi:i<nl.length
  .have di:decide ((i:Int)<(nl.length:Int))=true:=by rw[decide_eq_true_eq]; omega
   have hle:=AbQ gi;have hcp:=AlH nl[i] (hdi _ (List.getElem_mem gi));have hfs:=AqL (p:=AcR l) gi;have hfl:((nl.take i).filter (AcR l)).length<=i:=by
    have:=List.length_filter_le (AcR l) (nl.take i);simp only[List.length_take]at this;omega
   have hfin:=hJ (i+1) (by omega) (by omega)
   rcases ApX l nl[i].name with⟨j,y,hf,mf⟩|⟨hf,mf⟩
   .have hsm:=AzU y nl[i] (hi y (List.mem_of_find?_eq_some hf)) (hdi _ (List.getElem_mem gi))
    have hnw:AcR l nl[i]=!AsQ y nl[i]:=by unfold AcR; rw[hf]
    simp only[leA]at hle hcp mf hsm;rw[show(y.name==nl[i].name&&(y.draft==nl[i].draft&&(y.first==nl[i].first&&y.lines==nl[i].lines)))=AsQ y nl[i] from rfl]at hsm;refine zgB ?_;simp only[go_sem,di,hle,mf]
    repeat refine aqa ?_
    refine zpB (hsm) ?_
    cases hs:AsQ y nl[i]with
    | true =>
     rw[hs]at hnw;have hsk:(nl.take i).filter (AcR l)=(nl.take (i+1)).filter (AcR l):=by
      rw[hfs,hnw]; simp
     rw[<- hsk]at hfin;simp only[go_sem]
     repeat refine aqa ?_
     rw[ic i];refine ainv hfin (Shift.low 5 (by simp) (by simp) ?_ ?_)
     .simp only[go_sem,↓AeF,↓AcE,↓AbA,lowB,flat]
     .simp only[go_sem]
    | false =>
     rw[hs]at hnw;simp only[go_sem];have hap:((nl.take i).filter (AcR l)).map leA++[.agg [.str nl[i].name,.int .i64 nl[i].draft,.str nl[i].first,.fz 1 (nl[i].lines.map .str)]]=((nl.take (i+1)).filter (AcR l)).map leA:=by
      rw[hfs,hnw]; simp[leA]
     have hln:((nl.take i).filter (AcR l)).length+1=((nl.take (i+1)).filter (AcR l)).length:=by
      rw[hfs,hnw]; simp
     refine zr [.agg [.str nl[i].name,.int .i64 nl[i].draft,.str nl[i].first,.fz 1 (nl[i].lines.map .str)]] mixed ?_;simp only[go_sem,List.length_map,hap,hln]
     repeat refine And.intro (by first|exact hcp.at|omega|exact .inl trivial|rfl|(simp; done)|(simp; omega)) ?_
     refine zgB ?_;simp only[go_sem,List.length_map]
     repeat refine aqa ?_
     rw[ic i];refine ainv hfin (Shift.low 5 (by simp) (by simp) ?_ ?_)
     .simp only[go_sem,↓AeF,↓AcE,↓AbA,lowB,flat]
     .simp only[go_sem]
   .have hnw:AcR l nl[i]=true:=by unfold AcR; rw[hf]
    simp only[leA]at hle hcp mf;refine zgB ?_;simp only[go_sem,di,hle,mf]
    repeat refine aqa ?_
    have hap:((nl.take i).filter (AcR l)).map leA++[.agg [.str nl[i].name,.int .i64 nl[i].draft,.str nl[i].first,.fz 1 (nl[i].lines.map .str)]]=((nl.take (i+1)).filter (AcR l)).map leA:=by
     rw[hfs,hnw]; simp[leA]
    have hln:((nl.take i).filter (AcR l)).length+1=((nl.take (i+1)).filter (AcR l)).length:=by
     rw[hfs,hnw]; simp
    refine zr [.agg [.str nl[i].name,.int .i64 nl[i].draft,.str nl[i].first,.fz 1 (nl[i].lines.map .str)]] mixed ?_;simp only[go_sem,List.length_map,hap,hln]
    repeat refine And.intro (by first|exact hcp.at|omega|exact .inl trivial|rfl|(simp; done)|(simp; omega)) ?_
    refine zgB ?_;simp only[go_sem,List.length_map]
    repeat refine aqa ?_
    rw[ic i];refine ainv hfin (Shift.low 5 (by simp) (by simp) ?_ ?_)
    .simp only[go_sem,↓AeF,↓AcE,↓AbA,lowB,flat]
    .simp only[go_sem]
  .have di:decide ((i:Int)<(nl.length:Int))=false:=by rw[decide_eq_false_iff_not]; omega
   have hi':i=nl.length:=by omega
   subst hi';rw[List.take_length];refine AWp.shift (Shift.frz 4 rfl (AfH _)) ?_;have htk:List.take ((nl.filter (AcR l)).length) (List.map leA (nl.filter (AcR l)))=List.map leA (nl.filter (AcR l)):=List.take_of_length_le (by simp);simp only[go_sem,↓BgJ,frzE,frzC,frz,frz1,frzB,List.length_map,Nat.le_refl,htk];refine zgB ?_;simp only[go_sem,di,List.length_map];refine AaI (ι:=Nat) (fun i=>l.length-i) (fun i=>[(56,.int .i64 i),(55,.int .i64 l.length),(54,.fz 4 (l.map leA)),(7,.mp 3),(5,.ptr 1 1 0 0),(4,.ptr 0 1 0 0)])
    (fun i=>[sdT 0 (.raw (.slice none 0 0)) (.raw (.slice none 0 0)),sdT dno (.fz 4 ((nl.filter (AcR l)).map leA)) (.sl 5 0 (thrL (l.take i) nl).length (thrL (l.take i) nl).length),.mp (sM (lvE l)),.mp (sM (lvE nl)),.dead,.arr 1 ((thrL (l.take i) nl).map .str)]) (fun i=>i<=l.length) 0 (by simp) ?_ ?_
   .refine Shift.trans (Shift.cells 1 1 [.agg [.int .i64 dno,.fz 4 ((nl.filter (AcR l)).map leA),.sl 5 0 0 0]] rfl rfl (by simp[cellsOf]) ⟨.refl,.refl,.sl,trivial⟩) (Shift.weakS ?_ (by simp[sdT,thrL]))
    simp only[go_sem]
   .clear hJ J
    intro i g1 J hJ;simp only[sdT]at hJ |-
    by_cases gi:i<l.length
    .have di:decide ((i:Int)<(l.length:Int))=true:=by rw[decide_eq_true_eq]; omega
     have hle:=AbQ gi;have hfs:=AqL (p:=AvN nl) gi;have hfl:(thrL (l.take i) nl).length<=i:=by
      have:=List.length_filter_le (AvN nl) (l.take i);simp only[List.length_take]at this;simp only[thrL,List.length_map];omega
     have hfin:=hJ (i+1) (by omega) (by omega)
     rcases ApX nl l[i].name with⟨j,y,hf,mf⟩|⟨hf,mf⟩
     .have hnw:AvN nl l[i]=false:=by unfold AvN; rw[hf]; rfl
      have hsk:thrL (l.take i) nl=thrL (l.take (i+1)) nl:=by
       unfold thrL; rw[hfs,hnw]; simp
      rw[<- hsk]at hfin;simp only[leA]at hle mf;refine zgB ?_;simp only[go_sem,di,hle,mf,List.length_map]
      repeat refine aqa ?_
      rw[ic i];refine ainv hfin (Shift.low 6 (by simp) (by simp) ?_ ?_)
      .simp only[go_sem,↓AeF,↓AcE,↓AbA,lowB,flat]
      .simp only[go_sem]
     .have hnw:AvN nl l[i]=true:=by unfold AvN; rw[hf]; rfl
      have hap:(thrL (l.take i) nl).map AV.str++[.str l[i].name]=(thrL (l.take (i+1)) nl).map AV.str:=by
       unfold thrL; rw[hfs,hnw]; simp
      have hln:(thrL (l.take i) nl).length+1=(thrL (l.take (i+1)) nl).length:=by
       unfold thrL; rw[hfs,hnw]; simp
      refine zgB ?_;simp only[go_sem,di,hle,mf,List.length_map,hap,hln]
      repeat refine aqa ?_
      rw[ic i];refine ainv hfin (Shift.low 6 (by simp) (by simp) ?_ ?_)
      .simp only[go_sem,↓AeF,↓AcE,↓AbA,lowB,flat]
      .simp only[go_sem]
    .have di:decide ((i:Int)<(l.length:Int))=false:=by rw[decide_eq_false_iff_not]; omega
     have hi':i=l.length:=by omega
     subst hi';rw[List.take_length];refine AWp.shift (Shift.frz 5 rfl (AaZ _)) ?_;have htk:List.take ((thrL l nl).length) (List.map AV.str (thrL l nl))=List.map AV.str (thrL l nl):=List.take_of_length_le (by simp);simp only[go_sem,↓BgJ,frzE,frzC,frz,frz1,frzB,List.length_map,Nat.le_refl,htk];refine zgB ?_;simp only[go_sem,di];exact AbB [.cell 4 50] rfl [_] ⟨by simp only[go_sem,sideIs,sentL],trivial⟩ ⟨rfl,rfl⟩
theorem LeafOk.bound{f:Le'}(h:LeafOk f):f.name.length<1000000/\f.first.length<1000000/\f.lines.length<1000000/\∀ s∈f.lines,s.length<4000000:=by
 refine⟨by have:=AbY h.name; omega,?_,by have:=h.lines.few; omega,fun s hs=>by have:=(h.lines.all s hs).len; omega⟩
 rcases h.first with e|e
 .rw [e]; simp
 .have:=(AaG e).2.1; omega
theorem LeafOk.leafIn{f:Le'}(h:LeafOk f):LeafIn f:=⟨by have:=h.lines.few; omega⟩
theorem BinderOk.riseN{l:List Le'}(h:BinderOk l):AeT (l.map (·.name)):=by
 refine A6G (fun n hn=>?_) fun i hi=>?_
 .obtain ⟨f,hf,rfl⟩:=List.mem_map.1 hn
  exact(h.all f hf).name
 .simp only [List.length_map]at hi
  simpa using h.rise i hi
theorem BinderOk.apart{l:List Le'}(h:BinderOk l):(l.map (·.name)).Nodup:=ApW (fun n hn=>by
 obtain⟨f,hf,rfl⟩:=List.mem_map.1 hn;exact(h.all f hf).name) h.riseN
theorem BinderOk.sub{l m:List Le'}(h:BinderOk l)(hs:m.Sublist l):BinderOk m:=by
 refine⟨Nat.le_trans hs.length_le h.few,fun f hf=>h.all f (hs.subset hf),fun i hi=>?_⟩;have:=List.pairwise_iff_getElem.1 (h.riseN.sublist (hs.map _)) i (i+1) (by simp; omega) (by simpa using hi) (by omega)
 simpa using this
theorem AqM{l:List Le'}(hn:(l.map (·.name)).Nodup){f:Le'}(hf:f∈l):l.find? (fun x=>x.name==f.name)=some f:=by
 induction l with
 | nil=>simp at hf
 | cons y r ih =>
  rw[List.map_cons,List.nodup_cons]at hn;rw[List.find?_cons]
  rcases List.mem_cons.1 hf with rfl|hf
  .simp
  .have:(y.name==f.name)=false:=by
    rw[beq_eq_false_iff_ne];exact fun e=>hn.1 (e▸List.mem_map.2 ⟨f,hf,rfl⟩)
   rw[this];exact ih hn.2 hf
theorem AkC{l:List Le'}{k:List UInt8}(h:l.find? (fun x=>x.name==k)=none):∀ f∈l,f.name≠k:=fun f hf e=>by
 have:=List.find?_eq_none.1 h f hf
 simp[e]at this
theorem AmT{l:List Le'}{k:List UInt8}{f:Le'}(h:l.find? (fun x=>x.name==k)=some f):f∈l/\f.name=k:=⟨List.mem_of_find?_eq_some h,by simpa using List.find?_some h⟩
def AdI(S:List Le')(thr:List (List UInt8))(f:Le'):Bool:=(S.find? (fun x=>x.name==f.name)).isNone&&!thr.contains f.name
theorem A9E{l:List Le'}(hn:(l.map (·.name)).Nodup){f:Le'}:AcR l f=true ↔ f ∉ l:=by
 unfold AcR
 cases h:l.find? (fun x=>x.name==f.name)with
 | none =>
  simp only[true_iff];exact fun hf=>AkC h f hf rfl
 | some x =>
  simp only[Bool.not_eq_true',Bool.eq_false_iff,ne_eq,A9C];obtain⟨h1,h2⟩:=AmT h
  constructor
  .intro hne hf
   rw[AqM hn hf]at h;simp only[Option.some.injEq]at h;exact hne h.symm
  .rintro hf rfl
   exact hf h1
theorem A6P{l:List Le'}(hn:(l.map (·.name)).Nodup){f g:Le'}(hf:f∈l)(hg:g∈l)(e:f.name=g.name):f=g:=by
 have h1:=AqM hn hf;have h2:=AqM hn hg;rw[e,h2]at h1
 simpa using h1.symm
theorem thr_mem{l nl:List Le'}{n:List UInt8}:n∈thrL l nl ↔ ∃ f∈l,f.name=n/\∀ g∈nl,g.name≠n:=by
 unfold thrL AvN;simp only[List.mem_map,List.mem_filter]
 constructor
 .rintro ⟨f,⟨hf,hq⟩,rfl⟩
  exact⟨f,hf,rfl,fun g hg=>AkC (Option.isNone_iff_eq_none.1 hq) g hg⟩
 .rintro ⟨f,hf,rfl,hq⟩
  refine⟨f,⟨hf,?_⟩,rfl⟩;rw[Option.isNone_iff_eq_none,List.find?_eq_none];intro g hg
  simpa using hq g hg
theorem AkD{l nl:List Le'}(hn:(l.map (·.name)).Nodup){f:Le'}:f∈sentL l nl ↔ f∈nl/\f ∉ l:=by
 unfold sentL;rw[List.mem_filter,A9E hn]
theorem A6Q{l nl:List Le'}(hl:(l.map (·.name)).Nodup)(hn:(nl.map (·.name)).Nodup){f:Le'}:f∈l.filter (AdI (sentL l nl) (thrL l nl)) ↔ f∈l/\f∈nl:=by
 rw[List.mem_filter];refine and_congr_right fun hf=>?_
 unfold AdI;rw[Bool.and_eq_true,Option.isNone_iff_eq_none,List.find?_eq_none,Bool.not_eq_true',Bool.eq_false_iff,ne_eq,List.contains_iff_mem,thr_mem]
 constructor
 .rintro ⟨h1,h2⟩
  cases hq:nl.find? (fun x=>x.name==f.name)with
  | none=>exact absurd ⟨f,hf,rfl,AkC hq⟩ h2
  | some g =>
   obtain⟨g1,g2⟩:=AmT hq
   by_cases hg:g∈l
   .rw [A6P hl hf hg g2.symm]; exact g1
   .have:=h1 g ((AkD hl).2 ⟨g1,hg⟩)
    simp[g2]at this
 .intro hm
  refine⟨fun g hg=>?_,fun⟨g,_,e,hq⟩=>hq f hm rfl⟩;rw[AkD hl]at hg;intro e;have:=A6P hn hm hg.1 (by simpa using(beq_iff_eq.1 e).symm);exact hg.2 (this▸hf)
theorem AcG{l:List Le'}(h:(l.map (·.name)).Nodup):l.Nodup:=by
 unfold List.Nodup at *;rw[List.pairwise_map]at h;exact h.imp fun hne e=>hne (by rw[e])
theorem BgK{l nl:List Le'}(hl:(l.map (·.name)).Nodup)(hn:(nl.map (·.name)).Nodup):(l.filter (AdI (sentL l nl) (thrL l nl))++sentL l nl).Perm nl:=by
 refine(List.perm_ext_iff_of_nodup ?_ (AcG hn)).2 fun f=>?_
 .rw [List.nodup_append]
  refine⟨(AcG hl).sublist List.filter_sublist,(AcG hn).sublist List.filter_sublist,fun f hf g hg e=>?_⟩;rw[A6Q hl hn]at hf;rw[AkD hl]at hg;exact hg.2 (e▸hf.1)
 .rw [List.mem_append,A6Q hl hn,AkD hl]
  by_cases h:f∈l <;> simp[h]
theorem BlP{St:Std}(hS:LibOk St)(a b:Dr)(ha:DrIn a)(hb:DrIn b)(oa:DraftOk a)(ob:DraftOk b):PcH prog St 39 [drA a,drA b] (· = .int .i64 0):=by
 have h1:=AdB hS a ha;have h2:=AdB hS b hb;simp only[drA]at h1 h2 |-;have d0:((0:Int) != 0)=false:=by decide
 refine zqIB func39 rfl fun h ρ w hg=>?_
 simp only[go_sem];refine AgC hg h1 rfl rfl rfl ?_;rintro _ ⟨n,rfl,hn⟩;obtain rfl:=hn.2 oa;refine zgB ?_;simp only[go_sem,d0];refine AgC hg h2 rfl rfl rfl ?_;rintro _ ⟨n,rfl,hn⟩;obtain rfl:=hn.2 ob;refine zgB ?_;simp only[go_sem];exact zt [4]
def sdA(no:Int)(S:List Le')(thr:List (List UInt8)):AV:=.agg [.int .i64 no,.fz 4 (S.map leA),.fz 1 (thr.map .str)]
theorem BlQ{St:Std}(hS:LibOk St)(a b:Dr)(ha:DrIn a)(hb:DrIn b)(oa:DraftOk a)(ob:DraftOk b):PcH prog St 14 [drA a,drA b] (· = .tup [sdA b.no (sentL a.leaves b.leaves) (thrL a.leaves b.leaves),.int .i64 0]):=by
 have h1:=BlP hS a b ha hb oa ob;have h2:=BrF a.leaves (by have:=oa.binder.few; omega) oa.binder.apart (fun f hf=>(oa.binder.all f hf).leafIn) b (by have:=ob.binder.few; omega) ob.binder.apart (fun f hf=>(ob.binder.all f hf).leafIn);simp only[drA]at h1 h2 |-;have d0:((0:Int) != 0)=false:=by decide
 refine zqIB func14 rfl fun h ρ w hg=>?_
 simp only[go_sem];refine zqB hg (h1) ?_;simp only[go_sem,d0];refine zpB (h2) ?_;simp only[go_sem];exact AbB [.cell 4 50,.tmp 5] rfl [_,_] ⟨by simp only[go_sem,sideIs,sdA],rfl,trivial⟩ ⟨rfl,rfl⟩
def goE(l:List (List UInt8)):List (List UInt8×AV):=l.map fun n=>(n,.bool true)
theorem BnB(l:List (List UInt8))(k:List UInt8):(k∈l/\∃ i,mfind .string (.str k) (sM (goE l)) 0=some (some (i,.bool true)))\/(k ∉ l/\mfind .string (.str k) (sM (goE l)) 0=some none):=by
 rcases AkZ k (goE l) 0 with⟨i,v,h1,h2⟩|⟨h1,h2⟩
 .left
  have hm:=List.mem_of_find?_eq_some h1;simp only[goE,List.mem_map,Prod.mk.injEq]at hm;obtain⟨n,hn,rfl,rfl⟩:=hm;exact⟨hn,i,h2⟩
 .right
  refine⟨fun hk=>?_,h2⟩;have:=List.find?_eq_none.1 h1 (k,.bool true) (List.mem_map.2 ⟨k,hk,rfl⟩)
  simp at this
theorem BlR(l:List (List UInt8))(n:List UInt8):sM (goE l)++[(.str n,.bool true)]=sM (goE (l++[n])):=by simp[goE,sM]
theorem AqN(n:Nat)(l:List (List UInt8)):lowB n (.mp (sM (goE l)))=true:=AgN (by intro p hp; simp only[goE,List.mem_map]at hp; obtain⟨n,_,rfl⟩:=hp; rfl)
theorem BuB{l:List Le'}(h:∀ f∈l,leafNameL f.name=true):∃ q:List Lq,q.map (·.1)=l/\q.map lqA=l.map leA:=by
 refine⟨l.attachWith (fun f=>leafNameL f.name=true) h,List.attachWith_map_subtype_val h,?_⟩;have:=List.attachWith_map_subtype_val h
 conv=>rhs; rw[<- this]
 rw[List.map_map];rfl
theorem BrG(σ:List Nat)(l:List Le'):(l.map leA).map (renC σ)=l.map leA:=by
 rw[List.map_map];exact List.map_congr_left fun s _=>rfl
theorem A9F{St:Std}(hS:LibOk St)(l S nl:List Le')(no:Int)(thr:List (List UInt8))(hl:BinderOk l)(hs:BinderOk S)(hn:BinderOk nl)
  (ht:thr.length<=100000) (h1:∀ n∈thr,∃ f∈l,f.name=n) (h2:∀ n∈thr,∀ f∈S,f.name≠n) (h3:thr.Nodup) (hp:(l.filter (AdI S thr)++S).Perm nl) :
  PcH prog St 15 [.fz 4 (l.map leA),sdA no S thr] (· = .tup [.fz 4 (nl.map leA),.int .i64 0]):=by
 have hc1:=AcP hS l (by have:=hl.few; omega) (fun f hf=>(hl.all f hf).bound);have hc2:=AcP hS S (by have:=hs.few; omega) (fun f hf=>(hs.all f hf).bound);have hc3:=AcP hS nl (by have:=hn.few; omega) (fun f hf=>(hn.all f hf).bound);have hb1:=AkB l (by have:=hl.few; omega) hl.apart;have hb2:=AkB S (by have:=hs.few; omega) hs.apart;have d0:((0:Int) != 0)=false:=by decide
 have hlf:=hl.few;have hsf:=hs.few;have hnf:=hn.few;simp only[sdA];refine zqIB func15 rfl fun h ρ w hg=>?_
 simp only[go_sem];refine AgC hg hc1 rfl rfl rfl ?_;rintro _ ⟨n,rfl,hq⟩;obtain rfl:=hq.2 hl;refine zgB ?_;simp only[go_sem,d0];refine AgC hg hc2 rfl rfl rfl ?_;rintro _ ⟨n,rfl,hq'⟩;obtain rfl:=hq'.2 hs;refine zgB ?_;simp only[go_sem,d0];refine BcY [1,4] 100 [] mixed (by decide) rfl rfl 100 ?_;simp only[go_sem,Go.Av.dxn,Go.Av.dxnc,↓Go.Av.AfF,↓Go.Av.AdT,Go.Av.dbrn];refine icc (hb1 _) ⟨_,_,rfl,rfl⟩ ?_;rintro _ _ ⟨rfl,rfl⟩;refine⟨Agr.push' (by simp) _,?_⟩;refine icc (hb2 _) ⟨_,_,rfl,rfl⟩ ?_;rintro _ _ ⟨rfl,rfl⟩;refine⟨Agr.push' (by simp) _,?_⟩;simp only[go_sem,Go.Av.dxn,Go.Av.dxnc,↓Go.Av.AfF,↓Go.Av.AdT,Go.Av.dbrn];refine zgB ?_;simp only[go_sem,List.length_map];refine AaI (ι:=Nat) (fun i=>thr.length-i) (fun i=>[(45,.int .i64 i),(44,.int .i64 thr.length),(43,.fz 1 (thr.map .str)),(10,.mp 2),(9,.mp 1),(8,.mp 0),(3,.pin 3 [.agg [.int .i64 no,.fz 4 (S.map leA),.fz 1 (thr.map .str)]] 0 0),(0,.fz 4 (l.map leA))])
  (fun i=>[.mp (sM (lvE l)),.mp (sM (lvE S)),.mp (sM (goE (thr.take i)))]) (fun i=>i<=thr.length) 0 (by simp) ?_ ?_
 .refine Shift.weakS ?_ (by simp[goE,sM])
  simp only[go_sem]
 .intro i g1 J hJ
  by_cases gi:i<thr.length
  .have di:decide ((i:Int)<(thr.length:Int))=true:=by rw[decide_eq_true_eq]; omega
   have hgt:List.getD (thr.map AV.str) i .any=.str thr[i]:=by simp[List.getD,gi]
   have hm:=List.getElem_mem gi;have hfin:=hJ (i+1) (by omega) (by omega);have m3:mfind .string (.str thr[i]) (sM (goE (thr.take i))) 0=some none:=by
    rcases BnB (thr.take i) thr[i]with⟨h,_⟩|⟨_,h⟩
    .exfalso
     obtain⟨k,hk,e⟩:=List.mem_iff_getElem.1 h;simp only[List.length_take]at hk;rw[List.getElem_take]at e;exact List.pairwise_iff_getElem.1 h3 k i (by omega) gi (by omega) e
    .exact h
   have m4:=BlR (thr.take i) thr[i];rw[<- List.take_succ_eq_append_getElem gi]at m4
   rcases ApX l thr[i]with⟨j,y,hf,mf⟩|⟨hf,mf⟩
   .rcases ApX S thr[i]with⟨j',y',hf',mf'⟩|⟨hf',mf'⟩
    .have:=AmT hf'
     exact absurd this.2 (h2 _ hm y' this.1)
    .simp only [leA]at mf
     refine zgB ?_;simp only[go_sem,di,hgt,mf,mf',m3,m4,List.length_map]
     repeat refine aqa ?_
     rw[ic i];refine ainv hfin (Shift.low 3 (by simp) (by simp) ?_ ?_)
     .simp only[go_sem,↓AeF,↓AqN,lowB,flat]
     .simp only[go_sem]
   .obtain ⟨f,hf1,hf2⟩:=h1 _ hm
    exact absurd hf2 (AkC hf f hf1)
  .have di:decide ((i:Int)<(thr.length:Int))=false:=by rw[decide_eq_false_iff_not]; omega
   have hi:i=thr.length:=by omega
   subst hi;rw[List.take_length];refine zgB ?_;simp only[go_sem,di,List.length_map];clear hJ J;refine AaI (ι:=Nat) (fun i=>l.length-i) (fun i=>[(74,.int .i64 i),(73,.int .i64 l.length),(72,.fz 4 (l.map leA)),(17,.sl 3 0 ((l.take i).filter (AdI S thr)).length ((l.take i).filter (AdI S thr)).length),(10,.mp 2),(9,.mp 1),(3,.pin 3 [.agg [.int .i64 no,.fz 4 (S.map leA),.fz 1 (thr.map .str)]] 0 0)])
    (fun i=>[.mp (sM (lvE l)),.mp (sM (lvE S)),.mp (sM (goE thr)),.arr 4 (((l.take i).filter (AdI S thr)).map leA)]) (fun i=>i<=l.length) 0 (by simp) ?_ ?_
   .refine Shift.trans (Shift.nilsl 17 4 rfl) (Shift.weakS ?_ (by simp))
    simp only[go_sem]
    simp
   .intro i g1 J hJ
    by_cases gi:i<l.length
    .have di:decide ((i:Int)<(l.length:Int))=true:=by rw[decide_eq_true_eq]; omega
     have hle:=AbQ gi;have hcp:=AlH l[i] (hl.all _ (List.getElem_mem gi)).leafIn;have hfs:=AqL (p:=AdI S thr) gi;have hfl:((l.take i).filter (AdI S thr)).length<=i:=by
      have:=List.length_filter_le (AdI S thr) (l.take i);simp only[List.length_take]at this;omega
     have hfin:=hJ (i+1) (by omega) (by omega)
     rcases ApX S l[i].name with⟨j,y,hf,mf⟩|⟨hf,mf⟩
     .have hnw:AdI S thr l[i]=false:=by unfold AdI; rw[hf]; rfl
      have mg:=True.intro;simp only[leA]at mf;have hsk:(l.take i).filter (AdI S thr)=(l.take (i+1)).filter (AdI S thr):=by
       rw[hfs,hnw]; simp
      rw[<- hsk]at hfin;refine zgB ?_;simp only[go_sem,di,hle,mf,mg,List.length_map]
      repeat refine aqa ?_
      rw[ic i];refine ainv hfin (Shift.low 4 (by simp) (by simp) ?_ ?_)
      .simp only[go_sem,↓AeF,↓AqN,↓AcE,lowB,flat]
      .simp only[go_sem]
     .rcases BnB thr l[i].name with⟨hm,k,mg⟩|⟨hm,mg⟩
      .have hnw:AdI S thr l[i]=false:=by
        unfold AdI;rw[hf,List.contains_iff_mem.2 hm]; rfl
       have hsk:(l.take i).filter (AdI S thr)=(l.take (i+1)).filter (AdI S thr):=by
        rw[hfs,hnw]; simp
       rw[<- hsk]at hfin;refine zgB ?_;simp only[go_sem,di,hle,mf,mg,List.length_map]
       repeat refine aqa ?_
       rw[ic i];refine ainv hfin (Shift.low 4 (by simp) (by simp) ?_ ?_)
       .simp only[go_sem,↓AeF,↓AqN,↓AcE,lowB,flat]
       .simp only[go_sem]
      .have hnw:AdI S thr l[i]=true:=by
        unfold AdI;rw[hf,Bool.eq_false_iff.2 (fun h=>hm (List.contains_iff_mem.1 h))]; rfl
       have hap:((l.take i).filter (AdI S thr)).map leA++[.agg [.str l[i].name,.int .i64 l[i].draft,.str l[i].first,.fz 1 (l[i].lines.map .str)]]=((l.take (i+1)).filter (AdI S thr)).map leA:=by
        rw[hfs,hnw]; simp[leA]
       have hln:((l.take i).filter (AdI S thr)).length+1=((l.take (i+1)).filter (AdI S thr)).length:=by
        rw[hfs,hnw]; simp
       simp only[leA]at hcp;refine zgB ?_;simp only[go_sem,di,hle,mf,mg]
       repeat refine aqa ?_
       refine zpB (hcp) ?_;simp only[go_sem,List.length_map,hap,hln]
       repeat refine aqa ?_
       rw[ic i];refine ainv hfin (Shift.low 4 (by simp) (by simp) ?_ ?_)
       .simp only[go_sem,↓AeF,↓AqN,↓AcE,lowB,flat]
       .simp only[go_sem]
    .have di:decide ((i:Int)<(l.length:Int))=false:=by rw[decide_eq_false_iff_not]; omega
     have hi:i=l.length:=by omega
     subst hi;rw[List.take_length];have hkl:(l.filter (AdI S thr)).length<=l.length:=List.length_filter_le _ _;generalize l.filter (AdI S thr)=kp at *;refine zgB ?_;simp only[go_sem,di,List.length_map];clear hJ J;refine AaI (ι:=Nat) (fun i=>S.length-i) (fun i=>[(103,.int .i64 i),(102,.int .i64 S.length),(101,.fz 4 (S.map leA)),(17,.sl 3 0 (kp++S.take i).length (kp++S.take i).length)])
      (fun i=>[.mp (sM (lvE l)),.mp (sM (lvE S)),.mp (sM (goE thr)),.arr 4 ((kp++S.take i).map leA)]) (fun i=>i<=S.length) 0 (by simp) ?_ ?_
     .refine Shift.weakS ?_ (by simp)
      simp only[go_sem]
     .intro i g1 J hJ
      by_cases gi:i<S.length
      .have di:decide ((i:Int)<(S.length:Int))=true:=by rw[decide_eq_true_eq]; omega
       have hle:=AbQ gi;have hcp:=AlH S[i] (hs.all _ (List.getElem_mem gi)).leafIn;have hkn:(kp++S.take i).length<=kp.length+i:=by simp; omega
       have hfin:=hJ (i+1) (by omega) (by omega);have hst:=List.take_succ_eq_append_getElem gi;have hap:(kp++S.take i).map leA++[.agg [.str S[i].name,.int .i64 S[i].draft,.str S[i].first,.fz 1 (S[i].lines.map .str)]]=(kp++S.take (i+1)).map leA:=by
        rw[hst]; simp only[List.map_append,List.append_assoc,List.map_cons,List.map_nil,leA]
       have hln:kp.length+(S.take i).length+1=kp.length+(S.take (i+1)).length:=by
        rw[hst,List.length_append]; rfl
       simp only[leA]at hcp;refine zgB ?_;simp only[go_sem,di,hle]
       repeat refine aqa ?_
       refine zpB (hcp) ?_;simp only[go_sem,List.length_map,hap,hln]
       repeat refine aqa ?_
       rw[ic i];refine ainv hfin (Shift.low 4 (by simp) (by simp) ?_ ?_)
       .simp only[go_sem,↓AeF,↓AqN,↓AcE,lowB,flat]
       .simp only[go_sem]
      .have di:decide ((i:Int)<(S.length:Int))=false:=by rw[decide_eq_false_iff_not]; omega
       have hi:i=S.length:=by omega
       subst hi;rw[List.take_length];have hpl:=hp.length_eq;generalize hout:kp++S=out at *;obtain⟨oq,o1,o2⟩:=BuB (l:=out) fun f hf=>(hn.all f (hp.mem_iff.1 hf)).name
       obtain⟨nq,n1,n2⟩:=BuB (l:=nl) fun f hf=>(hn.all f hf).name
       have hol:oq.length=out.length:=by rw[<- o1,List.length_map]
       have hso:=A3B hS oq (by omega);have hpq:oq.Perm nq:=by
        have e1:(oq.map (·.1)).Nodup:=by rw[o1]; exact hp.nodup_iff.2 (AcG hn.apart)
        have e2:(nq.map (·.1)).Nodup:=by rw[n1]; exact AcG hn.apart
        have f1:oq.Nodup:=(List.pairwise_map.1 e1).imp fun hne e=>hne (by rw[e])
        have f2:nq.Nodup:=(List.pairwise_map.1 e2).imp fun hne e=>hne (by rw[e])
        have key:∀ (q:List Lq) (x:Lq),x∈q ↔ x.1∈q.map (·.1):=fun q x =>
         ⟨fun h=>List.mem_map.2 ⟨x,h,rfl⟩,fun h=>by
          obtain⟨y,hy,e⟩:=List.mem_map.1 h;rw[<- Subtype.ext e]; exact hy⟩
        refine(List.perm_ext_iff_of_nodup f1 f2).2 fun x=>?_
        rw[key oq,key nq,o1,n1];exact hp.mem_iff
       have hrs:nq.Pairwise kl:=by
        have h:=hn.riseN;unfold AeT at h;rw[<- n1,List.map_map,List.pairwise_map]at h;refine h.imp fun{a b} hab=>?_
        unfold kl kf
        rcases(AaJ a.2).2.2 with e|e
        .rw [e]; exact hab
        .exact AaF e hab
       rw[hol,o2]at hso;refine AWp.shift (Shift.ren [3] rfl) ?_;simp only[go_sem,↓BrG,renE,renV,ren1,renS,renB,renC,idx];refine zgB ?_;simp only[go_sem,di,List.length_map];refine AwL hg hso rfl rfl ?_;rintro _ _ ⟨l',p1,p2,rfl,rfl⟩;have hfin:l'=nq:=BtZ hrs (p1.trans hpq) (by rw[p1.length_eq]; exact p2);subst hfin;rw[n2];refine AWp.shift (Shift.frz 0 rfl (AfH _)) ?_;have htk:List.take nl.length (List.map leA nl)=List.map leA nl:=List.take_of_length_le (by simp);simp only[go_sem,frzE,frzC,frz,frz1,frzB,List.length_map,Nat.le_refl,htk,hpl];refine zgB ?_;simp only[go_sem];refine AgC hg hc3 rfl rfl rfl ?_;rintro _ ⟨n,rfl,hq3⟩;obtain rfl:=hq3.2 hn;refine zgB ?_;simp only[go_sem,d0];exact zt [4,5]
theorem A9G(x:Le')(hx:LeafIn x):Pc prog 49 [leA x,leA x] (· = .bool true):=by
 have hl:=AhI x.lines x.lines (by have:=hx.lines; omega) (by have:=hx.lines; omega);obtain⟨nm,dr,fi,ls⟩:=x;simp only[leA]at hl |-;rw[show(ls==ls)=true by simp]at hl;have h1:(nm==nm)=true:=by simp
 have h2:(dr==dr)=true:=by simp
 have h3:(fi==fi)=true:=by simp
 refine zpIB func49 rfl fun h ρ w=>?_
 simp only[go_sem,h1,h2,h3];refine zpB (hl) ?_;simp only[go_sem];exact zt [4]
theorem A3C(l:List Le')(hl:l.length<=100000)(hx:∀ f∈l,LeafIn f):Pc prog 48 [.fz 4 (l.map leA),.fz 4 (l.map leA),.fn (.func 49) []] (· = .bool true):=by
 have d0:((l.length:Int) != (l.length:Int))=false:=by simp
 refine zpIB func48 rfl fun h ρ w=>?_
 simp only[go_sem,d0,List.length_map];refine AaI (ι:=Nat) (fun i=>l.length-i) (fun i=>[(17,.int .i64 i),(16,.int .i64 l.length),(15,.fz 4 (l.map leA)),(2,.fn (.func 49) []),(1,.fz 4 (l.map leA)),(0,.fz 4 (l.map leA))]) (fun _=>[]) (fun i=>i<=l.length) 0 (by simp) ?_ ?_
 .refine Shift.weak ?_
  simp only[go_sem]
 .rintro i g1 J hJ
  by_cases gi:i<l.length
  .have di:decide ((i:Int)<(l.length:Int))=true:=by simp; omega
   have e1:=AbQ gi;have hc:=A9G l[i] (hx _ (List.getElem_mem gi));simp only[leA]at hc;have hfin:=hJ (i+1) (by omega) (by omega);refine zgB ?_;simp only[go_sem,di,e1,List.length_map]
   repeat refine aqa ?_
   refine zpB (hc) ?_;simp only[go_sem]
   repeat refine aqa ?_
   rw[ic i];refine ainv hfin (Shift.low 0 (by simp) (by simp) rfl ?_);simp only[go_sem]
  .have di:decide ((i:Int)<(l.length:Int))=false:=by simp; omega
   have hi:i=l.length:=by omega
   subst hi;refine zgB ?_;simp only[go_sem,di];exact zt [6]
theorem AvO(l:List Le')(hl:l.length<=100000)(hx:∀ f∈l,LeafIn f):Pc prog 16 [.fz 4 (l.map leA),.fz 4 (l.map leA)] (· = .bool true):=by
 have hq:=A3C l hl hx;refine zpIB func16 rfl fun h ρ w=>?_
 simp only[go_sem];refine zpB (hq) ?_;simp only[go_sem];exact zt [4]
theorem A9H{d:Dr}{x:Sr}{E E':List (List UInt8)}{la:List UInt8}{l:List Le'}(hd:(d.leaves.map (·.name)).Nodup)(h:NextG d x E E' la l):∀ f∈sentL d.leaves (nextD d x E l).leaves,f.draft=d.no+1:=by
 intro f hf;rw[AkD hd]at hf;obtain⟨h1,h2⟩:=hf;obtain⟨f0,hf0,rfl⟩:=List.mem_map.1 h1;have hdr:=AqH _ _ h.leaves f0 hf0
 cases hq:d.leaves.find? (fun x=>x.name==f0.name)with
 | none=>rw[AzA hq]; exact hdr
 | some y =>
  obtain⟨hy1,hy2⟩:=AmT hq
  by_cases hs:y.first=f0.first/\y.lines=f0.lines
  .exfalso
   apply h2;rw[AzB hq hs];obtain⟨a,b,c,e⟩:=y;obtain⟨a',b',c',e'⟩:=f0;simp only at hy2 hs;obtain⟨rfl,rfl⟩:=hs;subst hy2;exact hy1
  .rw [AlD hq hs]; exact hdr
