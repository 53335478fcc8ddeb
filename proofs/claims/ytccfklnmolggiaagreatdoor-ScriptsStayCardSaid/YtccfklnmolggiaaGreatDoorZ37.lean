/- The paragraphs of a block that are drawn, told exactly. -/
import Derived.Test.YtccfklnmolggiaaGreatDoorZ36
set_option maxRecDepth 100000
set_option maxHeartbeats 2000000
set_option linter.all false
namespace Go.Proofs.YtccfklnmolggiaaGreatDoor
open Av RowKit Proofs.Tryz
def rndA(L:List Int)(x:Int×List Pa):Int×List Pa :=
 if flipF L x.1 3 then((wordsF L (x.1+1+1) (pickF L (x.1+1) [2,20]) 200).2,x.2++[⟨3,(wordsF L (x.1+1+1) (pickF L (x.1+1) [2,20]) 200).1⟩]) else(x.1+1,x.2)
def rndB(L:List Int)(x:Int×List Pa):Int×List Pa :=
 if flipF L (wordsF L (x.1+1) (pickF L x.1 [3,12,80]) 1998).2 8 then
  ((wordsF L (x.1+1) (pickF L x.1 [3,12,80]) 1998).2+1+1,x.2++[⟨4,oneF L ((wordsF L (x.1+1) (pickF L x.1 [3,12,80]) 1998).2+1) PreB++(wordsF L (x.1+1) (pickF L x.1 [3,12,80]) 1998).1⟩])
 else((wordsF L (x.1+1) (pickF L x.1 [3,12,80]) 1998).2+1,x.2++[⟨4,(wordsF L (x.1+1) (pickF L x.1 [3,12,80]) 1998).1⟩])
def rndsF(L:List Int):Nat->Int×List Pa->Int×List Pa
 | 0,x=>x
 | n+1,x=>rndsF L n (rndB L (rndA L x))
structure RunP(e:Int)(out:List Pa):Prop where
 run:∀ l,l≠2->l≠3->runL l out=some e
 all:∀ p∈out,DrawnP p
 len:1<=out.length
theorem RunP.add{e:Int}{out:List Pa}(h:RunP e out){p:Pa}(hp:DrawnP p)(hf:followsL p.kind e=true):RunP p.kind (out++[p]) :=
 ⟨fun l l2 l3=>BbM (h.run l l2 l3) hp.ok hf,fun q hq=>by
  rcases List.mem_append.1 hq with hq|hq
  .exact h.all q hq
  .rw [List.mem_singleton.1 hq]; exact hp,by simp⟩
theorem BiF(L:List Int)(k:Int):1<=pickF L k [2,20]/\pickF L k [2,20]<=80:=(show ∀ x∈[(2:Int),20],1<=x/\x<=80 by decide) _ (AhT (by decide))
theorem BiG(L:List Int)(k:Int):1<=pickF L k [3,12,80]/\pickF L k [3,12,80]<=80:=(show ∀ x∈[(3:Int),12,80],1<=x/\x<=80 by decide) _ (AhT (by decide))
theorem BiH(L:List Int)(k:Int):1<=pickF L k [3,12,60]/\pickF L k [3,12,60]<=80:=(show ∀ x∈[(3:Int),12,60],1<=x/\x<=80 by decide) _ (AhT (by decide))
theorem A8X(L:List Int)(x:Int×List Pa){e:Int}(h:RunP e x.2)(he:e=2\/e=4):(∃ e',RunP e' (rndA L x).2/\(e'=2\/e'=3\/e'=4))/\x.1<=(rndA L x).1/\(rndA L x).1<=x.1+84/\(rndA L x).2.length<=x.2.length+1:=by
 obtain⟨w1,w2,w3,w4⟩:=AeL L (x.1+1+1) (pickF L (x.1+1) [2,20]) 200 (BiF L _).1 (BiF L _).2 (by decide);unfold rndA;generalize wordsF L (x.1+1+1) (pickF L (x.1+1) [2,20]) 200=w at *
 split
 .refine ⟨⟨3,h.add (p:=⟨3,w.1⟩) (AvY w1 (by omega)) (by rcases he with rfl|rfl <;> rfl),.inr (.inl rfl)⟩,?_,?_,?_⟩
  .simp only; omega
  .simp only; omega
  .simp
 .exact ⟨⟨e,h,by omega⟩,by simp only; omega,by simp only; omega,by simp⟩
theorem A8Y(L:List Int)(x:Int×List Pa){e:Int}(h:RunP e x.2)(he:e=2\/e=3\/e=4):RunP 4 (rndB L x).2/\x.1<=(rndB L x).1/\(rndB L x).1<=x.1+84/\(rndB L x).2.length<=x.2.length+1:=by
 obtain⟨w1,w2,w3,w4⟩:=AeL L (x.1+1) (pickF L x.1 [3,12,80]) 1998 (BiG L _).1 (BiG L _).2 (by decide);have fol:followsL 4 e=true:=by rcases he with rfl|rfl|rfl <;> rfl
 unfold rndB;generalize wordsF L (x.1+1) (pickF L x.1 [3,12,80]) 1998=w at *
 split
 .obtain ⟨u1,u2⟩:=AjO (.inr (AbZ (L:=L) (k:=w.2+1) (ls:=PreB) (by decide))) w1
  exact⟨h.add (p:=⟨4,oneF L (w.2+1) PreB++w.1⟩) (AfW (.inr rfl) u1 (by simp; omega)) fol,by simp only; omega,by simp only; omega,by simp⟩
 .exact ⟨h.add (p:=⟨4,w.1⟩) (AfW (.inr rfl) (w1.weak AfV) (by omega)) fol,by simp only; omega,by simp only; omega,by simp⟩
theorem A0G(L:List Int):∀ (n:Nat)(x:Int×List Pa)(e:Int),RunP e x.2->(e=2\/e=4)->(n=0->e=4) ->
  RunP 4 (rndsF L n x).2/\x.1<=(rndsF L n x).1/\(rndsF L n x).1<=x.1+168*n/\(rndsF L n x).2.length<=x.2.length+2*n
 | 0,x,e,h,he,h0=>⟨h0 rfl▸h,Int.le_refl _,by simp[rndsF],by simp[rndsF]⟩
 | n+1,x,e,h,he,h0=>by
  obtain⟨⟨e',a1,a2⟩,a3,a4,a5⟩:=A8X L x h he;obtain⟨b1,b2,b3,b4⟩:=A8Y L (rndA L x) a1 a2;obtain⟨c1,c2,c3,c4⟩:=A0G L n (rndB L (rndA L x)) 4 b1 (.inr rfl) (fun _=>rfl);simp only[rndsF];exact⟨c1,by omega,by push_cast; omega,by omega⟩
def parasF(L:List Int)(k:Int):List Pa×Int :=
 if nx L k 6=0\/nx L k 6=1 then
  (if flipF L (wordsF L (k+1+1) (pickF L (k+1) [3,12,60]) 1998).2 8 then
   ([⟨1,oneF L ((wordsF L (k+1+1) (pickF L (k+1) [3,12,60]) 1998).2+1) PreA++(wordsF L (k+1+1) (pickF L (k+1) [3,12,60]) 1998).1⟩],(wordsF L (k+1+1) (pickF L (k+1) [3,12,60]) 1998).2+1+1)
  else([⟨1,(wordsF L (k+1+1) (pickF L (k+1) [3,12,60]) 1998).1⟩],(wordsF L (k+1+1) (pickF L (k+1) [3,12,60]) 1998).2+1))
 else if nx L k 6=2 then([⟨5,oneF L (k+1) TurnL⟩],k+1+1)
 else((rndsF L (rangeF L (k+1+1) 1 2).toNat (k+1+1+1,[⟨2,oneF L (k+1) NameL⟩])).2,(rndsF L (rangeF L (k+1+1) 1 2).toNat (k+1+1+1,[⟨2,oneF L (k+1) NameL⟩])).1)
theorem A8Z(L:List Int)(k:Int):1<=rangeF L k 1 2/\rangeF L k 1 2<=2:=by
 have:=AhS L k (2-1+1) (by decide);unfold rangeF; omega
theorem A0H{t:LU}(h:t∈NameL):RunP 2 [⟨2,t⟩] :=
 ⟨fun l h2 h3=>by simp[runL,(AnN h).ok,AfG (show(2:Int)≠3 by decide) (show(2:Int)≠4 by decide) h2 h3],by simpa using AnN h,by simp⟩
theorem BiI(L:List Int)(x:Int×List Pa):wtL (rndA L x).2<=wtL x.2+1:=by
 unfold rndA; split <;> simp[wtL_one,pwP]
theorem BiJ(L:List Int)(x:Int×List Pa):wtL (rndB L x).2=wtL x.2+4:=by
 unfold rndB; split <;> simp[wtL_one,pwP]
theorem A0I(L:List Int):∀ (n:Nat)(x:Int×List Pa),wtL (rndsF L n x).2<=wtL x.2+5*n
 | 0,x=>by simp[rndsF]
 | n+1,x=>by
  have h1:=BiI L x;have h2:=BiJ L (rndA L x);have h3:=A0I L n (rndB L (rndA L x));simp only[rndsF];omega
theorem AmO(L:List Int)(k:Int):Block (parasF L k).1/\k<=(parasF L k).2/\(parasF L k).2<=k+400:=by
 unfold parasF
 split
 .obtain ⟨w1,w2,w3,w4⟩:=AeL L (k+1+1) (pickF L (k+1) [3,12,60]) 1998 (BiH L _).1 (BiH L _).2 (by decide)
  generalize wordsF L (k+1+1) (pickF L (k+1) [3,12,60]) 1998=w at *
  split
  .obtain ⟨u1,u2⟩:=AjO (.inl (AbZ (L:=L) (k:=w.2+1) (ls:=PreA) (by decide))) w1
   exact⟨AlG (AfW (.inl rfl) u1 (by simp; omega)) (.inl rfl),by simp only; omega,by simp only; omega⟩
  .exact ⟨AlG (AfW (.inl rfl) (w1.weak AfV) (by omega)) (.inl rfl),by simp only; omega,by simp only; omega⟩
 .split
  .exact ⟨AlG (A1D (AbZ (by decide))) (.inr rfl),by simp only; omega,by simp only; omega⟩
  .have hr:=A8Z L (k+1+1)
   generalize rangeF L (k+1+1) 1 2=n at *;obtain⟨c1,c2,c3,c4⟩:=A0G L n.toNat (k+1+1+1,[⟨2,oneF L (k+1) NameL⟩]) 2 (A0H (AbZ (by decide))) (.inl rfl) (by omega);simp only at c2 c3 c4;exact⟨⟨fun l l2 l3=>⟨4,c1.run l l2 l3,by decide,by decide⟩,⟨c1.len,by simp at c4 |-; omega⟩,c1.all,by
    have h:=A0I L n.toNat (k+1+1+1,[⟨2,oneF L (k+1) NameL⟩]);have e:wtL [⟨2,oneF L (k+1) NameL⟩]=3:=by simp[wtL,pwP]
    simp only[e]at h |-;omega⟩,by simp only; omega,by simp only; omega⟩
theorem A9A(L:List Int)(k:Int)(h3:0<=k)(h4:k<=800000) :
  Mc prog 84 2 (str L k) [] (fun r s=>r=.fz 2 ((parasF L k).1.map paA)/\s=str L (parasF L k).2):=by
 obtain⟨⟨b0,k0⟩,hw⟩:∃ z,z=parasF L k:=⟨_,rfl⟩;rw[<- hw];unfold parasF at hw;have hb:=AhS L k 6 (by decide);refine zcIF func84 rfl fun h ρ w=>?_
 simp only[go_sem];refine zm 0 (AeV L k _ (by omega) (by omega) h3 (by omega)) ?_;rintro _ _ ⟨rfl,rfl⟩;generalize nx L k 6=v at *;have hv:(v=0\/v=1)\/v=2\/((v==0)=false/\(v==1)=false/\(v==2)=false):=by
  by_cases a:v=0
  .exact .inl (.inl a)
  by_cases b:v=1
  .exact .inl (.inr b)
  by_cases c:v=2
  .exact .inr (.inl c)
  exact .inr (.inr ⟨by simpa using a,by simpa using b,by simpa using c⟩)
 rcases hv with hv|rfl|⟨d0,d1,d2⟩
 .rw [if_pos hv]at hw
  have hp:=AjY L (k+1) [3,12,60] (by decide) (by decide) (by omega) (by omega);obtain⟨x1,x2⟩:=BiH L (k+1);generalize pickF L (k+1) [3,12,60]=x at *;have hwx:=AmN L (k+1+1) x 1998 x1 x2 (by decide) (by decide) (by omega) (by omega);obtain⟨w1,w2,w3,w4⟩:=AeL L (k+1+1) x 1998 x1 x2 (by decide);generalize wordsF L (k+1+1) x 1998=w at *;obtain⟨t,k'⟩:=w;simp only at w1 w2 w3 w4 hwx hw;have hfl:=AhU L k' 8 (by decide) (by decide) (by omega) (by omega);have hon:=AfM L (k'+1) PreA (by decide) (by decide) (by omega) (by omega);have hom:=AbZ (L:=L) (k:=k'+1) (ls:=PreA) (by decide);generalize oneF L (k'+1) PreA=y at *;obtain⟨u1,u2⟩:=AjO (.inl hom) w1;generalize flipF L k' 8=fb at *
  rcases hv with rfl|rfl <;>
  .apply zgF
   simp only[go_sem];refine zm 0 (hp) ?_;rintro _ _ ⟨rfl,rfl⟩;apply zgF;simp only[go_sem];refine zm 0 (hwx) ?_;rintro _ _ ⟨rfl,rfl⟩;apply zgF;simp only[go_sem];refine zm 0 (hfl) ?_;rintro _ _ ⟨rfl,rfl⟩
   cases fb with
   | true =>
    simp only[if_true,Prod.mk.injEq]at hw;obtain⟨rfl,rfl⟩:=hw;apply zgF;simp only[go_sem];refine zm 0 (hon) ?_;rintro _ _ ⟨rfl,rfl⟩;apply zgF;simp only[go_sem];refine⟨by omega,?_⟩;exact aret [2] rfl ⟨_,_,rfl,rfl,rfl,rfl,rfl⟩
   | false =>
    simp only[lan,if_false,Prod.mk.injEq]at hw;obtain⟨rfl,rfl⟩:=hw;apply zgF;simp only[go_sem];exact aret [2] rfl ⟨_,_,rfl,rfl,rfl,rfl,rfl⟩
 .rw [if_neg (by decide),if_pos rfl]at hw
  simp only[Prod.mk.injEq]at hw;obtain⟨rfl,rfl⟩:=hw;apply zgF;simp only[go_sem];refine zm 0 (AfM L (k+1) TurnL (by decide) (by decide) (by omega) (by omega)) ?_;rintro _ _ ⟨rfl,rfl⟩;apply zgF;simp only[go_sem];exact aret [2] rfl ⟨_,_,rfl,rfl,rfl,rfl,rfl⟩
 .have e0:¬ (v=0\/v=1):=by simp at d0 d1; omega
  have e1:¬ v=2:=by simpa using d2
  rw[if_neg e0,if_neg e1]at hw;have hon:=AfM L (k+1) NameL (by decide) (by decide) (by omega) (by omega);have hom:=AbZ (L:=L) (k:=k+1) (ls:=NameL) (by decide);generalize oneF L (k+1) NameL=y at *;have hra:=AhV L (k+1+1) 1 2 (by decide) (by decide) (by decide) (by omega) (by omega);have hr:=A8Z L (k+1+1);generalize rangeF L (k+1+1) 1 2=n at *;apply zgN;simp only[go_sem,d0,d1,d2];refine zpN (BbL) ?_;simp only[go_sem,d0,d1,d2];refine zm 0 (hon) ?_;rintro _ _ ⟨rfl,rfl⟩;apply zgN;simp only[go_sem];refine zm 0 (hra) ?_;rintro _ _ ⟨rfl,rfl⟩;apply zgN;simp only[go_sem];refine AaI (ι:=Nat×Int×Int×List Pa) (fun x=>n.toNat-x.1)
   (fun x=>[(40,.int .i64 x.1),(39,.int .i64 n),(4,.sl 1 0 x.2.2.2.length x.2.2.2.length),(0,.ptr 0 1 0 0)])
   (fun x=>[.arr 2 [str L x.2.2.1],.arr 2 (x.2.2.2.map paA)])
   (fun x=>(x.1:Int)<=n/\k<=x.2.2.1/\x.2.2.1<=k+3+170*x.1/\(x.2.1=2\/x.2.1=4)/\RunP x.2.1 x.2.2.2/\(x.2.2.2.length:Int)<=1+2*x.1/\rndsF L (n.toNat-x.1) x.2.2=(k0,b0))
   (0,2,k+1+1+1,[⟨2,y⟩]) ⟨by simp only; omega,by simp only; omega,by simp only; omega,.inl rfl,A0H hom,by simp,?_⟩ ?_ ?_
  .simp only [Prod.mk.injEq]at hw
   obtain⟨rfl,rfl⟩:=hw;rfl
  .refine Lo ?_
   simp only[go_sem]
  .rintro ⟨i,e,k',out⟩ ⟨g1,g3,g4,g5,g7,g10,hF⟩ J hJ
   simp only at g1 g3 g4 g5 g7 g10 hF hJ |-;apply zgF
   by_cases gi:(i:Int)<n
   .have di:decide ((i:Int)<n)=true:=by simp; omega
    rw[show n.toNat-i=(n.toNat-(i+1))+1 by omega]at hF;simp only[rndsF]at hF;obtain⟨⟨e2,f4,f3⟩,f1,f2,f7⟩:=A8X L (k',out) g7 g5;simp only at f1 f2 f7;obtain⟨hB1,hB2,hB3,hB4⟩:=A8Y L (rndA L (k',out)) f4 f3;have hfl:=AhU L k' 3 (by decide) (by decide) (by omega) (by omega);have hmid:∃ k2 out2,rndA L (k',out)=(k2,out2):=⟨_,_,rfl⟩;obtain⟨k2,out2,hmid⟩:=hmid;rw[hmid]at f1 f2 f4 f7 hB1 hB2 hB3 hB4 hF;simp only at f1 f2 f4 f7 hB2 hB3 hB4;simp only[go_sem,di];refine zm 0 (hfl) ?_;rintro _ _ ⟨rfl,rfl⟩;refine amid (κ:=Unit)
     (fun _=>[(40,.int .i64 i),(39,.int .i64 n),(4,.sl 1 0 out2.length out2.length),(0,.ptr 0 1 0 0)])
     (fun _=>[.arr 2 [str L k2],.arr 2 (out2.map paA)])
     (fun _=>True) ?_ ?_
    .rintro ⟨⟩ _
     have hp:=AjY L k2 [3,12,80] (by decide) (by decide) (by omega) (by omega);obtain⟨x1,x2⟩:=BiG L k2;unfold rndB at hF hB1 hB2 hB3 hB4;simp only at hF hB1 hB2 hB3 hB4;generalize pickF L k2 [3,12,80]=x at *;have hwx:=AmN L (k2+1) x 1998 x1 x2 (by decide) (by decide) (by omega) (by omega);obtain⟨w1,w2,w3,w4⟩:=AeL L (k2+1) x 1998 x1 x2 (by decide);generalize wordsF L (k2+1) x 1998=w at *;obtain⟨t,k3⟩:=w;simp only at w1 w2 w3 w4 hwx hF hB1 hB2 hB3 hB4;have hf8:=AhU L k3 8 (by decide) (by decide) (by omega) (by omega);have hob:=AfM L (k3+1) PreB (by decide) (by decide) (by omega) (by omega);have homb:=AbZ (L:=L) (k:=k3+1) (ls:=PreB) (by decide);generalize oneF L (k3+1) PreB=yb at *;obtain⟨u1,u2⟩:=AjO (.inr homb) w1;generalize flipF L k3 8=fb at *;apply zgF;simp only[go_sem];refine zm 0 (hp) ?_;rintro _ _ ⟨rfl,rfl⟩;apply zgF;simp only[go_sem];refine zm 0 (hwx) ?_;rintro _ _ ⟨rfl,rfl⟩;apply zgF;simp only[go_sem];refine zm 0 (hf8) ?_;rintro _ _ ⟨rfl,rfl⟩;have e3:∀ q u,List.map paA out2++[AV.agg [.int .i64 q,.str u]]=List.map paA (out2++[⟨q,u⟩]):=fun q u=>by simp[paA]
     have e4:∀ q u,out2.length+1=(out2++[(⟨q,u⟩:Pa)]).length:=fun q u=>by simp
     cases fb with
     | true =>
      simp only[if_true]at hF hB1 hB2 hB3 hB4;apply zgF;simp only[go_sem];refine zm 0 (hob) ?_;rintro _ _ ⟨rfl,rfl⟩;apply zgF;simp only[go_sem];refine⟨by omega,by simp,.inl trivial,by simp; omega,by simp; omega,by omega,by omega,?_⟩;rw[e3,e4 4 (yb++t),show(i:Int)+1=((i+1:Nat):Int) by omega];refine ainv (hJ (i+1,4,k3+1+1,out2++[⟨4,yb++t⟩]) ⟨by simp only; omega,by simp only; omega,by simp only; omega,.inr rfl,hB1,by simp only; omega,hF⟩ (by simp only; omega)) (Lo ?_);simp only[go_sem]
     | false =>
      simp only[lan,if_false]at hF hB1 hB2 hB3 hB4;apply zgF;simp only[go_sem];refine⟨by simp,.inl trivial,by simp; omega,by simp; omega,by omega,by omega,?_⟩;rw[e3,e4 4 t,show(i:Int)+1=((i+1:Nat):Int) by omega];refine ainv (hJ (i+1,4,k3+1,out2++[⟨4,t⟩]) ⟨by simp only; omega,by simp only; omega,by simp only; omega,.inr rfl,hB1,by simp only; omega,hF⟩ (by simp only; omega)) (Lo ?_);simp only[go_sem]
    .intro Q hQ
     have hQ:=hQ () trivial;unfold rndA at hmid;simp only at hmid
     cases hfb:flipF L k' 3 with
     | true =>
      rw[hfb]at hmid;simp only[if_true,Prod.mk.injEq]at hmid;have hp:=AjY L (k'+1) [2,20] (by decide) (by decide) (by omega) (by omega);obtain⟨x1,x2⟩:=BiF L (k'+1);generalize pickF L (k'+1) [2,20]=x at *;have hwx:=AmN L (k'+1+1) x 200 x1 x2 (by decide) (by decide) (by omega) (by omega);obtain⟨w1,w2,w3,w4⟩:=AeL L (k'+1+1) x 200 x1 x2 (by decide);generalize wordsF L (k'+1+1) x 200=w at *;obtain⟨t,k3⟩:=w;simp only at w1 w2 w3 w4 hwx hmid;obtain⟨rfl,rfl⟩:=hmid;apply zgF;simp only[go_sem];refine zm 0 (hp) ?_;rintro _ _ ⟨rfl,rfl⟩;apply zgF;simp only[go_sem];refine zm 0 (hwx) ?_;rintro _ _ ⟨rfl,rfl⟩;apply zgF;simp only[go_sem];have e3:∀ q u,List.map paA out++[AV.agg [.int .i64 q,.str u]]=List.map paA (out++[⟨q,u⟩]):=fun q u=>by simp[paA]
      have e4:∀ q u,out.length+1=(out++[(⟨q,u⟩:Pa)]).length:=fun q u=>by simp
      refine⟨by simp,.inl trivial,by simp; omega,by simp; omega,?_⟩;rw[e3,e4 3 t];refine ainv hQ (Lo ?_);simp only[go_sem]
     | false =>
      rw[hfb]at hmid;simp only[lan,if_false,Prod.mk.injEq]at hmid;obtain⟨rfl,rfl⟩:=hmid;apply zgF;simp only[go_sem];refine ainv hQ (Lo ?_);simp only[go_sem]
   .have di:decide ((i:Int)<n)=false:=by simp; omega
    rw[show n.toNat-i=0 by omega]at hF;simp only[rndsF,Prod.mk.injEq]at hF;obtain⟨rfl,rfl⟩:=hF;simp only[go_sem,di];refine ARet.shift (Shift.freeze 2 (id:=1) rfl rfl (by simp) (lab _) (AaG out)) (aret [2] rfl ⟨_,_,rfl,?_,rfl,rfl,rfl⟩)
    simp[resV,Av.get,Av.put,lag]
def AbL(L:List Int):Nat->Int×List Pa->Int×List Pa
 | 0,x=>x
 | n+1,x=>AbL L n ((parasF L x.1).2,x.2++(parasF L x.1).1)
theorem AoL(L:List Int):∀ (n:Nat)(x:Int×List Pa),(∃ e,runL 0 x.2=some e/\e≠2/\e≠3)->(∀ p∈x.2,DrawnP p) ->
  (∃ e,runL 0 (AbL L n x).2=some e/\e≠2/\e≠3)/\(∀ p∈(AbL L n x).2,DrawnP p)/\x.1<=(AbL L n x).1/\(AbL L n x).1<=x.1+400*n/\(AbL L n x).2.length<=x.2.length+5*n
 | 0,x,h,ha=>⟨h,ha,Int.le_refl _,by simp[AbL],by simp[AbL]⟩
 | n+1,x,⟨e,h1,h2,h3⟩,ha=>by
  obtain⟨b1,b2,b3⟩:=AmO L x.1;obtain⟨e',r1,r2,r3⟩:=b1.run e h2 h3;obtain⟨c1,c2,c3,c4,c5⟩:=AoL L n ((parasF L x.1).2,x.2++(parasF L x.1).1) ⟨e',by simp only; rw[runL_append _ _ _ _ h1]; exact r1,r2,r3⟩ (fun p hp=>by
   rcases List.mem_append.1 hp with hp|hp
   .exact ha p hp
   .exact b1.all p hp)
  have:=b1.len.2;simp only[AbL];simp only[lak]at c3 c4 c5;exact⟨c1,c2,by omega,by push_cast; omega,by omega⟩
theorem AoM(L:List Int):∀ (n:Nat)(x:Int×List Pa),wtL (AbL L n x).2<=wtL x.2+13*n
 | 0,x=>by simp[AbL]
 | n+1,x=>by
  have h1:=AoM L n ((parasF L x.1).2,x.2++(parasF L x.1).1);have h2:=(AmO L x.1).1.wt;simp only[A1E]at h1;simp only[AbL];omega
def sceneF(L:List Int)(k:Int):Sc×Int :=
 (⟨[],rangeF L k 1 3,oneF L (k+1) SetL,rangeF L (k+1+1) 1 5,(AbL L (nx L (k+1+1+1+1) (pickF L (k+1+1+1) [2,5,12])).toNat (k+1+1+1+1+1,[])).2⟩,
  (AbL L (nx L (k+1+1+1+1) (pickF L (k+1+1+1) [2,5,12])).toNat (k+1+1+1+1+1,[])).1)
theorem BkG(L:List Int)(k:Int):1<=pickF L k [2,5,12]/\pickF L k [2,5,12]<=12:=(show ∀ x∈[(2:Int),5,12],1<=x/\x<=12 by decide) _ (AhT (by decide))
theorem A9B(L:List Int)(k b:Int)(hb:1<=b):1<=rangeF L k 1 b/\rangeF L k 1 b<=b:=by
 have:=AhS L k (b-1+1) (by omega);unfold rangeF; omega
theorem AuO(L:List Int)(k:Int):DrawnS (sceneF L k).1/\k<=(sceneF L k).2/\(sceneF L k).2<=k+5000:=by
 have hp:=BkG L (k+1+1+1);have hn:=AhS L (k+1+1+1+1) (pickF L (k+1+1+1) [2,5,12]) hp.1;unfold sceneF;generalize nx L (k+1+1+1+1) (pickF L (k+1+1+1) [2,5,12])=v at *;obtain⟨c1,c2,c3,c4,c5⟩:=AoL L v.toNat (k+1+1+1+1+1,[]) ⟨0,rfl,by decide,by decide⟩ (by simp);simp only[lar,lau]at c3 c4 c5;exact⟨⟨rfl,A9B L k 3 (by decide),AbZ (by decide),A9B L _ 5 (by decide),c1,by simp only; omega,c2,by
  have h:=AoM L v.toNat (k+1+1+1+1+1,[]);have e:wtL ([]:List Pa)=0:=rfl;simp only[e]at h |-;omega⟩,by simp only; omega,by simp only; omega⟩
theorem A9C(L:List Int)(k:Int)(h3:0<=k)(h4:k<=700000) :
  Mc prog 46 2 (str L k) [] (fun r s=>r=scA (sceneF L k).1/\s=str L (sceneF L k).2):=by
 have hpk:=AjY L (k+1+1+1) [2,5,12] (by decide) (by decide) (by omega) (by omega);have pn:=BkG L (k+1+1+1);unfold sceneF;generalize pickF L (k+1+1+1) [2,5,12]=n at *;have hnx:=AeV L (k+1+1+1+1) n (by omega) (by omega) (by omega) (by omega);have hv:=AhS L (k+1+1+1+1) n (by omega);generalize nx L (k+1+1+1+1) n=v at *;have hr1:=AhV L k 1 3 (by decide) (by decide) (by decide) (by omega) (by omega);have ho:=AfM L (k+1) SetL (by decide) (by decide) (by omega) (by omega);have hr2:=AhV L (k+1+1) 1 5 (by decide) (by decide) (by decide) (by omega) (by omega);generalize rangeF L k 1 3=pl at *;generalize oneF L (k+1) SetL=st at *;generalize rangeF L (k+1+1) 1 5=tm at *;obtain⟨z,hz⟩:∃ z,z=AbL L v.toNat (k+1+1+1+1+1,[]):=⟨_,rfl⟩;rw[<- hz];refine zcIF func46 rfl fun h ρ w=>?_
 simp only[go_sem];refine zm 0 (hr1) ?_;rintro _ _ ⟨rfl,rfl⟩;apply zgF;simp only[go_sem];refine zpN (BgQ) ?_;simp only[go_sem];refine zm 0 (ho) ?_;rintro _ _ ⟨rfl,rfl⟩;apply zgF;simp only[go_sem];refine zm 0 (hr2) ?_;rintro _ _ ⟨rfl,rfl⟩;apply zgF;simp only[go_sem];refine zm 0 (hpk) ?_;rintro _ _ ⟨rfl,rfl⟩;apply zgF;simp only[go_sem];refine zm 0 (hnx) ?_;rintro _ _ ⟨rfl,rfl⟩;apply zgF;simp only[go_sem];refine AaI (ι:=Nat×Int×List Pa) (fun x=>v.toNat-x.1)
  (fun x=>[(17,.int .i64 x.1),(16,.int .i64 v),(3,.ptr 2 1 0 0),(2,.ptr 1 1 0 0),(0,.ptr 0 1 0 0)])
  (fun x=>[.arr 2 [str L x.2.1],.arr 5 [.agg [.str [],.int .i64 0,.str [],.int .i64 0,.raw (.slice none 0 0)]],.arr 5 [.agg [.str [],.int .i64 pl,.str st,.int .i64 tm,.sl 3 0 x.2.2.length x.2.2.length]],.arr 2 (x.2.2.map paA)])
  (fun x=>(x.1:Int)<=v/\k<=x.2.1/\x.2.1<=k+5+400*x.1/\(x.2.2.length:Int)<=5*x.1/\AbL L (v.toNat-x.1) x.2=z)
  (0,k+1+1+1+1+1,[]) ⟨by simp only; omega,by simp only; omega,by simp only; omega,by simp,by simpa using hz.symm⟩ ?_ ?_
 .refine Shift.trans (Shift.cells 2 2 [.agg [.str [],.int .i64 pl,.str st,.int .i64 tm,.sl 3 0 0 0]] rfl rfl (by simp[cellsOf]) ⟨.refl,.refl,.refl,.refl,.sl,trivial⟩) (Lo ?_)
  simp only[go_sem]
 .rintro ⟨i,k',ps⟩ ⟨g2,g3,g4,g9,hF⟩ J hJ
  simp only at g2 g3 g4 g9 hF hJ |-
  by_cases gi:(i:Int)<v
  .have di:decide ((i:Int)<v)=true:=by simp; omega
   rw[show v.toNat-i=(v.toNat-(i+1))+1 by omega]at hF;simp only[AbL]at hF;have hpx:=A9A L k' (by omega) (by omega);obtain⟨hb,t1,t2⟩:=AmO L k';generalize parasF L k'=w at *;obtain⟨b,k2⟩:=w;simp only at hpx hb t1 t2 hF;apply zgN;simp only[go_sem,di];refine AyI [3] 0 [] AaJ (by decide) rfl rfl 100 ?_;simp only[go_sem];refine icall hpx rfl rfl rfl ⟨_,_,rfl,rfl⟩ ?_;rintro _ _ ⟨rfl,rfl⟩;simp only[go_sem];refine⟨by simp,.inl trivial,by simp; have:=hb.len.2; omega,by simp; have:=hb.len.2; omega,?_⟩;apply zgN;simp only[go_sem];refine⟨by omega,by omega,?_⟩;rw[<- lap,show ps.length+(List.map paA b).length=(ps++b).length by simp,show(i:Int)+1=((i+1:Nat):Int) by omega];have:=hb.len;refine ainv (hJ (i+1,k2,ps++b) ⟨by simp only; omega,by simp only; omega,by simp only; omega,by simp; omega,hF⟩ (by simp only; omega)) (Lo ?_);simp only[go_sem,laa]
  .have di:decide ((i:Int)<v)=false:=by simp; omega
   rw[show v.toNat-i=0 by omega]at hF;simp only[AbL]at hF;subst hF;refine AWp.shift (Shift.frz 3 rfl (AaG ps)) ?_;simp only[go_sem,↓AjP,↓ApX,frzE,frz,frz1,frzC,frzB,laa,lab];have:List.take ps.length (List.map paA ps)=List.map paA ps:=lag (by simp);simp only[this];apply zgN;simp only[go_sem,di];exact AbU [.cell 2 58] rfl [_] ⟨by simp only[go_sem,sideIs],trivial⟩ ⟨_,_,rfl,rfl,rfl,rfl,rfl⟩
def fixS(first:Bool)(x:Sc):Sc:=if first&&x.time==5 then⟨x.no,x.place,x.set,2,x.Lc⟩ else x
def AbH(L:List Int):Nat->Int×List Sc->Int×List Sc
 | 0,x=>x
 | n+1,x=>AbH L n ((sceneF L x.1).2,x.2++[fixS x.2.isEmpty (sceneF L x.1).1])
theorem BiK{b:Bool}{x:Sc}(h:DrawnS x):DrawnS (fixS b x)/\(b=true->(fixS b x).time≠5):=by
 unfold fixS
 split
 .exact ⟨⟨h.no,h.place,h.set,by simp,h.run,h.len,h.all,h.wt⟩,fun _=>by simp⟩
 .rename_i hh
  refine⟨h,fun hb=>?_⟩;rw[hb]at hh
  simpa using hh
theorem AmP(L:List Int):∀ (n:Nat)(x:Int×List Sc),(∀ y∈x.2,DrawnS y)->(∀ y,x.2.head? = some y->y.time≠5) ->
  (∀ y∈(AbH L n x).2,DrawnS y)/\(∀ y,(AbH L n x).2.head? = some y->y.time≠5)/\x.1<=(AbH L n x).1/\(AbH L n x).1<=x.1+5000*n/\(AbH L n x).2.length=x.2.length+n
 | 0,x,h1,h2=>⟨h1,h2,Int.le_refl _,by simp[AbH],by simp[AbH]⟩
 | n+1,x,h1,h2=>by
  obtain⟨b1,b2,b3⟩:=AuO L x.1;obtain⟨f1,f2⟩:=BiK (b:=x.2.isEmpty) b1;obtain⟨c1,c2,c3,c4,c5⟩:=AmP L n ((sceneF L x.1).2,x.2++[fixS x.2.isEmpty (sceneF L x.1).1]) (fun y hy=>by
   rcases List.mem_append.1 hy with hy|hy
   .exact h1 y hy
   .rw [List.mem_singleton.1 hy]; exact f1) (fun y hy=>by
   cases hx:x.2 with
   | nil =>
    rw[hx]at hy f2;simp only[lbm,List.head?_cons,lam]at hy;rw[<- hy];exact f2 rfl
   | cons a r=>rw[hx]at hy h2; exact h2 y (by simpa using hy))
  simp only[AbH];simp only[lak,laf,lar]at c3 c4 c5;exact⟨c1,c2,by omega,by push_cast; omega,by omega⟩
def scriptF(L:List Int)(k:Int):Sr×Int:=(⟨oneF L k TitleL,(AbH L (nx L (k+1) 6).toNat (k+1+1,[])).2⟩,(AbH L (nx L (k+1) 6).toNat (k+1+1,[])).1)
theorem AiU(L:List Int)(k:Int):DrawnR (scriptF L k).1/\k<=(scriptF L k).2/\(scriptF L k).2<=k+30000:=by
 have hn:=AhS L (k+1) 6 (by decide);obtain⟨c1,c2,c3,c4,c5⟩:=AmP L (nx L (k+1) 6).toNat (k+1+1,[]) (by simp) (by simp);simp only[lar,lau]at c3 c4 c5;unfold scriptF;exact⟨⟨AbZ (by decide),by simp only; omega,c1,c2⟩,by simp only; omega,by simp only; omega⟩
theorem AoN(L:List Int)(k:Int)(h3:0<=k)(h4:k<=600000) :
  Mc prog 18 2 (str L k) [] (fun r s=>r=srA (scriptF L k).1/\s=str L (scriptF L k).2):=by
 have ho:=AfM L k TitleL (by decide) (by decide) (by omega) (by omega);have hnx:=AeV L (k+1) 6 (by omega) (by omega) (by omega) (by omega);have hv:=AhS L (k+1) 6 (by decide);unfold scriptF;generalize oneF L k TitleL=ti at *;generalize nx L (k+1) 6=v at *;obtain⟨z,hz⟩:∃ z,z=AbH L v.toNat (k+1+1,[]):=⟨_,rfl⟩;rw[<- hz];refine zcIF func18 rfl fun h ρ w=>?_
 simp only[go_sem];refine zm 0 (ho) ?_;rintro _ _ ⟨rfl,rfl⟩;apply zgF;simp only[go_sem];refine zm 0 (hnx) ?_;rintro _ _ ⟨rfl,rfl⟩;apply zgF;simp only[go_sem];refine AaI (ι:=Nat×Int×List Sc) (fun x=>v.toNat-x.1)
  (fun x=>[(11,.int .i64 x.1),(10,.int .i64 v),(3,.ptr 2 1 0 0),(2,.ptr 1 1 0 0),(0,.ptr 0 1 0 0)])
  (fun x=>[.arr 2 [str L x.2.1],.arr 2 [.agg [.str [],.raw (.slice none 0 0)]],.arr 2 [.agg [.str ti,.sl 3 0 x.2.2.length x.2.2.length]],.arr 5 (x.2.2.map scA)])
  (fun x=>(x.1:Int)<=v/\k<=x.2.1/\x.2.1<=k+2+5000*x.1/\x.2.2.length=x.1/\AbH L (v.toNat-x.1) x.2=z)
  (0,k+1+1,[]) ⟨by simp only; omega,by simp only; omega,by simp only; omega,rfl,by simpa using hz.symm⟩ ?_ ?_
 .refine Shift.trans (Shift.cells 2 5 [.agg [.str ti,.sl 3 0 0 0]] rfl rfl (by simp[cellsOf]) ⟨.refl,.sl,trivial⟩) (Lo ?_)
  simp only[go_sem]
 .rintro ⟨i,k',xs⟩ ⟨g2,g3,g4,g5,hF⟩ J hJ
  simp only at g2 g3 g4 g5 hF hJ |-
  by_cases gi:(i:Int)<v
  .have di:decide ((i:Int)<v)=true:=by simp; omega
   rw[show v.toNat-i=(v.toNat-(i+1))+1 by omega]at hF;simp only[AbH]at hF;have hpx:=A9C L k' (by omega) (by omega);obtain⟨hx,t1,t2⟩:=AuO L k';generalize sceneF L k'=w at *;obtain⟨x,k2⟩:=w;simp only at hpx hx t1 t2 hF;apply zgF;simp only[go_sem,di];refine zm 0 (hpx) ?_;rintro _ _ ⟨rfl,rfl⟩;have hlen:(List.map scA xs).length=xs.length:=by simp
   have e2:∀ a b c d f,List.map scA xs++[AV.agg [.str a,.int .i64 b,.str c,.int .i64 d,.fz 2 (List.map paA f)]]=List.map scA (xs++[⟨a,b,c,d,f⟩]):=fun _ _ _ _ _=>by simp[scA]
   have e3:∀ y:Sc,xs.length+1=(xs++[y]).length:=fun y=>by simp
   have ei:(i:Int)+1=((i+1:Nat):Int):=by omega
   have fin:∀ y:Sc,y=fixS xs.isEmpty x->_:=fun y hy=>hJ (i+1,k2,xs++[y]) ⟨by simp only; omega,by simp only; omega,by simp only; omega,by simp only[lak,laf,lar]; omega,by rw[hy]; exact hF⟩ (by simp only; omega)
   simp only[scA];apply zgF
   by_cases h0:xs=[]
   .have q0:((xs.length:Int)==0)=true:=by simp[h0]
    have qe:xs.isEmpty=true:=by simp[h0]
    by_cases h5:x.time=5
    .have q5:(x.time==5)=true:=by simpa using h5
     simp only[go_sem,q0,q5];refine⟨by simp,by first|omega|(simp; done)|(simp; omega),by first|omega|(simp; done)|(simp; omega),by first|omega|(simp; done)|(simp; omega),by first|omega|(simp; done)|(simp; omega),by omega,by omega,?_⟩;rw[e2,e3 ⟨x.no,x.place,x.set,2,x.Lc⟩,ei];refine ainv (fin ⟨x.no,x.place,x.set,2,x.Lc⟩ (by simp[fixS,qe,q5])) (Shift.low 4 (by simp) (by simp) ?_ ?_)
     .have:=AaT (xs++[⟨x.no,x.place,x.set,2,x.Lc⟩])
      simp only[go_sem,lowB,flat,str,AaD this]
     .simp only [go_sem]
    .have q5:(x.time==5)=false:=by simpa using h5
     simp only[go_sem,q0,q5];refine⟨by simp,by first|omega|(simp; done)|(simp; omega),by first|omega|(simp; done)|(simp; omega),by first|omega|(simp; done)|(simp; omega),by first|omega|(simp; done)|(simp; omega),by omega,by omega,?_⟩;rw[e2,e3 ⟨x.no,x.place,x.set,x.time,x.Lc⟩,ei];refine ainv (fin ⟨x.no,x.place,x.set,x.time,x.Lc⟩ (by simp[fixS,q5])) (Shift.low 4 (by simp) (by simp) ?_ ?_)
     .have:=AaT (xs++[⟨x.no,x.place,x.set,x.time,x.Lc⟩])
      simp only[go_sem,lowB,flat,str,AaD this]
     .simp only [go_sem]
   .have q0:((xs.length:Int)==0)=false:=by
     have:xs.length≠0:=by simpa using h0
     simp; omega
    simp only[go_sem,q0];refine⟨by simp,by first|omega|(simp; done)|(simp; omega),by first|omega|(simp; done)|(simp; omega),by first|omega|(simp; done)|(simp; omega),by first|omega|(simp; done)|(simp; omega),by omega,by omega,?_⟩;rw[e2,e3 ⟨x.no,x.place,x.set,x.time,x.Lc⟩,ei];refine ainv (fin ⟨x.no,x.place,x.set,x.time,x.Lc⟩ (by simp[fixS,h0])) (Shift.low 4 (by simp) (by simp) ?_ ?_)
    .have:=AaT (xs++[⟨x.no,x.place,x.set,x.time,x.Lc⟩])
     simp only[go_sem,lowB,flat,str,AaD this]
    .simp only [go_sem]
  .have di:decide ((i:Int)<v)=false:=by simp; omega
   rw[show v.toNat-i=0 by omega]at hF;simp only[AbH]at hF;subst hF;refine AWp.shift (Shift.frz 3 rfl (AaT xs)) ?_;simp only[go_sem,↓AjP,↓ApX,frzE,frz,frz1,frzC,frzB,laa,lab];have:List.take xs.length (List.map scA xs)=List.map scA xs:=lag (by simp);simp only[this];apply zgN;simp only[go_sem,di];exact AbU [.cell 2 28] rfl [_] ⟨by simp only[go_sem,sideIs],trivial⟩ ⟨_,_,rfl,rfl,rfl,rfl,rfl⟩
def AfN(L:List Int)(k:Int):Sr×Int:=((scriptF L k).1,(scriptF L k).2+1+(if flipF L (scriptF L k).2 3 then((scriptF L k).1.Lb.length:Int) else 0))
theorem A9D(L:List Int)(k:Int):DrawnR (AfN L k).1/\k<=(AfN L k).2/\(AfN L k).2<=k+40000:=by
 obtain⟨h,a,b⟩:=AiU L k;have:=h.len;unfold AfN;refine⟨h,?_,?_⟩
 .simp only; split <;> omega
 .simp only; split <;> omega
theorem A2M{S:Std}(hS:LibOk S)(L:List Int)(k:Int)(h3:0<=k)(h4:k<=500000) :
  McH prog S 17 2 (str L k) [] (fun r s=>r=srA (numR (AfN L k).1)/\s=str L (AfN L k).2):=by
 have hsc:=AoN L k (by omega) (by omega);obtain⟨hx,t1,t2⟩:=AiU L k;unfold AfN;generalize scriptF L k=w at *;obtain⟨⟨ti,xs⟩,k'⟩:=w;simp only at hsc hx t1 t2 |-;have hfl:=AhU L k' 3 (by decide) (by decide) (by omega) (by omega);generalize flipF L k' 3=fb at *;obtain⟨kf,hkf⟩:∃ z:Int,z=k'+1+(if fb=true then((xs.length:Nat):Int) else 0):=⟨_,rfl⟩;rw[<- hkf];refine zdIF func17 rfl fun h ρ w hg=>?_
 simp only[go_sem];refine zm 0 (hsc) ?_;rintro _ _ ⟨rfl,rfl⟩;have hlen:xs.length<=5:=hx.len
 cases xs with
 | nil =>
  apply zgF;simp only[go_sem];refine zqN hg (AsM hS ⟨ti,[]⟩ (by simp)) ?_;have e0:srA (numR ⟨ti,[]⟩)=.agg [.str ti,.fz 5 []]:=rfl;rw[e0];simp only[go_sem];refine zm 0 (hfl) ?_;rintro _ _ ⟨rfl,rfl⟩
  cases fb with
  | true =>
   apply zgF;simp only[go_sem];refine AbD (around (zgN ?_));simp only[go_sem];exact AbU [.cell 2 28] rfl [_] ⟨by simp only[go_sem,sideIs,numR,numL],trivial⟩ ⟨_,_,rfl,rfl,by rw[hkf]; simp,rfl,rfl⟩
  | false =>
   apply zgF;simp only[go_sem];exact AbU [.cell 2 28] rfl [_] ⟨by simp only[go_sem,sideIs,numR,numL],trivial⟩ ⟨_,_,rfl,rfl,by rw[hkf]; simp,rfl,rfl⟩
 | cons x xs =>
  apply zgF;simp only[go_sem];refine zaH hg (AtN hS L k' ti x xs (by simp at hlen; omega)) ?_;rintro _ _ ⟨rfl,rfl⟩;apply zgF;simp only[go_sem,blkS,blkZ];refine zm 0 (hfl) ?_;rintro _ _ ⟨rfl,rfl⟩;have htake:List.take (xs.length+1) (List.map scA (numL 0 (x::xs)))=List.map scA (numL 0 (x::xs)):=lag (by simp[numL_len]);have hl5:xs.length+1<=5:=by simpa using hlen
  cases fb with
  | false =>
   refine AWp.shift (Shift.frz 4 rfl (AaT _)) ?_;simp only[go_sem,srA,↓AjP,↓ApX,frzE,frz,frz1,frzC,frzB,laa,numL_len,lab];simp only[htake];apply zgF;simp only[go_sem];exact AbU [.cell 2 28] rfl [_] ⟨by simp only[go_sem,sideIs,numR],trivial⟩ ⟨_,_,rfl,rfl,by rw[hkf]; simp,rfl,rfl⟩
  | true =>
   apply zgF;simp only[go_sem];refine⟨by simp[numL_len],?_⟩;refine AaI (ι:=Nat) (fun y=>5-y)
    (fun y=>[(14,.int .i64 y),(13,.int .i64 ↑(xs.length+1)),(4,.str (AdO y)),(3,.ptr 6 1 0 0),(2,.ptr 1 1 0 0),(0,.ptr 0 1 0 0)])
    (fun y=>[.arr 2 [str L (k'+1+y)],.arr 2 [.agg [.str [],.raw (.slice none 0 0)]],.arr 2 [srA ⟨ti,x::xs⟩],.arr 2 [.agg [.str ti,.sl 4 0 (xs.length+1) (xs.length+1)]],.arr 5 (List.map scA (numL 0 (x::xs))),.arr 2 [.agg [.str ti,.sl 4 0 (xs.length+1) (xs.length+1)]],.arr 2 [.agg [.str ti,.sl 4 0 (xs.length+1) (xs.length+1)]]])
    (fun y=>y<=xs.length+1) 0 (by simp) ?_ ?_
   .have h0:k'+1+((0:Nat):Int)=k'+1:=by omega
    simp only[h0];refine Lo ?_;simp only[go_sem,AdO]
   .intro i g1 J hJ
    by_cases gi:i<xs.length+1
    .have di:decide ((i:Int)<((xs.length+1:Nat):Int))=true:=by simp; omega
     have hlast:(AdO (i+1)==[])=false:=by
      have:=AiH i (by omega);rw[this.2.2.2.2.2.2.2.2]; exact this.2.2.2.2.2.2.2.1
     apply zgF;simp only[go_sem,di];have ho1:=AfM L (k'+1+i) [[],[],[57]] (by decide) (by decide) (by omega) (by omega);have hz:=AbZ (L:=L) (k:=k'+1+i) (ls:=[[],[],[57]]) (by decide);generalize oneF L (k'+1+i) [[],[],[57]]=z at *;have hzz:z=[]\/z=[57]:=by simpa using hz
     refine zm 0 (ho1) ?_;rintro _ _ ⟨rfl,rfl⟩;apply zgF;simp only[go_sem];refine zqF hg (ApY hS i (by omega) z hzz) ?_;have hi:i<(x::xs).length:=by simpa using gi
     have hget:(List.map scA (numL 0 (x::xs)))[i]? = some (.agg [.str (AdO (i+1)),.int .i64 (x::xs)[i].place,.str (x::xs)[i].set,.int .i64 (x::xs)[i].time,.fz 2 ((x::xs)[i].Lc.map paA)]):=by
      rw[lbf,AqL _ _ _ hi];simp only[lca,nm,scA,lau,AqK i (by omega)]
     have hgd:List.getD (List.map scA (numL 0 (x::xs))) i .any=.agg [.str (AdO (i+1)),.int .i64 (x::xs)[i].place,.str (x::xs)[i].set,.int .i64 (x::xs)[i].time,.fz 2 ((x::xs)[i].Lc.map paA)]:=by
      rw[lbk,hget]; rfl
     simp only[go_sem,hlast,hgd];have hset:=set_same hget;refine⟨by simp[numL_len],by omega,by omega,lab _,by simp[numL_len]; omega,by omega,by omega,?_⟩;rw[hset,show k'+1+(i:Int)+1=k'+1+((i+1:Nat):Int) by omega,show(i:Int)+1=((i+1:Nat):Int) by omega];refine ainv (hJ (i+1) (by omega) (by omega)) (Lo ?_);simp only[go_sem]
    .have di:decide ((i:Int)<((xs.length+1:Nat):Int))=false:=by simp; omega
     refine AWp.shift (Shift.frz 4 rfl (AaT _)) ?_;simp only[go_sem,srA,↓AjP,↓ApX,frzE,frz,frz1,frzC,frzB,laa,numL_len,lab];simp only[htake];apply zgF;simp only[go_sem,di];exact AbU [.cell 2 28] rfl [_] ⟨by simp only[go_sem,sideIs,numR],trivial⟩ ⟨_,_,rfl,rfl,by rw[hkf,show i=xs.length+1 by omega]; simp,rfl,rfl⟩
