/- Takes that are drawn, told exactly. -/
import Derived.Test.YtgenkcmfeeakoaaGreatDoorX24
set_option maxRecDepth 100000
set_option maxHeartbeats 8000000
set_option linter.all false
namespace Go.Proofs.YtgenkcmfeeakoaaGreatDoor
open Av RowKit Proofs.Tryz
structure CvS where
 inn:Int
 cs:List Cv
 k:Int
def covStep(L:List Int)(n p:Nat)(x:CvS):CvS :=
 if 0<n/\flipF L x.k 3=true then⟨x.inn+nx L (x.k+1) 2,x.cs,x.k+1+1⟩
 else
  if flipF L ((if 0<n then x.k+1 else x.k)+1+1) 4 then
   ⟨x.inn+rangeF L (if 0<n then x.k+1 else x.k) 1 3+1,x.cs++[⟨p,x.inn+1,x.inn+rangeF L (if 0<n then x.k+1 else x.k) 1 3+1,flipF L ((if 0<n then x.k+1 else x.k)+1) 2⟩],(if 0<n then x.k+1 else x.k)+1+1+1⟩
  else
   ⟨x.inn+rangeF L (if 0<n then x.k+1 else x.k) 1 3,x.cs++[⟨p,x.inn,x.inn+rangeF L (if 0<n then x.k+1 else x.k) 1 3,flipF L ((if 0<n then x.k+1 else x.k)+1) 2⟩],(if 0<n then x.k+1 else x.k)+1+1+1⟩
def covs(L:List Int)(n:Nat):Nat->Nat->CvS->CvS
 | 0,_,x=>x
 | m+1,p,x=>covs L n m (p+1) (covStep L n p x)
structure TkS where
 at':Int
 out:List Tk
 k:Int
def mkTk(no:LU)(r:Rl)(n:Nat)(at':Int)(z:CvS):Tk:=⟨no,[],n+1,r.name,[],at',z.inn+1,true,z.cs⟩
def AiA(L:List Int)(no:LU)(np:Nat)(r:Rl)(n:Nat)(x:TkS):TkS :=
 ⟨(covs L n np 0 ⟨x.at',[],x.k⟩).inn+1,
  if flipF L (covs L n np 0 ⟨x.at',[],x.k⟩).k 12=false/\(covs L n np 0 ⟨x.at',[],x.k⟩).inn+1-r.start<=r.long then x.out++[mkTk no r n x.at' (covs L n np 0 ⟨x.at',[],x.k⟩)] else x.out,
  (covs L n np 0 ⟨x.at',[],x.k⟩).k+1⟩
def AhD(L:List Int)(no:LU)(np:Nat)(r:Rl):Nat->Nat->TkS->TkS
 | 0,_,x=>x
 | m+1,n,x=>AhD L no np r m (n+1) (AiA L no np r n x)
def AjC(L:List Int)(r:Rl)(y:Sc)(x:TkS):TkS:=AhD L y.no y.Ld.length r (rangeF L x.k 1 3).toNat 0 ⟨x.at',x.out,x.k+1⟩
def AlH(L:List Int)(r:Rl):List Sc->TkS->TkS
 | [],x=>x
 | y::l,x=>AlH L r l (AjC L r y x)
def fullF(L:List Int)(k:Int)(l:List Sc)(r:Rl):List Tk×Int:=((AlH L r l ⟨r.start,[],k⟩).out,(AlH L r l ⟨r.start,[],k⟩).k)
structure CvB(lo hi:Int)(np:Nat)(c:Cv):Prop where
 para:0<=c.para/\c.para<np
 inn:lo<=c.inn
 out:c.out<=hi
structure TkB(r:Rl)(t:Tk):Prop where
 setup:t.setup=[]
 number:1<=t.number/\t.number<=3
 roll:t.roll=r.name
 sound:t.sound=[]
 good:t.good=true
 inn:r.start<=t.inn/\t.inn<=r.start+10000
 out:r.start<=t.out/\t.out<=r.start+10000
 len:t.covers.length<=60
 cov:∀ c∈t.covers,CvB r.start (r.start+10000) 60 c
 scene:t.scene.length<10
theorem AsB(L:List Int)(n p:Nat)(x:CvS):x.inn<=(covStep L n p x).inn/\(covStep L n p x).inn<=x.inn+4/\x.k<=(covStep L n p x).k/\(covStep L n p x).k<=x.k+4 /\
  (covStep L n p x).cs.length<=x.cs.length+1/\∀ c∈(covStep L n p x).cs,c∈x.cs\/(c.para=p/\x.inn<=c.inn/\c.out<=x.inn+4):=by
 unfold covStep;have hb:=AgF L (x.k+1) 2 (by decide)
 split
 .exact ⟨by simp only; omega,by simp only; omega,by simp only; omega,by simp only; omega,by simp,fun c hc=>.inl hc⟩
 .have hr:=AjB L (if 0<n then x.k+1 else x.k) 3 (by decide)
  have hk:x.k<=(if 0<n then x.k+1 else x.k)/\(if 0<n then x.k+1 else x.k)<=x.k+1:=by split <;> omega
  generalize (if 0<n then x.k+1 else x.k)=k0 at *
  split
  .refine ⟨by simp only; omega,by simp only; omega,by simp only; omega,by simp only; omega,by simp,fun c hc=>?_⟩
   rcases List.mem_append.1 hc with hc|hc
   .exact .inl hc
   .rw [List.mem_singleton.1 hc]; exact .inr ⟨rfl,by simp only; omega,by simp only; omega⟩
  .refine ⟨by simp only; omega,by simp only; omega,by simp only; omega,by simp only; omega,by simp,fun c hc=>?_⟩
   rcases List.mem_append.1 hc with hc|hc
   .exact .inl hc
   .rw [List.mem_singleton.1 hc]; exact .inr ⟨rfl,by simp only; omega,by simp only; omega⟩
theorem A2Z(L:List Int)(n:Nat):∀ (m p:Nat)(x:CvS) ,x.inn<=(covs L n m p x).inn/\(covs L n m p x).inn<=x.inn+4*m/\x.k<=(covs L n m p x).k/\(covs L n m p x).k<=x.k+4*m /\
  (covs L n m p x).cs.length<=x.cs.length+m/\∀ c∈(covs L n m p x).cs,c∈x.cs\/((p:Int)<=c.para/\c.para<p+m/\x.inn<=c.inn/\c.out<=x.inn+4*m)
 | 0,p,x=>⟨Int.le_refl _,by simp[covs],Int.le_refl _,by simp[covs],by simp[covs],fun c hc=>.inl hc⟩
 | m+1,p,x=>by
  obtain⟨a1,a2,a3,a4,a5,a6⟩:=AsB L n p x;obtain⟨b1,b2,b3,b4,b5,b6⟩:=A2Z L n m (p+1) (covStep L n p x);simp only[covs];refine⟨by omega,by push_cast; omega,by omega,by push_cast; omega,by omega,fun c hc=>?_⟩
  rcases b6 c hc with h|⟨h1,h2,h3,h4⟩
  .rcases a6 c h with h|⟨h1,h2,h3⟩
   .exact .inl h
   .exact .inr ⟨by omega,by push_cast; omega,by omega,by push_cast; omega⟩
  .exact .inr ⟨by push_cast at h1; omega,by push_cast at h2 |-; omega,by omega,by push_cast; omega⟩
structure TkSB(r:Rl)(b:Int)(x:TkS):Prop where
 at':r.start<=x.at'/\x.at'<=r.start+250*b
 out:∀ t∈x.out,TkB r t
 len:(x.out.length:Int)<=b
theorem AoV(L:List Int)(no:LU)(np:Nat)(r:Rl)(n:Nat)(x:TkS)(b:Int)(hno:no.length<10)(hnp:np<=60)(hn:n<3)(hb:0<=b/\b<=20)(h:TkSB r b x) :
  TkSB r (b+1) (AiA L no np r n x)/\x.k<=(AiA L no np r n x).k/\(AiA L no np r n x).k<=x.k+250:=by
 obtain⟨b1,b2,b3,b4,b5,b6⟩:=A2Z L n np 0 ⟨x.at',[],x.k⟩;have h1:=h.at';have h2:=h.len;unfold AiA;generalize covs L n np 0 ⟨x.at',[],x.k⟩=z at *;simp only[lap,laq]at b1 b2 b3 b4 b5 b6;refine⟨⟨by simp only; omega,?_,?_⟩,by simp only; omega,by simp only; omega⟩
 .intro t ht
  simp only at ht
  split at ht
  .rcases List.mem_append.1 ht with ht|ht
   .exact h.out t ht
   .rw [List.mem_singleton.1 ht]
    refine⟨rfl,by simp only[mkTk]; omega,rfl,rfl,rfl,by simp only[mkTk]; omega,by simp only[mkTk]; omega,by simp only[mkTk]; omega,fun c hc=>?_,hno⟩
    rcases b6 c hc with hc|⟨c1,c2,c3,c4⟩
    .simp at hc
    .exact ⟨by push_cast at c1 c2; omega,by omega,by omega⟩
  .exact h.out t ht
 .simp only
  split
  .simp; omega
  .omega
theorem AyJ(L:List Int)(no:LU)(np:Nat)(r:Rl)(hno:no.length<10)(hnp:np<=60):∀ (m n:Nat)(x:TkS)(b:Int),n+m<=3->0<=b->b+m<=20->TkSB r b x ->
  TkSB r (b+m) (AhD L no np r m n x)/\x.k<=(AhD L no np r m n x).k/\(AhD L no np r m n x).k<=x.k+250*m
 | 0,n,x,b,_,_,_,h=>⟨by simpa[AhD]using h,Int.le_refl _,by simp[AhD]⟩
 | m+1,n,x,b,h1,h2,h3,h=>by
  obtain⟨a1,a2,a3⟩:=AoV L no np r n x b hno hnp (by omega) ⟨h2,by push_cast at h3; omega⟩ h;obtain⟨c1,c2,c3⟩:=AyJ L no np r hno hnp m (n+1) _ (b+1) (by omega) (by omega) (by push_cast at h3 |-; omega) a1;simp only[AhD];refine⟨?_,by omega,by push_cast; omega⟩;have:b+1+(m:Int)=b+((m+1:Nat):Int):=by push_cast; omega
  rw[<- this];exact c1
theorem AsC(L:List Int)(r:Rl)(y:Sc)(x:TkS)(b:Int)(hno:y.no.length<10)(hnp:y.Ld.length<=60)(hb:0<=b/\b<=15)(h:TkSB r b x) :
  TkSB r (b+3) (AjC L r y x)/\x.k<=(AjC L r y x).k/\(AjC L r y x).k<=x.k+760:=by
 have hr:=AjB L x.k 3 (by decide);unfold AjC;generalize rangeF L x.k 1 3=m at *;obtain⟨c1,c2,c3⟩:=AyJ L y.no y.Ld.length r hno hnp m.toNat 0 ⟨x.at',x.out,x.k+1⟩ b (by omega) hb.1 (by omega) ⟨h.at',h.out,h.len⟩;simp only at c2 c3;refine⟨⟨?_,c1.out,?_⟩,by omega,by omega⟩
 .have:=c1.at'; omega
 .have:=c1.len; omega
theorem A6Z(L:List Int)(r:Rl):∀ (l:List Sc)(x:TkS)(b:Int),(∀ y∈l,y.no.length<10/\y.Ld.length<=60)->0<=b->b+3*l.length<=15->TkSB r b x ->
  TkSB r (b+3*l.length) (AlH L r l x)/\x.k<=(AlH L r l x).k/\(AlH L r l x).k<=x.k+760*l.length
 | [],x,b,_,_,_,h=>⟨by simpa[AlH]using h,Int.le_refl _,by simp[AlH]⟩
 | y::l,x,b,hy,h1,h2,h=>by
  obtain⟨a1,a2,a3⟩:=AsC L r y x b (hy y (by simp)).1 (hy y (by simp)).2 ⟨h1,by simp at h2; omega⟩ h;obtain⟨c1,c2,c3⟩:=A6Z L r l _ (b+3) (fun z hz=>hy z (by simp[hz])) (by omega) (by simp at h2; omega) a1;simp only[AlH];refine⟨?_,by omega,by simp; omega⟩;have:b+3+3*(l.length:Int)=b+3*(((y::l).length:Nat):Int):=by simp; omega
  rw[<- this];exact c1
theorem BoD(L:List Int)(k:Int)(x:Sr)(hx:StoryOk x)(r:Rl):(∀ t∈(fullF L k x.Lc r).1,TkB r t)/\(fullF L k x.Lc r).1.length<=15/\k<=(fullF L k x.Lc r).2/\(fullF L k x.Lc r).2<=k+4000:=by
 have hl:=hx.len;have hno:∀ y∈x.Lc,y.no.length<10/\y.Ld.length<=60:=fun y hy=>by
  obtain⟨i,hi,rfl⟩:=List.getElem_of_mem hy;have h1:=AjZ i (by omega);rw[hx.no i hi];exact⟨by omega,(hx.all i hi).len⟩
 obtain⟨a,b,c⟩:=A6Z L r x.Lc ⟨r.start,[],k⟩ 0 hno (by decide) (by omega) ⟨by simp only; omega,by simp,by simp⟩;unfold fullF;refine⟨a.out,by have:=a.len; simp only at this |-; omega,b,by simp only at c |-; omega⟩
theorem AhE:∀ l:List Tk,(flat (l.map tkA)).all Av.frozen=true
 | []=>rfl
 | x::r=>by simpa[flat,cellsOf,tkA,Av.frozen]using AhE r
theorem AgR:∀ l:List Cv,(flat (l.map cvA)).all Av.frozen=true
 | []=>rfl
 | x::r=>by simpa[flat,cellsOf,cvA,Av.frozen]using AgR r
theorem BwJ(id e:Nat)(z:LA)(t:Tk):frzC id e z (tkA t)=tkA t:=rfl
theorem frzC_tks(id e:Nat)(z:LA)(l:List Tk):(l.map tkA).map (frzC id e z)=l.map tkA:=by
 rw[lbi];exact lbg fun t _=>BwJ id e z t
theorem BoE(L:List Int)(k:Int)(x:Sr)(hx:StoryOk x)(r:Rl)(rs:List Rl)(h3:0<=k)(h4:k<=700000)(hr1:0<=r.start/\r.start<=2600000)(hr2:r.long<=2600000) :
  Mc prog 18 2 (str L k) [srA x,.fz 5 ((r::rs).map rlA)] (fun v s=>v=.fz 9 ((fullF L k x.Lc r).1.map tkA)/\s=str L (fullF L k x.Lc r).2):=by
 obtain⟨Z,hZ⟩:∃ Z,Z=AlH L r x.Lc ⟨r.start,[],k⟩:=⟨_,rfl⟩;unfold fullF;rw[<- hZ];have hlen:=hx.len;obtain⟨ti,xs⟩:=x;simp only at hlen hZ;have hget0:List.getD (List.map rlA (r::rs)) 0 .any=.agg [.str r.name,.int .i64 r.rate,.int .i64 r.start,.int .i64 r.long,.int .i64 r.drift]:=rfl;have hno:∀ i,(hi:i<xs.length)->xs[i].no.length<10/\xs[i].Ld.length<=60:=fun i hi=>by
  have h1:=AjZ i (by omega);rw[hx.no i hi];exact⟨by omega,(hx.all i hi).len⟩
 simp only[srA];refine zcIB func18 rfl fun h ρ w=>?_
 simp only[go_sem,rlA,laa]
 repeat refine And.intro (by first|omega|rfl|(simp[rlA]; done)|(simp; omega)) ?_
 refine AaE (ι:=Nat×Int×List Tk×Int) (fun y=>xs.length-y.1)
  (fun y=>[(23,.int .i64 y.1),(22,.int .i64 xs.length),(21,.fz 5 (xs.map scA)),(8,.int .i64 y.2.1),(7,.sl 1 0 y.2.2.1.length y.2.2.1.length),(2,.fz 5 (.agg [.str r.name,.int .i64 r.rate,.int .i64 r.start,.int .i64 r.long,.int .i64 r.drift]::rs.map rlA)),(0,.ptr 0 1 0 0)])
  (fun y=>[.arr 2 [str L y.2.2.2],.arr 9 (y.2.2.1.map tkA)])
  (fun y=>y.1<=xs.length/\k<=y.2.2.2/\y.2.2.2<=k+760*y.1/\TkSB r (3*y.1) ⟨y.2.1,y.2.2.1,y.2.2.2⟩/\AlH L r (xs.drop y.1) ⟨y.2.1,y.2.2.1,y.2.2.2⟩=Z)
  (0,r.start,[],k) ⟨by simp,by simp only; omega,by simp only; omega,⟨by simp only; omega,by simp,by simp⟩,by simpa using hZ.symm⟩ ?_ ?_
 .refine Shift.trans (Ls 7 9 rfl) (Lt ?_ ?_)
  .simp only [go_sem]
  .simp
 rintro⟨i,a,out,k1⟩ ⟨g1,g2,g3,g4,g5⟩ J hJ;simp only at g1 g2 g3 g4 g5 hJ |-;have gl:=g4.len;simp only at gl
 by_cases gi:i<xs.length
 .have di:decide ((i:Int)<(xs.length:Int))=true:=by simp; omega
  have hd:xs.drop i=xs[i]::xs.drop (i+1):=lbc gi;rw[hd]at g5;simp only[AlH]at g5;have hget:=AgE xs i gi;obtain⟨hn1,hn2⟩:=hno i gi;obtain⟨s1,s2,s3⟩:=AsC L r xs[i] ⟨a,out,k1⟩ (3*i) hn1 hn2 ⟨by omega,by omega⟩ g4;simp only at s2 s3;obtain⟨Y,hY⟩:∃ Y,Y=AjC L r xs[i] ⟨a,out,k1⟩:=⟨_,rfl⟩;rw[<- hY]at g5 s1 s2 s3;have hfin:=hJ (i+1,Y.at',Y.out,Y.k) ⟨by simp only; omega,by simp only; omega,by simp only; push_cast; omega,by
   simp only;rw[show 3*((i+1:Nat):Int)=3*(i:Int)+3 by omega];exact s1,g5⟩ (by simp only; omega)
  have hrx:=AeH L k1 1 3 (by decide) (by decide) (by decide) (by omega) (by omega);have hrb:=AjB L k1 3 (by decide);unfold AjC at hY;simp only at hY;generalize rangeF L k1 1 3=m at *;generalize xs[i]=y at *;clear hJ;apply zgB;simp only[go_sem,rlA,di,hget,laa]
  repeat refine And.intro (by first|omega|rfl|(simp[rlA]; done)|(simp; omega)) ?_
  refine zm 0 (hrx) ?_;rintro _ _ ⟨rfl,rfl⟩;apply zgB;simp only[go_sem,rlA];refine AaE (ι:=Nat×Int×List Tk×Int) (fun q=>m.toNat-q.1)
   (fun q=>[(30,.int .i64 q.1),(29,.int .i64 m),(10,.ptr 2 1 0 0),(9,.int .i64 i),(23,.int .i64 i),(22,.int .i64 xs.length),(21,.fz 5 (xs.map scA)),(8,.int .i64 q.2.1),(7,.sl 1 0 q.2.2.1.length q.2.2.1.length),(2,.fz 5 (.agg [.str r.name,.int .i64 r.rate,.int .i64 r.start,.int .i64 r.long,.int .i64 r.drift]::rs.map rlA)),(0,.ptr 0 1 0 0)])
   (fun q=>[.arr 2 [str L q.2.2.2],.arr 9 (q.2.2.1.map tkA),.arr 5 [.agg [.str y.no,.int .i64 y.place,.str y.set,.int .i64 y.time,.fz 2 (y.Ld.map paA)]]])
   (fun q=>(q.1:Int)<=m/\k1<=q.2.2.2/\q.2.2.2<=k1+1+250*q.1/\TkSB r (3*i+q.1) ⟨q.2.1,q.2.2.1,q.2.2.2⟩/\AhD L y.no y.Ld.length r (m.toNat-q.1) q.1 ⟨q.2.1,q.2.2.1,q.2.2.2⟩=Y)
   (0,a,out,k1+1) ⟨by simp only; omega,by simp only; omega,by simp only; omega,by simpa using(⟨g4.at',g4.out,g4.len⟩:TkSB r (3*i) ⟨a,out,k1+1⟩),by simpa using hY.symm⟩ ?_ ?_
  .refine Lt ?_ rfl
   simp only[go_sem]
  rintro⟨n,a,out,k2⟩ ⟨e1,e2,e3,e4,e5⟩ J2 hJ2;simp only at e1 e2 e3 e4 e5 hJ2 |-;have el:=e4.len;have ea:=e4.at';simp only at el ea
  by_cases gn:(n:Int)<m
  .have dn:decide ((n:Int)<m)=true:=by simpa using gn
   rw[show m.toNat-n=(m.toNat-(n+1))+1 by omega]at e5;simp only[AhD]at e5;obtain⟨t1,t2,t3⟩:=AoV L y.no y.Ld.length r n ⟨a,out,k2⟩ (3*i+n) hn1 hn2 (by omega) ⟨by omega,by omega⟩ e4;obtain⟨z1,z2,z3,z4,z5,z6⟩:=A2Z L n y.Ld.length 0 ⟨a,[],k2⟩;simp only at t2 t3 z1 z2 z3 z4 z5;obtain⟨X,hX⟩:∃ X,X=covs L n y.Ld.length 0 ⟨a,[],k2⟩:=⟨_,rfl⟩;rw[<- hX]at z1 z2 z3 z4 z5;have hts:AiA L y.no y.Ld.length r n ⟨a,out,k2⟩=⟨X.inn+1,if flipF L X.k 12=false/\X.inn+1-r.start<=r.long then out++[mkTk y.no r n a X] else out,X.k+1⟩:=by
    rw[hX]; rfl
   rw[hts]at e5 t1 t2 t3;simp only at t2 t3;have hfin2:=hJ2 (n+1,X.inn+1,if flipF L X.k 12=false/\X.inn+1-r.start<=r.long then out++[mkTk y.no r n a X] else out,X.k+1) ⟨by simp only; omega,by simp only; omega,by simp only; push_cast; omega,by
    simp only;rw[show 3*(i:Int)+((n+1:Nat):Int)=3*(i:Int)+n+1 by omega];exact t1,e5⟩ (by simp only; omega)
   clear hJ2 e5 t1;have hf12:=AcN L X.k 12 (by decide) (by decide) (by omega) (by omega);generalize flipF L X.k 12=fb at *;apply zgB;simp only[go_sem,rlA,dn];refine AeB [] 99 [] AaI (by decide) rfl rfl 100 ?_;simp only[go_sem,rlA,laa]
   repeat refine And.intro (by first|omega|rfl|(simp[rlA]; done)|(simp; omega)) ?_
   apply zgB;simp only[go_sem,rlA,laa];refine AaE (ι:=Nat×Int×List Cv×Int) (fun q=>y.Ld.length-q.1)
    (fun q=>[(47,.int .i64 q.1),(46,.int .i64 y.Ld.length),(13,.int .i64 q.2.1),(12,.ptr 3 1 0 0),(11,.int .i64 n),(30,.int .i64 n),(29,.int .i64 m),(10,.ptr 2 1 0 0),(9,.int .i64 i),(23,.int .i64 i),(22,.int .i64 xs.length),(21,.fz 5 (xs.map scA)),(8,.int .i64 a),(7,.sl 1 0 out.length out.length),(2,.fz 5 (.agg [.str r.name,.int .i64 r.rate,.int .i64 r.start,.int .i64 r.long,.int .i64 r.drift]::rs.map rlA)),(0,.ptr 0 1 0 0)])
    (fun q=>[.arr 2 [str L q.2.2.2],.arr 9 (out.map tkA),.arr 5 [.agg [.str y.no,.int .i64 y.place,.str y.set,.int .i64 y.time,.fz 2 (y.Ld.map paA)]],.arr 9 [.agg [.str y.no,.str [],.int .i64 (n+1),.str r.name,.str [],.int .i64 a,.int .i64 0,.bool true,.sl 4 0 q.2.2.1.length q.2.2.1.length]],.arr 4 (q.2.2.1.map cvA)])
    (fun q=>q.1<=y.Ld.length/\a<=q.2.1/\q.2.1<=a+4*q.1/\k2<=q.2.2.2/\q.2.2.2<=k2+4*q.1/\q.2.2.1.length<=q.1/\covs L n (y.Ld.length-q.1) q.1 ⟨q.2.1,q.2.2.1,q.2.2.2⟩=X)
    (0,a,[],k2) ⟨by simp,by simp only; omega,by simp only; omega,by simp only; omega,by simp only; omega,by simp,by simpa using hX.symm⟩ ?_ ?_
   .refine Shift.trans (Shift.cells 3 4 [.agg [.str y.no,.str [],.int .i64 (n+1),.str r.name,.str [],.int .i64 a,.int .i64 0,.bool true,.sl 4 0 0 0]] rfl rfl (by simp[cellsOf]) ⟨.refl,.refl,.refl,.refl,.refl,.refl,.refl,.refl,.sl,trivial⟩) (Lt ?_ ?_)
    .simp only [go_sem]
    .simp
   rintro⟨p,b,cs,k3⟩ ⟨f1,f2,f3,f4,f5,f6,f7⟩ J3 hJ3;simp only at f1 f2 f3 f4 f5 f6 f7 hJ3 |-
   by_cases gp:p<y.Ld.length
   .have dp:decide ((p:Int)<(y.Ld.length:Int))=true:=by simp; omega
    rw[show y.Ld.length-p=(y.Ld.length-(p+1))+1 by omega]at f7;simp only[covs]at f7;obtain⟨c1,c2,c3,c4,c5,c6⟩:=AsB L n p ⟨b,cs,k3⟩;simp only at c1 c2 c3 c4 c5;have hfin3:∀ V,V=covStep L n p ⟨b,cs,k3⟩->_:=fun V hV=>hJ3 (p+1,V.inn,V.cs,V.k) ⟨by simp only; omega,by rw[hV]; simp only; omega,by rw[hV]; simp only; push_cast; omega,by rw[hV]; simp only; omega,by rw[hV]; simp only; push_cast; omega,by rw[hV]; simp only; omega,by rw[hV]; exact f7⟩ (by simp only; omega)
    have hfl3:=AcN L k3 3 (by decide) (by decide) (by omega) (by omega);have hn2':=AcX L (k3+1) 2 (by decide) (by decide) (by omega) (by omega);have hnb:=AgF L (k3+1) 2 (by decide);have rest:∀ k0:Int,k0=(if 0<n then k3+1 else k3)->¬ (0<n/\flipF L k3 3=true)->∀ V,V=covStep L n p ⟨b,cs,k3⟩->V=if flipF L (k0+1+1) 4 then⟨b+rangeF L k0 1 3+1,cs++[⟨p,b+1,b+rangeF L k0 1 3+1,flipF L (k0+1) 2⟩],k0+1+1+1⟩ else⟨b+rangeF L k0 1 3,cs++[⟨p,b,b+rangeF L k0 1 3,flipF L (k0+1) 2⟩],k0+1+1+1⟩:=fun k0 hk hc V hV=>by
     rw[hV,covStep,if_neg hc];simp only;rw[<- hk]
    by_cases hn0:0<n
    .have q0:decide ((n:Int)>0)=true:=by simp; omega
     cases hb3:flipF L k3 3 with
     | true =>
      have hv:(⟨b+nx L (k3+1) 2,cs,k3+1+1⟩:CvS)=covStep L n p ⟨b,cs,k3⟩:=by
       rw[covStep,if_pos ⟨hn0,hb3⟩]
      have hf:=hfin3 _ hv;simp only at hf;rw[hb3]at hfl3;generalize nx L (k3+1) 2=nn at *;apply zgB;simp only[go_sem,rlA,dp,q0];refine zm 0 (hfl3) ?_;rintro _ _ ⟨rfl,rfl⟩;apply zgB;simp only[go_sem,rlA];refine zm 0 (hn2') ?_;rintro _ _ ⟨rfl,rfl⟩;apply zgB;simp only[go_sem,rlA]
      repeat refine And.intro (by first|omega|rfl|(simp[rlA]; done)|(simp; omega)) ?_
      rw[ic p];refine ainv hf (Lt ?_ rfl);simp only[go_sem]
     | false =>
      have hr:=rest (k3+1) (by rw[if_pos hn0]) (by simp[hb3]) _ rfl;rw[hb3]at hfl3;have hra:=AeH L (k3+1) 1 3 (by decide) (by decide) (by decide) (by omega) (by omega);have hrab:=AjB L (k3+1) 3 (by decide);have hf2:=AcN L (k3+1+1) 2 (by decide) (by decide) (by omega) (by omega);have hf4:=AcN L (k3+1+1+1) 4 (by decide) (by decide) (by omega) (by omega);have hf:=hfin3 _ rfl;rw[hr]at hf c1 c2 c3 c4 c5;clear rest hfin3 hJ3 c6 f7 hr;generalize rangeF L (k3+1) 1 3=rg at *;generalize flipF L ((k3+1)+1) 2=b2 at *;generalize flipF L ((k3+1)+1+1) 4=b4 at *
      cases b4 with
      | true =>
       simp only[if_true,lak,lah,lal,las,lam,lap,laq,cvA]at hf;apply zgB;simp only[go_sem,rlA,dp,q0];refine zm 0 (hfl3) ?_;rintro _ _ ⟨rfl,rfl⟩;apply zgB;simp only[go_sem,rlA];refine zm 0 (hra) ?_;rintro _ _ ⟨rfl,rfl⟩;apply zgB;simp only[go_sem,rlA]
       repeat refine And.intro (by first|omega|rfl|(simp[rlA]; done)|(simp; omega)) ?_
       refine zm 0 (hf2) ?_;rintro _ _ ⟨rfl,rfl⟩;apply zgB;simp only[go_sem,rlA];refine zm 0 (hf4) ?_;rintro _ _ ⟨rfl,rfl⟩;apply zgB;simp only[go_sem,rlA,laa]
       repeat refine And.intro (by first|omega|rfl|exact .inl trivial|(simp[rlA]; done)|(simp; omega)) ?_
       rw[ic p];refine ainv hf (Shift.low 5 (by simp) (by simp) ?_ ?_)
       .simp only[go_sem,lowB,flat,str,flat_append,lbo,AaD (AhE _),AaD (AgR _)]
       .simp only [go_sem]
      | false =>
       simp only[lan,if_false,lak,lah,lal,las,lam,lap,laq,cvA]at hf;apply zgB;simp only[go_sem,rlA,dp,q0];refine zm 0 (hfl3) ?_;rintro _ _ ⟨rfl,rfl⟩;apply zgB;simp only[go_sem,rlA];refine zm 0 (hra) ?_;rintro _ _ ⟨rfl,rfl⟩;apply zgB;simp only[go_sem,rlA]
       repeat refine And.intro (by first|omega|rfl|(simp[rlA]; done)|(simp; omega)) ?_
       refine zm 0 (hf2) ?_;rintro _ _ ⟨rfl,rfl⟩;apply zgB;simp only[go_sem,rlA];refine zm 0 (hf4) ?_;rintro _ _ ⟨rfl,rfl⟩;apply zgB;simp only[go_sem,rlA,laa]
       repeat refine And.intro (by first|omega|rfl|exact .inl trivial|(simp[rlA]; done)|(simp; omega)) ?_
       rw[ic p];refine ainv hf (Shift.low 5 (by simp) (by simp) ?_ ?_)
       .simp only[go_sem,lowB,flat,str,flat_append,lbo,AaD (AhE _),AaD (AgR _)]
       .simp only [go_sem]
    .have q0:decide ((n:Int)>0)=false:=by simp; omega
     have hr:=rest k3 (by rw[if_neg hn0]) (fun h=>hn0 h.1) _ rfl;have hra:=AeH L k3 1 3 (by decide) (by decide) (by decide) (by omega) (by omega);have hrab:=AjB L k3 3 (by decide);have hf2:=AcN L (k3+1) 2 (by decide) (by decide) (by omega) (by omega);have hf4:=AcN L (k3+1+1) 4 (by decide) (by decide) (by omega) (by omega);have hf:=hfin3 _ rfl;rw[hr]at hf c1 c2 c3 c4 c5;clear rest hfin3 hJ3 c6 f7 hr;generalize rangeF L k3 1 3=rg at *;generalize flipF L (k3+1) 2=b2 at *;generalize flipF L (k3+1+1) 4=b4 at *
     cases b4 with
     | true =>
      simp only[if_true,lak,lah,lal,las,lam,lap,laq,cvA]at hf;apply zgB;simp only[go_sem,rlA,dp,q0];refine zm 0 (hra) ?_;rintro _ _ ⟨rfl,rfl⟩;apply zgB;simp only[go_sem,rlA]
      repeat refine And.intro (by first|omega|rfl|(simp[rlA]; done)|(simp; omega)) ?_
      refine zm 0 (hf2) ?_;rintro _ _ ⟨rfl,rfl⟩;apply zgB;simp only[go_sem,rlA];refine zm 0 (hf4) ?_;rintro _ _ ⟨rfl,rfl⟩;apply zgB;simp only[go_sem,rlA,laa]
      repeat refine And.intro (by first|omega|rfl|exact .inl trivial|(simp[rlA]; done)|(simp; omega)) ?_
      rw[ic p];refine ainv hf (Shift.low 5 (by simp) (by simp) ?_ ?_)
      .simp only[go_sem,lowB,flat,str,flat_append,lbo,AaD (AhE _),AaD (AgR _)]
      .simp only [go_sem]
     | false =>
      simp only[lan,if_false,lak,lah,lal,las,lam,lap,laq,cvA]at hf;apply zgB;simp only[go_sem,rlA,dp,q0];refine zm 0 (hra) ?_;rintro _ _ ⟨rfl,rfl⟩;apply zgB;simp only[go_sem,rlA]
      repeat refine And.intro (by first|omega|rfl|(simp[rlA]; done)|(simp; omega)) ?_
      refine zm 0 (hf2) ?_;rintro _ _ ⟨rfl,rfl⟩;apply zgB;simp only[go_sem,rlA];refine zm 0 (hf4) ?_;rintro _ _ ⟨rfl,rfl⟩;apply zgB;simp only[go_sem,rlA,laa]
      repeat refine And.intro (by first|omega|rfl|exact .inl trivial|(simp[rlA]; done)|(simp; omega)) ?_
      rw[ic p];refine ainv hf (Shift.low 5 (by simp) (by simp) ?_ ?_)
      .simp only[go_sem,lowB,flat,str,flat_append,lbo,AaD (AhE _),AaD (AgR _)]
      .simp only [go_sem]
   .have dp:decide ((p:Int)<(y.Ld.length:Int))=false:=by simp; omega
    rw[show y.Ld.length-p=0 by omega]at f7;simp only[covs]at f7;subst f7;simp only at hf12 hfin2 t2 t3 z1 z2 z3 z4 z5;clear hJ3;refine AWp.shift (Shift.frz 4 rfl (AgR cs)) ?_;simp only[go_sem,↓AdO,↓AgA,frzE,frz,frz1,frzC,frzB,laa,lad,frzC_tks,take_map]
    cases fb with
    | true =>
     simp only[Bool.true_eq_false,false_and,if_false]at hfin2;apply zgB;simp only[go_sem,rlA,dp]
     repeat refine And.intro (by first|omega|rfl|(simp[rlA]; done)|(simp; omega)) ?_
     refine AeB [1] 0 [] AaI (by decide) rfl rfl 100 ?_;simp only[go_sem,rlA];refine AuQ hf12 rfl rfl rfl ⟨_,_,rfl,rfl⟩ ?_;rintro _ _ ⟨rfl,rfl⟩;simp only[go_sem,rlA]
     repeat refine And.intro (by first|omega|rfl|(simp[rlA]; done)|(simp; omega)) ?_
     apply zgB;simp only[go_sem,rlA]
     repeat refine And.intro (by first|omega|rfl|(simp[rlA]; done)|(simp; omega)) ?_
     rw[ic n];refine ainv hfin2 (Shift.low 3 (by simp) (by simp) ?_ ?_)
     .simp only[go_sem,lowB,flat,str,flat_append,lbo,AaD (AhE _),AaD (AgR _)]
     .simp only [go_sem]
    | false =>
     cases hle:decide (b+1-r.start<=r.long)with
     | false =>
      have hle':¬ b+1-r.start<=r.long:=by simpa using hle
      simp only[true_and,if_neg hle']at hfin2;apply zgB;simp only[go_sem,rlA,dp]
      repeat refine And.intro (by first|omega|rfl|(simp[rlA]; done)|(simp; omega)) ?_
      refine AeB [1] 0 [] AaI (by decide) rfl rfl 100 ?_;simp only[go_sem,rlA];refine AuQ hf12 rfl rfl rfl ⟨_,_,rfl,rfl⟩ ?_;rintro _ _ ⟨rfl,rfl⟩;simp only[go_sem,rlA,hle]
      repeat refine And.intro (by first|omega|rfl|(simp[rlA]; done)|(simp; omega)) ?_
      apply zgB;simp only[go_sem,rlA]
      repeat refine And.intro (by first|omega|rfl|(simp[rlA]; done)|(simp; omega)) ?_
      rw[ic n];refine ainv hfin2 (Shift.low 3 (by simp) (by simp) ?_ ?_)
      .simp only[go_sem,lowB,flat,str,flat_append,lbo,AaD (AhE _),AaD (AgR _)]
      .simp only [go_sem]
     | true =>
      have hle':b+1-r.start<=r.long:=by simpa using hle
      simp only[true_and,if_pos hle',lak,lah,lal,las,lam,lap,laq,mkTk,tkA]at hfin2;apply zgB;simp only[go_sem,rlA,dp]
      repeat refine And.intro (by first|omega|rfl|(simp[rlA]; done)|(simp; omega)) ?_
      refine AeB [1] 0 [] AaI (by decide) rfl rfl 100 ?_;simp only[go_sem,rlA];refine AuQ hf12 rfl rfl rfl ⟨_,_,rfl,rfl⟩ ?_;rintro _ _ ⟨rfl,rfl⟩;simp only[go_sem,rlA,hle]
      repeat refine And.intro (by first|omega|rfl|(simp[rlA]; done)|(simp; omega)) ?_
      apply zgB;simp only[go_sem,rlA,laa]
      repeat refine And.intro (by first|omega|rfl|exact .inl trivial|(simp[rlA]; done)|(simp; omega)) ?_
      rw[ic n];refine ainv hfin2 (Shift.low 3 (by simp) (by simp) ?_ ?_)
      .simp only[go_sem,lowB,flat,str,flat_append,lbo,AaD (AhE _),AaD (AgR _)]
      .simp only [go_sem]
  .have dn:decide ((n:Int)<m)=false:=by simp; omega
   rw[show m.toNat-n=0 by omega]at e5;simp only[AhD]at e5;subst e5;simp only at hfin;clear hJ2;apply zgB;simp only[go_sem,rlA,dn]
   repeat refine And.intro (by first|omega|rfl|(simp[rlA]; done)|(simp; omega)) ?_
   rw[ic i];refine ainv hfin (Shift.low 2 (by simp) (by simp) ?_ ?_)
   .simp only[go_sem,lowB,flat,str,flat_append,lbo,AaD (AhE _),AaD (AgR _)]
   .simp only [go_sem]
 .have di:decide ((i:Int)<(xs.length:Int))=false:=by simp; omega
  rw[show xs.drop i=[] from List.drop_eq_nil_iff.2 (by omega)]at g5;simp only[AlH]at g5;subst g5;clear hJ;refine AWp.shift (Shift.freeze 7 (id:=1) (l:=out.map tkA) rfl rfl (by simp) (lad _) (AhE _)) ?_;have htk:List.take out.length (List.drop 0 (out.map tkA))=out.map tkA:=by rw[lcj,take_map]
  rw[htk];apply zgB;simp only[go_sem,rlA,di];exact aret [6] rfl ⟨_,_,rfl,rfl,rfl,rfl,rfl⟩
theorem AyK(x:Sc)(no:LU):Pc prog 160 [scA x,.pin 1 [.str no] 0 0] (· = .bool (x.no==no&&no != [])):=by
 simp only[scA];refine zpIB func160 rfl fun h ρ w=>?_
 cases e1:x.no==no with
 | true =>
  simp only[go_sem,e1];exact aret [3] rfl ⟨by simp[resV,Av.get,Av.put,e1],rfl⟩
 | false =>
  simp only[go_sem,e1];exact aret [3] rfl ⟨by simp[resV,Av.get,Av.put,e1],rfl⟩
def AcO(x:Sr)(no:LU):Int:=idxH (fun y=>y.no==no&&no != []) x.Lc
theorem A9Y(x:Sr)(no:LU)(hl:x.Lc.length<=5):Pc prog 108 [srA x,.str no] (· = .int .i64 (AcO x no)):=by
 have hi:=A6N 160 [.pin 1 [.str no] 0 0] rfl (fun y=>y.no==no&&no != []) x.Lc (by omega) (fun y _=>AyK y no);simp only[srA];refine zpIB func108 rfl fun h ρ w=>?_
 simp only[go_sem];refine zpB (hi) ?_;simp only[go_sem];exact zt [4]
theorem AsD(x:Rl)(no:LU):Pc prog 161 [rlA x,.pin 1 [.str no] 0 0] (· = .bool (x.name==no&&no != [])):=by
 simp only[rlA];refine zpIB func161 rfl fun h ρ w=>?_
 cases e1:x.name==no with
 | true =>
  simp only[go_sem,e1];exact aret [3] rfl ⟨by simp[resV,Av.get,Av.put,e1],rfl⟩
 | false =>
  simp only[go_sem,e1];exact aret [3] rfl ⟨by simp[resV,Av.get,Av.put,e1],rfl⟩
theorem AyL(x:Rl)(no:LU):Pc prog 151 [rlA x,.pin 1 [.str no] 0 0] (· = .bool (x.name==no)):=by
 simp only[rlA];refine zpIB func151 rfl fun h ρ w=>?_
 simp only[go_sem];exact zt [3]
def rlZ:Rl:=⟨[],0,0,0,0⟩
theorem A9Z(r:Rl)(rs:List Rl)(hl:rs.length<=200)(hn:(r.name==[])=false):Pc prog 109 [.fz 5 ((r::rs).map rlA),.str r.name] (· = .tup [rlA r,.bool true]):=by
 have hi:=AjX 161 [.pin 1 [.str r.name] 0 0] rfl (fun y=>y.name==r.name&&r.name != []) (r::rs) (by simp; omega) (fun y _=>AsD y r.name);have e1:idxH (fun y:Rl=>y.name==r.name&&r.name != []) (r::rs)=0:=by
  have:=AcZ (p:=fun y:Rl=>y.name==r.name&&r.name != []) (l:=r::rs) (i:=0) (by simp) (by simp[bne,hn]) (fun j hj=>absurd hj (by omega))
  simpa using this
 rw[e1]at hi;simp only[lal,rlA]at hi |-;refine zpIB func109 rfl fun h ρ w=>?_
 simp only[go_sem];refine zpB (hi) ?_;simp only[go_sem,laa]
 repeat refine aj ?_
 exact AcA [.cell 4 110,.tmp 5] rfl [_,_] ⟨by simp only[go_sem,sideIs],by simp only[go_sem,sideIs],trivial⟩ ⟨rfl,rfl⟩
theorem BoF(l:List Rl):idxH (fun y:Rl=>y.name==[]&&([]:LU) != []) l=-1:=AeG fun j hj=>by simp
theorem A3A(l:List Rl)(hl:l.length<=200):Pc prog 109 [.fz 5 (l.map rlA),.str []] (· = .tup [rlA rlZ,.bool false]):=by
 have hi:=AjX 161 [.pin 1 [.str []] 0 0] rfl (fun y=>y.name==[]&&([]:LU) != []) l (by omega) (fun y _=>AsD y []);rw[BoF]at hi;refine zpIB func109 rfl fun h ρ w=>?_
 simp only[go_sem];refine zpB (hi) ?_;simp only[go_sem];exact AcA [.cell 4 110,.tmp 5] rfl [_,_] ⟨by simp only[go_sem,sideIs,rlA,rlZ],by simp only[go_sem,sideIs],trivial⟩ ⟨rfl,rfl⟩
theorem BfU(r:Rl)(rs:List Rl)(hl:rs.length<=200):Pc prog 89 [.fz 5 ((r::rs).map rlA),.str r.name] (· = .tup [rlA r,.bool true]):=by
 have hi:=AjX 151 [.pin 1 [.str r.name] 0 0] rfl (fun y=>y.name==r.name) (r::rs) (by simp; omega) (fun y _=>AyL y r.name);have e1:idxH (fun y:Rl=>y.name==r.name) (r::rs)=0:=by
  have:=AcZ (p:=fun y:Rl=>y.name==r.name) (l:=r::rs) (i:=0) (by simp) (by simp) (fun j hj=>absurd hj (by omega))
  simpa using this
 rw[e1]at hi;simp only[lal,rlA]at hi |-;refine zpIB func89 rfl fun h ρ w=>?_
 simp only[go_sem];refine zpB (hi) ?_;simp only[go_sem,laa]
 repeat refine aj ?_
 exact AcA [.cell 4 110,.tmp 5] rfl [_,_] ⟨by simp only[go_sem,sideIs],by simp only[go_sem,sideIs],trivial⟩ ⟨rfl,rfl⟩
theorem BaA(l:List Rl)(hl:l.length<=200)(hn:∀ x∈l,(x.name==[])=false):Pc prog 89 [.fz 5 (l.map rlA),.str []] (· = .tup [rlA rlZ,.bool false]):=by
 have hi:=AjX 151 [.pin 1 [.str []] 0 0] rfl (fun y=>y.name==[]) l (by omega) (fun y _=>AyL y []);rw[AeG (fun j hj=>hn _ (lac hj))]at hi;refine zpIB func89 rfl fun h ρ w=>?_
 simp only[go_sem];refine zpB (hi) ?_;simp only[go_sem];exact AcA [.cell 4 110,.tmp 5] rfl [_,_] ⟨by simp only[go_sem,sideIs,rlA,rlZ],by simp only[go_sem,sideIs],trivial⟩ ⟨rfl,rfl⟩
def AsE(r:Rl)(a b:Int):Bool:=(decide (r.start<=a)&&decide (a<b))&&decide (b<=r.start+r.long)
theorem BfV(r:Rl)(a b:Int)(h1:0<=r.start/\r.start<=10000000)(h2:0<=r.long/\r.long<=10000000):Pc prog 113 [rlA r,.int .i64 a,.int .i64 b] (· = .bool (AsE r a b)):=by
 unfold AsE;simp only[rlA];refine zpIB func113 rfl fun h ρ w=>?_
 cases e1:decide (r.start<=a)with
 | false =>
  simp only[go_sem,e1];exact aret [6] rfl ⟨by simp[resV,Av.get,Av.put],rfl⟩
 | true =>
  cases e2:decide (a<b)with
  | false =>
   simp only[go_sem,e1,e2];exact aret [6] rfl ⟨by simp[resV,Av.get,Av.put],rfl⟩
  | true =>
   simp only[go_sem,e1,e2]
   repeat refine aj ?_
   exact aret [6] rfl ⟨by simp[resV,Av.get,Av.put],rfl⟩
theorem BfW(r:Rl)(a b:Int)(h1:0<=r.start/\r.start<=10000000)(h2:0<=r.long/\r.long<=10000000):Pc prog 90 [rlA r,.int .i64 a,.int .i64 b] (· = .bool (AsE r a b)):=by
 unfold AsE;simp only[rlA];refine zpIB func90 rfl fun h ρ w=>?_
 cases e1:decide (r.start<=a)with
 | false =>
  simp only[go_sem,e1];exact aret [6] rfl ⟨by simp[resV,Av.get,Av.put],rfl⟩
 | true =>
  cases e2:decide (a<b)with
  | false =>
   simp only[go_sem,e1,e2];exact aret [6] rfl ⟨by simp[resV,Av.get,Av.put],rfl⟩
  | true =>
   simp only[go_sem,e1,e2]
   repeat refine aj ?_
   exact aret [6] rfl ⟨by simp[resV,Av.get,Av.put],rfl⟩
theorem BfX:Pc prog 110 [.str []] (· = .bool true):=by
 have h3:=AgD [] [65,66,67,68,69,70,71,72,74,75,76,77,78,80,81,82,83,84,85,86,87,88,89,90] (by decide) (by decide) (AbI (by decide));rw[show AlF [] [65,66,67,68,69,70,71,72,74,75,76,77,78,80,81,82,83,84,85,86,87,88,89,90]=true from rfl]at h3;refine zpIB func110 rfl fun h ρ w=>?_
 simp only[go_sem];refine zpB (h3) ?_;simp only[go_sem];exact zt [2]
def dupB(t y:Tk):Bool:=(y.scene==t.scene&&y.setup==t.setup)&&y.number==t.number
def busyB(t y:Tk):Bool:=(y.roll==t.roll&&decide (y.inn<t.out))&&decide (t.inn<y.out)
theorem BwK(y t:Tk):Pc prog 112 [tkA y,.pin 9 [tkA t] 0 0] (· = .bool (dupB t y)):=by
 unfold dupB;simp only[tkA];refine zpIB func112 rfl fun h ρ w=>?_
 cases e1:y.scene==t.scene with
 | false =>
  simp only[go_sem,e1];exact aret [3] rfl ⟨by simp[resV,Av.get,Av.put],rfl⟩
 | true =>
  cases e2:y.setup==t.setup with
  | false =>
   simp only[go_sem,e1,e2];exact aret [3] rfl ⟨by simp[resV,Av.get,Av.put],rfl⟩
  | true =>
   simp only[go_sem,e1,e2];exact aret [3] rfl ⟨by simp[resV,Av.get,Av.put],rfl⟩
theorem BoG(y t:Tk):Pc prog 114 [tkA y,.pin 9 [tkA t] 0 0] (· = .bool (busyB t y)):=by
 unfold busyB;simp only[tkA];refine zpIB func114 rfl fun h ρ w=>?_
 cases e1:y.roll==t.roll with
 | false =>
  simp only[go_sem,e1];exact aret [3] rfl ⟨by simp[resV,Av.get,Av.put],rfl⟩
 | true =>
  cases e2:decide (y.inn<t.out)with
  | false =>
   simp only[go_sem,e1,e2];exact aret [3] rfl ⟨by simp[resV,Av.get,Av.put],rfl⟩
  | true =>
   simp only[go_sem,e1,e2];exact aret [3] rfl ⟨by simp[resV,Av.get,Av.put],rfl⟩
