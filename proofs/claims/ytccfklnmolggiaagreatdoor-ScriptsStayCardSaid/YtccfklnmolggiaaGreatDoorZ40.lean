/- The law that scripts stay, walked. -/
import Derived.Test.YtccfklnmolggiaaGreatDoorZ39
set_option maxRecDepth 100000
set_option maxHeartbeats 16000000
set_option linter.all false
namespace Go.Proofs.YtccfklnmolggiaaGreatDoor
open Av RowKit Proofs.Tryz
theorem ScsS.out{lo hi lo' hi' T T' u}(h:ScsS lo hi T u)(ho:Out lo' hi' T T')(hd:hi<=lo'\/hi'<=lo)(hl:hi<=T.length):ScsS lo hi T' u :=
 h.to (lab _) (lab _) fun j h1 h2 b hb=>by rw[ho.2 j (by omega) (by omega)]; exact hb
theorem PgS.to{lo hi lo' hi' T T' u}(h:PgS lo hi T u)(h1:lo'<=lo)(h2:hi<=hi')(ht:∀ j,lo<=j->j<hi->∀ b,T[j]? = some b->T'[j]? = some b):PgS lo' hi' T' u:=by
 obtain⟨rows,e1,e0,e2⟩:=h;refine⟨rows,e1.to h1 h2 ht,e0,fun r hr=>?_⟩;obtain⟨no,w,ls,e3,e4,e5⟩:=e2 r hr;exact⟨no,w,ls,e3,e4.to h1 h2 ht,e5⟩
theorem PgS.out{lo hi lo' hi' T T' u}(h:PgS lo hi T u)(ho:Out lo' hi' T T')(hd:hi<=lo'\/hi'<=lo)(hl:hi<=T.length):PgS lo hi T' u :=
 h.to (lab _) (lab _) fun j h1 h2 b hb=>by rw[ho.2 j (by omega) (by omega)]; exact hb
theorem PgS.app{lo hi T u}(h:PgS lo hi T u)(U:LB):PgS lo hi (T++U) u:=h.to (lab _) (lab _) fun _ _ _ _ hb=>AaV hb U
theorem Out.at{lo hi T T' j b}(ho:Out lo hi T T')(h:T[j]? = some b)(hd:j<lo\/hi<=j):T'[j]? = some b:=by
 rw[ho.2 j (AcG h) hd]; exact h
theorem PgS.unf{lo hi T o m}(h:PgS lo hi T (.sl o 0 m m)):∃ rows:LY,rows.length=m/\m<=100000/\lo<=o/\o<hi/\T[o]? = some (.arr 2 rows)/\∀ r∈rows,∃ (no:Int)(w:AV)(ls:List Ln),r=.agg [.int .i64 no,w]/\OwnL lo hi T 1 w (ls.map .str)/\ls.length<=1000000:=by
 obtain⟨rows,e1,e2,e3⟩:=h
 rcases e1 with⟨_,e1|e1⟩|⟨id',e1,e4,e5,e6⟩
 .cases e1
 .cases e1
 .simp only [AV.sl.injEq,true_and]at e1
  obtain⟨rfl,e1,_⟩:=e1;exact⟨rows,e1.symm,by omega,e4,e5,e6,e3⟩
theorem PgS.ln{lo hi T o m}(h:PgS lo hi T (.sl o 0 m m)){j:Nat}{a b:List Ln}(hj:T[j]? = some (.arr 1 (a.map .str)))(hb:b.length=a.length):PgS lo hi (T.set j (.arr 1 (b.map .str))) (.sl o 0 m m):=by
 obtain⟨rows,e1,e2,e4,e5,e6,e3⟩:=h.unf;refine⟨rows,.inr ⟨o,by rw[e1],e4,e5,?_⟩,by omega,fun r hr=>?_⟩
 .refine AbE e6 ?_ _
  rintro rfl;rw[e6]at hj
  simp at hj
 .obtain ⟨no,w,ls,g1,g2,g3⟩:=e3 r hr
  rcases g2 with g2|⟨id,q1,q2,q3,q4⟩
  .exact ⟨no,w,ls,g1,.inl g2,g3⟩
  .by_cases e:j=id
   .subst e
    have hl:a.length=ls.length:=by
     rw[q4]at hj;have:=congrArg (fun b=>match b with|some (Blk.arr _ r)=>r.length|_=>0) hj
     simpa using this.symm
    exact⟨no,w,b,g1,.inr ⟨j,by rw[q1]; simp[hb,hl],q2,q3,AbV (AcG q4) _⟩,by omega⟩
   .exact ⟨no,w,ls,g1,.inr ⟨id,q1,q2,q3,AbE q4 e _⟩,g3⟩
theorem BkH(l:List Ln)(i:Nat)(h:i<l.length):List.getD (l.map AV.str) i .any=.str l[i]:=by simp[List.getD,h]
theorem BiP(l:List Ln)(i:Nat)(s:Ln):(l.map AV.str).set i (.str s)=(l.set i s).map .str:=by rw[List.map_set]
theorem A2R{x:Sr}(h:LayOk x):∀ p∈(layL (allB x.Lb)).Lg,p.length<=54:=fun p hp=>((A6P (fun b hb=>(h.bl b hb).own)).1 p hp).2
theorem AmS{S:Std}(hS:LibR S)(L:List Int):PcH prog S 3 [.fz 1 (L.map (.int .i64))] (· = .bool true):=by
 obtain⟨x,k',hx,hr⟩:=ArA hS.ok L 0 (by omega) (by omega);have hok:=AzM hx;have hly:=AuL hx;have hpf:=AuM hx;have hpl:=A2R hly;have hnu:=AwR hS.ok x hok;have hcu:=BcI hS.ok x hok;have hlo:=AlZ hS.ok x hly (by omega);have htm:=A2N hS.ok x hok;have hsi:=A2P hS.ok x hok [65,78,78] (by decide +kernel) (by decide);have hre:=AxO hS.ok x hok [65,78,78] [69,86,69] (by decide +kernel) (by decide +kernel) (by decide) (by decide) (by decide) (by decide);have hlf:=AxJ hS.ok x hly (by omega);have hlr:=AuN hS x hx;have hsp:=A2O (layL (allB x.Lb)).Lg (by omega) (fun p hp=>by have:=hpl p hp; omega);have hsc:=AwV hS.ok;have hxl:=hok.len;have hsame:=BiL x (by omega) (fun y hy=>by have:=AdL hok y hy; omega);have htl:=timesTo_len x.Lb x.Lb.length;clear hx hok hly;simp only[srA]at hr hnu hcu hlo htm hsi hre hlf hlr hsame;generalize (layL (allB x.Lb)).Lg=ps at *;refine zqIF func3 rfl fun h ρ w hg=>?_
 simp only[go_sem];refine A4H hg (agg:=str L 0) hr rfl rfl (id:=0) rfl rfl rfl ?_;rintro _ _ ⟨rfl,rfl⟩;apply zgF;simp only[go_sem,laa];refine A4H hg (agg:=str L 0) hr rfl rfl (id:=1) rfl rfl rfl ?_;rintro _ _ ⟨rfl,rfl⟩;refine goF rfl 9 ?_;simp only[go_sem];refine AWp.shift (Lo (e':=[(6,.ptr 3 1 0 0),(5,.ptr 2 1 0 0)]) ?_) ?_
 .simp only [go_sem]
 refine AWp.shift (Shift.frz 3 (es:=2) (l:=[.agg [.str x.Lj,.fz 5 (x.Lb.map scA)]]) rfl rfl) ?_;refine AWp.shift (Shift.frz 2 (es:=2) (l:=[.agg [.str x.Lj,.fz 5 (x.Lb.map scA)]]) rfl rfl) ?_;refine AWp.shift (Shift.low 0 (e':=[(6,.pin 2 [.agg [.str x.Lj,.fz 5 (x.Lb.map scA)]] 0 0),(5,.pin 2 [.agg [.str x.Lj,.fz 5 (x.Lb.map scA)]] 0 0)]) (by simp) (by simp) rfl ?_) ?_
 .simp only[frzE,frz,frz1,go_sem]
 simp only[List.take_zero];clear hr;apply zgN;simp only[go_sem];refine zaH hg (hnu _) ?_;rintro _ T1 ⟨u1,ti1,rfl,s1,-⟩;apply zgN;simp only[go_sem,laa,gt_at,gt_at0,st_at,st_at0,gd_end,st_end,lae]
 repeat refine And.intro (by first|(rcases s1 with⟨_,⟨_,rfl|rfl⟩|⟨_,rfl,_⟩,_⟩ <;> rfl)|omega|exact .inl trivial|rfl|(simp; done)|(simp; omega)) ?_
 refine zaH hg (hcu _) ?_;rintro _ T2 ⟨u2,ti2,rfl,s2,x2⟩;apply zgN;simp only[go_sem,gt_at,gt_at0,st_at,st_at0,gd_end,st_end,lae]
 repeat refine And.intro (by first|(rcases s2 with⟨_,⟨_,rfl|rfl⟩|⟨_,rfl,_⟩,_⟩ <;> rfl)|omega|exact .inl trivial|rfl|(simp; done)|(simp; omega)) ?_
 refine zaH hg (hlo _) ?_;rintro _ T3 ⟨o,b,rfl,s3,x3⟩;apply zgN;simp only[go_sem,gt_at,gt_at0,st_at,st_at0,gd_end,st_end,lae];refine zqN hg (htm) ?_;simp only[go_sem,gt_at,gt_at0,st_at,st_at0,gd_end,st_end,lae];refine zaH hg (hsi _) ?_;rintro _ T4 ⟨u4,ti4,e4,rfl,s4,x4⟩;apply zgN;simp only[go_sem,gt_at,gt_at0,st_at,st_at0,gd_end,st_end,lae]
 repeat refine And.intro (by first|(rcases s4 with⟨_,⟨_,rfl|rfl⟩|⟨_,rfl,_⟩,_⟩ <;> rfl)|omega|exact .inl trivial|rfl|(simp; done)|(simp; omega)) ?_
 refine zaH hg (hre _) ?_;rintro _ T5 ⟨u5,ti5,m5,e5,rfl,s5,x5⟩;apply zgN;simp only[go_sem,gt_at,gt_at0,st_at,st_at0,gd_end,st_end,lae]
 repeat refine And.intro (by first|(rcases s5 with⟨_,⟨_,rfl|rfl⟩|⟨_,rfl,_⟩,_⟩ <;> rfl)|omega|exact .inl trivial|rfl|(simp; done)|(simp; omega)) ?_
 refine zpN (hsame) ?_;have l2:=x2.len;have l3:=x3.len;have l4:=x4.len;have l5:=x5.len;simp only[lak,laf,lar,lau]at l2 l3 l5;obtain⟨T,hT⟩:∃ T,T5++[Blk.arr 2 [.agg [.str ti5,u5]]]=T:=⟨_,rfl⟩;have y5:Ext T5 T:=hT▸(Ext.refl T5).app _;have y4:Ext T4 T:=fun k b h=>y5 k b (x5 k b (AaV h _))
 have y3:Ext T3 T:=fun k b h=>y4 k b (x4 k b h)
 have y2:Ext T2 T:=fun k b h=>y3 k b (x3 k b (AaV h _))
 have y1:Ext T1 T:=fun k b h=>y2 k b (x2 k b (AaV h _))
 have q7:T[T1.length]? = some (.arr 2 [.agg [.str ti1,u1]]):=y2 _ _ (x2 _ _ (by simp));have q9:T[T2.length]? = some (.arr 2 [.agg [.str ti2,u2]]):=y3 _ _ (x3 _ _ (by simp));have q15:T[T4.length]? = some (.arr 2 [.agg [.str ti4,u4]]):=y5 _ _ (x5 _ _ (by simp));have q17:T[T5.length]? = some (.arr 2 [.agg [.str ti5,u5]]):=by rw[<- hT]; simp
 have hTl:T.length=T5.length+1:=by rw[<- hT]; simp
 replace s1:=s1.to (lbq _) (lab _) (fun j _ _ b h=>y1 j b h)
 replace s2:=s2.to (lab _) (lab _) (fun j _ _ b h=>y2 j b h)
 replace s3:=(BdP s3 (by omega) (fun p hp=>by have:=hpl p hp; omega)).to (lab _) (lab _) (fun j _ _ b h=>y3 j b h)
 replace s4:=s4.to (lab _) (lab _) (fun j _ _ b h=>y4 j b h)
 replace s5:=s5.to (lab _) (lab _) (fun j _ _ b h=>y5 j b h)
 simp only[lak,laf,lar,lau]at s2 s3 s5;rw[hT];clear hT x2 x3 x4 x5 y1 y2 y3 y4 y5 hnu hcu hlo hsi hre htm;generalize T1.length=n1 at *;generalize T2.length=n2 at *;generalize T3.length=n3 at *;generalize T4.length=n4 at *;generalize T5.length=n5 at *;generalize hm:ps.length=m at *;have k7:=AbC q7;simp only[go_sem,k7,htl,laa];refine za (AjW T ti1 u1 0 n1 (by omega) s1) ?_;rintro _ T' hO
 replace s2:=s2.out hO (.inr (by omega)) (by omega)
 replace s3:=s3.out hO (.inr (by omega)) (by omega)
 replace s4:=s4.out hO (.inr (by omega)) (by omega)
 replace s5:=s5.out hO (.inr (by omega)) (by omega)
 replace q9:=hO.at q9 (.inr (by omega))
 replace q15:=hO.at q15 (.inr (by omega))
 replace q17:=hO.at q17 (.inr (by omega))
 have hTl':n5+1<=T'.length:=by have:=hO.1; omega
 clear hO s1 q7 k7 hTl;clear T;have k9:=AbC q9;apply zgN;simp only[go_sem,k9];refine za (AjW T' ti2 u2 (n1+1) n2 (by omega) s2) ?_;rintro _ T hO
 replace s3:=s3.out hO (.inr (by omega)) (by omega)
 replace s4:=s4.out hO (.inr (by omega)) (by omega)
 replace s5:=s5.out hO (.inr (by omega)) (by omega)
 replace q15:=hO.at q15 (.inr (by omega))
 replace q17:=hO.at q17 (.inr (by omega))
 have hTl:n5+1<=T.length:=by have:=hO.1; omega
 clear hO s2 q9 k9 hTl';clear T';refine go rfl 2 ?_;simp only[go_sem];refine acut (ι:=LB) (fun _=>[(19,.int .i64 e5),(17,.ptr n5 1 0 0),(11,.sl o 0 m m),(6,.pin 2 [.agg [.str x.Lj,.fz 5 (x.Lb.map scA)]] 0 0),(5,.pin 2 [.agg [.str x.Lj,.fz 5 (x.Lb.map scA)]] 0 0)]) (fun T=>T) (fun T=>PgS (n2+1) n3 T (.sl o 0 m m)/\ScsS (n4+1) n5 T u5/\T[n5]? = some (.arr 2 [.agg [.str ti5,u5]])/\n5+1<=T.length) ?_ ?_
 .intro Jc hJc
  have k15:=AbC q15
  cases h4:e4==0 with
  | true =>
   apply zgN;simp only[go_sem,h4,k15];refine za (AjW T ti4 u4 n3 n4 (by omega) s4) ?_;rintro _ T' hO;have h5:=hJc T' ⟨s3.out hO (.inl (by omega)) (by omega),s5.out hO (.inr (by omega)) (by omega),hO.at q17 (.inr (by omega)),by have:=hO.1; omega⟩;apply zgN;simp only[go_sem];refine ainv h5 (Lo ?_);simp only[go_sem]
  | false =>
   have h5:=hJc T ⟨s3,s5,q17,hTl⟩;apply zgN;simp only[go_sem,h4];refine ainv h5 (Lo ?_);simp only[go_sem]
 clear s3 s5 q17 hTl s4 q15;clear T;rintro T ⟨s3,s5,q17,hTl⟩;refine go rfl 1 ?_;simp only[go_sem];refine acut (ι:=LB) (fun _=>[(11,.sl o 0 m m),(6,.pin 2 [.agg [.str x.Lj,.fz 5 (x.Lb.map scA)]] 0 0),(5,.pin 2 [.agg [.str x.Lj,.fz 5 (x.Lb.map scA)]] 0 0)]) (fun T=>T) (fun T=>PgS (n2+1) n3 T (.sl o 0 m m)) ?_ ?_
 .intro Jc hJc
  have k17:=AbC q17
  cases h4:e5==0 with
  | true =>
   apply zgN;simp only[go_sem,h4,k17];refine za (AjW T ti5 u5 (n4+1) n5 (by omega) s5) ?_;rintro _ T' hO;have h5:=hJc T' (s3.out hO (.inl (by omega)) (by omega));apply zgN;simp only[go_sem];refine ainv h5 (Lo ?_);simp only[go_sem]
  | false =>
   have h5:=hJc T s3;apply zgN;simp only[go_sem,h4];refine ainv h5 (Lo ?_);simp only[go_sem]
 clear s3 s5 q17 hTl;clear T;rintro T s3;obtain⟨rows0,r1,r2,r4,r5,r6,r3⟩:=s3.unf;have k0:=AbC r6;apply zgN;simp only[go_sem,k0];refine⟨r1.symm,?_⟩;clear r3 r6 k0 r1 r4 r5;clear rows0;refine AaI (ι:=Nat×LB) (fun y=>m-y.1) (fun y=>[(113,.int .i64 y.1),(112,.int .i64 m),(111,.sl o 0 m m),(6,.pin 2 [.agg [.str x.Lj,.fz 5 (x.Lb.map scA)]] 0 0),(5,.pin 2 [.agg [.str x.Lj,.fz 5 (x.Lb.map scA)]] 0 0)]) (fun y=>y.2) (fun y=>y.1<=m/\PgS (n2+1) n3 y.2 (.sl o 0 m m)) (0,T) ⟨lbq _,s3⟩ ?_ ?_
 .refine Lp ?_ rfl
  simp only[go_sem]
 clear s3;clear T;rintro⟨i,T⟩ ⟨g1,g2⟩ J hJ;simp only at g1 g2 hJ |-
 by_cases gi:i<m
 .have di:decide ((i:Int)<(m:Int))=true:=by simp; omega
  obtain⟨rows,e1,e2,e4',e5',e6,e3⟩:=g2.unf;have gr:i<rows.length:=by omega
  obtain⟨no,w,ls,hr,hw,hw2⟩:=e3 _ (lai gr);have hg':List.getD rows i .any=.agg [.int .i64 no,w]:=by rw[AqO gr,hr]
  have k1:=AbC e6;have k1':=AcB e6;have hfin:∀ T',PgS (n2+1) n3 T' (.sl o 0 m m)->_:=fun T' a1=>hJ (i+1,T') ⟨by simp only; omega,a1⟩ (by simp only; omega)
  clear hJ;have a1:=g2.app [.arr 2 [.agg [.int .i64 no,w]]];have a4:(T++[Blk.arr 2 [.agg [.int .i64 no,w]]])[T.length]? = some (.arr 2 [.agg [.int .i64 no,w]]):=by simp
  rcases hw with⟨hw3,rfl|rfl⟩|⟨j,rfl,b1,b2,b3⟩
  .apply zgN
   simp only[go_sem,di,hg',k1,k1',e1,gt_at,gt_at0,st_at,st_at0,gd_end,st_end,lae]
   repeat refine And.intro (by first|omega|exact .inl trivial|exact .inl (.inl trivial)|rfl|(simp; done)|(simp; omega)) ?_
   refine AbD (around ?_);apply zgN;simp only[go_sem]
   repeat refine And.intro (by first|omega|exact .inl trivial|exact .inl (.inl trivial)|rfl|(simp; done)|(simp; omega)) ?_
   rw[ic i];refine ainv (hfin _ a1) (Lp ?_ rfl);simp only[go_sem]
  .apply zgN
   simp only[go_sem,di,hg',k1,k1',e1,gt_at,gt_at0,st_at,st_at0,gd_end,st_end,lae]
   repeat refine And.intro (by first|omega|exact .inl trivial|exact .inl (.inl trivial)|rfl|(simp; done)|(simp; omega)) ?_
   refine AbD (around ?_);apply zgN;simp only[go_sem]
   repeat refine And.intro (by first|omega|exact .inl trivial|exact .inl (.inl trivial)|rfl|(simp; done)|(simp; omega)) ?_
   rw[ic i];refine ainv (hfin _ a1) (Lp ?_ rfl);simp only[go_sem]
  .have k2:=AcB b3
   have hjT:=AcG b3;have a6:=AaV b3 [.arr 2 [.agg [.int .i64 no,.sl j 0 (ls.map AV.str).length (ls.map AV.str).length]]];simp only[laa]at a1 a4 hg' a6 |-;obtain⟨c0,hc0⟩:∃ c0,c0=ls.length:=⟨_,rfl⟩;have hc0':=hc0.symm;apply zgN;simp only[go_sem,di,hg',k1,k1',k2,e1,hc0',laa,gt_at,gt_at0,st_at,st_at0,gd_end,st_end,lae]
   repeat refine And.intro (by first|omega|exact .inl trivial|exact .inl (.inl trivial)|rfl|(simp; done)|(simp; omega)) ?_
   rw[<- hc0]at a1 a4 hw2;generalize hp:T.length=p at *;rw[<- hc0]at a6;generalize T++[Blk.arr 2 [.agg [.int .i64 no,.sl j 0 c0 c0]]]=T1 at *;refine AaI (ι:=Nat×LB×List Ln) (fun y=>c0-y.1)
    (fun y=>[(120,.int .i64 y.1),(119,.int .i64 c0),(21,.ptr p 1 0 0),(113,.int .i64 i),(112,.int .i64 m),(111,.sl o 0 m m),(6,.pin 2 [.agg [.str x.Lj,.fz 5 (x.Lb.map scA)]] 0 0),(5,.pin 2 [.agg [.str x.Lj,.fz 5 (x.Lb.map scA)]] 0 0)])
    (fun y=>y.2.1) (fun y=>y.1<=c0/\PgS (n2+1) n3 y.2.1 (.sl o 0 m m)/\y.2.1[p]? = some (.arr 2 [.agg [.int .i64 no,.sl j 0 c0 c0]])/\y.2.1[j]? = some (.arr 1 (y.2.2.map .str))/\y.2.2.length=c0)
    (0,T1,ls) ⟨lbq _,a1,a4,a6,hc0'⟩ ?_ ?_
   .refine Lp ?_ rfl
    simp only[go_sem]
   rintro⟨c,T',qs⟩ ⟨f1,f2,f5,f6,f7⟩ J2 hJ2;simp only at f1 f2 f5 f6 f7 hJ2 |-
   by_cases gc:c<c0
   .have dc:decide ((c:Int)<(c0:Int))=true:=by simp; omega
    have k5:=AbC f5;have k6:=AbC f6;have hst:=BiP qs c [115,112,111,105,108,116];have hgc:=BkH qs c (by omega);have hjp:j≠p:=by omega
    have hfin2:=hJ2 (c+1,T'.set j (.arr 1 ((qs.set c [115,112,111,105,108,116]).map .str)),qs.set c [115,112,111,105,108,116]) ⟨by simp only; omega,f2.ln f6 (by simp),AbE f5 hjp _,AbV (AcG f6) _,by simpa using f7⟩ (by simp only; omega);clear hJ2;apply zgN;simp only[go_sem,dc,k5,k6,f7,hst,hgc,laa]
    repeat refine And.intro (by first|omega|exact .inl trivial|exact .inl (.inl trivial)|rfl|(simp; done)|(simp; omega)) ?_
    rw[ic c];refine ainv hfin2 (Lp ?_ rfl);simp only[go_sem]
   .have dc:decide ((c:Int)<(c0:Int))=false:=by simp; omega
    clear hJ2;have hfin3:=hfin _ f2;apply zgN;simp only[go_sem,dc]
    repeat refine And.intro (by first|omega|exact .inl trivial|exact .inl (.inl trivial)|rfl|(simp; done)|(simp; omega)) ?_
    rw[ic i];refine ainv hfin3 (Lp ?_ rfl);simp only[go_sem]
 .have di:decide ((i:Int)<(m:Int))=false:=by simp; omega
  clear hJ;apply zgN;simp only[go_sem,di];refine zqN hg (hlf) ?_;simp only[go_sem];refine zeH hg (hlr) ?_;rintro _ ⟨q,rfl⟩;apply zgN;simp only[go_sem];refine zqN hg (hsc) ?_;simp only[go_sem];refine zpN (hsame) ?_;simp only[go_sem];refine zpN (hsp) ?_;simp only[go_sem];exact zt [2]
