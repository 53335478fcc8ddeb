/- Draws: a script that comes after any draft. -/
import Derived.Test.YtgenkcmfeeakoaaGreatDoorX37
set_option maxRecDepth 100000
set_option maxHeartbeats 4000000
set_option linter.all false
namespace Go.Proofs.YtgenkcmfeeakoaaGreatDoor
open Av RowKit Proofs.Tryz
theorem ByI:((List.range 256).all fun n=>DIG.contains (UInt8.ofNat n)==digB (UInt8.ofNat n))=true:=by decide +kernel
theorem ByJ(c:UInt8):DIG.contains c=digB c:=by
 have h:=List.all_eq_true.1 ByI c.toNat (List.mem_range.2 c.toNat_lt)
 simp_all
theorem BjN(s:LU):Lib.trimLeftS s DIG=caps s:=by
 unfold Lib.trimLeftS caps
 congr 1
 grind[ByJ]
theorem AbM(s:LU)(hs:s.length<1000000):Pc prog 58 [.str s] (· = .tup [.str (digs s),.str (caps s)]):=by
 have h0:=BjN s;have hl:(digs s).length+(caps s).length=s.length:=by rw[<- lah,<- AbF]
 have htk:List.take (digs s).length s=digs s:=by
  have h:=List.takeWhile_append_dropWhile (p:=digB) (l:=s)
  conv=>lhs; arg 2; rw[<- h]
  exact List.take_left
 have e1:((s.length:Int)-((caps s).length:Int)).toNat=(digs s).length:=by omega
 refine zpIN func58 rfl fun h ρ w=>?_
 simp only[go_sem];refine zpN (AoE s DIG (by decide) (AbI (by decide))) ?_;rw[h0];simp only[go_sem,e1,htk];refine⟨by omega,by omega,by omega,by omega,?_⟩;refine aret [2,3] rfl ⟨?_,rfl⟩
 simp[resV,Av.get]
theorem A0F(a b:LU)(ha:numberL a=true)(hb:numberL b=true):Pc prog 38 [.str a,.str b] (· = .int .i64 (orI (cmpI (pN a) (pN b)) (Lib.compareBytes (caps a) (caps b)))):=by
 have h1:=AaN ha;have h2:=AaN hb;refine zpIF func38 rfl fun h ρ w=>?_
 simp only[go_sem];refine zpF (AbM a (by omega)) ?_;simp only[go_sem];refine zpF (AbM b (by omega)) ?_;simp only[go_sem];refine zpF (AoM (digs a) (pN a) h1.1.2 (AfJ h1.1)) ?_;simp only[go_sem];refine zpF (AoM (digs b) (pN b) h2.1.2 (AfJ h2.1)) ?_;simp only[go_sem];refine zpF (ArR (pN a) (pN b)) ?_;simp only[go_sem];refine zpF (AiO (caps a) (caps b)) ?_;simp only[go_sem];refine zpF (B0E (cmpI (pN a) (pN b)) (Lib.compareBytes (caps a) (caps b))) ?_;simp only[go_sem];exact zt [4]
structure RevG(xs:List Sc)(out:List Sc):Prop where
 sc:∀ x∈out,SceneD x
 nod:(hasNo out).Nodup
 len:out.length<=2*xs.length+3
 first:∀ y,out.head? = some y->y.time≠5
theorem RevG.script{xs out:List Sc}(h:RevG xs out)(hl:xs.length<=30){ti:LU}(ht:1<=ti.length/\ti.length<=60)(hp:plainL ti=true):ScriptOk ⟨ti,out⟩:=by
 have h1:=h.len;have h2:=A6U out fun y hy=>(h.sc y hy).len
 exact⟨ht,hp,by grind,by grind,BiU out [] true h.sc h.nod (by simp) fun _=>h.first⟩
theorem BrC{xs out:List Sc}(hs:∀ x∈out,SceneD x)(hb:(hasNo out).Nodup)(hl:out.length<=2*xs.length+3):(∀ y r,out=y::r->y.time=5->RevG xs ({ y with time:=1 }::r))/\((∀ y,out.head? = some y->y.time≠5)->RevG xs out):=by
 refine⟨fun y r e h5=>?_,fun h=>⟨hs,hb,hl,h⟩⟩;subst e;refine⟨fun z hz=>?_,?_,by omega,fun z hz=>by grind⟩
 .rcases List.mem_cons.1 hz with rfl|hz
  .have hy:=hs y (by simp)
   exact⟨hy.no,hy.place,hy.set,by simp,hy.run,hy.len,hy.all,hy.wt⟩
  grind
 grind[hasNo,nosL]
theorem BjO{l:List Sc}{k:Nat}{x:Sc}(h:(hasNo l).Nodup)(hx:x.no ∉ hasNo l):(hasNo (insSc l k x)).Nodup:=by
 have hl:hasNo l=hasNo (l.take k)++hasNo (l.drop k):=by
  grind[hasNo,nosL,lbs]
 have he:hasNo (insSc l k x)=hasNo (l.take k)++(hasNo [x]++hasNo (l.drop k)):=by
  grind[insSc,hasNo,nosL]
 grind[hasNo,nosL]
theorem A4I(L:List Int)(k:Int)(h3:0<=k)(no:Int)(ti:LU)(xs:List Sc)(h4:k+10010*xs.length<=650000)(go:List LU)(lv:LA)(hx:∀ x∈xs,SceneD x)(hl:xs.length<=30)(hnd:(nosL xs).Nodup)(hgo:∀ n∈go,numberL n=true/\n ∉ nosL xs)(hgl:go.length<=1000) :
  Mc prog 8 2 (str L k) [.agg [.int .i64 no,.str ti,.fz 5 (xs.map scA),.fz 1 (go.map .str),.fz 4 lv]] (fun r s=>∃ (out:List Sc) (k':Int),r=srA ⟨ti,out⟩/\RevG xs out/\s=str L k'/\k<=k'/\k'<=k+10010*xs.length+16010):=by
 refine zcIF func8 rfl fun h ρ w=>?_
 simp only[go_sem,laa];refine AaE (ι:=Nat×Int×List Sc) (fun x=>xs.length-x.1)
  (fun x=>[(20,.int .i64 x.1),(19,.int .i64 xs.length),(18,.fz 5 (xs.map scA)),(5,.ptr 3 1 0 0),(4,.ptr 2 1 0 0),(3,.ptr 1 1 0 0),(0,.ptr 0 1 0 0)])
  (fun x=>[.arr 2 [str L x.2.1],.arr 5 [.agg [.int .i64 no,.str ti,.fz 5 (xs.map scA),.fz 1 (go.map .str),.fz 4 lv]],.arr 2 [.agg [.str [],.raw (.slice none 0 0)]],.arr 2 [.agg [.str ti,.sl 4 0 x.2.2.length x.2.2.length]],.arr 5 (x.2.2.map scA)])
  (fun x=>x.1<=xs.length/\RevI xs x.1 x.2.2/\k<=x.2.1/\x.2.1<=k+10010*x.1) (0,k,[]) ⟨by simp,⟨by simp,by simp[hasNo,nosL],by simp⟩,by simp,by simp⟩ ?_ ?_
 .refine Shift.trans (Shift.cells 3 5 [.agg [.str ti,.sl 4 0 0 0]] rfl rfl (by simp[cellsOf]) ⟨.refl,.sl,trivial⟩) (Lr ?_)
  simp only[go_sem]
 .rintro ⟨i,k',out⟩ ⟨g1,g2,g3,g4⟩ J hJ
  simp only at g1 g2 g3 g4 hJ |-
  by_cases gi:i<xs.length
  .have di:decide ((i:Int)<(xs.length:Int))=true:=by simp; omega
   have hg':List.getD (List.map scA xs) i .any=.agg [.str xs[i].no,.int .i64 xs[i].place,.str xs[i].set,.int .i64 xs[i].time,.fz 2 (xs[i].Ld.map paA)]:=by simp[List.getD,gi,scA]
   have hxi:=hx _ (lac gi);apply zgF;simp only[go_sem,di,hg',laa]
   repeat refine aqg ?_
   refine zm 0 (AhA L k' 5 (by omega) (by omega) (by omega) (by omega)) ?_;rintro _ _ ⟨⟨b,rfl⟩,rfl⟩;refine amid (κ:=Int×List Sc)
    (fun x=>[(20,.int .i64 i),(19,.int .i64 xs.length),(18,.fz 5 (xs.map scA)),(7,.ptr 5 1 0 0),(5,.ptr 3 1 0 0),(4,.ptr 2 1 0 0),(3,.ptr 1 1 0 0),(0,.ptr 0 1 0 0)])
    (fun x=>[.arr 2 [str L x.1],.arr 5 [.agg [.int .i64 no,.str ti,.fz 5 (xs.map scA),.fz 1 (go.map .str),.fz 4 lv]],.arr 2 [.agg [.str [],.raw (.slice none 0 0)]],.arr 2 [.agg [.str ti,.sl 4 0 x.2.length x.2.length]],.arr 5 (x.2.map scA),.arr 5 [.agg [.str xs[i].no,.int .i64 xs[i].place,.str xs[i].set,.int .i64 xs[i].time,.fz 2 (xs[i].Ld.map paA)]]])
    (fun x=>k'<=x.1/\x.1<=k'+5001/\(∀ y∈x.2,SceneD y)/\(hasNo x.2).Sublist (nosL (xs.take i))/\x.2.length<=2*i+1) ?_ ?_
   .rintro ⟨k2,out2⟩ ⟨f1,f2,f3,f4,f5⟩
    simp only at f1 f2 f3 f4 f5 |-;have hlen:(List.map scA out2).length=out2.length:=by simp
    have e3:∀ y:Sc,out2.length+1=(out2++[y]).length:=fun y=>by simp
    have fin:∀ (k5:Int) (y:Sc),k2<=k5->k5<=k2+5002->SceneD y->y.no=xs[i].no->_:=fun k5 y h1 h2 h5 h6=>hJ (i+1,k5,out2++[y]) ⟨by simp only; omega,⟨fun z hz=>by
      rcases List.mem_append.1 hz with hz|hz
      .exact f3 z hz
      .rw [List.mem_singleton.1 hz]; exact h5,BxX gi f4 h6,by simp; omega⟩,by simp only; omega,by simp only; omega⟩ (by simp only; omega)
    apply zgF;simp only[go_sem];refine zm 0 (AhA L k2 6 (by omega) (by omega) (by omega) (by omega)) ?_;rintro _ _ ⟨⟨b2,rfl⟩,rfl⟩
    cases b2 with
    | true =>
     have fin2:=hJ (i+1,k2+1,out2) ⟨by simp only; omega,⟨f3,BqT gi f4,by simp only; omega⟩,by simp only; omega,by simp only; omega⟩ (by simp only; omega);apply zgF;simp only[go_sem]
     repeat refine aqg ?_
     rw[ic i];refine ainv fin2 (Shift.low 5 (by simp) (by simp) ?_ ?_)
     .simp only[go_sem,↓AqG,lowB,flat,str]
     .simp only [go_sem]
    | false =>
     apply zgF;simp only[go_sem];refine zm 0 (AhA L (k2+1) 3 (by omega) (by omega) (by omega) (by omega)) ?_;rintro _ _ ⟨⟨b3,rfl⟩,rfl⟩
     cases b3 with
     | true =>
      apply zgF;simp only[go_sem];refine zm 0 (AjR L (k2+1+1) (by omega) (by omega)) ?_;rintro _ _ ⟨y,k3,rfl,hy,rfl,t1,t2⟩;have hfin:=fin k3 { y with no:=xs[i].no } (by omega) (by omega) (hy.d.renum hxi.no) rfl;have happ:=A4G out2 { y with no:=xs[i].no };simp only at happ;simp only[scA];apply zgF;simp only[go_sem,hlen]
      repeat refine aqg ?_
      rw[happ,e3 { y with no:=xs[i].no },show(i:Int)+1=((i+1:Nat):Int) by omega];refine ainv hfin (Shift.low 5 (by simp) (by simp) ?_ ?_)
      .simp only[go_sem,↓AqG,lowB,flat,str]
      .simp only [go_sem]
     | false =>
      have hfin:=fin (k2+1+1) xs[i] (by omega) (by omega) hxi rfl;have happ:=A4G out2 xs[i];apply zgF;simp only[go_sem,hlen]
      repeat refine aqg ?_
      rw[happ,e3 xs[i],show(i:Int)+1=((i+1:Nat):Int) by omega];refine ainv hfin (Shift.low 5 (by simp) (by simp) ?_ ?_)
      .simp only[go_sem,↓AqG,lowB,flat,str]
      .simp only [go_sem]
   .intro Q hQ
    have hlen:(List.map scA out).length=out.length:=by simp
    cases b with
    | true =>
     apply zgF;simp only[go_sem];refine zm 0 (AjR L (k'+1) (by omega) (by omega)) ?_;rintro _ _ ⟨y,k3,rfl,hy,rfl,t1,t2⟩;have happ:=A4G out y;have hnew:=BxW g2 hy;have hgl:=g2.len;simp only[scA];apply zgF;simp only[go_sem,hlen]
     repeat refine aqg ?_
     rw[happ,show out.length+1=(out++[y]).length by simp];refine ainv (hQ (k3,out++[y]) ⟨by simp only; omega,by simp only; omega,hnew.1,hnew.2,by simp; omega⟩) (Shift.low 6 (by simp) (by simp) ?_ ?_)
     .simp only[go_sem,↓AqG,lowB,flat,str]
     .simp only [go_sem]
    | false =>
     have hgl:=g2.len;apply zgF;simp only[go_sem];refine ainv (hQ (k'+1,out) ⟨by simp only; omega,by simp only; omega,g2.sc,g2.sub,by simp only; omega⟩) (Lr ?_);simp only[go_sem]
  .have di:decide ((i:Int)<(xs.length:Int))=false:=by simp; omega
   have hi:i=xs.length:=by omega
   subst hi;have gs:=g2.sub;rw[laz]at gs;have gl:=g2.len;have gc:=g2.sc;clear g2;apply zgF;simp only[go_sem,di];refine zm 0 (AhA L k' 4 (by omega) (by omega) (by omega) (by omega)) ?_;rintro _ _ ⟨⟨b,rfl⟩,rfl⟩;refine amid (κ:=Int×List Sc)
    (fun x=>[(5,.ptr 3 1 0 0),(4,.ptr 2 1 0 0),(3,.ptr 1 1 0 0),(0,.ptr 0 1 0 0)])
    (fun x=>[.arr 2 [str L x.1],.arr 5 [.agg [.int .i64 no,.str ti,.fz 5 (xs.map scA),.fz 1 (go.map .str),.fz 4 lv]],.arr 2 [.agg [.str [],.raw (.slice none 0 0)]],.arr 2 [.agg [.str ti,.sl 4 0 x.2.length x.2.length]],.arr 5 (x.2.map scA)])
    (fun x=>k'<=x.1/\x.1<=k'+10001/\(∀ y∈x.2,SceneD y)/\(hasNo x.2).Sublist (nosL xs)/\x.2.length<=2*xs.length+2) ?_ ?_
   .rintro ⟨k1,o⟩ ⟨f1,f2,f3,f4,f5⟩
    simp only at f1 f2 f3 f4 f5 |-;have f6:(hasNo o).Nodup:=f4.nodup hnd;refine goF rfl 2 ?_;simp only[go_sem];refine B1L (κ:=Int×List Sc)
     (fun x=>[(5,.ptr 3 1 0 0),(4,.ptr 2 1 0 0),(3,.ptr 1 1 0 0),(0,.ptr 0 1 0 0)])
     (fun x=>[.arr 2 [str L x.1],.arr 5 [.agg [.int .i64 no,.str ti,.fz 5 (xs.map scA),.fz 1 (go.map .str),.fz 4 lv]],.arr 2 [.agg [.str [],.raw (.slice none 0 0)]],.arr 2 [.agg [.str ti,.sl 4 0 x.2.length x.2.length]],.arr 5 (x.2.map scA)])
     (fun x=>k1<=x.1/\x.1<=k1+6000/\(∀ y∈x.2,SceneD y)/\(hasNo x.2).Nodup/\x.2.length<=2*xs.length+3) ?_ ?_
    .rintro ⟨k2,o⟩ ⟨f1,f2,f3,f4,f5⟩
     simp only at f1 f2 f3 f4 f5 |-;obtain⟨r1,r2⟩:=BrC f3 f4 f5
     cases o with
     | nil =>
      have hok:=r2 (by simp);have d0:decide ((0:Int)>0)=false:=by decide
      refine AWp.shift (Shift.frz 4 rfl (AaF [])) ?_;simp only[go_sem,↓AdO,↓AgA,frzE,frz,frz1,frzC,frzB,laa,lad,List.take_nil];apply zgF;simp only[go_sem,d0];exact AcA [.cell 4 28] rfl [_] ⟨by simp only[go_sem,sideIs],trivial⟩ ⟨_,_,rfl,⟨[],k2,rfl,hok,rfl,by omega,by omega⟩,rfl,rfl⟩
     | cons y r =>
      have dy:decide (((r.length+1:Nat):Int)>0)=true:=by rw[lag]; omega
      have hg0:List.getD (scA y::List.map scA r) 0 .any=.agg [.str y.no,.int .i64 y.place,.str y.set,.int .i64 y.time,.fz 2 (y.Ld.map paA)]:=rfl;have hlr:(List.map scA r).length=r.length:=by simp
      by_cases h5:y.time=5
      .have d5:(y.time==5)=true:=by simpa using h5
       have hok:=r1 y r rfl h5;simp only[lal,lam];apply zgF;simp only[go_sem,dy,hg0,d5,hlr]
       repeat refine aqg ?_
       refine ARet.shift (Shift.frz 4 rfl (AaF ({ y with time:=1 }::r))) ?_;have htk:List.take (r.length+1) (List.map scA ({ y with time:=1 }::r))=List.map scA ({ y with time:=1 }::r):=laj (by simp);simp only[lal]at htk;simp only[scA]at htk;simp only[go_sem,scA,↓AdO,↓AgA,frzE,frz,frz1,frzC,frzB,laa,lad,htk];exact AcA [.cell 4 28] rfl [_] ⟨by simp only[go_sem,sideIs,scA],trivial⟩ ⟨_,_,rfl,⟨{ y with time:=1 }::r,k2,rfl,hok,rfl,by omega,by omega⟩,rfl,rfl⟩
      .have d5:(y.time==5)=false:=by simpa using h5
       have hok:=r2 (fun u hu=>by simp at hu; subst hu; exact h5);simp only[lal,lam];apply zgF;simp only[go_sem,dy,hg0,d5,hlr]
       repeat refine aqg ?_
       refine ARet.shift (Shift.frz 4 rfl (AaF (y::r))) ?_;have htk:List.take (r.length+1) (List.map scA (y::r))=List.map scA (y::r):=laj (by simp);simp only[lal]at htk;simp only[scA]at htk;simp only[go_sem,scA,↓AdO,↓AgA,frzE,frz,frz1,frzC,frzB,laa,lad,htk];exact AcA [.cell 4 28] rfl [_] ⟨by simp only[go_sem,sideIs,scA],trivial⟩ ⟨_,_,rfl,⟨y::r,k2,rfl,hok,rfl,by omega,by omega⟩,rfl,rfl⟩
    .intro Q hQ
     by_cases hg0:go=[]
     .have dg:decide (((go.map AV.str).length:Int)>0)=false:=by rw[hg0]; rfl
      apply zgF;simp only[go_sem,dg];refine ainv (hQ (k1,o) ⟨by simp only; omega,by simp only; omega,f3,f6,by simp only; omega⟩) (Lr ?_);simp only[go_sem]
     have hgp:0<go.length:=by
      cases go with
      | nil=>exact absurd rfl hg0
      | cons y r=>simp
     have dg:decide ((go.length:Int)>0)=true:=by rw[lag]; omega
     apply zgF;simp only[go_sem,dg,laa];refine zm 0 (AhA L k1 2 (by omega) (by omega) (by omega) (by omega)) ?_;rintro _ _ ⟨⟨b,rfl⟩,rfl⟩
     cases b with
     | false =>
      apply zgF;simp only[go_sem];refine ainv (hQ (k1+1,o) ⟨by simp only; omega,by simp only; omega,f3,f6,by simp only; omega⟩) (Lr ?_);simp only[go_sem]
     | true =>
      apply zgF;simp only[go_sem];refine zm 0 (AjR L (k1+1) (by omega) (by omega)) ?_;rintro _ _ ⟨y,k2,rfl,hy,rfl,t1,t2⟩;simp only[scA];apply zgF;simp only[go_sem];refine AeB [6] 0 [] AaI (by decide) rfl rfl 100 ?_;simp only[go_sem,Array.toList_append,Array.empty_append,laa];refine AuQ (AiX L k2 go.length (by omega) (by omega) (by omega) (by omega)) rfl rfl rfl ⟨_,_,⟨0,rfl,by omega,by omega⟩,rfl⟩ ?_;rintro _ _ ⟨⟨v,rfl,v1,v2⟩,rfl⟩;obtain⟨jv,rfl⟩:∃ jv:Nat,v=(jv:Int):=⟨v.toNat,by omega⟩;have hjv:jv<go.length:=by omega
      have hgd:List.getD (go.map AV.str) jv .any=.str go[jv]:=by simp[List.getD,hjv]
      have hgn:=hgo _ (lac hjv);generalize go[jv]=gn at *;simp only[go_sem,hgd,laa]
      repeat refine aqg ?_
      apply zgF;simp only[go_sem];refine AoB (ι:=Nat) (κ:=Nat) (fun j=>o.length+1-j) (fun j=>[(11,.int .i64 j),(10,.ptr 5 1 0 0),(5,.ptr 3 1 0 0),(4,.ptr 2 1 0 0),(3,.ptr 1 1 0 0),(0,.ptr 0 1 0 0)]) (fun _=>[.arr 2 [str L (k2+1)],.arr 5 [.agg [.int .i64 no,.str ti,.fz 5 (xs.map scA),.fz 1 (go.map .str),.fz 4 lv]],.arr 2 [.agg [.str [],.raw (.slice none 0 0)]],.arr 2 [.agg [.str ti,.sl 4 0 o.length o.length]],.arr 5 (o.map scA),.arr 5 [.agg [.str gn,.int .i64 y.place,.str y.set,.int .i64 y.time,.fz 2 (y.Ld.map paA)]]]) (fun j=>j<=o.length)
       (fun j=>[(11,.int .i64 j),(10,.ptr 5 1 0 0),(5,.ptr 3 1 0 0),(4,.ptr 2 1 0 0),(3,.ptr 1 1 0 0),(0,.ptr 0 1 0 0)]) (fun _=>[.arr 2 [str L (k2+1)],.arr 5 [.agg [.int .i64 no,.str ti,.fz 5 (xs.map scA),.fz 1 (go.map .str),.fz 4 lv]],.arr 2 [.agg [.str [],.raw (.slice none 0 0)]],.arr 2 [.agg [.str ti,.sl 4 0 o.length o.length]],.arr 5 (o.map scA),.arr 5 [.agg [.str gn,.int .i64 y.place,.str y.set,.int .i64 y.time,.fz 2 (y.Ld.map paA)]]]) (fun j=>j<=o.length) 0 (Nat.zero_le _) ?_ ?_ ?_
      .refine Lt ?_ rfl
       simp only[go_sem]
      .intro j hj
       obtain⟨x',hx'⟩:∃ x':Sc,x'={ y with no:=gn }:=⟨_,rfl⟩;have hxA:scA x'=.agg [.str gn,.int .i64 y.place,.str y.set,.int .i64 y.time,.fz 2 (y.Ld.map paA)]:=by rw[hx']; rfl
       have hxd:SceneD x':=by rw[hx']; exact hy.d.renum (.inr hgn.1)
       have hxn:x'.no ∉ hasNo o:=by
        rw[hx'];exact fun hm=>hgn.2 (f4.subset hm)
       have hcs:cut (isRow (prog.underlying 68)) (tsize prog 68) 1 [.str gn,.int .i64 y.place,.str y.set,.int .i64 y.time,.fz 2 (y.Ld.map paA)]=[scA x']:=by
        rw[hxA];simp only[go_sem]
       refine goF rfl 9 ?_;simp only[go_sem];refine BjM (el:=68) (cs:=[.str gn,.int .i64 y.place,.str y.set,.int .i64 y.time,.fz 2 (y.Ld.map paA)]) rfl rfl rfl rfl underlying26 (by simp only[go_sem]) (by simp only[go_sem]) rfl fun g X hX hxx=>?_
       have hxi:∀ h ρ w,X h ρ w->XI g x' h ρ w:=fun h ρ w q=>by
        have:=hxx h ρ w q;rw[hcs,ts68]at this;exact⟨this.1.2,this.2⟩
       apply zgF;simp only[go_sem];refine B1I hxi (BbN _ _ _ _ _ o x' g j (by omega) hj) rfl rfl ?_;have hln:(insSc o j x').length=o.length+1:=by simp[insSc]; omega
       have hmem:∀ z∈insSc o j x',SceneD z:=fun z hz=>by
        unfold insSc at hz
        rcases List.mem_append.1 hz with hz|hz
        .exact f3 z (lau hz)
        .rcases List.mem_cons.1 hz with rfl|hz
         .exact hxd
         .exact f3 z (lba hz)
       have hQi:=hQ (k2+1,insSc o j x') ⟨by simp only; omega,by simp only; omega,hmem,BjO f6 hxn,by simp only; omega⟩;simp only[hln]at hQi;rintro _ _ (⟨rfl,rfl⟩|⟨rfl,rfl⟩)
       .apply zgF
        simp only[go_sem];refine AWp.back (fun h ρ w q=>(hxx h ρ w q).1.1) ?_;refine ainv hQi (Shift.low 5 (by simp) (by simp) ?_ ?_)
        .simp only[go_sem,↓AqG,lowB,flat,str]
        .simp only [go_sem]
       .apply zgF
        simp only[go_sem];refine AWp.back (fun h ρ w q=>(hxx h ρ w q).1.1) ?_;refine AWp.shift (Shift.ren [0,1,2,3,6] rfl) ?_;simp only[go_sem,↓BxM,renE,renV,ren1,renS,renB,renC,str,idx];refine ainv hQi (Lt ?_ rfl);simp only[go_sem]
      .intro j hj J Qx hJ hX
       by_cases gj:j<o.length
       .have dj:decide ((j:Int)<(o.length:Int))=true:=by rw[lag]; omega
        have hsj:=f3 _ (lac gj);have hgj:List.getD (o.map scA) j .any=.agg [.str o[j].no,.int .i64 o[j].place,.str o[j].set,.int .i64 o[j].time,.fz 2 (o[j].Ld.map paA)]:=by simp[List.getD,gj,scA]
        have hlen:(List.map scA o).length=o.length:=by simp
        have hnext:=hJ (j+1) (by omega) (by omega);have hexit:=hX j hj
        by_cases h0:o[j].no=[]
        .have b0:(o[j].no==[])=true:=by simp[h0]
         apply zgF;simp only[go_sem];refine zr [.any] AaI ?_;simp only[go_sem,dj,hgj,b0,hlen]
         repeat refine aqg ?_
         apply zgF;simp only[go_sem]
         repeat refine aqg ?_
         rw[ic j];refine ainv hnext (Lt ?_ rfl);simp only[go_sem]
        .have b0:(o[j].no==[])=false:=by simpa using h0
         have ho:=A0F o[j].no gn (hsj.no.resolve_left h0) hgn.1;generalize orI (cmpI (pN o[j].no) (pN gn)) (Lib.compareBytes (caps o[j].no) (caps gn))=od at *
         cases dd:decide (od<0)with
         | true =>
          apply zgF;simp only[go_sem];refine zr [.int .i64 od] AaI ?_;simp only[go_sem,dj,hgj,b0,hlen,dd]
          repeat refine And.intro (by first|exact ho.at|omega|exact .inl trivial|rfl|(simp; done)|(simp; omega)) ?_
          apply zgF;simp only[go_sem]
          repeat refine aqg ?_
          rw[ic j];refine ainv hnext (Lt ?_ rfl);simp only[go_sem]
         | false =>
          apply zgF;simp only[go_sem];refine zr [.int .i64 od] AaI ?_;simp only[go_sem,dj,hgj,b0,hlen,dd]
          repeat refine And.intro (by first|exact ho.at|omega|exact .inl trivial|rfl|(simp; done)|(simp; omega)) ?_
          apply zgF;simp only[go_sem];refine ainv hexit (Lt ?_ rfl);simp only[go_sem]
       .have dj:decide ((j:Int)<(o.length:Int))=false:=by rw[lai]; omega
        have hexit:=hX j hj;apply zgF;simp only[go_sem];refine zr [.any] AaI ?_;simp only[go_sem,dj,laa]
        repeat refine aqg ?_
        apply zgF;simp only[go_sem];refine ainv hexit (Lt ?_ rfl);simp only[go_sem]
   .intro Q hQ
    have hlen:(List.map scA out).length=out.length:=by simp
    cases b with
    | true =>
     apply zgF;simp only[go_sem];refine AeB [3,5] 0 [] AaI (by decide) rfl rfl 100 ?_;simp only[go_sem];refine AuQ (AjR L (k'+1) (by omega) (by omega)) rfl rfl rfl ⟨_,_,_,k'+1,rfl,drawn_some,rfl,by omega,by omega⟩ ?_;rintro _ _ ⟨y,k3,rfl,hy,rfl,t1,t2⟩;simp only[go_sem];refine AuQ (AjR L k3 (by omega) (by omega)) rfl rfl rfl ⟨_,_,_,k3,rfl,drawn_some,rfl,by omega,by omega⟩ ?_;rintro _ _ ⟨z,k4,rfl,hz,rfl,t3,t4⟩;have happ:List.map scA out++[scA y,scA z]=List.map scA (out++[y,z]):=by simp
     simp only[scA]at happ |-;simp only[go_sem,hlen]
     repeat refine aqg ?_
     apply zgF;simp only[go_sem];rw[happ,show out.length+2=(out++[y,z]).length by simp];refine ainv (hQ (k4,out++[y,z]) ⟨by simp only; omega,by simp only; omega,fun u hu=>?_,?_,by simp; omega⟩) (Lt ?_ (by simp))
     .simp only [lcb,List.mem_cons,List.not_mem_nil,or_false]at hu
      rcases hu with hu|rfl|rfl
      .exact gc u hu
      .exact hy.d
      .exact hz.d
     .have e:hasNo (out++[y,z])=hasNo out:=by simp[hasNo,nosL,hy.no,hz.no]
      simp only[e]; exact gs
     .simp only [go_sem]
    | false =>
     apply zgF;simp only[go_sem];refine ainv (hQ (k'+1,out) ⟨by simp only; omega,by simp only; omega,gc,gs,by simp only; omega⟩) (Lr ?_);simp only[go_sem]
