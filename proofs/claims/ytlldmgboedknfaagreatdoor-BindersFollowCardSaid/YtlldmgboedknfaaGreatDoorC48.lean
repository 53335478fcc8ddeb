/- Draws: a script that comes after any draft. -/
import Derived.Test.YtlldmgboedknfaaGreatDoorC47
set_option maxRecDepth 100000
set_option maxHeartbeats 8000000
set_option linter.unusedSimpArgs false
set_option linter.unusedVariables false
namespace Go.Proofs.YtlldmgboedknfaaGreatDoor
open Go Go.Av Go.RowKit _root_.Go.Proofs.Tryz
theorem BrN:((List.range 256).all fun n=>DIG.contains (UInt8.ofNat n)==digB (UInt8.ofNat n))=true:=by decide +kernel
theorem BrO(c:UInt8):DIG.contains c=digB c:=by
 have h:=List.all_eq_true.1 BrN c.toNat (List.mem_range.2 c.toNat_lt);have e:UInt8.ofNat c.toNat=c:=UInt8.ofNat_toNat;rw[e]at h;exact beq_iff_eq.1 h
theorem BgO(s:List UInt8):Lib.trimLeftS s DIG=caps s:=by
 unfold Lib.trimLeftS caps
 congr 1
 funext c
 exact BrO c
theorem AsR(s:List UInt8)(hs:s.length<1000000):Pc prog 64 [.str s] (· = .tup [.str (digs s),.str (caps s)]):=by
 have h0:=BgO s;have hl:(digs s).length+(caps s).length=s.length:=by rw[<- List.length_append,<- AdG]
 have htk:List.take (digs s).length s=digs s:=by
  have h:=List.takeWhile_append_dropWhile (p:=digB) (l:=s)
  conv=>lhs; arg 2; rw[<- h]
  exact List.take_left
 have e1:((s.length:Int)-((caps s).length:Int)).toNat=(digs s).length:=by omega
 refine zpIN func64 rfl fun h ρ w=>?_
 simp only[go_sem];refine zpN (AoJ s DIG (by decide) (AjF (by decide))) ?_;rw[h0];simp only[go_sem,e1,htk];refine⟨by omega,by omega,by omega,by omega,?_⟩;refine aret [2,3] rfl ⟨?_,rfl⟩
 simp[resV,Av.get]
theorem BgP(a b:List UInt8)(ha:numberL a=true)(hb:numberL b=true):Pc prog 32 [.str a,.str b] (· = .int .i64 (orI (cmpI (pN a) (pN b)) (Lib.compareBytes (caps a) (caps b)))):=by
 have h1:=AaG ha;have h2:=AaG hb;refine zpIF func32 rfl fun h ρ w=>?_
 simp only[go_sem];refine zpF (AsR a (by omega)) ?_;simp only[go_sem];refine zpF (AsR b (by omega)) ?_;simp only[go_sem];refine zpF (AkP (digs a) (pN a) h1.1.2 (AfB h1.1)) ?_;simp only[go_sem];refine zpF (AkP (digs b) (pN b) h2.1.2 (AfB h2.1)) ?_;simp only[go_sem];refine zpF (AkQ (pN a) (pN b)) ?_;simp only[go_sem];refine zpF (AeP (caps a) (caps b)) ?_;simp only[go_sem];refine zpF (BoW (cmpI (pN a) (pN b)) (Lib.compareBytes (caps a) (caps b))) ?_;simp only[go_sem];exact zt [4]
structure RevG(xs:List Sc)(out:List Sc):Prop where
 sc:∀ x∈out,SceneD x
 nod:(hasNo out).Nodup
 len:out.length<=2*xs.length+3
 first:∀ y,out.head? = some y->y.time≠5
theorem RevG.script{xs out:List Sc}(h:RevG xs out)(hl:xs.length<=30){ti:List UInt8}(ht:1<=ti.length/\ti.length<=60)(hp:plainL ti=true):ScriptOk ⟨ti,out⟩:=by
 have h1:=h.len;have h2:=A5C out fun y hy=>(h.sc y hy).len
 exact⟨ht,hp,by simp only; omega,by simp only; omega,BfN out [] true h.sc h.nod (by simp) fun _=>h.first⟩
theorem BlU{xs out:List Sc}(hs:∀ x∈out,SceneD x)(hb:(hasNo out).Nodup)(hl:out.length<=2*xs.length+3):(∀ y r,out=y::r->y.time=5->RevG xs ({ y with time:=1 }::r))/\((∀ y,out.head? = some y->y.time≠5)->RevG xs out):=by
 refine⟨fun y r e h5=>?_,fun h=>⟨hs,hb,hl,h⟩⟩;subst e;refine⟨fun z hz=>?_,?_,by simpa using hl,fun z hz=>by simp at hz; subst hz; simp⟩
 .rcases List.mem_cons.1 hz with rfl|hz
  .have hy:=hs y (by simp)
   exact⟨hy.no,hy.place,hy.set,by simp,hy.run,hy.len,hy.all,hy.wt⟩
  .exact hs z (by simp[hz])
 .simpa [hasNo,nosL]using hb
theorem BgQ{l:List Sc}{k:Nat}{x:Sc}(h:(hasNo l).Nodup)(hx:x.no ∉ hasNo l):(hasNo (AlI l k x)).Nodup:=by
 have hl:hasNo l=hasNo (l.take k)++hasNo (l.drop k):=by
  unfold hasNo nosL;rw[<- List.filter_append,<- List.map_append,List.take_append_drop]
 have he:hasNo (AlI l k x)=hasNo (l.take k)++(hasNo [x]++hasNo (l.drop k)):=by
  unfold AlI hasNo nosL;rw[<- List.filter_append,<- List.filter_append,<- List.map_append,<- List.map_append];rfl
 rw[he];rw[hl]at h hx
 by_cases h0:x.no=[]
 .have:hasNo [x]=[]:=by simp[hasNo,nosL,h0]
  rw[this]; exact h
 .have:hasNo [x]=[x.no]:=by simp[hasNo,nosL,h0]
  rw[this];rw[List.nodup_append]at h |-;obtain⟨n1,n2,n3⟩:=h;rw[List.mem_append,not_or]at hx;refine⟨n1,List.nodup_cons.2 ⟨hx.2,n2⟩,fun a ha b hb=>?_⟩
  rcases List.mem_cons.1 hb with rfl|hb
  .exact fun e=>hx.1 (e▸ha)
  .exact n3 a ha b hb
theorem A3D(L:List Int)(k:Int)(h3:0<=k)(no:Int)(ti:List UInt8)(xs:List Sc)(h4:k+10010*xs.length<=650000)(go:List (List UInt8))(lv:List AV)(hx:∀ x∈xs,SceneD x)(hl:xs.length<=30)(hnd:(nosL xs).Nodup)(hgo:∀ n∈go,numberL n=true/\n ∉ nosL xs)(hgl:go.length<=1000) :
  Mc prog 8 2 (str L k) [.agg [.int .i64 no,.str ti,.fz 5 (xs.map scA),.fz 1 (go.map .str),.fz 4 lv]] (fun r s=>∃ (out:List Sc) (k':Int),r=srA ⟨ti,out⟩/\RevG xs out/\s=str L k'/\k<=k'/\k'<=k+10010*xs.length+16010):=by
 refine zcIF func8 rfl fun h ρ w=>?_
 simp only[go_sem,List.length_map];refine AaI (ι:=Nat×Int×List Sc) (fun x=>xs.length-x.1)
  (fun x=>[(20,.int .i64 x.1),(19,.int .i64 xs.length),(18,.fz 5 (xs.map scA)),(5,.ptr 3 1 0 0),(4,.ptr 2 1 0 0),(3,.ptr 1 1 0 0),(0,.ptr 0 1 0 0)])
  (fun x=>[.arr 2 [str L x.2.1],.arr 5 [.agg [.int .i64 no,.str ti,.fz 5 (xs.map scA),.fz 1 (go.map .str),.fz 4 lv]],.arr 2 [.agg [.str [],.raw (.slice none 0 0)]],.arr 2 [.agg [.str ti,.sl 4 0 x.2.2.length x.2.2.length]],.arr 5 (x.2.2.map scA)])
  (fun x=>x.1<=xs.length/\RevI xs x.1 x.2.2/\k<=x.2.1/\x.2.1<=k+10010*x.1) (0,k,[]) ⟨by simp,⟨by simp,by simp[hasNo,nosL],by simp⟩,by simp,by simp⟩ ?_ ?_
 .refine Shift.trans (Shift.cells 3 5 [.agg [.str ti,.sl 4 0 0 0]] rfl rfl (by simp[cellsOf]) ⟨.refl,.sl,trivial⟩) (Shift.weak ?_)
  simp only[go_sem]
 .rintro ⟨i,k',out⟩ ⟨g1,g2,g3,g4⟩ J hJ
  simp only at g1 g2 g3 g4 hJ |-
  by_cases gi:i<xs.length
  .have di:decide ((i:Int)<(xs.length:Int))=true:=by simp; omega
   have hg':List.getD (List.map scA xs) i .any=.agg [.str xs[i].no,.int .i64 xs[i].place,.str xs[i].set,.int .i64 xs[i].time,.fz 2 (xs[i].paras.map paA)]:=by simp[List.getD,gi,scA]
   have hxi:=hx _ (List.getElem_mem gi);refine zgF ?_;simp only[go_sem,di,hg',List.length_map]
   repeat refine aqa ?_
   refine zm 0 (AeQ L k' 5 (by omega) (by omega) (by omega) (by omega)) ?_;rintro _ _ ⟨⟨b,rfl⟩,rfl⟩;refine amid (κ:=Int×List Sc)
    (fun x=>[(20,.int .i64 i),(19,.int .i64 xs.length),(18,.fz 5 (xs.map scA)),(7,.ptr 5 1 0 0),(5,.ptr 3 1 0 0),(4,.ptr 2 1 0 0),(3,.ptr 1 1 0 0),(0,.ptr 0 1 0 0)])
    (fun x=>[.arr 2 [str L x.1],.arr 5 [.agg [.int .i64 no,.str ti,.fz 5 (xs.map scA),.fz 1 (go.map .str),.fz 4 lv]],.arr 2 [.agg [.str [],.raw (.slice none 0 0)]],.arr 2 [.agg [.str ti,.sl 4 0 x.2.length x.2.length]],.arr 5 (x.2.map scA),.arr 5 [.agg [.str xs[i].no,.int .i64 xs[i].place,.str xs[i].set,.int .i64 xs[i].time,.fz 2 (xs[i].paras.map paA)]]])
    (fun x=>k'<=x.1/\x.1<=k'+5001/\(∀ y∈x.2,SceneD y)/\(hasNo x.2).Sublist (nosL (xs.take i))/\x.2.length<=2*i+1) ?_ ?_
   .rintro ⟨k2,out2⟩ ⟨f1,f2,f3,f4,f5⟩
    simp only at f1 f2 f3 f4 f5 |-;have hlen:(List.map scA out2).length=out2.length:=by simp
    have e3:∀ y:Sc,out2.length+1=(out2++[y]).length:=fun y=>by simp
    have fin:∀ (k5:Int) (y:Sc),k2<=k5->k5<=k2+5002->SceneD y->y.no=xs[i].no->_:=fun k5 y h1 h2 h5 h6=>hJ (i+1,k5,out2++[y]) ⟨by simp only; omega,⟨fun z hz=>by
      rcases List.mem_append.1 hz with hz|hz
      .exact f3 z hz
      .rw [List.mem_singleton.1 hz]; exact h5,BqT gi f4 h6,by simp; omega⟩,by simp only; omega,by simp only; omega⟩ (by simp only; omega)
    refine zgF ?_;simp only[go_sem];refine zm 0 (AeQ L k2 6 (by omega) (by omega) (by omega) (by omega)) ?_;rintro _ _ ⟨⟨b2,rfl⟩,rfl⟩
    cases b2 with
    | true =>
     have fin2:=hJ (i+1,k2+1,out2) ⟨by simp only; omega,⟨f3,A6F gi f4,by simp only; omega⟩,by simp only; omega,by simp only; omega⟩ (by simp only; omega);refine zgF ?_;simp only[go_sem]
     repeat refine aqa ?_
     rw[ic i];refine ainv fin2 (Shift.low 5 (by simp) (by simp) ?_ ?_)
     .simp only[go_sem,↓AqC,lowB,flat,str]
     .simp only [go_sem]
    | false =>
     refine zgF ?_;simp only[go_sem];refine zm 0 (AeQ L (k2+1) 3 (by omega) (by omega) (by omega) (by omega)) ?_;rintro _ _ ⟨⟨b3,rfl⟩,rfl⟩
     cases b3 with
     | true =>
      refine zgF ?_;simp only[go_sem];refine zm 0 (AhH L (k2+1+1) (by omega) (by omega)) ?_;rintro _ _ ⟨y,k3,rfl,hy,rfl,t1,t2⟩;have hfin:=fin k3 { y with no:=xs[i].no } (by omega) (by omega) (hy.d.renum hxi.no) rfl;have happ:=A2X out2 { y with no:=xs[i].no };simp only at happ;simp only[scA];refine zgF ?_;simp only[go_sem,hlen]
      repeat refine aqa ?_
      rw[happ,e3 { y with no:=xs[i].no },show(i:Int)+1=((i+1:Nat):Int) by omega];refine ainv hfin (Shift.low 5 (by simp) (by simp) ?_ ?_)
      .simp only[go_sem,↓AqC,lowB,flat,str]
      .simp only [go_sem]
     | false =>
      have hfin:=fin (k2+1+1) xs[i] (by omega) (by omega) hxi rfl;have happ:=A2X out2 xs[i];refine zgF ?_;simp only[go_sem,hlen]
      repeat refine aqa ?_
      rw[happ,e3 xs[i],show(i:Int)+1=((i+1:Nat):Int) by omega];refine ainv hfin (Shift.low 5 (by simp) (by simp) ?_ ?_)
      .simp only[go_sem,↓AqC,lowB,flat,str]
      .simp only [go_sem]
   .intro Q hQ
    have hlen:(List.map scA out).length=out.length:=by simp
    cases b with
    | true =>
     refine zgF ?_;simp only[go_sem];refine zm 0 (AhH L (k'+1) (by omega) (by omega)) ?_;rintro _ _ ⟨y,k3,rfl,hy,rfl,t1,t2⟩;have happ:=A2X out y;have hnew:=BqS g2 hy;have hgl:=g2.len;simp only[scA];refine zgF ?_;simp only[go_sem,hlen]
     repeat refine aqa ?_
     rw[happ,show out.length+1=(out++[y]).length by simp];refine ainv (hQ (k3,out++[y]) ⟨by simp only; omega,by simp only; omega,hnew.1,hnew.2,by simp; omega⟩) (Shift.low 6 (by simp) (by simp) ?_ ?_)
     .simp only[go_sem,↓AqC,lowB,flat,str]
     .simp only [go_sem]
    | false =>
     have hgl:=g2.len;refine zgF ?_;simp only[go_sem];refine ainv (hQ (k'+1,out) ⟨by simp only; omega,by simp only; omega,g2.sc,g2.sub,by simp only; omega⟩) (Shift.weak ?_);simp only[go_sem]
  .have di:decide ((i:Int)<(xs.length:Int))=false:=by simp; omega
   have hi:i=xs.length:=by omega
   subst hi;have gs:=g2.sub;rw[List.take_length]at gs;have gl:=g2.len;have gc:=g2.sc;clear g2;refine zgF ?_;simp only[go_sem,di];refine zm 0 (AeQ L k' 4 (by omega) (by omega) (by omega) (by omega)) ?_;rintro _ _ ⟨⟨b,rfl⟩,rfl⟩;refine amid (κ:=Int×List Sc)
    (fun x=>[(5,.ptr 3 1 0 0),(4,.ptr 2 1 0 0),(3,.ptr 1 1 0 0),(0,.ptr 0 1 0 0)])
    (fun x=>[.arr 2 [str L x.1],.arr 5 [.agg [.int .i64 no,.str ti,.fz 5 (xs.map scA),.fz 1 (go.map .str),.fz 4 lv]],.arr 2 [.agg [.str [],.raw (.slice none 0 0)]],.arr 2 [.agg [.str ti,.sl 4 0 x.2.length x.2.length]],.arr 5 (x.2.map scA)])
    (fun x=>k'<=x.1/\x.1<=k'+10001/\(∀ y∈x.2,SceneD y)/\(hasNo x.2).Sublist (nosL xs)/\x.2.length<=2*xs.length+2) ?_ ?_
   .rintro ⟨k1,o⟩ ⟨f1,f2,f3,f4,f5⟩
    simp only at f1 f2 f3 f4 f5 |-;have f6:(hasNo o).Nodup:=f4.nodup hnd;refine goF rfl 2 ?_;simp only[go_sem];refine amid2 (κ:=Int×List Sc)
     (fun x=>[(5,.ptr 3 1 0 0),(4,.ptr 2 1 0 0),(3,.ptr 1 1 0 0),(0,.ptr 0 1 0 0)])
     (fun x=>[.arr 2 [str L x.1],.arr 5 [.agg [.int .i64 no,.str ti,.fz 5 (xs.map scA),.fz 1 (go.map .str),.fz 4 lv]],.arr 2 [.agg [.str [],.raw (.slice none 0 0)]],.arr 2 [.agg [.str ti,.sl 4 0 x.2.length x.2.length]],.arr 5 (x.2.map scA)])
     (fun x=>k1<=x.1/\x.1<=k1+6000/\(∀ y∈x.2,SceneD y)/\(hasNo x.2).Nodup/\x.2.length<=2*xs.length+3) ?_ ?_
    .rintro ⟨k2,o⟩ ⟨f1,f2,f3,f4,f5⟩
     simp only at f1 f2 f3 f4 f5 |-;obtain⟨r1,r2⟩:=BlU f3 f4 f5
     cases o with
     | nil =>
      have hok:=r2 (by simp);have d0:decide ((0:Int)>0)=false:=by decide
      refine AWp.shift (Shift.frz 4 rfl (AaD [])) ?_;simp only[go_sem,↓AfQ,↓AiK,frzE,frz,frz1,frzC,frzB,List.length_map,Nat.le_refl,List.take_nil];refine zgF ?_;simp only[go_sem,d0];exact AbB [.cell 4 28] rfl [_] ⟨by simp only[go_sem,sideIs],trivial⟩ ⟨_,_,rfl,⟨[],k2,rfl,hok,rfl,by omega,by omega⟩,rfl,rfl⟩
     | cons y r =>
      have dy:decide (((r.length+1:Nat):Int)>0)=true:=by rw[decide_eq_true_eq]; omega
      have hg0:List.getD (scA y::List.map scA r) 0 .any=.agg [.str y.no,.int .i64 y.place,.str y.set,.int .i64 y.time,.fz 2 (y.paras.map paA)]:=rfl;have hlr:(List.map scA r).length=r.length:=by simp
      by_cases h5:y.time=5
      .have d5:(y.time==5)=true:=by simpa using h5
       have hok:=r1 y r rfl h5;simp only[List.map_cons,List.length_cons];refine zgF ?_;simp only[go_sem,dy,hg0,d5,hlr]
       repeat refine aqa ?_
       refine ARet.shift (Shift.frz 4 rfl (AaD ({ y with time:=1 }::r))) ?_;have htk:List.take (r.length+1) (List.map scA ({ y with time:=1 }::r))=List.map scA ({ y with time:=1 }::r):=List.take_of_length_le (by simp);simp only[List.map_cons]at htk;simp only[scA]at htk;simp only[go_sem,scA,↓AfQ,↓AiK,frzE,frz,frz1,frzC,frzB,List.length_map,Nat.le_refl,htk];exact AbB [.cell 4 28] rfl [_] ⟨by simp only[go_sem,sideIs,scA],trivial⟩ ⟨_,_,rfl,⟨{ y with time:=1 }::r,k2,rfl,hok,rfl,by omega,by omega⟩,rfl,rfl⟩
      .have d5:(y.time==5)=false:=by simpa using h5
       have hok:=r2 (fun u hu=>by simp at hu; subst hu; exact h5);simp only[List.map_cons,List.length_cons];refine zgF ?_;simp only[go_sem,dy,hg0,d5,hlr]
       repeat refine aqa ?_
       refine ARet.shift (Shift.frz 4 rfl (AaD (y::r))) ?_;have htk:List.take (r.length+1) (List.map scA (y::r))=List.map scA (y::r):=List.take_of_length_le (by simp);simp only[List.map_cons]at htk;simp only[scA]at htk;simp only[go_sem,scA,↓AfQ,↓AiK,frzE,frz,frz1,frzC,frzB,List.length_map,Nat.le_refl,htk];exact AbB [.cell 4 28] rfl [_] ⟨by simp only[go_sem,sideIs,scA],trivial⟩ ⟨_,_,rfl,⟨y::r,k2,rfl,hok,rfl,by omega,by omega⟩,rfl,rfl⟩
    .intro Q hQ
     by_cases hg0:go=[]
     .have dg:decide (((go.map AV.str).length:Int)>0)=false:=by rw[hg0]; rfl
      refine zgF ?_;simp only[go_sem,dg];refine ainv (hQ (k1,o) ⟨by simp only; omega,by simp only; omega,f3,f6,by simp only; omega⟩) (Shift.weak ?_);simp only[go_sem]
     have hgp:0<go.length:=by
      cases go with
      | nil=>exact absurd rfl hg0
      | cons y r=>simp
     have dg:decide ((go.length:Int)>0)=true:=by rw[decide_eq_true_eq]; omega
     refine zgF ?_;simp only[go_sem,dg,List.length_map];refine zm 0 (AeQ L k1 2 (by omega) (by omega) (by omega) (by omega)) ?_;rintro _ _ ⟨⟨b,rfl⟩,rfl⟩
     cases b with
     | false =>
      refine zgF ?_;simp only[go_sem];refine ainv (hQ (k1+1,o) ⟨by simp only; omega,by simp only; omega,f3,f6,by simp only; omega⟩) (Shift.weak ?_);simp only[go_sem]
     | true =>
      refine zgF ?_;simp only[go_sem];refine zm 0 (AhH L (k1+1) (by omega) (by omega)) ?_;rintro _ _ ⟨y,k2,rfl,hy,rfl,t1,t2⟩;simp only[scA];refine zgF ?_;simp only[go_sem];refine AnV [6] 0 [] mixed (by decide) rfl rfl 100 ?_;simp only[go_sem,Array.toList_append,Array.empty_append,List.length_map];refine BbP (AgH L k2 go.length (by omega) (by omega) (by omega) (by omega)) rfl rfl rfl ⟨_,_,⟨0,rfl,by omega,by omega⟩,rfl⟩ ?_;rintro _ _ ⟨⟨v,rfl,v1,v2⟩,rfl⟩;obtain⟨jv,rfl⟩:∃ jv:Nat,v=(jv:Int):=⟨v.toNat,by omega⟩;have hjv:jv<go.length:=by omega
      have hgd:List.getD (go.map AV.str) jv .any=.str go[jv]:=by simp[List.getD,hjv]
      have hgn:=hgo _ (List.getElem_mem hjv);generalize go[jv]=gn at *;simp only[go_sem,hgd,List.length_map]
      repeat refine aqa ?_
      refine zgF ?_;simp only[go_sem];refine AlK (ι:=Nat) (κ:=Nat) (fun j=>o.length+1-j) (fun j=>[(11,.int .i64 j),(10,.ptr 5 1 0 0),(5,.ptr 3 1 0 0),(4,.ptr 2 1 0 0),(3,.ptr 1 1 0 0),(0,.ptr 0 1 0 0)]) (fun _=>[.arr 2 [str L (k2+1)],.arr 5 [.agg [.int .i64 no,.str ti,.fz 5 (xs.map scA),.fz 1 (go.map .str),.fz 4 lv]],.arr 2 [.agg [.str [],.raw (.slice none 0 0)]],.arr 2 [.agg [.str ti,.sl 4 0 o.length o.length]],.arr 5 (o.map scA),.arr 5 [.agg [.str gn,.int .i64 y.place,.str y.set,.int .i64 y.time,.fz 2 (y.paras.map paA)]]]) (fun j=>j<=o.length)
       (fun j=>[(11,.int .i64 j),(10,.ptr 5 1 0 0),(5,.ptr 3 1 0 0),(4,.ptr 2 1 0 0),(3,.ptr 1 1 0 0),(0,.ptr 0 1 0 0)]) (fun _=>[.arr 2 [str L (k2+1)],.arr 5 [.agg [.int .i64 no,.str ti,.fz 5 (xs.map scA),.fz 1 (go.map .str),.fz 4 lv]],.arr 2 [.agg [.str [],.raw (.slice none 0 0)]],.arr 2 [.agg [.str ti,.sl 4 0 o.length o.length]],.arr 5 (o.map scA),.arr 5 [.agg [.str gn,.int .i64 y.place,.str y.set,.int .i64 y.time,.fz 2 (y.paras.map paA)]]]) (fun j=>j<=o.length) 0 (Nat.zero_le _) ?_ ?_ ?_
      .refine Shift.weakS ?_ rfl
       simp only[go_sem]
      .intro j hj
       obtain⟨x',hx'⟩:∃ x':Sc,x'={ y with no:=gn }:=⟨_,rfl⟩;have hxA:scA x'=.agg [.str gn,.int .i64 y.place,.str y.set,.int .i64 y.time,.fz 2 (y.paras.map paA)]:=by rw[hx']; rfl
       have hxd:SceneD x':=by rw[hx']; exact hy.d.renum (.inr hgn.1)
       have hxn:x'.no ∉ hasNo o:=by
        rw[hx'];exact fun hm=>hgn.2 (f4.subset hm)
       have hcs:cut (isRow (prog.underlying 71)) (tsize prog 71) 1 [.str gn,.int .i64 y.place,.str y.set,.int .i64 y.time,.fz 2 (y.paras.map paA)]=[scA x']:=by
        rw[hxA];simp only[go_sem]
       refine goF rfl 9 ?_;simp only[go_sem];refine BgN (el:=71) (cs:=[.str gn,.int .i64 y.place,.str y.set,.int .i64 y.time,.fz 2 (y.paras.map paA)]) rfl rfl rfl rfl underlying26 (by simp only[go_sem]) (by simp only[go_sem]) rfl fun g X hX hxx=>?_
       have hxi:∀ h ρ w,X h ρ w->XI g x' h ρ w:=fun h ρ w q=>by
        have:=hxx h ρ w q;rw[hcs,ts71]at this;exact⟨this.1.2,this.2⟩
       refine zgF ?_;simp only[go_sem];refine BuC hxi (A9K _ _ _ _ _ o x' g j (by omega) hj) rfl rfl ?_;have hln:(AlI o j x').length=o.length+1:=by simp[AlI]; omega
       have hmem:∀ z∈AlI o j x',SceneD z:=fun z hz=>by
        unfold AlI at hz
        rcases List.mem_append.1 hz with hz|hz
        .exact f3 z (List.mem_of_mem_take hz)
        .rcases List.mem_cons.1 hz with rfl|hz
         .exact hxd
         .exact f3 z (List.mem_of_mem_drop hz)
       have hQi:=hQ (k2+1,AlI o j x') ⟨by simp only; omega,by simp only; omega,hmem,BgQ f6 hxn,by simp only; omega⟩;simp only[hln]at hQi;rintro _ _ (⟨rfl,rfl⟩|⟨rfl,rfl⟩)
       .refine zgF ?_
        simp only[go_sem];refine AWp.back (fun h ρ w q=>(hxx h ρ w q).1.1) ?_;refine ainv hQi (Shift.low 5 (by simp) (by simp) ?_ ?_)
        .simp only[go_sem,↓AqC,lowB,flat,str]
        .simp only [go_sem]
       .refine zgF ?_
        simp only[go_sem];refine AWp.back (fun h ρ w q=>(hxx h ρ w q).1.1) ?_;refine AWp.shift (Shift.ren [0,1,2,3,6] rfl) ?_;simp only[go_sem,↓BeR,renE,renV,ren1,renS,renB,renC,str,idx];refine ainv hQi (Shift.weakS ?_ rfl);simp only[go_sem]
      .intro j hj J Qx hJ hX
       by_cases gj:j<o.length
       .have dj:decide ((j:Int)<(o.length:Int))=true:=by rw[decide_eq_true_eq]; omega
        have hsj:=f3 _ (List.getElem_mem gj);have hgj:List.getD (o.map scA) j .any=.agg [.str o[j].no,.int .i64 o[j].place,.str o[j].set,.int .i64 o[j].time,.fz 2 (o[j].paras.map paA)]:=by simp[List.getD,gj,scA]
        have hlen:(List.map scA o).length=o.length:=by simp
        have hnext:=hJ (j+1) (by omega) (by omega);have hexit:=hX j hj
        by_cases h0:o[j].no=[]
        .have b0:(o[j].no==[])=true:=by simp[h0]
         refine zgF ?_;simp only[go_sem];refine zr [.any] mixed ?_;simp only[go_sem,dj,hgj,b0,hlen]
         repeat refine aqa ?_
         refine zgF ?_;simp only[go_sem]
         repeat refine aqa ?_
         rw[ic j];refine ainv hnext (Shift.weakS ?_ rfl);simp only[go_sem]
        .have b0:(o[j].no==[])=false:=by simpa using h0
         have ho:=BgP o[j].no gn (hsj.no.resolve_left h0) hgn.1;generalize orI (cmpI (pN o[j].no) (pN gn)) (Lib.compareBytes (caps o[j].no) (caps gn))=od at *
         cases dd:decide (od<0)with
         | true =>
          refine zgF ?_;simp only[go_sem];refine zr [.int .i64 od] mixed ?_;simp only[go_sem,dj,hgj,b0,hlen,dd]
          repeat refine And.intro (by first|exact ho.at|omega|exact .inl trivial|rfl|(simp; done)|(simp; omega)) ?_
          refine zgF ?_;simp only[go_sem]
          repeat refine aqa ?_
          rw[ic j];refine ainv hnext (Shift.weakS ?_ rfl);simp only[go_sem]
         | false =>
          refine zgF ?_;simp only[go_sem];refine zr [.int .i64 od] mixed ?_;simp only[go_sem,dj,hgj,b0,hlen,dd]
          repeat refine And.intro (by first|exact ho.at|omega|exact .inl trivial|rfl|(simp; done)|(simp; omega)) ?_
          refine zgF ?_;simp only[go_sem];refine ainv hexit (Shift.weakS ?_ rfl);simp only[go_sem]
       .have dj:decide ((j:Int)<(o.length:Int))=false:=by rw[decide_eq_false_iff_not]; omega
        have hexit:=hX j hj;refine zgF ?_;simp only[go_sem];refine zr [.any] mixed ?_;simp only[go_sem,dj,List.length_map]
        repeat refine aqa ?_
        refine zgF ?_;simp only[go_sem];refine ainv hexit (Shift.weakS ?_ rfl);simp only[go_sem]
   .intro Q hQ
    have hlen:(List.map scA out).length=out.length:=by simp
    cases b with
    | true =>
     refine zgF ?_;simp only[go_sem];refine AnV [3,5] 0 [] mixed (by decide) rfl rfl 100 ?_;simp only[go_sem];refine BbP (AhH L (k'+1) (by omega) (by omega)) rfl rfl rfl ⟨_,_,_,k'+1,rfl,drawn_some,rfl,by omega,by omega⟩ ?_;rintro _ _ ⟨y,k3,rfl,hy,rfl,t1,t2⟩;simp only[go_sem];refine BbP (AhH L k3 (by omega) (by omega)) rfl rfl rfl ⟨_,_,_,k3,rfl,drawn_some,rfl,by omega,by omega⟩ ?_;rintro _ _ ⟨z,k4,rfl,hz,rfl,t3,t4⟩;have happ:List.map scA out++[scA y,scA z]=List.map scA (out++[y,z]):=by simp
     simp only[scA]at happ |-;simp only[go_sem,hlen]
     repeat refine aqa ?_
     refine zgF ?_;simp only[go_sem];rw[happ,show out.length+2=(out++[y,z]).length by simp];refine ainv (hQ (k4,out++[y,z]) ⟨by simp only; omega,by simp only; omega,fun u hu=>?_,?_,by simp; omega⟩) (Shift.weakS ?_ (by simp))
     .simp only [List.mem_append,List.mem_cons,List.not_mem_nil,or_false]at hu
      rcases hu with hu|rfl|rfl
      .exact gc u hu
      .exact hy.d
      .exact hz.d
     .have e:hasNo (out++[y,z])=hasNo out:=by simp[hasNo,nosL,hy.no,hz.no]
      simp only[e]; exact gs
     .simp only [go_sem]
    | false =>
     refine zgF ?_;simp only[go_sem];refine ainv (hQ (k'+1,out) ⟨by simp only; omega,by simp only; omega,gc,gs,by simp only; omega⟩) (Shift.weak ?_);simp only[go_sem]
theorem A9L:∀ i j:Fin 5,i<j->AaC (AcX (i.1+1)) (AcX (j.1+1))<0:=by decide +kernel
theorem A3E:∀ i:Fin 5,(AcX (i.1+1)).length<=50:=by decide +kernel
theorem A3F{xs:List Sc}(h5:xs.length<=5){j:Nat}(hj:j<xs.length):∃ h:j<(numL 0 xs).length,(numL 0 xs)[j]={ xs[j]with no:=AcX (j+1) }:=by
 have h1:j<(numL 0 xs).length:=by rw[numL_len]; exact hj
 have h2:=AuP xs 0 j hj;rw[List.getElem?_eq_getElem h1,Option.some.injEq,Nat.zero_add]at h2;refine⟨h1,?_⟩;rw[h2];simp only[nm,AuO j (by omega)]
theorem BrP{x:Sr}(hx:DrawnR x):StoryD (numL 0 x.scenes)/\∀ y∈numL 0 x.scenes,y.no.length<=50:=by
 obtain⟨ti,xs⟩:=x;have h5:=hx.len;have hall:=hx.all;simp only at h5 hall |-;have hnl:=numL_len 0 xs;have get:∀ y∈numL 0 xs,∃ j,∃ h:j<xs.length,y={ xs[j]with no:=AcX (j+1) }:=fun y hy=>by
  obtain⟨j,hj,rfl⟩:=List.mem_iff_getElem.1 hy;have hj':j<xs.length:=by omega
  exact⟨j,hj',(A3F h5 hj').2⟩
 refine⟨⟨fun y hy=>?_,fun y hy=>?_,?_,by omega⟩,fun y hy=>?_⟩
 .obtain ⟨j,hj,rfl⟩:=get y hy
  exact(hall _ (List.getElem_mem hj)).d.renum (.inr (A1Y j (by omega)).2.1)
 .obtain ⟨j,hj,rfl⟩:=get y hy
  exact(A1Y j (by omega)).2.1
 .rw [List.pairwise_iff_getElem]
  intro i j hi hj hij;simp only[nosL,List.length_map]at hi hj;have hi':i<xs.length:=by omega
  have hj':j<xs.length:=by omega
  simp only[nosL,List.getElem_map,(A3F h5 hi').2,(A3F h5 hj').2];exact compareN_lt.1 (A9L ⟨i,by omega⟩ ⟨j,by omega⟩ hij)
 .obtain ⟨j,hj,rfl⟩:=get y hy
  exact A3E ⟨j,by omega⟩
theorem A9M{xs:List Sc}{nos:List (List UInt8)}(hm:MdOk xs nos):∀ p∈(layL (entsB xs nos)).pages,∀ l∈p,l.length<=3000100:=by
 have hb:∀ b∈entsB xs nos,sizB b:=fun b hb=>by
  obtain⟨n,hn,hb⟩:=List.mem_flatMap.1 hb;exact((AfT hm.sc (hm.num n hn)).1 b hb).2.2.2
 have h1:=BtH hb _ (Nat.le_refl _);have h2:qS (layL (entsB xs nos)):=by unfold layL; split; exact A2B h1; exact h1
 exact h2.1
theorem A9N{xs:List Sc}{nos:List (List UInt8)}(hm:MdOk xs nos)(k:Int):(AdJ xs nos k).length<1000:=by
 unfold AdJ
 split
 .rename_i j hj
  by_cases h:j<nos.length
  .have:=(AaG (hm.num (nos.getD j []) (by simp[List.getD,h]))).2.1
   exact this
  .simp [List.getD,h]
 .simp
theorem AzX{xs:List Sc}{nos:List (List UInt8)}(hm:MdOk xs nos)(k:Nat):((firstsI xs nos).getD k []).length<1000:=by
 by_cases h:k<(firstsI xs nos).length
 .have:(firstsI xs nos).getD k []∈firstsI xs nos:=by simp[List.getD,h]
  obtain⟨i,_,hi⟩:=List.mem_map.1 this;rw[<- hi]; exact A9N hm i
 .simp [List.getD,h]
theorem BrQ{ti:List UInt8}{xs:List Sc}(hs:ScriptOk ⟨ti,xs⟩)(hd:StoryD xs):DrIn ⟨1,ti,xs,[],lockL xs⟩:=by
 have hm:=hd.md;have hfew:=AyN xs hd.sc hd.few (nosL xs) (by have:=hd.few; simp[nosL]; omega) fun n hn=>AyO hn
 have hb:=AhO hm;have hpl:=A9M hm;have hfs:=AzX hm;refine⟨hs,hd.sc,by simp,by simp,by simp only[lockL,lvsTo_len]; omega,fun f hf=>?_⟩;simp only[lockL,lvsTo,List.mem_map,List.mem_range]at hf;obtain⟨k,hk,rfl⟩:=hf;have hp:(layL (entsB xs (nosL xs))).pages.getD k []∈(layL (entsB xs (nosL xs))).pages:=by simp[List.getD,hk]
 refine⟨?_,by have:=hfs k; simp only; omega,by have:=(hb.2 _ hp).2; simp only; omega,fun s hsm=>by have:=hpl _ hp s hsm; omega⟩;simp only;rw[AjD (by omega) (by omega)];unfold dig3
 split
 .simp
 .split <;> simp
def bdN:Nat->Nat
 | 0=>5
 | i+1=>2*bdN i+3
def kbN:Nat->Nat
 | 0=>41000
 | i+1=>kbN i+10010*bdN i+16010
structure FolD(i:Nat)(k:Int)(d:Dr):Prop where
 inn:DrIn d
 nod:(nosL d.scenes).Nodup
 apart:∀ n∈d.gone,n ∉ nosL d.scenes
 few:d.scenes.length<=bdN i
 k0:0<=k
 k1:k<=kbN i
theorem BuF{i:Nat}(hi:i<3):bdN i<=29/\(kbN i:Int)+10010*bdN i<=650000:=by
 have:i=0\/i=1\/i=2:=by omega
 rcases this with rfl|rfl|rfl <;> decide
theorem flat_sub{l nl:List Le'}:(sentL l nl).Sublist nl:=List.filter_sublist
theorem AvQ{S:Std}(hS:LibOk S)(L:List Int):PcH prog S 4 [.fz 1 (L.map (.int .i64))] (· = .bool true):=by
 refine zqIF func4 rfl fun h ρ w hg=>?_
 simp only[go_sem];refine zmH 0 hg (agg:=str L 0) (BdT hS L 0 (by omega) (by omega)) ?_;rintro _ _ ⟨x,k',rfl,hx,rfl,hk1,hk2⟩;have hok:=BjQ ⟨x,hx,.inr rfl⟩;obtain⟨hsd,hsh⟩:=BrP hx;obtain⟨ti,xs0⟩:=x;simp only[numR]at hok hsd hsh |-;generalize numL 0 xs0=xs at *;clear hx;have hlk:=BkK hS ⟨ti,xs⟩ hok hsd;have hin:=BrQ hok hsd;have hnod:(nosL xs).Nodup:=hsd.rise.imp (S:=(·≠·)) fun hlt e=>by subst e; exact AaH _ hlt
 simp only[srA,drA,List.map_nil]at hlk |-;refine zgF ?_;simp only[go_sem];refine zqF hg (hlk) ?_;have d0:((0:Int) != 0)=false:=by decide
 simp only[go_sem,d0];refine zm 0 (AjG L k' 1 3 (by omega) (by omega) (by omega) (by omega) (by omega)) ?_;rintro _ _ ⟨⟨v,rfl,v1,v2⟩,rfl⟩;obtain⟨n,rfl⟩:∃ n:Nat,v=(n:Int):=⟨v.toNat,by omega⟩;refine zgF ?_;simp only[go_sem];refine AlK (ι:=Nat×Int×Dr) (κ:=Unit) (fun y=>n-y.1)
  (fun y=>[(30,.int .i64 y.1),(29,.int .i64 n),(6,.fz 4 (y.2.2.leaves.map leA)),(4,.ptr 1 1 0 0),(3,.ptr 0 1 0 0)])
  (fun y=>[.arr 2 [str L y.2.1],.arr 5 [.agg [.int .i64 y.2.2.no,.str y.2.2.title,.fz 5 (y.2.2.scenes.map scA),.fz 1 (y.2.2.gone.map .str),.fz 4 (y.2.2.leaves.map leA)]]])
  (fun y=>y.1<=n/\FolD y.1 y.2.1 y.2.2) (fun _=>[]) (fun _=>[]) (fun _=>True) (0,k'+1,⟨1,ti,xs,[],lockL xs⟩)
  ⟨Nat.zero_le _,hin,hnod,by simp,hsd.few,by simp only; omega,by show k'+1<=((41000:Nat):Int); omega⟩ ?_ ?_ ?_
 .refine Shift.weakS ?_ rfl
  simp only[go_sem]
 .rintro ⟨⟩ _
  refine zgF ?_;simp only[go_sem];refine zqF hg (A2P hS) ?_;simp only[go_sem];exact zt [2]
 rintro⟨i,k,d⟩ ⟨g1,g2⟩ J Q hJ hQ;simp only at g1 g2 hJ hQ |-
 by_cases gi:i<n
 .have di:decide ((i:Int)<(n:Int))=true:=by rw[decide_eq_true_eq]; omega
  obtain⟨b1,b2⟩:=BuF (show i<3 by omega);have hfw:=g2.few;have hk0:=g2.k0;have hkk:=g2.k1;have hinn:=g2.inn;have hrv:=A3D L k hk0 d.no d.title d.scenes (by omega) d.gone (d.leaves.map leA) hinn.sc (by omega) g2.nod (fun n hn=>⟨hinn.gone n hn,g2.apart n hn⟩) hinn.goneN;have hti:=hinn.script.title;have htp:=hinn.script.plain;simp only at hti htp;refine zgF ?_;simp only[go_sem,di];refine AnV [3,4] 0 [] mixed (by decide) rfl rfl 100 ?_;simp only[go_sem];refine BbP hrv rfl rfl rfl ⟨_,_,[],k,rfl,⟨by simp,by simp[hasNo,nosL],by simp,by simp⟩,rfl,by omega,by omega⟩ ?_;rintro _ _ ⟨zs,k2,rfl,hz,rfl,hk3,hk4⟩;have hzl:=hz.len;have hzs:=hz.script (by omega) hti htp;have hnx:=A8T hS d hinn ⟨d.title,zs⟩ hzs hz.sc;simp only[srA,drA]at hnx |-;simp only[go_sem];refine BcX hg hnx rfl rfl ⟨_,.inl ⟨1,by decide,rfl⟩⟩ ?_;rintro _ (⟨e,he,rfl⟩|⟨E,E',la,l,hN,rfl⟩)
  .have de:(e != 0)=true:=by simpa using he
   simp only[drZ];simp only[go_sem]
   repeat refine aqa ?_
   refine zgF ?_;simp only[go_sem,de];refine ainv (hQ () trivial) (Shift.low 0 (by simp) (by simp) ?_ ?_)
   .rfl
   .simp only[go_sem]
  .have hnk:=next_ok hinn hti htp hz.sc hz.first (by simp only; omega) hN
   have hsdr:=A9H hN.ok.binder.apart hN;have hsp:=BgK hN.ok.binder.apart hnk.ok.binder.apart;have hsnd:=BlQ hS d _ hinn hnk.inn hN.ok hnk.ok;have hsB:=hnk.ok.binder.sub (flat_sub (l:=d.leaves));have hthr:(thrL d.leaves (nextD d ⟨d.title,zs⟩ E l).leaves).Nodup:=by
    unfold thrL;exact hN.ok.binder.apart.sublist (List.filter_sublist.map _)
   have hthl:(thrL d.leaves (nextD d ⟨d.title,zs⟩ E l).leaves).length<=100000:=by
    have h1:=List.length_filter_le (AvN (nextD d ⟨d.title,zs⟩ E l).leaves) d.leaves;have h2:=hN.ok.binder.few;unfold thrL;rw[List.length_map];omega
   have hins:=A9F hS d.leaves _ _ (nextD d ⟨d.title,zs⟩ E l).no _ hN.ok.binder hsB hnk.ok.binder hthl (fun n hn=>by
     obtain⟨f,h1,h2,_⟩:=thr_mem.1 hn;exact⟨f,h1,h2⟩) (fun n hn f hf e=>by
     obtain⟨_,_,_,h3⟩:=thr_mem.1 hn;exact h3 f (flat_sub.subset hf) e) hthr hsp
   have hsame:=AvO (nextD d ⟨d.title,zs⟩ E l).leaves (by have:=hnk.ok.binder.few; omega) (fun f hf=>(hnk.ok.binder.all f hf).leafIn);have hchk:=AdB hS _ hnk.inn;have hno:=hnk.no;have hfol:FolD (i+1) k2 (nextD d ⟨d.title,zs⟩ E l):=⟨hnk.inn,hnk.ok.nums.rise.imp (S:=(·≠·)) fun hlt e=>by subst e; exact AaH _ hlt,hnk.ok.nums.apart,by rw[hnk.scenes]; simp only[bdN]; omega,by omega,by simp only[kbN]; omega⟩;have hokN:=hnk.ok;have hfin:=hJ (i+1,k2,nextD d ⟨d.title,zs⟩ E l) ⟨by simp only; omega,hfol⟩ (by simp only; omega);have hsl:(sentL d.leaves (nextD d ⟨d.title,zs⟩ E l).leaves).length<=1500:=hsB.few;clear hnk hsp hsB hthr hthl hfol;generalize nextD d ⟨d.title,zs⟩ E l=N at *;generalize sentL d.leaves N.leaves=SL at *;generalize thrL d.leaves N.leaves=TH at *;simp only[drA,sdA]at hsnd hins hchk hfin |-;simp only[go_sem]
   repeat refine aqa ?_
   refine zgF ?_;simp only[go_sem,d0];refine zqF hg (hsnd) ?_;simp only[go_sem];refine zqF hg (hins) ?_;simp only[go_sem,d0];refine zpF (hsame) ?_;simp only[go_sem];refine AgC hg hchk rfl rfl rfl ?_;rintro _ ⟨m,rfl,hm⟩;obtain rfl:=hm.2 hokN;refine zgF ?_;simp only[go_sem,d0];have hslf:SL.length<=100000:=by omega
   refine AaI (ι:=Nat) (fun j=>SL.length-j) (fun j=>[(82,.int .i64 j),(81,.int .i64 SL.length),(80,.fz 4 (SL.map leA)),(30,.int .i64 i),(29,.int .i64 n),(11,.fz 4 (N.leaves.map leA)),(7,.ptr 2 1 0 0),(4,.ptr 1 1 0 0),(3,.ptr 0 1 0 0)])
    (fun _=>[.arr 2 [str L k2],.arr 5 [.agg [.int .i64 d.no,.str d.title,.fz 5 (d.scenes.map scA),.fz 1 (d.gone.map .str),.fz 4 (d.leaves.map leA)]],.arr 5 [.agg [.int .i64 N.no,.str N.title,.fz 5 (N.scenes.map scA),.fz 1 (N.gone.map .str),.fz 4 (N.leaves.map leA)]],.arr 3 [.agg [.int .i64 N.no,.fz 4 (SL.map leA),.fz 1 (TH.map .str)]]])
    (fun j=>j<=SL.length) 0 (Nat.zero_le _) ?_ ?_
   .refine Shift.weakS ?_ rfl
    simp only[go_sem,List.length_map]
   .intro j gj J2 hJ2
    by_cases hj:j<SL.length
    .have dj:decide ((j:Int)<(SL.length:Int))=true:=by rw[decide_eq_true_eq]; omega
     have hle:=AbQ hj;have hb:(SL[j].draft != N.no)=false:=by
      rw[hsdr _ (List.getElem_mem hj),hno]
      simp
     have hnext:=hJ2 (j+1) (by omega) (by omega);refine zgF ?_;simp only[go_sem,dj,hle,hb,List.length_map]
     repeat refine aqa ?_
     rw[ic j];refine ainv hnext (Shift.low 4 (by simp) (by simp) ?_ ?_)
     .simp only[go_sem,lowB,flat,str]
     .simp only[go_sem]
    .have dj:decide ((j:Int)<(SL.length:Int))=false:=by rw[decide_eq_false_iff_not]; omega
     refine zgF ?_;simp only[go_sem,dj];refine zr [] mixed ?_;simp only[go_sem]
     repeat refine aqa ?_
     refine zgF ?_;simp only[go_sem]
     repeat refine aqa ?_
     rw[ic i];refine ainv hfin (Shift.low 2 (by simp) (by simp) ?_ ?_)
     .simp only[go_sem,lowB,flat,str]
     .simp only[go_sem]
 .have di:decide ((i:Int)<(n:Int))=false:=by rw[decide_eq_false_iff_not]; omega
  refine zgF ?_;simp only[go_sem,di];refine ainv (hQ () trivial) (Shift.low 0 (by simp) (by simp) ?_ ?_)
  .rfl
  .simp only[go_sem]
