/- A scene and a script that are drawn, told exactly. -/
import Derived.Test.YtnfkjpihaficbaaGreatDoorK23
set_option maxRecDepth 100000
set_option maxHeartbeats 2000000
set_option linter.unusedSimpArgs false
set_option linter.unusedVariables false
namespace Go.Proofs.YtnfkjpihaficbaaGreatDoor
open Go Go.Av Go.RowKit _root_.Go.Proofs.Tryz
def AbY(L:List Int):Nat->Int×List Pa->Int×List Pa
 | 0,x=>x
 | n+1,x=>AbY L n ((parasF L x.1).2,x.2++(parasF L x.1).1)
theorem ApA(L:List Int):∀ (n:Nat)(x:Int×List Pa),(∃ e,runL 0 x.2=some e/\e≠2/\e≠3)->(∀ p∈x.2,DrawnP p) ->
  (∃ e,runL 0 (AbY L n x).2=some e/\e≠2/\e≠3)/\(∀ p∈(AbY L n x).2,DrawnP p)/\x.1<=(AbY L n x).1/\(AbY L n x).1<=x.1+400*n/\(AbY L n x).2.length<=x.2.length+5*n
 | 0,x,h,ha=>⟨h,ha,Int.le_refl _,by simp[AbY],by simp[AbY]⟩
 | n+1,x,⟨e,h1,h2,h3⟩,ha=>by
  obtain⟨b1,b2,b3⟩:=AtV L x.1;obtain⟨e',r1,r2,r3⟩:=b1.run e h2 h3;obtain⟨c1,c2,c3,c4,c5⟩:=ApA L n ((parasF L x.1).2,x.2++(parasF L x.1).1) ⟨e',by simp only; rw[AhF _ _ _ _ h1]; exact r1,r2,r3⟩ (fun p hp=>by
   rcases List.mem_append.1 hp with hp|hp
   .exact ha p hp
   .exact b1.all p hp)
  have:=b1.len.2;simp only[AbY];simp only[List.length_append]at c3 c4 c5;exact⟨c1,c2,by omega,by push_cast; omega,by omega⟩
def sceneF(L:List Int)(k:Int):Sc×Int :=
 (⟨[],rangeF L k 1 3,oneF L (k+1) SetL,rangeF L (k+1+1) 1 5,(AbY L (nx L (k+1+1+1+1) (pickF L (k+1+1+1) [2,5,12])).toNat (k+1+1+1+1+1,[])).2⟩,
  (AbY L (nx L (k+1+1+1+1) (pickF L (k+1+1+1) [2,5,12])).toNat (k+1+1+1+1+1,[])).1)
theorem BlN(L:List Int)(k:Int):1<=pickF L k [2,5,12]/\pickF L k [2,5,12]<=12:=(show ∀ x∈[(2:Int),5,12],1<=x/\x<=12 by decide) _ (AfK (by decide))
theorem A6Z(L:List Int)(k b:Int)(hb:1<=b):1<=rangeF L k 1 b/\rangeF L k 1 b<=b:=by
 have:=AcV L k (b-1+1) (by omega);unfold rangeF; omega
theorem AtW(L:List Int)(k:Int):DrawnS (sceneF L k).1/\k<=(sceneF L k).2/\(sceneF L k).2<=k+5000:=by
 have hp:=BlN L (k+1+1+1);have hn:=AcV L (k+1+1+1+1) (pickF L (k+1+1+1) [2,5,12]) hp.1;unfold sceneF;generalize nx L (k+1+1+1+1) (pickF L (k+1+1+1) [2,5,12])=v at *;obtain⟨c1,c2,c3,c4,c5⟩:=ApA L v.toNat (k+1+1+1+1+1,[]) ⟨0,rfl,by decide,by decide⟩ (by simp);simp only[List.length_nil,Nat.zero_add]at c3 c4 c5;exact⟨⟨rfl,A6Z L k 3 (by decide),AaI (by decide),A6Z L _ 5 (by decide),c1,by simp only; omega,c2⟩,by simp only; omega,by simp only; omega⟩
theorem A7A(L:List Int)(k:Int)(h3:0<=k)(h4:k<=700000) :
  Mc prog 92 2 (str L k) [] (fun r s=>r=scA (sceneF L k).1/\s=str L (sceneF L k).2):=by
 have hpk:=AcR L (k+1+1+1) [2,5,12] (by decide) (by decide) (by omega) (by omega);have pn:=BlN L (k+1+1+1);unfold sceneF;generalize pickF L (k+1+1+1) [2,5,12]=n at *;have hnx:=AbW L (k+1+1+1+1) n (by omega) (by omega) (by omega) (by omega);have hv:=AcV L (k+1+1+1+1) n (by omega);generalize nx L (k+1+1+1+1) n=v at *;have hr1:=AdM L k 1 3 (by decide) (by decide) (by decide) (by omega) (by omega);have ho:=AbJ L (k+1) SetL (by decide) (by decide) (by omega) (by omega);have hr2:=AdM L (k+1+1) 1 5 (by decide) (by decide) (by decide) (by omega) (by omega);generalize rangeF L k 1 3=pl at *;generalize oneF L (k+1) SetL=st at *;generalize rangeF L (k+1+1) 1 5=tm at *;obtain⟨z,hz⟩:∃ z,z=AbY L v.toNat (k+1+1+1+1+1,[]):=⟨_,rfl⟩;rw[<- hz];refine zcIF func92 rfl fun h ρ w=>?_
 simp only[go_sem];refine zm 0 (hr1) ?_;rintro _ _ ⟨rfl,rfl⟩;refine zgF ?_;simp only[go_sem];refine zpN (BhT) ?_;simp only[go_sem];refine zm 0 (ho) ?_;rintro _ _ ⟨rfl,rfl⟩;refine zgF ?_;simp only[go_sem];refine zm 0 (hr2) ?_;rintro _ _ ⟨rfl,rfl⟩;refine zgF ?_;simp only[go_sem];refine zm 0 (hpk) ?_;rintro _ _ ⟨rfl,rfl⟩;refine zgF ?_;simp only[go_sem];refine zm 0 (hnx) ?_;rintro _ _ ⟨rfl,rfl⟩;refine zgF ?_;simp only[go_sem];refine AaC (ι:=Nat×Int×List Pa) (fun x=>v.toNat-x.1)
  (fun x=>[(17,.int .i64 x.1),(16,.int .i64 v),(3,.ptr 2 1 0 0),(2,.ptr 1 1 0 0),(0,.ptr 0 1 0 0)])
  (fun x=>[.arr 2 [str L x.2.1],.arr 5 [.agg [.str [],.int .i64 0,.str [],.int .i64 0,.raw (.slice none 0 0)]],.arr 5 [.agg [.str [],.int .i64 pl,.str st,.int .i64 tm,.sl 3 0 x.2.2.length x.2.2.length]],.arr 2 (x.2.2.map paA)])
  (fun x=>(x.1:Int)<=v/\k<=x.2.1/\x.2.1<=k+5+400*x.1/\(x.2.2.length:Int)<=5*x.1/\AbY L (v.toNat-x.1) x.2=z)
  (0,k+1+1+1+1+1,[]) ⟨by simp only; omega,by simp only; omega,by simp only; omega,by simp,by simpa using hz.symm⟩ ?_ ?_
 .refine Shift.trans (Shift.cells 2 2 [.agg [.str [],.int .i64 pl,.str st,.int .i64 tm,.sl 3 0 0 0]] rfl rfl (by simp[cellsOf]) ⟨.refl,.refl,.refl,.refl,.sl,trivial⟩) (Shift.weak ?_)
  simp only[go_sem]
 .rintro ⟨i,k',ps⟩ ⟨g2,g3,g4,g9,hF⟩ J hJ
  simp only at g2 g3 g4 g9 hF hJ |-
  by_cases gi:(i:Int)<v
  .have di:decide ((i:Int)<v)=true:=by simp; omega
   rw[show v.toNat-i=(v.toNat-(i+1))+1 by omega]at hF;simp only[AbY]at hF;have hpx:=A6Y L k' (by omega) (by omega);obtain⟨hb,t1,t2⟩:=AtV L k';generalize parasF L k'=w at *;obtain⟨b,k2⟩:=w;simp only at hpx hb t1 t2 hF;refine zgN ?_;simp only[go_sem,di];refine AoV [3] 0 [] mixed (by decide) rfl rfl 100 ?_;simp only[go_sem];refine BcF hpx rfl rfl rfl ⟨_,_,rfl,rfl⟩ ?_;rintro _ _ ⟨rfl,rfl⟩;simp only[go_sem];refine⟨by simp,.inl trivial,by simp; have:=hb.len.2; omega,by simp; have:=hb.len.2; omega,?_⟩;refine zgN ?_;simp only[go_sem];refine⟨by omega,by omega,?_⟩;rw[<- List.map_append,show ps.length+(List.map paA b).length=(ps++b).length by simp,show(i:Int)+1=((i+1:Nat):Int) by omega];have:=hb.len;refine ainv (hJ (i+1,k2,ps++b) ⟨by simp only; omega,by simp only; omega,by simp only; omega,by simp; omega,hF⟩ (by simp only; omega)) (Shift.weak ?_);simp only[go_sem,List.length_map]
  .have di:decide ((i:Int)<v)=false:=by simp; omega
   rw[show v.toNat-i=0 by omega]at hF;simp only[AbY]at hF;subst hF;refine AWp.shift (Shift.frz 3 rfl (AjS ps)) ?_;simp only[↓AkY,↓AqX,frzE,frz,frz1,frzC,frzB,List.map_cons,List.map_nil,List.set_cons_succ,List.set_cons_zero,Nat.reduceBEq,cond_true,cond_false,Bool.false_and,Bool.true_and,List.length_map,Nat.zero_add,decide_true,Nat.le_refl,List.drop_zero];have:List.take ps.length (List.map paA ps)=List.map paA ps:=List.take_of_length_le (by simp);simp only[this];refine zgN ?_;simp only[go_sem,di];exact AcH [.cell 2 64] rfl [_] ⟨by simp only[go_sem,sideIs],trivial⟩ ⟨_,_,rfl,rfl,rfl,rfl,rfl⟩
def fixS(first:Bool)(x:Sc):Sc:=if first&&x.time==5 then⟨x.no,x.place,x.set,2,x.paras⟩ else x
def AbK(L:List Int):Nat->Int×List Sc->Int×List Sc
 | 0,x=>x
 | n+1,x=>AbK L n ((sceneF L x.1).2,x.2++[fixS x.2.isEmpty (sceneF L x.1).1])
theorem BiD{b:Bool}{x:Sc}(h:DrawnS x):DrawnS (fixS b x)/\(b=true->(fixS b x).time≠5):=by
 unfold fixS
 split
 .exact ⟨⟨h.no,h.place,h.set,by simp,h.run,h.len,h.all⟩,fun _=>by simp⟩
 .rename_i hh
  refine⟨h,fun hb=>?_⟩;rw[hb]at hh
  simpa using hh
theorem AmX(L:List Int):∀ (n:Nat)(x:Int×List Sc),(∀ y∈x.2,DrawnS y)->(∀ y,x.2.head? = some y->y.time≠5) ->
  (∀ y∈(AbK L n x).2,DrawnS y)/\(∀ y,(AbK L n x).2.head? = some y->y.time≠5)/\x.1<=(AbK L n x).1/\(AbK L n x).1<=x.1+5000*n/\(AbK L n x).2.length=x.2.length+n
 | 0,x,h1,h2=>⟨h1,h2,Int.le_refl _,by simp[AbK],by simp[AbK]⟩
 | n+1,x,h1,h2=>by
  obtain⟨b1,b2,b3⟩:=AtW L x.1;obtain⟨f1,f2⟩:=BiD (b:=x.2.isEmpty) b1;obtain⟨c1,c2,c3,c4,c5⟩:=AmX L n ((sceneF L x.1).2,x.2++[fixS x.2.isEmpty (sceneF L x.1).1]) (fun y hy=>by
   rcases List.mem_append.1 hy with hy|hy
   .exact h1 y hy
   .rw [List.mem_singleton.1 hy]; exact f1) (fun y hy=>by
   cases hx:x.2 with
   | nil =>
    rw[hx]at hy f2;simp only[List.nil_append,List.head?_cons,Option.some.injEq]at hy;rw[<- hy];exact f2 rfl
   | cons a r=>rw[hx]at hy h2; exact h2 y (by simpa using hy))
  simp only[AbK];simp only[List.length_append,List.length_cons,List.length_nil]at c3 c4 c5;exact⟨c1,c2,by omega,by push_cast; omega,by omega⟩
def scriptF(L:List Int)(k:Int):Sr×Int:=(⟨oneF L k TitleL,(AbK L (nx L (k+1) 6).toNat (k+1+1,[])).2⟩,(AbK L (nx L (k+1) 6).toNat (k+1+1,[])).1)
theorem ApB(L:List Int)(k:Int):DrawnR (scriptF L k).1/\k<=(scriptF L k).2/\(scriptF L k).2<=k+30000:=by
 have hn:=AcV L (k+1) 6 (by decide);obtain⟨c1,c2,c3,c4,c5⟩:=AmX L (nx L (k+1) 6).toNat (k+1+1,[]) (by simp) (by simp);simp only[List.length_nil,Nat.zero_add]at c3 c4 c5;unfold scriptF;exact⟨⟨AaI (by decide),by simp only; omega,c1,c2⟩,by simp only; omega,by simp only; omega⟩
theorem A2M(L:List Int)(k:Int)(h3:0<=k)(h4:k<=600000) :
  Mc prog 41 2 (str L k) [] (fun r s=>r=srA (scriptF L k).1/\s=str L (scriptF L k).2):=by
 have ho:=AbJ L k TitleL (by decide) (by decide) (by omega) (by omega);have hnx:=AbW L (k+1) 6 (by omega) (by omega) (by omega) (by omega);have hv:=AcV L (k+1) 6 (by decide);unfold scriptF;generalize oneF L k TitleL=ti at *;generalize nx L (k+1) 6=v at *;obtain⟨z,hz⟩:∃ z,z=AbK L v.toNat (k+1+1,[]):=⟨_,rfl⟩;rw[<- hz];refine zcIF func41 rfl fun h ρ w=>?_
 simp only[go_sem];refine zm 0 (ho) ?_;rintro _ _ ⟨rfl,rfl⟩;refine zgF ?_;simp only[go_sem];refine zm 0 (hnx) ?_;rintro _ _ ⟨rfl,rfl⟩;refine zgF ?_;simp only[go_sem];refine AaC (ι:=Nat×Int×List Sc) (fun x=>v.toNat-x.1)
  (fun x=>[(11,.int .i64 x.1),(10,.int .i64 v),(3,.ptr 2 1 0 0),(2,.ptr 1 1 0 0),(0,.ptr 0 1 0 0)])
  (fun x=>[.arr 2 [str L x.2.1],.arr 2 [.agg [.str [],.raw (.slice none 0 0)]],.arr 2 [.agg [.str ti,.sl 3 0 x.2.2.length x.2.2.length]],.arr 5 (x.2.2.map scA)])
  (fun x=>(x.1:Int)<=v/\k<=x.2.1/\x.2.1<=k+2+5000*x.1/\x.2.2.length=x.1/\AbK L (v.toNat-x.1) x.2=z)
  (0,k+1+1,[]) ⟨by simp only; omega,by simp only; omega,by simp only; omega,rfl,by simpa using hz.symm⟩ ?_ ?_
 .refine Shift.trans (Shift.cells 2 5 [.agg [.str ti,.sl 3 0 0 0]] rfl rfl (by simp[cellsOf]) ⟨.refl,.sl,trivial⟩) (Shift.weak ?_)
  simp only[go_sem]
 .rintro ⟨i,k',xs⟩ ⟨g2,g3,g4,g5,hF⟩ J hJ
  simp only at g2 g3 g4 g5 hF hJ |-
  by_cases gi:(i:Int)<v
  .have di:decide ((i:Int)<v)=true:=by simp; omega
   rw[show v.toNat-i=(v.toNat-(i+1))+1 by omega]at hF;simp only[AbK]at hF;have hpx:=A7A L k' (by omega) (by omega);obtain⟨hx,t1,t2⟩:=AtW L k';generalize sceneF L k'=w at *;obtain⟨x,k2⟩:=w;simp only at hpx hx t1 t2 hF;refine zgF ?_;simp only[go_sem,di];refine zm 0 (hpx) ?_;rintro _ _ ⟨rfl,rfl⟩;have hlen:(List.map scA xs).length=xs.length:=by simp
   have e2:∀ a b c d f,List.map scA xs++[AV.agg [.str a,.int .i64 b,.str c,.int .i64 d,.fz 2 (List.map paA f)]]=List.map scA (xs++[⟨a,b,c,d,f⟩]):=fun _ _ _ _ _=>by simp[scA]
   have e3:∀ y:Sc,xs.length+1=(xs++[y]).length:=fun y=>by simp
   have ei:(i:Int)+1=((i+1:Nat):Int):=by omega
   have fin:∀ y:Sc,y=fixS xs.isEmpty x->_:=fun y hy=>hJ (i+1,k2,xs++[y]) ⟨by simp only; omega,by simp only; omega,by simp only; omega,by simp only[List.length_append,List.length_cons,List.length_nil]; omega,by rw[hy]; exact hF⟩ (by simp only; omega)
   simp only[scA];refine zgF ?_
   by_cases h0:xs=[]
   .have q0:((xs.length:Int)==0)=true:=by simp[h0]
    have qe:xs.isEmpty=true:=by simp[h0]
    by_cases h5:x.time=5
    .have q5:(x.time==5)=true:=by simpa using h5
     simp only[go_sem,q0,q5];refine⟨by simp,by first|omega|(simp; done)|(simp; omega),by first|omega|(simp; done)|(simp; omega),by first|omega|(simp; done)|(simp; omega),by first|omega|(simp; done)|(simp; omega),by omega,by omega,?_⟩;rw[e2,e3 ⟨x.no,x.place,x.set,2,x.paras⟩,ei];refine ainv (fin ⟨x.no,x.place,x.set,2,x.paras⟩ (by simp[fixS,qe,q5])) (Shift.low 4 (by simp) (by simp) ?_ ?_)
     .have:=AaY (xs++[⟨x.no,x.place,x.set,2,x.paras⟩])
      simp only[List.take_succ_cons,List.take_zero,List.all_cons,List.all_nil,lowB,flat,cellsOf,lowC,str,Av.frozen,decide_true,List.append_nil,List.cons_append,List.nil_append,AaD this,Nat.reduceLT,Bool.and_self]
     .simp only [go_sem]
    .have q5:(x.time==5)=false:=by simpa using h5
     simp only[go_sem,q0,q5];refine⟨by simp,by first|omega|(simp; done)|(simp; omega),by first|omega|(simp; done)|(simp; omega),by first|omega|(simp; done)|(simp; omega),by first|omega|(simp; done)|(simp; omega),by omega,by omega,?_⟩;rw[e2,e3 ⟨x.no,x.place,x.set,x.time,x.paras⟩,ei];refine ainv (fin ⟨x.no,x.place,x.set,x.time,x.paras⟩ (by simp[fixS,q5])) (Shift.low 4 (by simp) (by simp) ?_ ?_)
     .have:=AaY (xs++[⟨x.no,x.place,x.set,x.time,x.paras⟩])
      simp only[List.take_succ_cons,List.take_zero,List.all_cons,List.all_nil,lowB,flat,cellsOf,lowC,str,Av.frozen,decide_true,List.append_nil,List.cons_append,List.nil_append,AaD this,Nat.reduceLT,Bool.and_self]
     .simp only [go_sem]
   .have q0:((xs.length:Int)==0)=false:=by
     have:xs.length≠0:=by simpa using h0
     simp; omega
    simp only[go_sem,q0];refine⟨by simp,by first|omega|(simp; done)|(simp; omega),by first|omega|(simp; done)|(simp; omega),by first|omega|(simp; done)|(simp; omega),by first|omega|(simp; done)|(simp; omega),by omega,by omega,?_⟩;rw[e2,e3 ⟨x.no,x.place,x.set,x.time,x.paras⟩,ei];refine ainv (fin ⟨x.no,x.place,x.set,x.time,x.paras⟩ (by simp[fixS,h0])) (Shift.low 4 (by simp) (by simp) ?_ ?_)
    .have:=AaY (xs++[⟨x.no,x.place,x.set,x.time,x.paras⟩])
     simp only[List.take_succ_cons,List.take_zero,List.all_cons,List.all_nil,lowB,flat,cellsOf,lowC,str,Av.frozen,decide_true,List.append_nil,List.cons_append,List.nil_append,AaD this,Nat.reduceLT,Bool.and_self]
    .simp only [go_sem]
  .have di:decide ((i:Int)<v)=false:=by simp; omega
   rw[show v.toNat-i=0 by omega]at hF;simp only[AbK]at hF;subst hF;refine AWp.shift (Shift.frz 3 rfl (AaY xs)) ?_;simp only[↓AkY,↓AqX,frzE,frz,frz1,frzC,frzB,List.map_cons,List.map_nil,List.set_cons_succ,List.set_cons_zero,Nat.reduceBEq,cond_true,cond_false,Bool.false_and,Bool.true_and,List.length_map,Nat.zero_add,decide_true,Nat.le_refl,List.drop_zero];have:List.take xs.length (List.map scA xs)=List.map scA xs:=List.take_of_length_le (by simp);simp only[this];refine zgN ?_;simp only[go_sem,di];exact AcH [.cell 2 28] rfl [_] ⟨by simp only[go_sem,sideIs],trivial⟩ ⟨_,_,rfl,rfl,rfl,rfl,rfl⟩
def storyF(L:List Int)(k:Int):Sr×Int:=((scriptF L k).1,(scriptF L k).2+1+(if flipF L (scriptF L k).2 3 then((scriptF L k).1.scenes.length:Int) else 0))
theorem AtX(L:List Int)(k:Int):DrawnR (storyF L k).1/\k<=(storyF L k).2/\(storyF L k).2<=k+40000:=by
 obtain⟨h,a,b⟩:=ApB L k;have:=h.len;unfold storyF;refine⟨h,?_,?_⟩
 .simp only; split <;> omega
 .simp only; split <;> omega
theorem A2N{S:Std}(hS:LibOk S)(L:List Int)(k:Int)(h3:0<=k)(h4:k<=500000) :
  McH prog S 8 2 (str L k) [] (fun r s=>r=srA (numR (storyF L k).1)/\s=str L (storyF L k).2):=by
 have hsc:=A2M L k (by omega) (by omega);obtain⟨hx,t1,t2⟩:=ApB L k;unfold storyF;generalize scriptF L k=w at *;obtain⟨⟨ti,xs⟩,k'⟩:=w;simp only at hsc hx t1 t2 |-;have hfl:=AaZ L k' 3 (by decide) (by decide) (by omega) (by omega);generalize flipF L k' 3=fb at *;obtain⟨kf,hkf⟩:∃ z:Int,z=k'+1+(if fb=true then((xs.length:Nat):Int) else 0):=⟨_,rfl⟩;rw[<- hkf];refine zdIF func8 rfl fun h ρ w hg=>?_
 simp only[go_sem];refine zm 0 (hsc) ?_;rintro _ _ ⟨rfl,rfl⟩;have hlen:xs.length<=5:=hx.len
 cases xs with
 | nil =>
  refine zgF ?_;simp only[go_sem];refine zqN hg (AtP hS ⟨ti,[]⟩ (by simp)) ?_;have e0:srA (numR ⟨ti,[]⟩)=.agg [.str ti,.fz 5 []]:=rfl;rw[e0];simp only[go_sem];refine zm 0 (hfl) ?_;rintro _ _ ⟨rfl,rfl⟩
  cases fb with
  | true =>
   refine zgF ?_;simp only[go_sem];refine AcY (around (zgN ?_));simp only[go_sem];exact AcH [.cell 2 28] rfl [_] ⟨by simp only[go_sem,sideIs,numR,numL],trivial⟩ ⟨_,_,rfl,rfl,by rw[hkf]; simp,rfl,rfl⟩
  | false =>
   refine zgF ?_;simp only[go_sem];exact AcH [.cell 2 28] rfl [_] ⟨by simp only[go_sem,sideIs,numR,numL],trivial⟩ ⟨_,_,rfl,rfl,by rw[hkf]; simp,rfl,rfl⟩
 | cons x xs =>
  refine zgF ?_;simp only[go_sem];refine zaH hg (AtU hS L k' ti x xs (by simp at hlen; omega)) ?_;rintro _ _ ⟨rfl,rfl⟩;refine zgF ?_;simp only[go_sem,blkS,blkZ];refine zm 0 (hfl) ?_;rintro _ _ ⟨rfl,rfl⟩;have htake:List.take (xs.length+1) (List.map scA (numL 0 (x::xs)))=List.map scA (numL 0 (x::xs)):=List.take_of_length_le (by simp[numL_len]);have hl5:xs.length+1<=5:=by simpa using hlen
  cases fb with
  | false =>
   refine AWp.shift (Shift.frz 4 rfl (AaY _)) ?_;simp only[Go.Av.put,srA,↓AkY,↓AqX,frzE,frz,frz1,frzC,frzB,List.map_cons,List.map_nil,List.set_cons_succ,List.set_cons_zero,Nat.reduceBEq,cond_true,cond_false,Bool.false_and,Bool.true_and,List.length_map,Nat.zero_add,numL_len,List.length_cons,decide_true,Nat.le_refl,List.drop_zero];simp only[htake];refine zgF ?_;simp only[go_sem];exact AcH [.cell 2 28] rfl [_] ⟨by simp only[go_sem,sideIs,numR],trivial⟩ ⟨_,_,rfl,rfl,by rw[hkf]; simp,rfl,rfl⟩
  | true =>
   refine zgF ?_;simp only[go_sem];refine⟨by simp[numL_len],?_⟩;refine AaC (ι:=Nat) (fun y=>5-y)
    (fun y=>[(14,.int .i64 y),(13,.int .i64 ↑(xs.length+1)),(4,.str (AbI y)),(3,.ptr 6 1 0 0),(2,.ptr 1 1 0 0),(0,.ptr 0 1 0 0)])
    (fun y=>[.arr 2 [str L (k'+1+y)],.arr 2 [.agg [.str [],.raw (.slice none 0 0)]],.arr 2 [srA ⟨ti,x::xs⟩],.arr 2 [.agg [.str ti,.sl 4 0 (xs.length+1) (xs.length+1)]],.arr 5 (List.map scA (numL 0 (x::xs))),.arr 2 [.agg [.str ti,.sl 4 0 (xs.length+1) (xs.length+1)]],.arr 2 [.agg [.str ti,.sl 4 0 (xs.length+1) (xs.length+1)]]])
    (fun y=>y<=xs.length+1) 0 (by simp) ?_ ?_
   .have h0:k'+1+((0:Nat):Int)=k'+1:=by omega
    simp only[h0];refine Shift.weak ?_;simp only[go_sem,AbI]
   .intro i g1 J hJ
    by_cases gi:i<xs.length+1
    .have di:decide ((i:Int)<((xs.length+1:Nat):Int))=true:=by simp; omega
     have hlast:(AbI (i+1)==[])=false:=by
      have:=AiW i (by omega);rw[this.2.2.2.2.2.2.2.2]; exact this.2.2.2.2.2.2.2.1
     refine zgF ?_;simp only[go_sem,di];have ho1:=AbJ L (k'+1+i) [[],[],[57]] (by decide) (by decide) (by omega) (by omega);have hz:=AaI (L:=L) (k:=k'+1+i) (ls:=[[],[],[57]]) (by decide);generalize oneF L (k'+1+i) [[],[],[57]]=z at *;have hzz:z=[]\/z=[57]:=by simpa using hz
     refine zm 0 (ho1) ?_;rintro _ _ ⟨rfl,rfl⟩;refine zgF ?_;simp only[go_sem];refine zqF hg (ArA hS i (by omega) z hzz) ?_;have hi:i<(x::xs).length:=by simpa using gi
     have hget:(List.map scA (numL 0 (x::xs)))[i]? = some (.agg [.str (AbI (i+1)),.int .i64 (x::xs)[i].place,.str (x::xs)[i].set,.int .i64 (x::xs)[i].time,.fz 2 ((x::xs)[i].paras.map paA)]):=by
      rw[List.getElem?_map,ArB _ _ _ hi];simp only[Option.map_some,nm,scA,Nat.zero_add,AzW i (by omega)]
     have hgd:List.getD (List.map scA (numL 0 (x::xs))) i .any=.agg [.str (AbI (i+1)),.int .i64 (x::xs)[i].place,.str (x::xs)[i].set,.int .i64 (x::xs)[i].time,.fz 2 ((x::xs)[i].paras.map paA)]:=by
      rw[List.getD_eq_getElem?_getD,hget]; rfl
     simp only[go_sem,hlast,hgd];have hset:=set_same hget;refine⟨by simp[numL_len],by omega,by omega,Nat.le_refl _,by simp[numL_len]; omega,by omega,by omega,?_⟩;rw[hset,show k'+1+(i:Int)+1=k'+1+((i+1:Nat):Int) by omega,show(i:Int)+1=((i+1:Nat):Int) by omega];refine ainv (hJ (i+1) (by omega) (by omega)) (Shift.weak ?_);simp only[go_sem]
    .have di:decide ((i:Int)<((xs.length+1:Nat):Int))=false:=by simp; omega
     refine AWp.shift (Shift.frz 4 rfl (AaY _)) ?_;simp only[Go.Av.put,srA,↓AkY,↓AqX,frzE,frz,frz1,frzC,frzB,List.map_cons,List.map_nil,List.set_cons_succ,List.set_cons_zero,Nat.reduceBEq,cond_true,cond_false,Bool.false_and,Bool.true_and,List.length_map,Nat.zero_add,numL_len,List.length_cons,decide_true,Nat.le_refl,List.drop_zero];simp only[htake];refine zgF ?_;simp only[go_sem,di];exact AcH [.cell 2 28] rfl [_] ⟨by simp only[go_sem,sideIs,numR],trivial⟩ ⟨_,_,rfl,rfl,by rw[hkf,show i=xs.length+1 by omega]; simp,rfl,rfl⟩
end Go.Proofs.YtnfkjpihaficbaaGreatDoor
set_option linter.unusedSectionVars false
namespace Go.Av
open Go Go.RowKit
variable [Tr]
def BcX:Blk->Blk->Prop
 | .arr e l,.arr e' l'=>e=e'/\l.length=l'.length
 | .arr _ _,_=>False
 | _,.arr _ _=>False
 | _,_=>True
def Like(s s':List Blk):Prop:=∀ id,BcX (s.getD id .dead) (s'.getD id .dead)
theorem ApC:∀ b,BcX b b
 | .arr _ _=>⟨rfl,rfl⟩
 | .mp _=>trivial
 | .it ..=>trivial
 | .dead=>trivial
theorem A2O:∀ {a b},BcX a b->BcX b a:=by
 intro a b h
 cases a <;> cases b <;> first|exact⟨h.1.symm,h.2.symm⟩|exact trivial|exact h.elim
theorem Like.symm{s s':List Blk}(h:Like s s'):Like s' s:=fun id=>A2O (h id)
def ArD:Op->Bool
 | .indexAddr ..|.fieldAddr ..=>true
 | .binOp .add ..|.binOp .sub ..=>true
 | _=>false
def BcY:Op->Bool
 | .store ..=>true
 | _=>false
theorem AiY{op:Op}(h:ArD op=true):calm op=true:=by
 cases op <;> first|rfl|(exfalso; revert h; simp[ArD]; done)
theorem AgU{p:Prop}{s s':List Blk}(h:Like s s')(x:AV)(k:Nat):xptrAddIf p s x k=xptrAddIf p s' x k:=by
 unfold xptrAddIf
 split <;> try rfl
 rename_i id n j off;have:=h id
 cases h1:s.getD id .dead <;> cases h2:s'.getD id .dead <;> rw[h1,h2]at this <;> first|rfl|exact this.elim|skip
 obtain⟨rfl,e⟩:=this;simp only[e]
theorem BcZ{P:Program}{e:Env}{s s':List Blk}(h:Like s s'){op:Op}(ho:ArD op=true):xop false true P e s op=xop false true P e s' op:=by
 cases op <;> try(exfalso; revert ho; simp[ArD]; done)
 .rename_i b t x y t2
  cases b <;> try(exfalso; revert ho; simp[ArD]; done)
  all_goals
   simp only[xop,AnZ]
   split
   .rfl
   .unfold ApZ
    split <;> rfl
 .rename_i t x f
  simp only[xop,AcM]
  split
  .exact AgU h _ _
  .rfl
 .rename_i t x i
  simp only[xop];generalize ev e x=xv;generalize ev e i=iv;generalize P.underlying t=td;unfold AbS
  split
  .exact AgU h _ _
  .cases xv <;> try rfl
   rename_i id off len cap;have:=h id;simp only
   cases h1:s.getD id .dead <;> cases h2:s'.getD id .dead <;> rw[h1,h2]at this <;> first|rfl|exact this.elim|skip
   obtain⟨rfl,he⟩:=this;simp only[he]
  .rfl
theorem BdA{s:List Blk}{id e:Nat}{l l':List AV}(h:s.getD id .dead=.arr e l)(hl:l.length=l'.length):Like s (s.set id (.arr e l')):=by
 intro k
 by_cases hk:k=id
 .subst hk
  have:k<s.length:=by
   rcases Nat.lt_or_ge k s.length with h3|h3
   .exact h3
   .simp [List.getD,List.getElem?_eq_none h3]at h
  have e2:(s.set k (.arr e l')).getD k .dead=.arr e l':=by simp[List.getD,this]
  rw[h,e2];exact⟨rfl,hl⟩
 .have e2:(s.set id (.arr e l')).getD k .dead=s.getD k .dead:=by
   simp only[List.getD,List.getElem?_set_ne (Ne.symm hk)]
  rw[e2];exact ApC _
theorem ApD{c:Cx}{ops:Array Oper}{s s1:List Blk}{o:Oper}{cv v:AV}{e:Env}(ho:BcY o.op=true)(h:Does c ops s o cv e v s1):Like s s1:=by
 have hd:DoesOp c s o cv e v s1->Like s s1:=by
  intro h;unfold DoesOp at h
  cases hop:o.op <;> rw[hop]at ho h <;> try(exfalso; revert ho; simp[BcY]; done)
  rename_i t x u;simp only[xop]at h;generalize ev e x=xv at h;generalize cellsOf (ev e u)=vs at h;have hx:∀ q,AlQ (tsize c.P t) s xv (ev e u)=q->(∃ p w s3,q=.sto p w s3/\Like s s3)\/q=.stuck:=by
   intro q hq;subst hq
   cases xv <;> try exact .inr rfl
   rename_i id n j off;simp only[AlQ]
   cases hb:s.getD id .dead with
   | arr e' l=>exact .inl ⟨_,_,_,rfl,BdA hb (by simp)⟩
   | mp es=>exact .inr rfl
   | it a b c=>exact .inr rfl
   | dead=>exact .inr rfl
  rcases hx _ rfl with⟨p,w,s3,e1,e2⟩|e1
  .rw [e1]at h
   simp only at h;rw[h.2.2.2];exact e2
  .rw [e1]at h
   exact h.elim
 unfold Does at h
 split at h
 .exact hd h
 .split at h
  .rcases h with⟨_,h⟩|⟨_,_,rfl⟩
   .exact hd h
   .exact fun _=>ApC _
  .exact h.elim
theorem DoesOp.like{c:Cx}{s s' s2:List Blk}{o:Oper}{cv v:AV}{e:Env}(hc:ArD o.op=true)(hl:Like s s2)(h:DoesOp c s o cv e v s'):DoesOp c s2 o cv e v s2:=by
 have hcc:=AiY hc;unfold DoesOp at h |-;rw[BcZ hl hc]at h
 split at h <;> rename_i hq
 .exact ⟨h.1,rfl⟩
 .exact ⟨h.1,h.2.1,rfl⟩
 .rw [hcc]at h; cases h.1
 .exact ⟨h.1,rfl⟩
 .exact ⟨h.1,h.2.1,h.2.2.1,rfl⟩
 .exact h.elim
theorem Does.like{c:Cx}{ops:Array Oper}{s s' s2:List Blk}{o:Oper}{cv v:AV}{e:Env}(hc:ArD o.op=true)(hl:Like s s2)(h:Does c ops s o cv e v s'):Does c ops s2 o cv e v s2:=by
 unfold Does at h |-
 split at h
 .exact h.like hc hl
 .split at h
  .rcases h with⟨h1,h⟩|⟨h1,h2,h⟩
   .exact .inl ⟨h1,h.like hc hl⟩
   .exact .inr ⟨h1,h2,rfl⟩
  .exact h.elim
def swp(x y:Oper):Bool:=ArD x.op&&BcY y.op||BcY x.op&&ArD y.op
def okSw(ops:List Oper)(j i:Nat):Bool:=match ops[j]?,ops[i]? with
 | some oj,some oi=>oj.apart ops.toArray oi&&(together oj oi||swp oj oi)
 | _,_=>false
section
variable {cx:Cx}{ops:Array Oper}{s:List Blk}{K:Env->List Blk->Prop}
theorem Chain.swapS{opl:List Oper}(hops:ops=opl.toArray)(hK:∀ e e' s,Eqv e e'->K e s->K e' s){i j:Nat}{r:List Nat}(hok:okSw opl j i=true){e:Env}{s:List Blk}(c:Chain cx ops K (j::i::r) e s) :
  Chain cx ops K (i::j::r) e s:=by
 unfold okSw at hok
 split at hok
 rotate_left
 .cases hok
 rename_i oj oi hj' hi';have hj:ops[j]? = some oj:=by rw[hops]; simpa using hj'
 have hi:ops[i]? = some oi:=by rw[hops]; simpa using hi'
 simp only[Bool.and_eq_true,Bool.or_eq_true]at hok;obtain⟨ha,hok⟩:=hok;rw[<- hops]at ha
 rcases hok with hok|hok
 .exact Chain.swap hK hj hi ha hok c
 obtain⟨a1,a2,a3⟩:=Oper.apart_spec ha;simp only[Chain,hj,hi]at c |-;obtain⟨cv,v,s1,h1,cu,u,s2,h2,h3⟩:=c;have h2':Does cx ops s1 oi cu e u s2:=h2.agree fun t ht=>by
  rw[get_put,if_neg]; intro h; exact a1 t h ht
 have h1':∀ {z z'},Does cx ops z oj cv e v z'->Does cx ops z oj cv (put e oi.dst u) v z':=fun hd=>hd.agree fun t ht=>by
  rw[get_put,if_neg]; intro h; exact a3 t h ht
 have h3':=Chain.congr hK (AfX a2) h3;simp only[swp,Bool.or_eq_true,Bool.and_eq_true]at hok
 rcases hok with⟨c1,c2⟩|⟨c1,c2⟩
 .have e1:=h1.calm (AiY c1)
  subst e1;exact⟨cu,u,_,h2',cv,v,_,h1' (h1.like c1 (ApD c2 h2')),h3'⟩
 .have e2:=h2.calm (AiY c2)
  subst e2;exact⟨cu,u,_,h2'.like c2 (ApD c1 h1).symm,cv,v,_,h1' h1,h3'⟩
theorem Chain.frontS{opl:List Oper}(hops:ops=opl.toArray)(hK:∀ e e' s,Eqv e e'->K e s->K e' s){i:Nat}{r:List Nat}:∀ {l:List Nat}{e:Env}{s:List Blk},(∀ j∈l,okSw opl j i=true) ->
  Chain cx ops K (l++i::r) e s->Chain cx ops K (i::(l++r)) e s
 | [],_,_,_,c=>c
 | j::l,e,s,h,c=>by
  refine Chain.swapS hops hK (h j (by simp)) ?_;simp only[List.cons_append,Chain]at c |-
  split at c
  .rename_i o ho
   obtain⟨cv,v,s',h1,h2⟩:=c;exact⟨cv,v,s',h1,Chain.frontS hops hK (fun k hk=>h k (by simp[hk])) h2⟩
  .exact c.elim
end
section
variable {c:Cx}{k:List It}{e:Env}{s:List Blk}
theorem AzZ(cs:List AV){id:Nat}{ops:List Oper}(hm:c.P.follows .mixedOrders=true)(hok:AhE (okSw ops) ops=true){N:Nat}(hN:c.fn.ntmps=N)(hdst:ops.all (fun o=>dOk N o.dst)=true)(n:Nat)
  (h:dx c ops k n ops cs e s):AWp c (.code (.region id ops.toArray true)::k) e s:=by
 intro a w hsim;have hch:=AhD (m:=0) (by intro j; simp) h;rw[<- List.range_eq_range']at hch;refine wp_region_any hm ?_;have hsim':Sim c e s a { w with drawn:=w.drawn+1 }:=by
  obtain⟨hh,ρ,hmm,hl,he,hdf,hsz,hX⟩:=hsim;have sm:Same w { w with drawn:=w.drawn+1 }:=Same.drew w;exact⟨hh,ρ,hmm.same sm,hl.trans (Later.same sm),he,hdf,hsz,c.hx.later hmm (Later.same sm) hX⟩
 have hd:∀ o∈ops,dOk c.fn.ntmps o.dst=true:=fun o ho=>by rw[hN]; exact(List.all_eq_true.1 hdst) o ho
 refine AfY (okp:=okSw ops) (Chain c ops.toArray (fun e s=>AWp c k e s)) hok (fun e s x=>x) (fun l i r e s hj x=>Chain.frontS rfl AWp.K hj x)
  (fun i o r e s a w Kc ho x hs hK=>?_)
  ops.length (Array.replicate ops.length false) (List.range ops.length) e s a _ (by simp) ?_ (by simp) ?_ hch hsim'
 .have ho':ops.toArray[i]? = some o:=by simpa using ho
  simp only[Chain,ho']at x;obtain⟨cv,v,s',h1,h2⟩:=x;exact AhC hs (hd o (List.mem_of_getElem? ho)) h1 fun a w hs'=>hK _ _ a w h2 hs'
 .symm
  rw[List.filter_eq_self];intro i hi
  simp at hi
  simp[hi]
 .intro i hi j hj
  exfalso
  by_cases h1:i<ops.length
  .simp [h1]at hi
  .unfold AbT at hj
   have:ops[i]? = none:=by simp; omega
   simp[this]at hj
end
end Go.Av
namespace Go.Av
open Go Go.RowKit
variable [Tr]
variable {c:Cx}{s:List Blk}
end Go.Av
namespace Go.Av
open Go Go.RowKit
variable [Tr]
theorem Agr.rfl'{n id:Nat}{s:List Blk}:Agr n id s s:=fun _ _ _=>rfl
def ApE(c:Cx)(n:Nat)(f:FuncId)(args:List AV)(id:Nat)(s:List Blk)(K:AV->List Blk->Prop):Prop :=
 ∃ post:AV->List Blk->Prop,(AaB c.P f=true/\∀ h ρ w vs,Mine h ρ s w->Later c.h c.ρ c.sto c.w h ρ s w->RL h (Lf ρ s) false vs args->Calls c.P f vs.toArray w fun en w' =>
  ∃ v r s' h' ρ',en=.returned v/\post r s'/\Mine h' ρ' s' w'/\Later h ρ s w h' ρ' s' w'/\RV h' (Lf ρ' s') false v r)/\(∃ r s',post r s')/\∀ r s',post r s'->Agr n id s s'/\K r s'
section
variable {cx:Cx}{ops:Array Oper}{s:List Blk}{K:Env->List Blk->Prop}{im:List Nat}{n0 id:Nat}
end
section
variable {c:Cx}{k:List It}{e:Env}{s:List Blk}
mutual
def dxn(c:Cx)(all:List Oper)(im:List Nat)(n0 id:Nat)(k:List It):Nat->List Oper->List AV->Env->List Blk->Prop
 | _,[],_,e,s=>AWp c k e s
 | 0,_::_,_,_,_=>False
 | n+1,o::r,cs,e,s=>bif im.contains (rix all (o::r)) then
   (match o.guard,xop false true c.P e s o.op with
    | none,.call f args=>ApE c n0 f args id s (fun v s'=>dxn c all im n0 id k n r cs (put e o.dst v) s')
    | _,_=>False)
  else dck (reader o.op&&!blind o.op) n0 id e o.op/\dxnc c all im n0 id k n (dgrd c all s o r cs e o.guard)
def dxnc(c:Cx)(all:List Oper)(im:List Nat)(n0 id:Nat)(k:List It):Nat->Dn->Prop
 | n,.go r cs e s=>dxn c all im n0 id k n r cs e s
 | n,.two b r cs e r' cs' e' s=>dbrn c all im n0 id k n b r cs e r' cs' e' s
 | n,.side p r cs e s=>p/\dxn c all im n0 id k n r cs e s
 | _,.fail=>False
def dbrn(c:Cx)(all:List Oper)(im:List Nat)(n0 id:Nat)(k:List It):Nat->Bool->List Oper->List AV->Env->List Oper->List AV->Env->List Blk->Prop
 | 0,_,_,_,_,_,_,_,_=>False
 | n+1,b,r,cs,e,r',cs',e',s=>(b=true->dxn c all im n0 id k n r cs e s)/\(b=false->dxn c all im n0 id k n r' cs' e' s)
end
theorem icc{n:Nat}{f:FuncId}{args:List AV}{post:AV->List Blk->Prop}{K:AV->List Blk->Prop}{id:Nat}(hc:Ct c.P f args s post)(hin:∃ r s',post r s')(hk:∀ r s',post r s'->Agr n id s s'/\K r s'):ApE c n f args id s K :=
 ⟨post,⟨hc.1,fun h ρ w vs m l rr=>hc.2 h ρ w vs m rr⟩,hin,hk⟩
theorem Agr.push'{n id:Nat}{s:List Blk}(h:n<=s.length)(t:List Blk):Agr n id s (s++t):=fun i hi _=>by
 rw[List.getD_eq_getElem?_getD,List.getD_eq_getElem?_getD,List.getElem?_append_left (by omega)]
end
end Go.Av
namespace Go.Proofs.YtnfkjpihaficbaaGreatDoor
open Go Go.Av Go.RowKit _root_.Go.Proofs.Tryz
def NoL:List (List UInt8):=[[],[49],[50],[57],[49,50],[49,50,66],[49,50,65,66],[49,50,66,66],[49,50,90,90,90,90,90],[49,51],[48,66],[48,65,66],[48,65,65,65,65,66],[57,57,57],[57,57,57,66],[57,57,57,90,90,90,90,90],[57,57,56,90,90,90,90,90],[49,65],[48],[48,49],[49,98],[49,48,48,48]]
theorem BiE:∀ s∈NoL,s.length<10:=by decide
theorem A7B(L:List Int)(k:Int)(h3:0<=k)(h4:k<=900000):Mc prog 101 2 (str L k) [] (fun r s=>r=.str (oneF L k NoL)/\s=str L (k+1)):=by
 refine zcIB func101 rfl fun h ρ w=>?_
 simp only[go_sem];refine zm 0 (AbJ L k NoL (by decide) (by decide) h3 (by omega)) ?_;rintro _ _ ⟨rfl,rfl⟩;refine zgB ?_;simp only[go_sem];exact aret [2] rfl ⟨_,_,rfl,rfl,rfl,rfl,rfl⟩
def noF(L:List Int)(k:Int)(x:Sr):List UInt8×Int :=
 if x.scenes.length=0 then(oneF L k NoL,k+1)
 else if flipF L k 12 then(oneF L (k+1) NoL,k+1+1)
 else((x.scenes.map (·.no)).getD (nx L (k+1) x.scenes.length).toNat [],k+1+1)
theorem A0A(L:List Int)(k:Int)(x:Sr):k<=(noF L k x).2/\(noF L k x).2<=k+2:=by
 unfold noF
 split
 .exact ⟨by simp only; omega,by simp only; omega⟩
 .split <;> exact⟨by simp only; omega,by simp only; omega⟩
theorem BfJ(L:List Int)(k:Int)(x:Sr)(hl:x.scenes.length<=1000)(h3:0<=k)(h4:k<=850000):Mc prog 47 2 (str L k) [srA x] (fun r s=>r=.str (noF L k x).1/\s=str L (noF L k x).2):=by
 unfold noF;simp only[srA]
 by_cases h0:x.scenes.length=0
 .rw [if_pos h0]
  have d0:((x.scenes.length:Int)==0)=true:=by rw[h0]; rfl
  refine zcIB func47 rfl fun h ρ w=>?_
  simp only[go_sem,d0,List.length_map];refine zm 0 (A7B L k h3 (by omega)) ?_;rintro _ _ ⟨rfl,rfl⟩;refine zgB ?_;simp only[go_sem];exact aret [4] rfl ⟨_,_,rfl,rfl,rfl,rfl,rfl⟩
 .rw [if_neg h0]
  have d0:((x.scenes.length:Int)==0)=false:=by rw[beq_eq_false_iff_ne]; omega
  have hfl:=AaZ L k 12 (by decide) (by decide) h3 (by omega);generalize flipF L k 12=b at *;have hb:=AcV L (k+1) x.scenes.length (by omega);have hnx:=AbW L (k+1) x.scenes.length (by omega) (by omega) (by omega) (by omega);generalize nx L (k+1) x.scenes.length=v at *;obtain⟨b1,b2⟩:=hb;refine zcIB func47 rfl fun h ρ w=>?_
  simp only[go_sem,d0,List.length_map];refine zm 0 (hfl) ?_;rintro _ _ ⟨rfl,rfl⟩
  cases b with
  | true =>
   refine zgB ?_;simp only[go_sem];refine zm 0 (A7B L (k+1) (by omega) (by omega)) ?_;rintro _ _ ⟨rfl,rfl⟩;refine zgB ?_;simp only[go_sem];exact aret [4] rfl ⟨_,_,rfl,rfl,rfl,rfl,rfl⟩
  | false =>
   obtain⟨i,rfl⟩:∃ i:Nat,v=i:=⟨v.toNat,by omega⟩;have hi:i<x.scenes.length:=by omega
   have hget:=AdL x.scenes i (by omega);have hno:(x.scenes.map (·.no)).getD ((i:Int)).toNat []=(x.scenes[i]'(by omega)).no:=by simp[List.getD,show i<x.scenes.length by omega]
   simp only[Bool.false_eq_true,if_false,hno];refine zgB ?_;simp only[go_sem];refine AoV [6] 0 [] mixed (by decide) rfl rfl 100 ?_;simp only[go_sem,List.length_map,Array.toList_append]
   repeat refine aj ?_
   refine BcF hnx rfl rfl rfl ⟨_,_,rfl,rfl⟩ ?_;rintro _ _ ⟨rfl,rfl⟩;simp only[go_sem,hget,List.length_map]
   repeat refine aj ?_
   refine zgB ?_;simp only[go_sem];exact aret [4] rfl ⟨_,_,rfl,rfl,rfl,rfl,rfl⟩
def ElA:List (List UInt8):=[[],[71,117,110,115],[32,97],[97,32,32,98],[97,110,110],[110,110,110,110,110,110,110,110,110,110,110,110,110,110,110,110,110,110,110,110,110,110,110,110,110,110,110,110,110,110,110,110,110,110,110,110,110,110,110,110],[110,110,110,110,110,110,110,110,110,110,110,110,110,110,110,110,110,110,110,110,110,110,110,110,110,110,110,110,110,110,110,110,110,110,110,110,110,110,110,110,110]]
def ElB:List (List UInt8):=[[103,117,110,115],[114,101,100,32,99,97,114],[49,50]]
def elF(L:List Int)(k:Int):El×Int :=
 if flipF L k 12 then(⟨rangeF L (k+1) 0 12,oneF L (k+1+1) ElA⟩,k+1+1+1)
 else if flipF L (k+1) 3 then(⟨11,oneF L (k+1+1) NameL⟩,k+1+1+1)
 else(⟨pickF L (k+1+1) [1,2,2,3,6,10],oneF L (k+1+1+1) ElB⟩,k+1+1+1+1)
theorem A0B(L:List Int)(k:Int):k<=(elF L k).2/\(elF L k).2<=k+4:=by
 unfold elF
 split
 .exact ⟨by simp only; omega,by simp only; omega⟩
 .split <;> exact⟨by simp only; omega,by simp only; omega⟩
theorem BlO(L:List Int)(k:Int):0<=(elF L k).1.kind/\(elF L k).1.kind<=12/\(elF L k).1.name.length<=41:=by
 have h1:∀ s∈ElA,s.length<=41:=by decide
 have h2:∀ s∈NameL,s.length<=41:=by decide
 have h3:∀ s∈ElB,s.length<=41:=by decide
 have h4:∀ n∈[(1:Int),2,2,3,6,10],0<=n/\n<=12:=by decide
 unfold elF
 split
 .have:=AcV L (k+1) (12-0+1) (by decide)
  exact⟨by simp only[rangeF]; omega,by simp only[rangeF]; omega,h1 _ (AaI (by decide))⟩
 .split
  .exact ⟨by simp only; omega,by simp only; omega,h2 _ (AaI (by decide))⟩
  .have:=h4 _ (AfK (L:=L) (k:=k+1+1) (ls:=[1,2,2,3,6,10]) (by decide))
   exact⟨this.1,this.2,h3 _ (AaI (by decide))⟩
def elA(e:El):AV:=.agg [.int .i64 e.kind,.str e.name]
theorem BfK(L:List Int)(k:Int)(h3:0<=k)(h4:k<=900000):Mc prog 27 2 (str L k) [] (fun r s=>r=elA (elF L k).1/\s=str L (elF L k).2):=by
 have hf1:=AaZ L k 12 (by decide) (by decide) h3 (by omega);have hf2:=AaZ L (k+1) 3 (by decide) (by decide) (by omega) (by omega);have hra:=AdM L (k+1) 0 12 (by decide) (by decide) (by decide) (by omega) (by omega);have hoa:=AbJ L (k+1+1) ElA (by decide) (by decide) (by omega) (by omega);have hon:=AbJ L (k+1+1) NameL (by decide) (by decide) (by omega) (by omega);have hpi:=AcR L (k+1+1) [1,2,2,3,6,10] (by decide) (by decide) (by omega) (by omega);have hob:=AbJ L (k+1+1+1) ElB (by decide) (by decide) (by omega) (by omega);have hr1:=AeG [110] 40 (by decide) (by decide);have hr2:=AeG [110] 41 (by decide) (by decide);unfold elF;generalize flipF L k 12=b1 at *;generalize flipF L (k+1) 3=b2 at *;generalize rangeF L (k+1) 0 12=v1 at *;generalize oneF L (k+1+1) ElA=v2 at *;generalize oneF L (k+1+1) NameL=v3 at *;generalize pickF L (k+1+1) [1,2,2,3,6,10]=v4 at *;generalize oneF L (k+1+1+1) ElB=v5 at *;refine zcIB func27 rfl fun h ρ w=>?_
 simp only[go_sem];refine zm 0 (hf1) ?_;rintro _ _ ⟨rfl,rfl⟩
 cases b1 with
 | true =>
  refine zgB ?_;simp only[go_sem];refine zm 0 (hra) ?_;rintro _ _ ⟨rfl,rfl⟩;refine zgB ?_;simp only[go_sem];refine zpB (hr1) ?_;simp only[go_sem];refine zpB (hr2) ?_;simp only[go_sem];refine zm 0 (hoa) ?_;rintro _ _ ⟨rfl,rfl⟩;refine zgB ?_;simp only[go_sem];exact AcH [.cell 2 44] rfl [_] ⟨by simp only[go_sem,sideIs,elA],trivial⟩ ⟨_,_,rfl,rfl,rfl,rfl,rfl⟩
 | false =>
  refine zgB ?_;simp only[go_sem];refine zm 0 (hf2) ?_;rintro _ _ ⟨rfl,rfl⟩
  cases b2 with
  | true =>
   refine zgB ?_;simp only[go_sem];refine zpB (AzN) ?_;simp only[go_sem];refine zm 0 (hon) ?_;rintro _ _ ⟨rfl,rfl⟩;refine zgB ?_;simp only[go_sem];exact AcH [.cell 2 44] rfl [_] ⟨by simp only[go_sem,sideIs,elA],trivial⟩ ⟨_,_,rfl,rfl,rfl,rfl,rfl⟩
  | false =>
   refine zgB ?_;simp only[go_sem];refine zm 0 (hpi) ?_;rintro _ _ ⟨rfl,rfl⟩;refine zgB ?_;simp only[go_sem];refine zm 0 (hob) ?_;rintro _ _ ⟨rfl,rfl⟩;refine zgB ?_;simp only[go_sem];exact AcH [.cell 2 44] rfl [_] ⟨by simp only[go_sem,sideIs,elA],trivial⟩ ⟨_,_,rfl,rfl,rfl,rfl,rfl⟩
