/- A scene and a script that are drawn, told exactly. -/
import Derived.Test.YtgenkcmfeeakoaaGreatDoorX22
import Derived.RangeFuncRecord
import Derived.RangeFuncIn
import Derived.Sort.LoopGhostIn
import Derived.OrdersIn
import Derived.TacticsIn
import Derived.RangeFuncLeaves
import Derived.RangeFuncOwn
set_option maxRecDepth 100000
set_option maxHeartbeats 2000000
set_option linter.all false
namespace Go.Proofs.YtgenkcmfeeakoaaGreatDoor
open Av RowKit Proofs.Tryz
def AbP(L:List Int):Nat->Int×List Pa->Int×List Pa
 | 0,x=>x
 | n+1,x=>AbP L n ((parasF L x.1).2,x.2++(parasF L x.1).1)
theorem ArV(L:List Int):∀ (n:Nat)(x:Int×List Pa),(∃ e,runL 0 x.2=some e/\e≠2/\e≠3)->(∀ p∈x.2,DrawnP p) ->
  (∃ e,runL 0 (AbP L n x).2=some e/\e≠2/\e≠3)/\(∀ p∈(AbP L n x).2,DrawnP p)/\x.1<=(AbP L n x).1/\(AbP L n x).1<=x.1+400*n/\(AbP L n x).2.length<=x.2.length+5*n
 | 0,x,h,ha=>⟨h,ha,Int.le_refl _,by simp[AbP],by simp[AbP]⟩
 | n+1,x,⟨e,h1,h2,h3⟩,ha=>by
  obtain⟨b1,b2,b3⟩:=AoS L x.1;obtain⟨e',r1,r2,r3⟩:=b1.run e h2 h3;obtain⟨c1,c2,c3,c4,c5⟩:=ArV L n ((parasF L x.1).2,x.2++(parasF L x.1).1) ⟨e',by simp only; rw[runL_append _ _ _ _ h1]; exact r1,r2,r3⟩ (fun p hp=>by
   rcases List.mem_append.1 hp with hp|hp
   .exact ha p hp
   .exact b1.all p hp)
  have:=b1.len.2;simp only[AbP];simp only[lah]at c3 c4 c5;exact⟨c1,c2,by omega,by push_cast; omega,by omega⟩
theorem ArW(L:List Int):∀ (n:Nat)(x:Int×List Pa),wtL (AbP L n x).2<=wtL x.2+13*n
 | 0,x=>by simp[AbP]
 | n+1,x=>by
  have h1:=ArW L n ((parasF L x.1).2,x.2++(parasF L x.1).1);have h2:=(AoS L x.1).1.wt;simp only[ArQ]at h1;simp only[AbP];omega
def sceneF(L:List Int)(k:Int):Sc×Int :=
 (⟨[],rangeF L k 1 3,oneF L (k+1) SetL,rangeF L (k+1+1) 1 5,(AbP L (nx L (k+1+1+1+1) (pickF L (k+1+1+1) [2,5,12])).toNat (k+1+1+1+1+1,[])).2⟩,
  (AbP L (nx L (k+1+1+1+1) (pickF L (k+1+1+1) [2,5,12])).toNat (k+1+1+1+1+1,[])).1)
theorem B0H(L:List Int)(k:Int):1<=pickF L k [2,5,12]/\pickF L k [2,5,12]<=12:=(show ∀ x∈[(2:Int),5,12],1<=x/\x<=12 by decide) _ (AjY (by decide))
theorem AjB(L:List Int)(k b:Int)(hb:1<=b):1<=rangeF L k 1 b/\rangeF L k 1 b<=b:=by
 have:=AgF L k (b-1+1) (by omega);unfold rangeF; omega
theorem AyB(L:List Int)(k:Int):DrawnS (sceneF L k).1/\k<=(sceneF L k).2/\(sceneF L k).2<=k+5000:=by
 have hp:=B0H L (k+1+1+1);have hn:=AgF L (k+1+1+1+1) (pickF L (k+1+1+1) [2,5,12]) hp.1;unfold sceneF;generalize nx L (k+1+1+1+1) (pickF L (k+1+1+1) [2,5,12])=v at *;obtain⟨c1,c2,c3,c4,c5⟩:=ArV L v.toNat (k+1+1+1+1+1,[]) ⟨0,rfl,by decide,by decide⟩ (by simp);simp only[lap,laq]at c3 c4 c5;exact⟨⟨rfl,AjB L k 3 (by decide),AbW (by decide),AjB L _ 5 (by decide),c1,by simp only; omega,c2,by
  have h:=ArW L v.toNat (k+1+1+1+1+1,[]);have e:wtL ([]:List Pa)=0:=rfl;simp only[e]at h |-;omega⟩,by simp only; omega,by simp only; omega⟩
theorem BfI(L:List Int)(k:Int)(h3:0<=k)(h4:k<=700000) :
  Mc prog 36 2 (str L k) [] (fun r s=>r=scA (sceneF L k).1/\s=str L (sceneF L k).2):=by
 have hpk:=AbQ L (k+1+1+1) [2,5,12] (by decide) (by decide) (by omega) (by omega);have pn:=B0H L (k+1+1+1);unfold sceneF;generalize pickF L (k+1+1+1) [2,5,12]=n at *;have hnx:=AcX L (k+1+1+1+1) n (by omega) (by omega) (by omega) (by omega);have hv:=AgF L (k+1+1+1+1) n (by omega);generalize nx L (k+1+1+1+1) n=v at *;have hr1:=AeH L k 1 3 (by decide) (by decide) (by decide) (by omega) (by omega);have ho:=AgG L (k+1) SetL (by decide) (by decide) (by omega) (by omega);have hr2:=AeH L (k+1+1) 1 5 (by decide) (by decide) (by decide) (by omega) (by omega);generalize rangeF L k 1 3=pl at *;generalize oneF L (k+1) SetL=st at *;generalize rangeF L (k+1+1) 1 5=tm at *;obtain⟨z,hz⟩:∃ z,z=AbP L v.toNat (k+1+1+1+1+1,[]):=⟨_,rfl⟩;rw[<- hz];refine zcIF func36 rfl fun h ρ w=>?_
 simp only[go_sem];refine zm 0 (hr1) ?_;rintro _ _ ⟨rfl,rfl⟩;apply zgF;simp only[go_sem];refine zpN (BeR) ?_;simp only[go_sem];refine zm 0 (ho) ?_;rintro _ _ ⟨rfl,rfl⟩;apply zgF;simp only[go_sem];refine zm 0 (hr2) ?_;rintro _ _ ⟨rfl,rfl⟩;apply zgF;simp only[go_sem];refine zm 0 (hpk) ?_;rintro _ _ ⟨rfl,rfl⟩;apply zgF;simp only[go_sem];refine zm 0 (hnx) ?_;rintro _ _ ⟨rfl,rfl⟩;apply zgF;simp only[go_sem];refine AaE (ι:=Nat×Int×List Pa) (fun x=>v.toNat-x.1)
  (fun x=>[(17,.int .i64 x.1),(16,.int .i64 v),(3,.ptr 2 1 0 0),(2,.ptr 1 1 0 0),(0,.ptr 0 1 0 0)])
  (fun x=>[.arr 2 [str L x.2.1],.arr 5 [.agg [.str [],.int .i64 0,.str [],.int .i64 0,.raw (.slice none 0 0)]],.arr 5 [.agg [.str [],.int .i64 pl,.str st,.int .i64 tm,.sl 3 0 x.2.2.length x.2.2.length]],.arr 2 (x.2.2.map paA)])
  (fun x=>(x.1:Int)<=v/\k<=x.2.1/\x.2.1<=k+5+400*x.1/\(x.2.2.length:Int)<=5*x.1/\AbP L (v.toNat-x.1) x.2=z)
  (0,k+1+1+1+1+1,[]) ⟨by simp only; omega,by simp only; omega,by simp only; omega,by simp,by simpa using hz.symm⟩ ?_ ?_
 .refine Shift.trans (Shift.cells 2 2 [.agg [.str [],.int .i64 pl,.str st,.int .i64 tm,.sl 3 0 0 0]] rfl rfl (by simp[cellsOf]) ⟨.refl,.refl,.refl,.refl,.sl,trivial⟩) (Lr ?_)
  simp only[go_sem]
 .rintro ⟨i,k',ps⟩ ⟨g2,g3,g4,g9,hF⟩ J hJ
  simp only at g2 g3 g4 g9 hF hJ |-
  by_cases gi:(i:Int)<v
  .have di:decide ((i:Int)<v)=true:=by simp; omega
   rw[show v.toNat-i=(v.toNat-(i+1))+1 by omega]at hF;simp only[AbP]at hF;have hpx:=BfH L k' (by omega) (by omega);obtain⟨hb,t1,t2⟩:=AoS L k';generalize parasF L k'=w at *;obtain⟨b,k2⟩:=w;simp only at hpx hb t1 t2 hF;apply zgN;simp only[go_sem,di];refine AeB [3] 0 [] AaI (by decide) rfl rfl 100 ?_;simp only[go_sem];refine AuQ hpx rfl rfl rfl ⟨_,_,rfl,rfl⟩ ?_;rintro _ _ ⟨rfl,rfl⟩;simp only[go_sem];refine⟨by simp,.inl trivial,by simp; have:=hb.len.2; omega,by simp; have:=hb.len.2; omega,?_⟩;apply zgN;simp only[go_sem];refine⟨by omega,by omega,?_⟩;rw[<- lak,show ps.length+(List.map paA b).length=(ps++b).length by simp,show(i:Int)+1=((i+1:Nat):Int) by omega];have:=hb.len;refine ainv (hJ (i+1,k2,ps++b) ⟨by simp only; omega,by simp only; omega,by simp only; omega,by simp; omega,hF⟩ (by simp only; omega)) (Lr ?_);simp only[go_sem,laa]
  .have di:decide ((i:Int)<v)=false:=by simp; omega
   rw[show v.toNat-i=0 by omega]at hF;simp only[AbP]at hF;subst hF;refine AWp.shift (Shift.frz 3 rfl (AeU ps)) ?_;simp only[go_sem,↓AdO,↓AgA,frzE,frz,frz1,frzC,frzB,laa,lad];have:List.take ps.length (List.map paA ps)=List.map paA ps:=laj (by simp);simp only[this];apply zgN;simp only[go_sem,di];exact AcA [.cell 2 68] rfl [_] ⟨by simp only[go_sem,sideIs],trivial⟩ ⟨_,_,rfl,rfl,rfl,rfl,rfl⟩
def fixS(first:Bool)(x:Sc):Sc:=if first&&x.time==5 then⟨x.no,x.place,x.set,2,x.Ld⟩ else x
def AbK(L:List Int):Nat->Int×List Sc->Int×List Sc
 | 0,x=>x
 | n+1,x=>AbK L n ((sceneF L x.1).2,x.2++[fixS x.2.isEmpty (sceneF L x.1).1])
theorem BwH{b:Bool}{x:Sc}(h:DrawnS x):DrawnS (fixS b x)/\(b=true->(fixS b x).time≠5):=by
 unfold fixS
 split
 .exact ⟨⟨h.no,h.place,h.set,by simp,h.run,h.len,h.all,h.wt⟩,fun _=>by simp⟩
 .rename_i hh
  refine⟨h,fun hb=>?_⟩;rw[hb]at hh
  simpa using hh
theorem AoT(L:List Int):∀ (n:Nat)(x:Int×List Sc),(∀ y∈x.2,DrawnS y)->(∀ y,x.2.head? = some y->y.time≠5) ->
  (∀ y∈(AbK L n x).2,DrawnS y)/\(∀ y,(AbK L n x).2.head? = some y->y.time≠5)/\x.1<=(AbK L n x).1/\(AbK L n x).1<=x.1+5000*n/\(AbK L n x).2.length=x.2.length+n
 | 0,x,h1,h2=>⟨h1,h2,Int.le_refl _,by simp[AbK],by simp[AbK]⟩
 | n+1,x,h1,h2=>by
  obtain⟨b1,b2,b3⟩:=AyB L x.1;obtain⟨f1,f2⟩:=BwH (b:=x.2.isEmpty) b1;obtain⟨c1,c2,c3,c4,c5⟩:=AoT L n ((sceneF L x.1).2,x.2++[fixS x.2.isEmpty (sceneF L x.1).1]) (fun y hy=>by
   rcases List.mem_append.1 hy with hy|hy
   .exact h1 y hy
   .rw [List.mem_singleton.1 hy]; exact f1) (fun y hy=>by
   cases hx:x.2 with
   | nil =>
    rw[hx]at hy f2;simp only[lbx,List.head?_cons,lao]at hy;rw[<- hy];exact f2 rfl
   | cons a r=>rw[hx]at hy h2; exact h2 y (by simpa using hy))
  simp only[AbK];simp only[lah,lam,lap]at c3 c4 c5;exact⟨c1,c2,by omega,by push_cast; omega,by omega⟩
def scriptF(L:List Int)(k:Int):Sr×Int:=(⟨oneF L k TitleL,(AbK L (nx L (k+1) 6).toNat (k+1+1,[])).2⟩,(AbK L (nx L (k+1) 6).toNat (k+1+1,[])).1)
theorem ArX(L:List Int)(k:Int):DrawnR (scriptF L k).1/\k<=(scriptF L k).2/\(scriptF L k).2<=k+30000:=by
 have hn:=AgF L (k+1) 6 (by decide);obtain⟨c1,c2,c3,c4,c5⟩:=AoT L (nx L (k+1) 6).toNat (k+1+1,[]) (by simp) (by simp);simp only[lap,laq]at c3 c4 c5;unfold scriptF;exact⟨⟨AbW (by decide),by simp only; omega,c1,c2⟩,by simp only; omega,by simp only; omega⟩
theorem A9U(L:List Int)(k:Int)(h3:0<=k)(h4:k<=600000) :
  Mc prog 21 2 (str L k) [] (fun r s=>r=srA (scriptF L k).1/\s=str L (scriptF L k).2):=by
 have ho:=AgG L k TitleL (by decide) (by decide) (by omega) (by omega);have hnx:=AcX L (k+1) 6 (by omega) (by omega) (by omega) (by omega);have hv:=AgF L (k+1) 6 (by decide);unfold scriptF;generalize oneF L k TitleL=ti at *;generalize nx L (k+1) 6=v at *;obtain⟨z,hz⟩:∃ z,z=AbK L v.toNat (k+1+1,[]):=⟨_,rfl⟩;rw[<- hz];refine zcIF func21 rfl fun h ρ w=>?_
 simp only[go_sem];refine zm 0 (ho) ?_;rintro _ _ ⟨rfl,rfl⟩;apply zgF;simp only[go_sem];refine zm 0 (hnx) ?_;rintro _ _ ⟨rfl,rfl⟩;apply zgF;simp only[go_sem];refine AaE (ι:=Nat×Int×List Sc) (fun x=>v.toNat-x.1)
  (fun x=>[(11,.int .i64 x.1),(10,.int .i64 v),(3,.ptr 2 1 0 0),(2,.ptr 1 1 0 0),(0,.ptr 0 1 0 0)])
  (fun x=>[.arr 2 [str L x.2.1],.arr 2 [.agg [.str [],.raw (.slice none 0 0)]],.arr 2 [.agg [.str ti,.sl 3 0 x.2.2.length x.2.2.length]],.arr 5 (x.2.2.map scA)])
  (fun x=>(x.1:Int)<=v/\k<=x.2.1/\x.2.1<=k+2+5000*x.1/\x.2.2.length=x.1/\AbK L (v.toNat-x.1) x.2=z)
  (0,k+1+1,[]) ⟨by simp only; omega,by simp only; omega,by simp only; omega,rfl,by simpa using hz.symm⟩ ?_ ?_
 .refine Shift.trans (Shift.cells 2 5 [.agg [.str ti,.sl 3 0 0 0]] rfl rfl (by simp[cellsOf]) ⟨.refl,.sl,trivial⟩) (Lr ?_)
  simp only[go_sem]
 .rintro ⟨i,k',xs⟩ ⟨g2,g3,g4,g5,hF⟩ J hJ
  simp only at g2 g3 g4 g5 hF hJ |-
  by_cases gi:(i:Int)<v
  .have di:decide ((i:Int)<v)=true:=by simp; omega
   rw[show v.toNat-i=(v.toNat-(i+1))+1 by omega]at hF;simp only[AbK]at hF;have hpx:=BfI L k' (by omega) (by omega);obtain⟨hx,t1,t2⟩:=AyB L k';generalize sceneF L k'=w at *;obtain⟨x,k2⟩:=w;simp only at hpx hx t1 t2 hF;apply zgF;simp only[go_sem,di];refine zm 0 (hpx) ?_;rintro _ _ ⟨rfl,rfl⟩;have hlen:(List.map scA xs).length=xs.length:=by simp
   have e2:∀ a b c d f,List.map scA xs++[AV.agg [.str a,.int .i64 b,.str c,.int .i64 d,.fz 2 (List.map paA f)]]=List.map scA (xs++[⟨a,b,c,d,f⟩]):=fun _ _ _ _ _=>by simp[scA]
   have e3:∀ y:Sc,xs.length+1=(xs++[y]).length:=fun y=>by simp
   have ei:(i:Int)+1=((i+1:Nat):Int):=by omega
   have fin:∀ y:Sc,y=fixS xs.isEmpty x->_:=fun y hy=>hJ (i+1,k2,xs++[y]) ⟨by simp only; omega,by simp only; omega,by simp only; omega,by simp only[lah,lam,lap]; omega,by rw[hy]; exact hF⟩ (by simp only; omega)
   simp only[scA];apply zgF
   by_cases h0:xs=[]
   .have q0:((xs.length:Int)==0)=true:=by simp[h0]
    have qe:xs.isEmpty=true:=by simp[h0]
    by_cases h5:x.time=5
    .have q5:(x.time==5)=true:=by simpa using h5
     simp only[go_sem,q0,q5];refine⟨by simp,by first|omega|(simp; done)|(simp; omega),by first|omega|(simp; done)|(simp; omega),by first|omega|(simp; done)|(simp; omega),by first|omega|(simp; done)|(simp; omega),by omega,by omega,?_⟩;rw[e2,e3 ⟨x.no,x.place,x.set,2,x.Ld⟩,ei];refine ainv (fin ⟨x.no,x.place,x.set,2,x.Ld⟩ (by simp[fixS,qe,q5])) (Shift.low 4 (by simp) (by simp) ?_ ?_)
     .have:=AaF (xs++[⟨x.no,x.place,x.set,2,x.Ld⟩])
      simp only[go_sem,lowB,flat,str,AaD this]
     .simp only [go_sem]
    .have q5:(x.time==5)=false:=by simpa using h5
     simp only[go_sem,q0,q5];refine⟨by simp,by first|omega|(simp; done)|(simp; omega),by first|omega|(simp; done)|(simp; omega),by first|omega|(simp; done)|(simp; omega),by first|omega|(simp; done)|(simp; omega),by omega,by omega,?_⟩;rw[e2,e3 ⟨x.no,x.place,x.set,x.time,x.Ld⟩,ei];refine ainv (fin ⟨x.no,x.place,x.set,x.time,x.Ld⟩ (by simp[fixS,q5])) (Shift.low 4 (by simp) (by simp) ?_ ?_)
     .have:=AaF (xs++[⟨x.no,x.place,x.set,x.time,x.Ld⟩])
      simp only[go_sem,lowB,flat,str,AaD this]
     .simp only [go_sem]
   .have q0:((xs.length:Int)==0)=false:=by
     have:xs.length≠0:=by simpa using h0
     simp; omega
    simp only[go_sem,q0];refine⟨by simp,by first|omega|(simp; done)|(simp; omega),by first|omega|(simp; done)|(simp; omega),by first|omega|(simp; done)|(simp; omega),by first|omega|(simp; done)|(simp; omega),by omega,by omega,?_⟩;rw[e2,e3 ⟨x.no,x.place,x.set,x.time,x.Ld⟩,ei];refine ainv (fin ⟨x.no,x.place,x.set,x.time,x.Ld⟩ (by simp[fixS,h0])) (Shift.low 4 (by simp) (by simp) ?_ ?_)
    .have:=AaF (xs++[⟨x.no,x.place,x.set,x.time,x.Ld⟩])
     simp only[go_sem,lowB,flat,str,AaD this]
    .simp only [go_sem]
  .have di:decide ((i:Int)<v)=false:=by simp; omega
   rw[show v.toNat-i=0 by omega]at hF;simp only[AbK]at hF;subst hF;refine AWp.shift (Shift.frz 3 rfl (AaF xs)) ?_;simp only[go_sem,↓AdO,↓AgA,frzE,frz,frz1,frzC,frzB,laa,lad];have:List.take xs.length (List.map scA xs)=List.map scA xs:=laj (by simp);simp only[this];apply zgN;simp only[go_sem,di];exact AcA [.cell 2 28] rfl [_] ⟨by simp only[go_sem,sideIs],trivial⟩ ⟨_,_,rfl,rfl,rfl,rfl,rfl⟩
def storyF(L:List Int)(k:Int):Sr×Int:=((scriptF L k).1,(scriptF L k).2+1+(if flipF L (scriptF L k).2 3 then((scriptF L k).1.Lc.length:Int) else 0))
theorem AyC(L:List Int)(k:Int):DrawnR (storyF L k).1/\k<=(storyF L k).2/\(storyF L k).2<=k+40000:=by
 obtain⟨h,a,b⟩:=ArX L k;have:=h.len;unfold storyF;refine⟨h,?_,?_⟩
 .simp only; split <;> omega
 .simp only; split <;> omega
theorem ArY{S:Std}(hS:LibOk S)(L:List Int)(k:Int)(h3:0<=k)(h4:k<=500000) :
  McH prog S 5 2 (str L k) [] (fun r s=>r=srA (numR (storyF L k).1)/\s=str L (storyF L k).2):=by
 have hsc:=A9U L k (by omega) (by omega);obtain⟨hx,t1,t2⟩:=ArX L k;unfold storyF;generalize scriptF L k=w at *;obtain⟨⟨ti,xs⟩,k'⟩:=w;simp only at hsc hx t1 t2 |-;have hfl:=AcN L k' 3 (by decide) (by decide) (by omega) (by omega);generalize flipF L k' 3=fb at *;obtain⟨kf,hkf⟩:∃ z:Int,z=k'+1+(if fb=true then((xs.length:Nat):Int) else 0):=⟨_,rfl⟩;rw[<- hkf];refine zdIF func5 rfl fun h ρ w hg=>?_
 simp only[go_sem];refine zm 0 (hsc) ?_;rintro _ _ ⟨rfl,rfl⟩;have hlen:xs.length<=5:=hx.len
 cases xs with
 | nil =>
  apply zgF;simp only[go_sem];refine zqN hg (AxV hS ⟨ti,[]⟩ (by simp)) ?_;have e0:srA (numR ⟨ti,[]⟩)=.agg [.str ti,.fz 5 []]:=rfl;rw[e0];simp only[go_sem];refine zm 0 (hfl) ?_;rintro _ _ ⟨rfl,rfl⟩
  cases fb with
  | true =>
   apply zgF;simp only[go_sem];refine AdZ (AcM (zgN ?_));simp only[go_sem];exact AcA [.cell 2 28] rfl [_] ⟨by simp only[go_sem,sideIs,numR,numL],trivial⟩ ⟨_,_,rfl,rfl,by rw[hkf]; simp,rfl,rfl⟩
  | false =>
   apply zgF;simp only[go_sem];exact AcA [.cell 2 28] rfl [_] ⟨by simp only[go_sem,sideIs,numR,numL],trivial⟩ ⟨_,_,rfl,rfl,by rw[hkf]; simp,rfl,rfl⟩
 | cons x xs =>
  apply zgF;simp only[go_sem];refine zaH hg (AyA hS L k' ti x xs (by simp at hlen; omega)) ?_;rintro _ _ ⟨rfl,rfl⟩;apply zgF;simp only[go_sem,blkS,blkZ];refine zm 0 (hfl) ?_;rintro _ _ ⟨rfl,rfl⟩;have htake:List.take (xs.length+1) (List.map scA (numL 0 (x::xs)))=List.map scA (numL 0 (x::xs)):=laj (by simp[numL_len]);have hl5:xs.length+1<=5:=by simpa using hlen
  cases fb with
  | false =>
   refine AWp.shift (Shift.frz 4 rfl (AaF _)) ?_;simp only[go_sem,srA,↓AdO,↓AgA,frzE,frz,frz1,frzC,frzB,laa,numL_len,lad];simp only[htake];apply zgF;simp only[go_sem];exact AcA [.cell 2 28] rfl [_] ⟨by simp only[go_sem,sideIs,numR],trivial⟩ ⟨_,_,rfl,rfl,by rw[hkf]; simp,rfl,rfl⟩
  | true =>
   apply zgF;simp only[go_sem];refine⟨by simp[numL_len],?_⟩;refine AaE (ι:=Nat) (fun y=>5-y)
    (fun y=>[(14,.int .i64 y),(13,.int .i64 ↑(xs.length+1)),(4,.str (AbJ y)),(3,.ptr 6 1 0 0),(2,.ptr 1 1 0 0),(0,.ptr 0 1 0 0)])
    (fun y=>[.arr 2 [str L (k'+1+y)],.arr 2 [.agg [.str [],.raw (.slice none 0 0)]],.arr 2 [srA ⟨ti,x::xs⟩],.arr 2 [.agg [.str ti,.sl 4 0 (xs.length+1) (xs.length+1)]],.arr 5 (List.map scA (numL 0 (x::xs))),.arr 2 [.agg [.str ti,.sl 4 0 (xs.length+1) (xs.length+1)]],.arr 2 [.agg [.str ti,.sl 4 0 (xs.length+1) (xs.length+1)]]])
    (fun y=>y<=xs.length+1) 0 (by simp) ?_ ?_
   .have h0:k'+1+((0:Nat):Int)=k'+1:=by omega
    simp only[h0];refine Lr ?_;simp only[go_sem,AbJ]
   .intro i g1 J hJ
    by_cases gi:i<xs.length+1
    .have di:decide ((i:Int)<((xs.length+1:Nat):Int))=true:=by simp; omega
     have hlast:(AbJ (i+1)==[])=false:=by
      have:=AlE i (by omega);rw[this.2.2.2.2.2.2.2.2]; exact this.2.2.2.2.2.2.2.1
     apply zgF;simp only[go_sem,di];have ho1:=AgG L (k'+1+i) [[],[],[57]] (by decide) (by decide) (by omega) (by omega);have hz:=AbW (L:=L) (k:=k'+1+i) (ls:=[[],[],[57]]) (by decide);generalize oneF L (k'+1+i) [[],[],[57]]=z at *;have hzz:z=[]\/z=[57]:=by simpa using hz
     refine zm 0 (ho1) ?_;rintro _ _ ⟨rfl,rfl⟩;apply zgF;simp only[go_sem];refine zqF hg (AvB hS i (by omega) z hzz) ?_;have hi:i<(x::xs).length:=by simpa using gi
     have hget:(List.map scA (numL 0 (x::xs)))[i]? = some (.agg [.str (AbJ (i+1)),.int .i64 (x::xs)[i].place,.str (x::xs)[i].set,.int .i64 (x::xs)[i].time,.fz 2 ((x::xs)[i].Ld.map paA)]):=by
      rw[lby,AvD _ _ _ hi];simp only[lcp,nm,scA,laq,A6Q i (by omega)]
     have hgd:List.getD (List.map scA (numL 0 (x::xs))) i .any=.agg [.str (AbJ (i+1)),.int .i64 (x::xs)[i].place,.str (x::xs)[i].set,.int .i64 (x::xs)[i].time,.fz 2 ((x::xs)[i].Ld.map paA)]:=by
      rw[lay,hget]; rfl
     simp only[go_sem,hlast,hgd];have hset:=set_same hget;refine⟨by simp[numL_len],by omega,by omega,lad _,by simp[numL_len]; omega,by omega,by omega,?_⟩;rw[hset,show k'+1+(i:Int)+1=k'+1+((i+1:Nat):Int) by omega,show(i:Int)+1=((i+1:Nat):Int) by omega];refine ainv (hJ (i+1) (by omega) (by omega)) (Lr ?_);simp only[go_sem]
    .have di:decide ((i:Int)<((xs.length+1:Nat):Int))=false:=by simp; omega
     refine AWp.shift (Shift.frz 4 rfl (AaF _)) ?_;simp only[go_sem,srA,↓AdO,↓AgA,frzE,frz,frz1,frzC,frzB,laa,numL_len,lad];simp only[htake];apply zgF;simp only[go_sem,di];exact AcA [.cell 2 28] rfl [_] ⟨by simp only[go_sem,sideIs,numR],trivial⟩ ⟨_,_,rfl,rfl,by rw[hkf,show i=xs.length+1 by omega]; simp,rfl,rfl⟩
theorem BfJ:(TitleL.all fun t=>plainL t&&(decide (1<=t.length)&&decide (t.length<=60)))=true:=by decide +kernel
theorem BfK:(SetL.all fun t=>isSetL t&&decide (t.length<1000000))=true:=by decide +kernel
theorem A2U{x:Sc}(h:DrawnS x):SceneOk x:=by
 have:=List.all_eq_true.1 BfK x.set h.set
 simp at this
 exact⟨this.1,this.2,by have:=h.len; omega,h.run⟩
theorem A6U:∀ (l:List Sc),(∀ y∈l,y.Ld.length<=60)->paraSum l<=60*l.length
 | [],_=>by simp[paraSum]
 | x::r,h=>by
  have h1:=h x (by simp);have h2:=A6U r (fun y hy=>h y (by simp[hy]));simp only[paraSum,lal,List.sum_cons,lam]at h2 |-;omega
def accN(i:Nat):List LU:=(List.range i).map fun j=>AbJ (j+1)
theorem BfL:∀ i,i<5->AbJ (i+1) ∉ accN i/\numberL (AbJ (i+1))=true/\(AbJ (i+1)).length<1000000:=by
 have h:∀ i:Fin 5,AbJ (i.1+1) ∉ accN i.1/\numberL (AbJ (i.1+1))=true/\(AbJ (i.1+1)).length<1000000:=by decide +kernel
 exact fun i hi=>h ⟨i,hi⟩
end Go.Proofs.YtgenkcmfeeakoaaGreatDoor
namespace Go.Av
open RowKit
variable [Tr]
structure Cr where
 c:Cx
 rd:Option Nat
 df:List Deferred
 out:Exit->Act->World->Prop
def Cr.F(r:Cr):Fence:={ fn:=fun _=>True,depth:=none,alive:=false,round:=r.rd }
def WQg(F:Fence)(P:Program)(N:Nat)(out:Exit->Act->World->Prop):List It->Exit->Act->World->Prop
 | [],e,a,w=>out e a w
 | x::k,e,a,w=>match e with
  | .normal=>match x with
   | .ops all rest=>wpListIn F 0 P all.toArray (WQg F P N out k) rest a w
   | .op all o rest=>dOk N o.dst=true->o.wpIn F 0 P a w (wpListIn F 0 P all.toArray (WQg F P N out k) rest) (WQg F P N out k)
   | .code y=>y.wpIn F 0 P (WQg F P N out k) a w
   | .blk _=>WQg F P N out k .normal a w
   | .inv J=>J a w
  | .exit id=>match x with
   | .blk i=>if id=i then WQg F P N out k .normal a w else WQg F P N out k (.exit id) a w
   | _=>WQg F P N out k (.exit id) a w
  | e=>WQg F P N out k e a w
@[reducible] def WQr (r:Cr):List It->Exit->Act->World->Prop:=WQg r.F r.c.P r.c.fn.ntmps r.out
def SimR(r:Cr)(e:Env)(s:LB)(a:Act)(w:World):Prop :=
 ∃ h ρ,Mine h ρ s w/\Later r.c.h r.c.ρ r.c.sto r.c.w h ρ s w/\EnvOk h ρ s e a/\a.defers=r.df/\a.tmps.size=r.c.fn.ntmps/\r.c.x h ρ w
theorem SimR.sim{r:Cr}{e:Env}{s:LB}{a:Act}{w:World}(h:SimR r e s a w):Sim r.c e s { a with defers:=[] } w:=by
 obtain⟨h,ρ,a1,a2,a3,a4,a5,a6⟩:=h;exact⟨h,ρ,a1,a2,a3,rfl,a5,a6⟩
theorem Sim.simR{r:Cr}{e:Env}{s:LB}{a:Act}{w:World}(hd:a.defers=r.df)(h:Sim r.c e s { a with defers:=[] } w):SimR r e s a w:=by
 obtain⟨h,ρ,a1,a2,a3,a4,a5,a6⟩:=h;exact⟨h,ρ,a1,a2,a3,hd,a5,a6⟩
theorem Shift.r{r:Cr}{e e':Env}{s s':LB}(x:Shift r.c e s e' s'){a:Act}{w:World}(h:SimR r e s a w):SimR r e' s' a w:=by
 have hd:a.defers=r.df:=by obtain⟨_,_,_,_,_,hd,_⟩:=h; omega
 exact Sim.simR hd (x _ _ h.sim)
def AWpR(r:Cr)(k:List It)(e:Env)(s:LB):Prop:=∀ a w,SimR r e s a w->WQr r k .normal a w
def AOut(r:Cr)(x:Exit)(e:Env)(s:LB):Prop:=∀ a w,SimR r e s a w->r.out x a w
def B0I(r:Cr)(f:FuncId)(args:LA)(d:Option Tmp)(all os:List Oper)(k:List It)(e:Env)(s:LB):Prop :=
 ∀ a w h ρ vs,Mine h ρ s w->Later r.c.h r.c.ρ r.c.sto r.c.w h ρ s w->EnvOk h ρ s e a->a.defers=r.df->a.tmps.size=r.c.fn.ntmps->r.c.x h ρ w->RL h (Lf ρ s) false vs args ->
  AaB r.c.P f=true/\Calls r.c.P f vs.toArray w fun en w'=>match en with
   | .returned v=>WQr r (.ops all os::k) .normal (a.put d v) w'
   | _=>False
def B0J(r:Cr)(o:Oper)(all os:List Oper)(k:List It)(e:Env)(s:LB):Res->Nx
 | .ok v=>.go (.ops all os::k) (put e o.dst v) s
 | .side p v=>.side p (.ops all os::k) (put e o.dst v) s
 | .sto p v s'=>.side p (.ops all os::k) (put e o.dst v) s'
 | .pick b x y=>.two b (.ops all os::k) (put e o.dst x) s (.ops all os::k) (put e o.dst y) s
 | .call f args=>.leaf (B0I r f args o.dst all os k e s)
 | .anyb p=>.leaf (p/\∀ b,AWpR r (.ops all os::k) (put e o.dst (.bool b)) s)
 | .stuck=>.leaf (AWpR r (.op all o os::k) e s)
def A6V(r:Cr)(k:List It)(e:Env)(s:LB):Nx:=.leaf (AWpR r k e s)
def BtC(r:Cr)(id:Nat)(e:Env)(s:LB):Option (List It)->Nx
 | some k=>.go k e s
 | none=>.leaf (AOut r (.exit id) e s)
def BtD(wr frz:Bool)(N:Nat)(r:Cr)(k:List It)(e:Env)(s:LB):Nx :=
 match k with
 | .ops _ []::k=>.go k e s
 | .ops all (o::os)::k=>bif dOk N o.dst then opN o all os k e s o.guard else .leaf False
 | .op all o os::k=>B0J r o all os k e s (xop wr frz r.c.P e s o.op)
 | .code .skip::k=>.go k e s
 | .code (.region id ops draw)::k=>bif draw then A6V r (.code (.region id ops true)::k) e s else .go (.ops ops.toList ops.toList::k) e s
 | .code (.seq a b)::k=>.go (.code a::.code b::k) e s
 | .code (.cond x a b)::k=>BmR a b k e s (ev e x)
 | .code (.block id x)::k=>.go (.code x::.blk id::k) e s
 | .code (.exit id)::k=>BtC r id e s (AlY id k)
 | .code .ret::_=>.leaf (AOut r .ret e s)
 | .code x::k=>A6V r (.code x::k) e s
 | .blk _::k=>.go k e s
 | .inv J::k=>A6V r (.inv J::k) e s
 | []=>.leaf (AOut r .normal e s)
mutual
def runR(wr frz:Bool)(N:Nat)(c:Cr):Nat->List It->Env->LB->Prop
 | 0,k,e,s=>AWpR c k e s
 | n+1,k,e,s=>B0K wr frz N c n (BtD wr frz N c k e s)
def B0K(wr frz:Bool)(N:Nat)(c:Cr):Nat->Nx->Prop
 | n,.go k e s=>runR wr frz N c n k e s
 | n,.two b k e s k' e' s'=>brR wr frz N c n b k e s k' e' s'
 | n,.side p k e s=>p/\runR wr frz N c n k e s
 | _,.leaf p=>p
def brR(wr frz:Bool)(N:Nat)(c:Cr):Nat->Bool->List It->Env->LB->List It->Env->LB->Prop
 | 0,b,k,e,s,k',e',s'=>(b=true->AWpR c k e s)/\(b=false->AWpR c k' e' s')
 | n+1,b,k,e,s,k',e',s'=>(b=true->runR wr frz N c n k e s)/\(b=false->runR wr frz N c n k' e' s')
end
section
variable {r:Cr}{k:List It}{e:Env}{s:LB}
theorem AWpR.shift{e':Env}{s':LB}(x:Shift r.c e s e' s')(h:AWpR r k e' s'):AWpR r k e s:=fun a w hs=>h a w (x.r hs)
theorem AOut.shift{y:Exit}{e':Env}{s':LB}(x:Shift r.c e s e' s')(h:AOut r y e' s'):AOut r y e s:=fun a w hs=>h a w (x.r hs)
end
section
variable {c:Cx}{e:Env}{s:LB}
mutual
def dxk(c:Cx)(all:List Oper)(K:Env->LB->Prop):Nat->List Oper->LA->Env->LB->Prop
 | _,[],_,e,s=>K e s
 | 0,_::_,_,_,_=>False
 | n+1,o::r,cs,e,s=>dxkc c all K n (dgrd c all s o r cs e o.guard)
def dxkc(c:Cx)(all:List Oper)(K:Env->LB->Prop):Nat->Dn->Prop
 | n,.go r cs e s=>dxk c all K n r cs e s
 | n,.two b r cs e r' cs' e' s=>dbrk c all K n b r cs e r' cs' e' s
 | n,.side p r cs e s=>p/\dxk c all K n r cs e s
 | _,.fail=>False
def dbrk(c:Cx)(all:List Oper)(K:Env->LB->Prop):Nat->Bool->List Oper->LA->Env->List Oper->LA->Env->LB->Prop
 | 0,_,_,_,_,_,_,_,_=>False
 | n+1,b,r,cs,e,r',cs',e',s=>(b=true->dxk c all K n r cs e s)/\(b=false->dxk c all K n r' cs' e' s)
end
end
section
variable {r:Cr}{k:List It}{e:Env}{s:LB}
theorem SimR.eqv{e':Env}{a:Act}{w:World}(h:Eqv e e')(hs:SimR r e s a w):SimR r e' s a w:=by
 obtain⟨hh,ρ,hm,hl,he,hdf,hsz,hX⟩:=hs;exact⟨hh,ρ,hm,hl,fun t=>by rw[<- h t]; exact he t,hdf,hsz,hX⟩
theorem AWpR.eqv{e':Env}(h:Eqv e e')(x:AWpR r k e s):AWpR r k e' s:=fun a w hs=>x a w (hs.eqv fun t=>(h t).symm)
theorem AWpR.K:∀ e e' s,Eqv e e'->AWpR r k e s->AWpR r k e' s:=fun _ _ _ h x=>x.eqv h
end
attribute [go_sem] runR B0K brR BtD B0J A6V BtC dxk dxkc dbrk
end Go.Av
namespace Go.Av
open RowKit
variable [Tr]
section
variable {h h' h0:Mem}{ρ ρ' ρ0:Own}{s s' s0:LB}{w w' w0:World}
end
theorem Lt{c:Cx}{e e':Env}{s s':LB}(h:wk e e')(hs:s=s'):Shift c e s e' s':=hs▸Lr h
def XB(l:List (Nat×Obj)):Mem->Own->World->Prop:=fun _ ρ w=>∀ p∈l,w.heap[p.1]? = some p.2/\∀ i t,ρ i≠some (p.1,t)
theorem stbB(l:List (Nat×Obj)):Stb (XB l) where
 later:=fun{h ρ sto w h' ρ' sto' w'} _ L x p hp=>by
  obtain⟨h1,h2⟩:=x p hp;have hlt:p.1<w.heap.size:=(Array.getElem?_eq_some_iff.1 h1).1;refine⟨(L.block p.1 hlt h2).trans h1,fun i t e=>?_⟩
  rcases L.newown i p.1 t e with⟨j,t',hj⟩|hs<;>grind
 fewer:=fun hf x p hp=>by
  obtain⟨h1,h2⟩:=x p hp
  grind
def DfO(Ds:List Nat):List (Nat×Obj):=Ds.map fun D=>(D,.deferred (some []))
def dfs(Ds:List Nat):List Deferred:=Ds.map fun D=>{ target:=.collected D,args:=#[] }
def outM(P:Program)(fn:Func)(h:Mem)(ρ:Own)(sto:LB)(w:World)(post:AV->LB->Prop):Exit->Act->World->Prop :=
 bodyPostM Fence.wide 0 P fn fun en w'=>∃ v r s h' ρ',en=.returned v/\post r s/\Mine h' ρ' s w'/\Later h ρ sto w h' ρ' s w'/\RV h' (Lf ρ' s) false v r
@[reducible] def mkM (P:Program) (fn:Func) (h:Mem) (ρ:Own) (sto:LB) (w:World) (post:AV->LB->Prop) (Ds:List Nat):Cr :=
 ⟨⟨P,fn,h,ρ,sto,w,post,XB (DfO Ds),stbB _⟩,none,dfs Ds,outM P fn h ρ sto w post⟩
@[reducible] def mkL (P:Program) (fn:Func) (h:Mem) (ρ:Own) (sto:LB) (w:World) (l:List (Nat×Obj)) (id:Nat):Cr :=
 ⟨⟨P,fn,h,ρ,sto,w,fun _ _=>True,XB l,stbB l⟩,some id,[],fun _ _ _=>False⟩
theorem A2V{P:Program}{f:FuncId}(hb:AaB P f=true)(args:Array Value)(w:World):(callFunc f args).run P w=.ok (.enter f args) w:=by
 unfold AaB at hb
 cases hq:P.funcs[f]? with
 | none=>grind
 | some fn =>
  have h4:fn.body.isNone=false:=by simp_all
  grind[callFunc,Sem.run_bind,run_program,Result.andThen_ok,Sem.run_pure]
end Go.Av
namespace Go.Av
open RowKit
variable [Tr]
theorem acut{c:Cx}{x:It}{B:Code}{k:List It}{e:Env}{s:LB}{ι:Type}(E:ι->Env)(S:ι->LB)(H:ι->Prop)
  (h1:∀ J:Act->World->Prop,(∀ y,H y->∀ a w,Sim c (E y) (S y) a w->J a w)->AWp c (x::.inv J::k) e s)
  (h2:∀ y,H y->AWp c (.code B::k) (E y) (S y)):AWp c (x::.code B::k) e s:=by
 intro a w hs;have h:=h1 (fun a w=>B.wp c.P (WQ c k) a w) (fun y hy a w hs=>h2 y hy a w hs) a w hs;have e1:WQ c (.inv (fun a w=>B.wp c.P (WQ c k) a w)::k)=WQ c (.code B::k):=by
  funext en a w
  cases en <;> rfl
 have e2:WQ c (x::.inv (fun a w=>B.wp c.P (WQ c k) a w)::k)=WQ c (x::.code B::k):=by
  funext en a w
  cases en <;> simp only[WQ,e1]
 rw[e2]at h;exact h
