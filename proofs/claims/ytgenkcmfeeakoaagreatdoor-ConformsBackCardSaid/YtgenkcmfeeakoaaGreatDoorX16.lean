/- Draws: the paragraphs of a block. -/
import Derived.Test.YtgenkcmfeeakoaaGreatDoorX15
import Derived.Lib.AtoiErrMem
import Derived.Lib.AppendIntMem
set_option maxRecDepth 100000
set_option maxHeartbeats 2000000
set_option linter.all false
namespace Go.Proofs.YtgenkcmfeeakoaaGreatDoor
open Av RowKit Proofs.Tryz
def runL:Int->List Pa->Option Int
 | l,[]=>some l
 | l,p::r=>if paraOk p&&followsL p.kind l then runL p.kind r else none
theorem runL_append:∀ (a b:List Pa)(l e:Int),runL l a=some e->runL l (a++b)=runL e b
 | [],b,l,e,h=>by
  grind[runL]
 | p::a,b,l,e,h=>by
  simp only[runL]at h;simp only[lbb,runL]
  split at h
  .rename_i hc
   rw[if_pos hc];exact runL_append a b p.kind e h
  .simp at h
theorem AuY{a:List Pa}{l e:Int}{p:Pa}(h:runL l a=some e)(h1:paraOk p=true)(h2:followsL p.kind e=true):runL l (a++[p])=some p.kind:=by
 simp_all[runL_append,runL]
def TurnL:List LU:=[[67,85,84,32,84,79],[70,65,68,69,32,79,85,84,46],[69,78,68],[65,78,78]]
def PreA:List LU:=[[64],[62,32],[35,32],[92],[40],[35]]
def PreB:List LU:=[[40],[92],[35],[64]]
structure DrawnP(p:Pa):Prop where
 text:TextOk textC p.text
 kind:1<=p.kind/\p.kind<=5
 name:p.kind=2->p.text∈NameL
 turn:p.kind=5->p.text∈TurnL
 ok:paraOk p=true
theorem AcI{k:Int}{t:LU}(hk:k=1\/k=4)(h:TextOk textC t)(hl:t.length<=2000):DrawnP ⟨k,t⟩:=by
 have hp:=A6F AuW h;have hn:(t != [])=true:=by simpa using h.ne
 refine⟨h,by simp only; omega,by simp only; omega,by simp only; omega,?_⟩<;>grind[paraOk]
theorem AoK{t:LU}(h:TextOk wordC t)(hl:t.length<=200):DrawnP ⟨3,t⟩:=by
 have h':=h.weak AdV;have hp:=A6F AuW h';have hn:(t != [])=true:=by simpa using h.ne
 have hc:Lib.containsAny t [40,41]=false:=by
  have:Lib.NoAny t [40,41] t.length:=fun j b _ hj=>by
   have:=List.all_eq_true.1 h.all b (lar hj)
   grind[wordC]
  grind[Lib.containsAny,Lib.indexAny_none]
 refine⟨h',by simp,by simp,by simp,?_⟩<;>grind[paraOk]
theorem BnL:(NameL.all fun t=>textB textC t&&paraOk ⟨2,t⟩)=true:=by decide +kernel
theorem BnM:(TurnL.all fun t=>textB textC t&&paraOk ⟨5,t⟩)=true:=by decide +kernel
theorem AlB{t:LU}(h:t∈NameL):DrawnP ⟨2,t⟩:=by
 have:=List.all_eq_true.1 BnL t h
 simp at this
 exact⟨AuU this.1,by simp,fun _=>h,by simp,this.2⟩
theorem AlC{t:LU}(h:t∈TurnL):DrawnP ⟨5,t⟩:=by
 have:=List.all_eq_true.1 BnM t h
 simp at this
 exact⟨AuU this.1,by simp,by simp,fun _=>h,this.2⟩
def preB(a:LU):Bool:=a.all textC&&(noDbl a&&(a.head? != some 32&&(a != []&&decide (a.length<=2))))
theorem pre_all:(PreA.all preB&&PreB.all preB)=true:=by decide +kernel
theorem AhZ{a t:LU}(h:a∈PreA\/a∈PreB)(y:TextOk wordC t):TextOk textC (a++t)/\a.length<=2:=by
 grind[preB,pre_all,TextOk.pre,AdV]
def pwP(k:Int):Nat:=if k=1\/k=4 then 4 else if k=3 then 1 else 3
def wtL(l:List Pa):Nat:=(l.map fun p=>pwP p.kind).sum
theorem wtL_one(a:List Pa)(p:Pa):wtL (a++[p])=wtL a+pwP p.kind:=by simp[wtL]
theorem ArQ(a b:List Pa):wtL (a++b)=wtL a+wtL b:=by simp[wtL]
structure Block(b:List Pa):Prop where
 run:∀ l,l≠2->l≠3->∃ e,runL l b=some e/\e≠2/\e≠3
 len:1<=b.length/\b.length<=5
 all:∀ p∈b,DrawnP p
 wt:wtL b<=13
theorem AeT{k l:Int}(hk:k≠3)(hk':k≠4)(h2:l≠2)(h3:l≠3):followsL k l=true:=by grind[followsL]
theorem AeE{p:Pa}(h:DrawnP p)(hk:p.kind=1\/p.kind=5):Block [p]:=by
 refine⟨fun l h2 h3=>⟨p.kind,?_,by omega,by omega⟩,by simp,by grind,by grind[wtL,pwP]⟩
 simp[runL,h.ok,AeT (show p.kind≠3 by omega) (show p.kind≠4 by omega) h2 h3]
theorem AeU(ps:List Pa):(flat (ps.map paA)).all Av.frozen=true:=by
 induction ps<;>grind[flat,cellsOf,paA,Av.frozen]
theorem BnN(L:List Int)(k:Int)(h3:0<=k)(h4:k<=800000) :
  Mc prog 80 2 (str L k) [] (fun r s=>∃ (b:List Pa) (k':Int),r=.fz 2 (b.map paA)/\Block b/\s=str L k'/\k<=k'/\k'<=k+400):=by
 refine zcIF func80 rfl fun h ρ w=>?_
 simp only[go_sem];refine zm 0 (AiX L k _ (by omega) (by omega) h3 (by omega)) ?_;rintro _ _ ⟨⟨v,rfl,hv0,hv1⟩,rfl⟩;have hv:(v=0\/v=1)\/v=2\/((v==0)=false/\(v==1)=false/\(v==2)=false):=by
  by_cases a:v=0
  .exact .inl (.inl a)
  by_cases b:v=1
  .exact .inl (.inr b)
  by_cases c:v=2
  .exact .inr (.inl c)
  exact .inr (.inr ⟨by simpa using a,by simpa using b,by simpa using c⟩)
 rcases hv with hv|rfl|⟨d0,d1,d2⟩
 .have picks:∀ x∈[(3:Int),12,60],1<=x/\x<=80:=by decide
  rcases hv with rfl|rfl <;>
  .apply zgF
   simp only[go_sem];refine zm 0 (AuV L (k+1) [3,12,60] (by decide) (by decide) (by omega) (by omega)) ?_;rintro _ _ ⟨⟨x,hx,rfl⟩,rfl⟩;apply zgF;simp only[go_sem];refine zm 0 (AuX L (k+1+1) x 1998 (picks x hx).1 (picks x hx).2 (by omega) (by omega) (by omega) (by omega)) ?_;rintro _ _ ⟨t,k',rfl,t1,t2,rfl,t3,t4⟩;apply zgF;simp only[go_sem];refine zm 0 (AhA L k' 8 (by omega) (by omega) (by omega) (by omega)) ?_;rintro _ _ ⟨⟨b,rfl⟩,rfl⟩
   cases b with
   | true =>
    apply zgF;simp only[go_sem];refine zm 0 (ArP L (k'+1) PreA (by decide) (by decide) (by omega) (by omega)) ?_;rintro _ _ ⟨⟨y,hy,rfl⟩,rfl⟩;apply zgF;simp only[go_sem];obtain⟨u1,u2⟩:=AhZ (.inl hy) t1;refine⟨by omega,?_⟩;exact aret [2] rfl ⟨_,_,rfl,⟨[⟨1,y++t⟩],k'+1+1,rfl,AeE (AcI (.inl rfl) u1 (by simp; omega)) (.inl rfl),rfl,by omega,by omega⟩,rfl,rfl⟩
   | false =>
    apply zgF;simp only[go_sem];exact aret [2] rfl ⟨_,_,rfl,⟨[⟨1,t⟩],k'+1,rfl,AeE (AcI (.inl rfl) (t1.weak AdV) (by omega)) (.inl rfl),rfl,by omega,by omega⟩,rfl,rfl⟩
 .apply zgF
  simp only[go_sem];refine zm 0 (ArP L (k+1) TurnL (by decide) (by decide) (by omega) (by omega)) ?_;rintro _ _ ⟨⟨y,hy,rfl⟩,rfl⟩;apply zgF;simp only[go_sem];exact aret [2] rfl ⟨_,_,rfl,⟨[⟨5,y⟩],k+1+1,rfl,AeE (AlC hy) (.inr rfl),rfl,by omega,by omega⟩,rfl,rfl⟩
 .apply zgN
  simp only[go_sem,d0,d1,d2];refine zpN (A6G) ?_;simp only[go_sem,d0,d1,d2];refine zm 0 (ArP L (k+1) NameL (by decide) (by decide) (by omega) (by omega)) ?_;rintro _ _ ⟨⟨y,hy,rfl⟩,rfl⟩;apply zgN;simp only[go_sem];refine zm 0 (AmV L (k+1+1) 1 2 (by omega) (by omega) (by omega) (by omega) (by omega)) ?_;rintro _ _ ⟨⟨n,rfl,hn1,hn2⟩,rfl⟩;apply zgN;simp only[go_sem];have dn:=AlB hy;refine AaE (ι:=Int×Int×Int×List Pa) (fun x=>(n-x.1).toNat)
   (fun x=>[(40,.int .i64 x.1),(39,.int .i64 n),(4,.sl 1 0 x.2.2.2.length x.2.2.2.length),(0,.ptr 0 1 0 0)])
   (fun x=>[.arr 2 [str L x.2.1],.arr 2 (x.2.2.2.map paA)])
   (fun x=>0<=x.1/\x.1<=n/\k<=x.2.1/\x.2.1<=k+3+170*x.1/\(x.2.2.1=2\/x.2.2.1=4)/\(0<x.1->x.2.2.1=4)/\(∀ l,l≠2->l≠3->runL l x.2.2.2=some x.2.2.1)/\(∀ p∈x.2.2.2,DrawnP p)/\1<=x.2.2.2.length/\(x.2.2.2.length:Int)<=1+2*x.1/\(wtL x.2.2.2:Int)<=3+5*x.1)
   (0,k+1+1+1,2,[⟨2,y⟩]) ⟨Int.le_refl _,by simp only; omega,by simp only; omega,by simp only; omega,.inl rfl,by simp,?_,by simpa using dn,by simp,by simp,by simp[wtL,pwP]⟩ ?_ ?_
  .intro l h2 h3
   simp[runL,dn.ok,AeT (show(2:Int)≠3 by decide) (show(2:Int)≠4 by decide) h2 h3]
  .refine Lr ?_
   simp only[go_sem]
  .rintro ⟨i,k',e,out⟩ ⟨g1,g2,g3,g4,g5,g6,g7,g8,g9,g10,g11⟩ J hJ
   simp only at g1 g2 g3 g4 g5 g6 g7 g8 g9 g10 g11 hJ |-;apply zgF
   by_cases gi:i<n
   .have di:decide (i<n)=true:=by simp; omega
    simp only[go_sem,di];refine zm 0 (AhA L k' 3 (by omega) (by omega) (by omega) (by omega)) ?_;rintro _ _ ⟨⟨b,rfl⟩,rfl⟩;refine amid (κ:=Int×Int×List Pa)
     (fun x=>[(40,.int .i64 i),(39,.int .i64 n),(4,.sl 1 0 x.2.2.length x.2.2.length),(0,.ptr 0 1 0 0)])
     (fun x=>[.arr 2 [str L x.1],.arr 2 (x.2.2.map paA)])
     (fun x=>k'<=x.1/\x.1<=k'+84/\(x.2.1=2\/x.2.1=3\/x.2.1=4)/\(∀ l,l≠2->l≠3->runL l x.2.2=some x.2.1)/\(∀ p∈x.2.2,DrawnP p)/\1<=x.2.2.length/\(x.2.2.length:Int)<=2+2*i/\(wtL x.2.2:Int)<=4+5*i) ?_ ?_
    .rintro ⟨k2,e2,out2⟩ ⟨f1,f2,f3,f4,f5,f6,f7,f8⟩
     simp only at f1 f2 f3 f4 f5 f6 f7 f8 |-;apply zgF;simp only[go_sem];refine zm 0 (AuV L k2 [3,12,80] (by decide) (by decide) (by omega) (by omega)) ?_;rintro _ _ ⟨⟨x,hx,rfl⟩,rfl⟩;have px:1<=x/\x<=80:=(show ∀ x∈[(3:Int),12,80],1<=x/\x<=80 by decide) x hx;apply zgF;simp only[go_sem];refine zm 0 (AuX L (k2+1) x 1998 px.1 px.2 (by omega) (by omega) (by omega) (by omega)) ?_;rintro _ _ ⟨t,k3,rfl,t1,t2,rfl,t3,t4⟩;apply zgF;simp only[go_sem];refine zm 0 (AhA L k3 8 (by omega) (by omega) (by omega) (by omega)) ?_;rintro _ _ ⟨⟨b,rfl⟩,rfl⟩;have fol:followsL 4 e2=true:=by rcases f3 with rfl|rfl|rfl <;> rfl
     have e3:∀ q u,List.map paA out2++[AV.agg [.int .i64 q,.str u]]=List.map paA (out2++[⟨q,u⟩]):=fun q u=>by simp[paA]
     have e4:∀ q u,out2.length+1=(out2++[(⟨q,u⟩:Pa)]).length:=fun q u=>by simp
     have next:∀ (q:Pa) (k4:Int),DrawnP q->q.kind=4->k3<=k4->k4<=k3+2->_:=fun q k4 hq hk h1 h2=>hJ (i+1,k4,4,out2++[q]) ⟨by simp only; omega,by simp only; omega,by simp only; omega,by simp only; omega,.inr rfl,fun _=>rfl,
      fun l l2 l3=>hk▸AuY (f4 l l2 l3) hq.ok (hk▸fol),fun p hp=>by
       rcases List.mem_append.1 hp with hp|hp
       .exact f5 p hp
       .rw [List.mem_singleton.1 hp]; exact hq,by simp,by simp only[lah,lam,lap]; omega,by simp only[wtL_one,hk,pwP]; simp; omega⟩ (by simp only; omega)
     cases b with
     | true =>
      apply zgF;simp only[go_sem];refine zm 0 (ArP L (k3+1) PreB (by decide) (by decide) (by omega) (by omega)) ?_;rintro _ _ ⟨⟨y,hy,rfl⟩,rfl⟩;obtain⟨u1,u2⟩:=AhZ (.inr hy) t1;apply zgF;simp only[go_sem];refine⟨by omega,by simp,.inl trivial,by simp; omega,by simp; omega,by omega,by omega,?_⟩;rw[e3,e4 4 (y++t)];refine ainv (next ⟨4,y++t⟩ (k3+1+1) (AcI (.inr rfl) u1 (by simp; omega)) rfl (by omega) (by omega)) (Lr ?_);simp only[go_sem]
     | false =>
      apply zgF;simp only[go_sem];refine⟨by simp,.inl trivial,by simp; omega,by simp; omega,by omega,by omega,?_⟩;rw[e3,e4 4 t];refine ainv (next ⟨4,t⟩ (k3+1) (AcI (.inr rfl) (t1.weak AdV) (by omega)) rfl (by omega) (by omega)) (Lr ?_);simp only[go_sem]
    .intro Q hQ
     cases b with
     | true =>
      apply zgF;simp only[go_sem];refine zm 0 (AuV L (k'+1) [2,20] (by decide) (by decide) (by omega) (by omega)) ?_;rintro _ _ ⟨⟨x,hx,rfl⟩,rfl⟩;have px:1<=x/\x<=80:=(show ∀ x∈[(2:Int),20],1<=x/\x<=80 by decide) x hx;apply zgF;simp only[go_sem];refine zm 0 (AuX L (k'+1+1) x 200 px.1 px.2 (by omega) (by omega) (by omega) (by omega)) ?_;rintro _ _ ⟨t,k3,rfl,t1,t2,rfl,t3,t4⟩;apply zgF;simp only[go_sem];have e3:∀ q u,List.map paA out++[AV.agg [.int .i64 q,.str u]]=List.map paA (out++[⟨q,u⟩]):=fun q u=>by simp[paA]
      have e4:∀ q u,out.length+1=(out++[(⟨q,u⟩:Pa)]).length:=fun q u=>by simp
      have dq:DrawnP ⟨3,t⟩:=AoK t1 (by omega);have fol:followsL 3 e=true:=by rcases g5 with rfl|rfl <;> rfl
      refine⟨by simp,.inl trivial,by simp; omega,by simp; omega,?_⟩;rw[e3,e4 3 t];refine ainv (hQ (k3,3,out++[⟨3,t⟩]) ⟨by simp only; omega,by simp only; omega,.inr (.inl rfl),fun l l2 l3=>AuY (g7 l l2 l3) dq.ok fol,fun p hp=>?_,by simp,by simp; omega,by simp only[wtL_one,pwP]; simp; omega⟩) (Lr ?_)
      .rcases List.mem_append.1 hp with hp|hp
       .exact g8 p hp
       .rw [List.mem_singleton.1 hp]; exact dq
      .simp only [go_sem]
     | false =>
      apply zgF;simp only[go_sem];refine ainv (hQ (k'+1,e,out) ⟨by simp only; omega,by simp only; omega,by simp only; omega,g7,g8,g9,by simp only; omega,by simp only; omega⟩) (Lr ?_);simp only[go_sem]
   .have di:decide (i<n)=false:=by simp; omega
    simp only[go_sem,di];have i0:i=n:=by omega
    have e4:=g6 (by omega);refine ARet.shift (Shift.freeze 2 (id:=1) rfl rfl (by simp) (lad _) (AeU out)) (aret [2] rfl ⟨_,_,rfl,⟨out,k',?_,⟨fun l l2 l3=>⟨e,g7 l l2 l3,by omega,by omega⟩,⟨g9,by omega⟩,g8,by omega⟩,rfl,by omega,by omega⟩,rfl,rfl⟩)
    simp[resV,Av.get,Av.put,laj]
theorem AgA(id e:Nat)(l:LA)(L:List Int)(k:Int):frz id e l (str L k)=str L k:=rfl
theorem AdO(id e:Nat)(l:LA)(L:List Int)(k:Int):frzC id e l (str L k)=str L k:=rfl
structure DrawnS(x:Sc):Prop where
 no:x.no=[]
 place:1<=x.place/\x.place<=3
 set:x.set∈SetL
 time:1<=x.time/\x.time<=5
 run:∃ e,runL 0 x.Ld=some e/\e≠2/\e≠3
 len:x.Ld.length<=60
 all:∀ p∈x.Ld,DrawnP p
 wt:wtL x.Ld<=143
theorem AjR(L:List Int)(k:Int)(h3:0<=k)(h4:k<=700000) :
  Mc prog 36 2 (str L k) [] (fun r s=>∃ (x:Sc) (k':Int),r=scA x/\DrawnS x/\s=str L k'/\k<=k'/\k'<=k+5000):=by
 refine zcIF func36 rfl fun h ρ w=>?_
 simp only[go_sem];refine zm 0 (AmV L k 1 3 (by omega) (by omega) (by omega) (by omega) (by omega)) ?_;rintro _ _ ⟨⟨pl,rfl,hp1,hp2⟩,rfl⟩;apply zgF;simp only[go_sem];refine zpN (BeR) ?_;simp only[go_sem];refine zm 0 (ArP L (k+1) SetL (by decide) (by decide) (by omega) (by omega)) ?_;rintro _ _ ⟨⟨st,hst,rfl⟩,rfl⟩;apply zgF;simp only[go_sem];refine zm 0 (AmV L (k+1+1) 1 5 (by omega) (by omega) (by omega) (by omega) (by omega)) ?_;rintro _ _ ⟨⟨tm,rfl,ht1,ht2⟩,rfl⟩;apply zgF;simp only[go_sem];refine zm 0 (AuV L (k+1+1+1) [2,5,12] (by decide) (by decide) (by omega) (by omega)) ?_;rintro _ _ ⟨⟨n,hn,rfl⟩,rfl⟩;have pn:1<=n/\n<=12:=(show ∀ x∈[(2:Int),5,12],1<=x/\x<=12 by decide) n hn;apply zgF;simp only[go_sem];refine zm 0 (AiX L (k+1+1+1+1) n (by omega) (by omega) (by omega) (by omega)) ?_;rintro _ _ ⟨⟨v,rfl,hv0,hv1⟩,rfl⟩;apply zgF;simp only[go_sem];refine AaE (ι:=Int×Int×List Pa) (fun x=>(v-x.1).toNat)
  (fun x=>[(17,.int .i64 x.1),(16,.int .i64 v),(3,.ptr 2 1 0 0),(2,.ptr 1 1 0 0),(0,.ptr 0 1 0 0)])
  (fun x=>[.arr 2 [str L x.2.1],.arr 5 [.agg [.str [],.int .i64 0,.str [],.int .i64 0,.raw (.slice none 0 0)]],.arr 5 [.agg [.str [],.int .i64 pl,.str st,.int .i64 tm,.sl 3 0 x.2.2.length x.2.2.length]],.arr 2 (x.2.2.map paA)])
  (fun x=>0<=x.1/\x.1<=v/\k<=x.2.1/\x.2.1<=k+5+400*x.1/\(∃ e,runL 0 x.2.2=some e/\e≠2/\e≠3)/\(∀ p∈x.2.2,DrawnP p)/\(x.2.2.length:Int)<=5*x.1/\(wtL x.2.2:Int)<=13*x.1)
  (0,k+1+1+1+1+1,[]) ⟨Int.le_refl _,by simp only; omega,by simp only; omega,by simp only; omega,⟨0,rfl,by decide,by decide⟩,by simp,by simp,by simp[wtL]⟩ ?_ ?_
 .refine Shift.trans (Shift.cells 2 2 [.agg [.str [],.int .i64 pl,.str st,.int .i64 tm,.sl 3 0 0 0]] rfl rfl (by simp[cellsOf]) ⟨.refl,.refl,.refl,.refl,.sl,trivial⟩) (Lr ?_)
  simp only[go_sem]
 .rintro ⟨i,k',ps⟩ ⟨g1,g2,g3,g4,⟨e,g5,g6,g7⟩,g8,g9,g10⟩ J hJ
  simp only at g1 g2 g3 g4 g5 g6 g7 g8 g9 g10 hJ |-
  by_cases gi:i<v
  .have di:decide (i<v)=true:=by simp; omega
   apply zgN;simp only[go_sem,di];refine AeB [3] 0 [] AaI (by decide) rfl rfl 100 ?_;simp only[go_sem];refine AuQ (BnN L k' (by omega) (by omega)) rfl rfl rfl ⟨_,_,[⟨5,[69,78,68]⟩],k',rfl,AeE (AlC (by simp[TurnL])) (.inr rfl),rfl,by omega,by omega⟩ ?_;rintro _ _ ⟨b,k2,rfl,hb,rfl,t1,t2⟩;simp only[go_sem];refine⟨by simp,.inl trivial,by simp; have:=hb.len.2; omega,by simp; have:=hb.len.2; omega,?_⟩;apply zgN;simp only[go_sem];refine⟨by omega,by omega,?_⟩;rw[<- lak,show ps.length+(List.map paA b).length=(ps++b).length by simp];obtain⟨e',r1,r2,r3⟩:=hb.run e g6 g7;have:=hb.len;refine ainv (hJ (i+1,k2,ps++b) ⟨by simp only; omega,by simp only; omega,by simp only; omega,by simp only; omega,⟨e',by rw[runL_append _ _ _ _ g5]; exact r1,r2,r3⟩,fun p hp=>?_,by simp; omega,by have:=hb.wt; simp only[ArQ]; omega⟩ (by simp only; omega)) (Lr ?_)
   .rcases List.mem_append.1 hp with hp|hp
    .exact g8 p hp
    .exact hb.all p hp
   .simp only [go_sem,laa]
  .have di:decide (i<v)=false:=by simp; omega
   refine AWp.shift (Shift.frz 3 rfl (AeU ps)) ?_;simp only[go_sem,↓AdO,↓AgA,frzE,frz,frz1,frzC,frzB,laa,lad];have:List.take ps.length (List.map paA ps)=List.map paA ps:=laj (by simp);simp only[this];apply zgN;simp only[go_sem,di];exact AcA [.cell 2 68] rfl [_] ⟨by simp only[go_sem,sideIs],trivial⟩ ⟨_,_,rfl,⟨⟨[],pl,st,tm,ps⟩,k',rfl,⟨rfl,⟨hp1,hp2⟩,hst,⟨ht1,ht2⟩,⟨e,g5,g6,g7⟩,by simp only; omega,g8,by simp only; omega⟩,rfl,g3,by omega⟩,rfl,rfl⟩
def TitleL:List LU:=[[84],[84,104,101,32,77,105,108,108],[65,32,45,32,66]]
structure DrawnR(x:Sr):Prop where
 Lk:x.Lk∈TitleL
 len:x.Lc.length<=5
 all:∀ y∈x.Lc,DrawnS y
 first:∀ y,x.Lc.head? = some y->y.time≠5
theorem AaF(ps:List Sc):(flat (ps.map scA)).all Av.frozen=true:=by
 induction ps with
 | nil=>rfl
 | cons y l ih=>simpa[flat,cellsOf,scA,Av.frozen]using ih
def digB(c:UInt8):Bool:=digI c.toNat
def capB(c:UInt8):Bool:=capI c.toNat
def digs(s:LU):LU:=s.takeWhile digB
def caps(s:LU):LU:=s.dropWhile digB
theorem AhB{p:UInt8->Bool}:∀ {s:LU}{k:Nat},k<=s.length->(s.take k).all p=true->(k=s.length\/p (s.getD k 0)=false)->s.takeWhile p=s.take k/\s.dropWhile p=s.drop k
 | [],k,hk,_,_=>by simp
 | c::s,0,_,_,e=>by
  simp_all
 | c::s,k+1,hk,h,e=>by
  simp only[List.take_succ_cons,lat,lae]at h;have ih:=AhB (by simpa using hk) h.2 (by simpa using e)
  simp[h.1,ih.1,ih.2]
def numberL(s:LU):Bool :=
 (caps s).all capB&&(!(decide (((caps s).length:Int)>5)||Lib.hasSuffix (caps s) [65]) &&
  (if digs s=[48] then caps s != [] else decide (1<=(digs s).length)&&(decide ((digs s).length<=3)&&((s.getD 0 0).toNat:Int) != 48)))
theorem AlZ(s:LU)(hs:s.length<1000000):Pc prog 154 [.str s] (· = .bool (numberL s)):=by
 refine zpIN func154 rfl fun h ρ w=>?_
 simp only[go_sem];refine AoB (ι:=Nat) (κ:=Unit) (fun i=>s.length-i) (fun i=>[(3,.int .i64 i),(0,.str s)]) (fun _=>[]) (fun i=>i<=s.length/\(s.take i).all digB=true)
  (fun _=>[(3,.int .i64 (digs s).length),(0,.str s)]) (fun _=>[]) (fun _=>s=digs s++caps s) 0 ⟨by omega,by simp⟩ ?_ ?_ ?_
 .refine Lr ?_
  simp only[go_sem]
 .rintro-hd
  have hdl:(digs s).length<=s.length:=(congrArg List.length hd).symm▸by simp
  have edr:List.drop (digs s).length s=caps s:=(congrArg (List.drop (digs s).length) hd).trans (by simp);have etk:List.take (digs s).length s=digs s:=(congrArg (List.take (digs s).length) hd).trans (by simp);have hcl:(caps s).length<=s.length:=(congrArg List.length hd).symm▸by simp
  apply zgN;simp only[go_sem,edr];refine⟨by omega,by omega,by omega,?_⟩;refine AoB (ι:=Nat) (κ:=Unit) (fun i=>(caps s).length-i) (fun i=>[(23,.int .i64 i),(22,.int .i64 (caps s).length),(4,.str (caps s)),(3,.int .i64 (digs s).length),(0,.str s)]) (fun _=>[]) (fun i=>i<=(caps s).length/\((caps s).take i).all capB=true)
   (fun _=>[(4,.str (caps s)),(3,.int .i64 (digs s).length),(0,.str s)]) (fun _=>[]) (fun _=>(caps s).all capB=true) 0 ⟨by omega,by simp⟩ ?_ ?_ ?_
  .refine Lr ?_
   simp only[go_sem]
  .rintro-hc
   by_cases h5:((caps s).length:Int)>5
   .have d5:decide (((caps s).length:Int)>5)=true:=by simpa using h5
    apply zgN;simp only[go_sem,d5];exact aret [2] rfl ⟨by simp[resV,Av.get,numberL,d5],rfl⟩
   have d5:decide (((caps s).length:Int)>5)=false:=by simpa using h5
   apply zgN;simp only[go_sem,d5];refine zpN (AbR (caps s) [65] (by omega)) ?_
   cases e6:Lib.hasSuffix (caps s) [65]with
   | true =>
    simp only[go_sem];exact aret [2] rfl ⟨by simp[resV,Av.get,numberL,e6],rfl⟩
   | false =>
   by_cases h7:digs s=[48]
   .have d7:(digs s==[48])=true:=by simpa using h7
    simp only[go_sem,etk,d7];refine⟨by omega,by omega,?_⟩;exact aret [2] rfl ⟨by simp[resV,Av.get,numberL,h7,d5,e6,hc],rfl⟩
   have d7:(digs s==[48])=false:=by simpa using h7
   by_cases h8:((digs s).length:Int)>=1
   .have d8:decide (((digs s).length:Int)>=1)=true:=by simpa using h8
    have d8':decide (1<=(digs s).length)=true:=by simp; omega
    by_cases h9:((digs s).length:Int)<=3
    .have d9:decide (((digs s).length:Int)<=3)=true:=by simpa using h9
     have d9':decide ((digs s).length<=3)=true:=by simp; omega
     simp only[go_sem,etk,d7,d8,d9];refine⟨by omega,by omega,by omega,?_⟩;exact aret [2] rfl ⟨by simp only[resV,Av.get,numberL,d5,e6,hc,if_neg h7,d8',d9']; rfl,rfl⟩
    .have d9:decide (((digs s).length:Int)<=3)=false:=by simpa using h9
     have d9':decide ((digs s).length<=3)=false:=by simp; omega
     simp only[go_sem,etk,d7,d8,d9];refine⟨by omega,by omega,?_⟩;exact aret [2] rfl ⟨by simp only[resV,Av.get,numberL,d5,e6,hc,if_neg h7,d8',d9']; rfl,rfl⟩
   .have d8:decide (((digs s).length:Int)>=1)=false:=by simpa using h8
    have d8':decide (1<=(digs s).length)=false:=decide_eq_false (by omega);simp only[go_sem,etk,d7,d8];refine⟨by omega,by omega,?_⟩;exact aret [2] rfl ⟨by simp only[resV,Av.get,numberL,d5,e6,hc,if_neg h7,d8']; rfl,rfl⟩
  .rintro i ⟨g1,g2⟩ J Q hJ hQ
   apply zgN
   by_cases hi:(i:Int)<(caps s).length
   .have hil:i<(caps s).length:=by omega
    have hgd:(caps s).getD i 0=(caps s)[i]:=by simp[List.getD,hil]
    simp only[go_sem,hi,hgd];refine⟨by omega,?_⟩;refine zpN (AeR _) ?_
    cases c1:capI ((caps s)[i].toNat:Int)with
    | true =>
     simp only[go_sem];rw[ic i]
     repeat refine ao ?_
     refine ainv (hJ (i+1) ⟨by omega,AaR hil g2 c1⟩ (by omega)) (Lr ?_);simp only[go_sem]
    | false =>
     simp only[go_sem];exact aret [2] rfl ⟨by simp[resV,Av.get,numberL,AcH hil (p:=capB) c1],rfl⟩
   .simp only [go_sem,hi]
    have hall:(caps s).all capB=true:=by
     have ht:(caps s).take i=caps s:=laj (by omega);rw[ht]at g2; exact g2
    refine ainv (hQ () hall) (Lr ?_);simp only[go_sem]
 .rintro i ⟨g1,g2⟩ J Q hJ hQ
  have out:(i=s.length\/digB (s.getD i 0)=false)->((digs s).length=i/\s=digs s++caps s):=fun e=>by
   obtain⟨e1,e2⟩:=AhB g1 g2 e;exact⟨by rw[digs,e1]; simp; omega,by simp[digs,caps]⟩
  apply zgN
  by_cases hi:(i:Int)<s.length
  .have hil:i<s.length:=by omega
   have hgd:s.getD i 0=s[i]:=by simp[List.getD,hil]
   simp only[go_sem,hi,hgd];refine⟨by omega,?_⟩;refine zpN (ArN _) ?_
   cases c1:digI (s[i].toNat:Int)with
   | true =>
    simp only[go_sem];rw[ic i]
    repeat refine ao ?_
    refine ainv (hJ (i+1) ⟨by omega,AaR hil g2 c1⟩ (by omega)) (Lr ?_);simp only[go_sem]
   | false =>
    obtain⟨e1,e2⟩:=out (.inr (by rw[hgd]; exact c1));simp only[go_sem];refine ainv (hQ () e2) (Lr ?_);rw[e1];simp only[go_sem]
  .simp only [go_sem,hi]
   obtain⟨e1,e2⟩:=out (.inl (by omega));refine ainv (hQ () e2) (Lr ?_);rw[e1];simp only[go_sem]
def pN(s:LU):Int:=(Lib.atoi (digs s)).getD 0
def okD(s:LU):Prop:=1<=(digs s).length/\(digs s).length<=18
theorem A6H{c:UInt8}(h:digB c=true):Lib.digitVal c=some (c.toNat-48):=by
 grind[digB,digI,Lib.digitVal]
theorem AeV:∀ (l:LU)(acc:Nat),l.all digB=true->∃ n,Lib.decFrom acc l=some n
 | [],acc,_=>⟨acc,rfl⟩
 | c::l,acc,h=>by
  simp only[lat,lae]at h;obtain⟨n,hn⟩:=AeV l (acc*10+(c.toNat-48)) h.2;exact⟨n,by rw[Lib.decFrom,A6H h.1]; exact hn⟩
theorem AgB(s:LU):(digs s).all digB=true:=List.all_takeWhile
theorem AfJ{s:LU}(h:okD s):Lib.atoi (digs s)=some (pN s):=by
 obtain⟨n,hn⟩:=AeV (digs s) 0 (AgB s);have h1:=h.1;have ha:=AgB s;have key:Lib.atoi (digs s)=some (n:Int):=by
  cases hq:digs s with
  | nil=>grind
  | cons b r =>
   rw[hq]at hn ha;simp only[lat,lae,digB,digI,lag]at ha;have b1:(b==45)=false:=by
    cases hb:b==45<;>simp_all
   have b2:(b==43)=false:=by
    cases hb:b==43<;>simp_all
   grind[Lib.atoi,Lib.decNat]
 grind[pN]
theorem AfK{w w':World}(b:Below w.heap.size w w'):Same w w':=⟨b.os,b.tape,⟨b.output,trivial⟩,b.size,b.block⟩
theorem AoL(s:LU):∀ h vs',RL h Lf0 true vs' [.str s]->vs'=[.string ⟨s.toArray⟩]:=by
 intro h vs' r
 cases r with|cons r1 r=>cases r; grind[rv_str]
theorem BvT(k:IntKind)(n:Int):∀ h vs',RL h Lf0 true vs' [.int k n]->vs'=[.int k n]:=by
 intro h vs' r
 cases r with|cons r1 r=>cases r; grind[BeH]
theorem BvU(s:LU)(k:IntKind)(n:Int):∀ h vs',RL h Lf0 true vs' [.str s,.int k n]->vs'=[.string ⟨s.toArray⟩,.int k n]:=by
 intro h vs' r
 cases r with|cons r1 r=>cases r with|cons r2 r=>cases r<;>grind[rv_str,BeH]
theorem AoM(s:LU)(n:Int)(hl:s.length<=18)(h:Lib.atoi s=some n):Pc prog 59 [.str s] (· = .tup [.int .i64 n,.raw .nilIface]) :=
 ArM [_] (.tuple #[.int .i64 n,.nilIface]) hB59 (AoL s) (fun h=>.tup [_,_] [_,_] (.cons (.int _ _) (.cons (.raw _) .nil)))
  fun w=>(Any.strconv_Atoi Tryz.lays172 ⟨s.toArray⟩ n (by simpa[ByteArray.size]using hl) h w).mono fun e w' ⟨h1,t,h2⟩=>⟨h1,h2▸AfK (Lib.bytesWorld_below _ _ _)⟩
theorem AiO(a b:LU):Pc prog 84 [.str a,.str b] (· = .int .i64 (Lib.compareBytes a b)) :=
 ArM [_,_] (.int .i64 (Lib.compareBytes a b)) hB84 (AdN a b) (fun h=>.int _ _) fun w=>(Any.strings_Compare Tryz.lays106 ⟨a.toArray⟩ ⟨b.toArray⟩ w).mono fun e w' ⟨h1,h2⟩=>⟨h1,h2▸.refl w⟩
theorem AjS(s:LU)(c:Nat)(hlen:s.length*c<=1000000)(hc:c<=1000000):Pc prog 118 [.str s,.int .i64 c] (· = .str (Lib.repeatL s c)) :=
 ArM [_,.int .i64 c] (.string ⟨(Lib.repeatL s c).toArray⟩) hB118 (BvU s .i64 c) (fun h=>.str _)
  fun w=>(Any.strings_Repeat Tryz.lays105 Tryz.Builder_Extra_105 ⟨s.toArray⟩ c w (by omega) (by simp[ByteArray.size]; omega)).mono fun e w' ⟨h1,h2⟩=>⟨h1,AfK h2⟩
theorem AmA(x:Int):Pc prog 146 [.int .i64 x] (· = .bool false):=by
 refine zpIN func146 rfl fun h ρ w=>?_
 simp only[go_sem];exact aret [2] rfl ⟨by simp[resV,Av.get],rfl⟩
def cmpI(x y:Int):Int:=if x<y then -1 else if x>y then 1 else 0
theorem ArR(x y:Int):Pc prog 83 [.int .i64 x,.int .i64 y] (· = .int .i64 (cmpI x y)):=by
 refine zpIN func83 rfl fun h ρ w=>?_
 simp only[go_sem];refine zpN (AmA _) ?_;simp only[go_sem];refine zpN (AmA _) ?_
 by_cases h1:x<y
 .have d1:decide (x<y)=true:=by simpa using h1
  simp only[go_sem,d1];exact aret [4] rfl ⟨by simp[resV,Av.get,cmpI,h1],rfl⟩
 have d1:decide (x<y)=false:=by simpa using h1
 by_cases h2:x>y
 .have d2:decide (x>y)=true:=by simpa using h2
  simp only[go_sem,d1,d2];exact aret [4] rfl ⟨by simp[resV,Av.get,cmpI,h1,h2],rfl⟩
 have d2:decide (x>y)=false:=by simpa using h2
 simp only[go_sem,d1,d2];exact aret [4] rfl ⟨by simp[resV,Av.get,cmpI,h1,h2],rfl⟩
def orI(x y:Int):Int:=if x=0 then y else x
theorem B0E(x y:Int):Pc prog 82 [.fz 1 [.int .i64 x,.int .i64 y]] (· = .int .i64 (orI x y)):=by
 refine zpIN func82 rfl fun h ρ w=>?_
 simp only[go_sem];refine AdZ (AcM (zgN ?_))
 by_cases h1:x=0
 .have d1:(x != 0)=false:=by simpa using h1
  simp only[go_sem,d1];refine AxH (AcM (zgN ?_))
  by_cases h2:y=0
  .have d2:(y != 0)=false:=by simpa using h2
   simp only[go_sem,d2];refine AxH (AcM (zgN ?_));simp only[go_sem];exact aret [2] rfl ⟨by simp[resV,Av.get,orI,h1,h2],rfl⟩
  have d2:(y != 0)=true:=by simpa using h2
  simp only[go_sem,d2];exact aret [2] rfl ⟨by simp[resV,Av.get,orI,h1],rfl⟩
 have d1:(x != 0)=true:=by simpa using h1
 simp only[go_sem,d1];exact aret [2] rfl ⟨by simp[resV,Av.get,orI,h1],rfl⟩
def compareN(a b:LU):Int:=orI (cmpI (pN a) (pN b)) (Lib.compareBytes (caps a) (caps b))
def lowestL(n:Nat):LU:=Lib.repeatL [65] (n-1)++[66]
abbrev bys(l:LU):LA:=l.map fun b=>.int .u8 b.toNat
theorem A2P{l:LU}{k:Nat}(h:k<l.length):(bys l).getD k .any=.int .u8 (l.getD k 0).toNat:=by grind
theorem bys_set(l:LU)(k:Nat)(x:UInt8):(bys l).set k (.int .u8 x.toNat)=bys (l.set k x):=by simp_all
theorem bys_len(l:LU):(bys l).length=l.length:=by simp
theorem AuZ(l:LU):(bys l).all AfE=true/\(bys l).map Go.Av.AlW=l:=by
 refine⟨by grind[AfE],?_⟩
 induction l<;>simp_all[Go.Av.AlW]
def bumpR:LU->Option LU
 | []=>none
 | c::r=>if c=90 then(bumpR r).map (65::·) else some ((c+1)::r)
def fixR:LU->LU
 | []=>[]
 | c::r=>(if c=65 then 66 else c)::r
def aboveL(c:LU)(n:Nat):LU :=
 if c.length<n then c++lowestL (n-c.length) else
  match bumpR (c.take n).reverse with
  | none=>[]
  | some r=>(fixR r).reverse
theorem bump_run(p:LU):∀ j,bumpR (List.replicate j 90++p)=(bumpR p).map (List.replicate j 65 ++ ·)
 | 0=>by simp_all
 | j+1=>by
  rw[List.replicate_succ,lbb,bumpR,if_pos rfl,bump_run p j]
  cases bumpR p <;> simp[List.replicate_succ]
theorem BeS{c:LU}{n j:Nat}(hj:j<=n)(hn:n<=c.length)(h:∀ i,n-j<=i->i<n->c.getD i 0=90):c.take n=c.take (n-j)++List.replicate j 90:=by
 refine lbz fun i=>?_<;>grind
theorem BtA{c:LU}{k:Nat}(hk:k<c.length):c.take (k+1)=c.take k++[c.getD k 0]:=by
 simp_all
theorem BeT{c:LU}{n:Nat}(hn:n<=c.length)(h:∀ i,n-n<=i->i<n->c.getD i 0=90):bumpR (c.take n).reverse=none:=by
 rw[BeS (lad n) hn h];have:=bump_run [] n
 grind[bumpR]
theorem BeU{c:LU}{n j:Nat}(hj:j<n)(hn:n<=c.length)(h:∀ i,n-j<=i->i<n->c.getD i 0=90)(hk:c.getD (n-1-j) 0≠90) :
  bumpR (c.take n).reverse=some (List.replicate j 65++(c.getD (n-1-j) 0+1)::(c.take (n-1-j)).reverse):=by
 rw[BeS (Nat.le_of_lt hj) hn h,List.reverse_append,List.reverse_replicate,show n-j=(n-1-j)+1 by omega,BtA (by omega),List.reverse_append,List.reverse_singleton,List.singleton_append,bump_run,bumpR,if_neg hk];rfl
theorem BnO{l:LU}{n:Nat}(h0:1<=n)(hl:l.length=n):(fixR l.reverse).reverse=if l.getD (n-1) 0=65 then l.set (n-1) 66 else l:=by
 obtain⟨r,x,rfl⟩:∃ r x,l=r++[x]:=⟨l.dropLast,l.getLast (by grind),(List.dropLast_concat_getLast _).symm⟩;have hr:n-1=r.length:=by grind
 rw[hr];simp only[List.reverse_append,List.reverse_singleton,List.singleton_append,fixR]
 grind
theorem AdP{S:Std}(hS:LibOk S)(n:Int)(h0:-9223372036854775808<=n)(h1:n<=9223372036854775807):PcH prog S 29 [.int .i64 n] (· = .str (Lib.itoa n)) :=
 A2G [_] (.string ⟨(Lib.itoa n).toArray⟩) hB29 (BvT .i64 n) (fun h=>.str _) fun w H=>by
  obtain⟨t,z,hp⟩:=hS.pow10;refine(Any.strconv_Itoa Tryz.laysM171 n h0 h1 w ?_).mono fun e w' ⟨e1,k,os,e2⟩=>⟨e1,e2▸AfK (Lib.below_grow _ _ (lad _) _ _)⟩
  show w.var? _ _=_
  have hg:prog.globalNamed "internal/strconv.uint64pow10" = some 5:=by kernel_rfl
  simp only[World.var?,hg,Option.bind_some,H _ _ hp]
def dig3(d:Int):LU :=
 if d.toNat<10 then[UInt8.ofNat (48+d.toNat)] else if d.toNat<100 then[UInt8.ofNat (48+d.toNat / 10),UInt8.ofNat (48+d.toNat%10)]
 else[UInt8.ofNat (48+d.toNat / 100),UInt8.ofNat (48+d.toNat / 10%10),UInt8.ofNat (48+d.toNat%10)]
theorem itoa_dig3{d:Int}(h0:0<=d)(h1:d<=999):Lib.itoa d=dig3 d:=by
 grind[Lib.itoa,dig3,Lib.decDigits]
theorem AjT(d:Int):1<=(dig3 d).length/\(dig3 d).length<=3:=by
 grind[dig3]
theorem BvV{n:Nat}(h:n<10):digB (UInt8.ofNat (48+n))=true:=by
 have:(UInt8.ofNat (48+n)).toNat=48+n:=by simp; omega
 grind[digB,digI]
theorem A6I{d:Int}(h0:0<=d)(h1:d<=999):(dig3 d).all digB=true:=by
 grind[dig3,BvV]
def nextX(a:LU)(n:Nat):Int×LU :=
 if a=[] then(if n=0 then(1,[]) else(0,lowestL n))
 else if n=0 then(pN a+1,[])
 else if aboveL (caps a) n=[] then(pN a+1,lowestL n) else(pN a,aboveL (caps a) n)
def AqV(a:LU)(n:Nat):LU:=if(nextX a n).1>999 then[] else dig3 (nextX a n).1++(nextX a n).2
def okA(a:LU):Prop:=a=[]\/(okD a/\a.length<1000/\(caps a).all capB=true/\0<=pN a/\pN a<1000000)
theorem BtB{l:LU}(h:l.all capB=true):∀ x∈l,x.toNat<=90:=by grind[capB,capI]
theorem AlD(n:Nat):(lowestL n).length<=n+1:=by grind[lowestL,Lib.repeatL_length]
theorem AvA:∀ (l r:LU),bumpR l=some r->r.length=l.length
 | [],r,h=>by grind[bumpR]
 | c::l,r,h=>by
  unfold bumpR at h
  split at h
  .cases hq:bumpR l with
   | none=>simp[hq]at h
   | some r'=>simp[hq]at h; subst h; simp[AvA l r' hq]
  .simp at h; subst h; simp
theorem fix_len(l:LU):(fixR l).length=l.length:=by cases l <;> rfl
theorem above_len(c:LU)(n:Nat):(aboveL c n).length<=c.length+n+1:=by
 unfold aboveL
 split
 .grind[AlD]
 .split
  .simp
  .rename_i r hr
   have:=AvA _ _ hr
   grind[fix_len]
theorem A2Q{a:LU}{n:Nat}(hn:n<=100)(ha:okA a):0<=(nextX a n).1/\(nextX a n).1<=1000001/\(nextX a n).2.length<=100000:=by
 have hl:=AlD n
 by_cases h0:a=[]
 .grind[nextX]
 .obtain ⟨ho,hal,hc,h1,h2⟩:=ha.resolve_left h0
  grind[caps,List.dropWhile_suffix,above_len,nextX]
theorem cap_iff{x:UInt8}:capB x=true ↔ 65<=x.toNat/\x.toNat<=90:=by
 grind[capB,capI]
theorem BvW(n:Nat):(Lib.repeatL [65] n).all capB=true:=by
 induction n with
 | zero=>rfl
 | succ n ih=>simp only[Lib.repeatL,lbo,ih]; rfl
theorem lowest_cap(n:Nat):(lowestL n).all capB=true:=by
 simp only[lowestL,lbo,BvW]; rfl
theorem A6J:∀ (l r:LU),bumpR l=some r->l.all capB=true->r.all capB=true
 | [],r,h,_=>by grind[bumpR]
 | c::l,r,h,hc=>by
  simp only[lat,lae]at hc;unfold bumpR at h
  split at h
  .cases hq:bumpR l with
   | none=>simp[hq]at h
   | some r' =>
    simp[hq]at h; subst h
    simp only[lat,A6J l r' hq hc.2,lax]; rfl
  .rename_i h90
   simp at h; subst h
   have h1:=cap_iff.1 hc.1;have h2:c.toNat≠90:=fun e=>h90 (UInt8.toNat_inj.1 e)
   have h3:(c+1).toNat=(c.toNat+1)%256:=by rfl
   have h4:capB (c+1)=true:=cap_iff.2 (by omega);simp only[lat,h4,hc.2,lbh]
theorem fix_cap(l:LU)(h:l.all capB=true):(fixR l).all capB=true:=by
 cases l with
 | nil=>rfl
 | cons c l =>
  simp only[lat,lae]at h;simp only[fixR,lat,h.2,lax]
  split
  .rfl
  grind
theorem AxT{c:LU}(h:c.all capB=true)(n:Nat):(aboveL c n).all capB=true:=by
 grind[aboveL,lowest_cap,fix_cap,A6J]
theorem BeV{a:LU}(n:Nat)(h:(caps a).all capB=true):(nextX a n).2.all capB=true:=by
 grind[nextX,lowest_cap,AxT]
theorem AxU{d c:LU}(hd:d.all digB=true)(hc:c.all capB=true):digs (d++c)=d/\caps (d++c)=c:=by
 have h:=AhB (p:=digB) (s:=d++c) (k:=d.length) (by simp) (by grind) (by
  grind[cap_iff,digB,digI])
 grind[digs,caps]
theorem ArS:∀ (l:LU)(acc n:Nat),Lib.decFrom acc l=some n->n<(acc+1)*10 ^ l.length
 | [],acc,n,h=>by grind[Lib.decFrom]
 | c::l,acc,n,h=>by
  unfold Lib.decFrom at h
  split at h
  .rename_i d hd
   have ih:=ArS l _ _ h;have:d<=9:=by
    grind[Lib.digitVal]
   refine Nat.lt_of_lt_of_le ih ?_;rw[lam,Nat.pow_succ,Nat.mul_comm (10 ^ l.length) 10,<- Nat.mul_assoc];exact lbq _ (by omega)
  grind
theorem BnP{a:LU}(h:okD a):0<=pN a/\pN a<((10 ^ (digs a).length:Nat):Int):=by
 obtain⟨n,hn⟩:=AeV (digs a) 0 (AgB a);have hlt:=ArS _ _ _ hn;have hat:=AfJ h;have h1:=h.1;have ha:=AgB a;have key:pN a=(n):=by
  cases hq:digs a with
  | nil=>grind
  | cons b r =>
   rw[hq]at hn ha hat;simp only[lat,lae,digB,digI,lag]at ha;have b1:(b==45)=false:=by
    cases hb:b==45<;>simp_all
   have b2:(b==43)=false:=by
    cases hb:b==43<;>simp_all
   grind[Lib.atoi,Lib.decNat]
 omega
theorem AaZ{a:LU}(h:numberL a=true):okD a/\(digs a).length<=3/\(caps a).length<=5/\(caps a).all capB=true:=by
 grind[numberL,okD]
theorem AbF(s:LU):s=digs s++caps s:=by simp[digs,caps]
theorem AaN{a:LU}(h:numberL a=true):okD a/\a.length<1000/\(caps a).all capB=true/\0<=pN a/\pN a<1000000:=by
 obtain⟨h1,h2,h3,h4⟩:=AaZ h;have hl:=congrArg List.length (AbF a);have hp:=BnP h1;have:10 ^ (digs a).length<=10 ^ 3:=Nat.pow_le_pow_right (by omega) h2
 grind
