/- Draws: the paragraphs of a block. -/
import Derived.Test.YtmhjbljckkgeoaaGreatDoorC14
set_option maxRecDepth 100000
set_option maxHeartbeats 2000000
set_option linter.all false
namespace Go.Proofs.YtmhjbljckkgeoaaGreatDoor
open Av RowKit Proofs.Tryz
def runL:Int->List Pa->Option Int
 | l,[]=>some l
 | l,p::r=>if paraOk p&&followsL p.kind l then runL p.kind r else none
theorem runL_append:∀ (a b:List Pa)(l e:Int),runL l a=some e->runL l (a++b)=runL e b
 | [],b,l,e,h=>by
  grind[runL]
 | p::a,b,l,e,h=>by
  simp only[runL]at h;simp only[lbc,runL]
  split at h
  .rename_i hc
   rw[if_pos hc];exact runL_append a b p.kind e h
  .simp at h
theorem A4G{a:List Pa}{l e:Int}{p:Pa}(h:runL l a=some e)(h1:paraOk p=true)(h2:followsL p.kind e=true):runL l (a++[p])=some p.kind:=by
 simp_all[runL_append,runL]
def TurnL:List LU:=[[67,85,84,32,84,79],[70,65,68,69,32,79,85,84,46],[69,78,68],[65,78,78]]
def PreA:List LU:=[[64],[62,32],[35,32],[92],[40],[35]]
def PreB:List LU:=[[40],[92],[35],[64]]
structure DrawnP(p:Pa):Prop where
 text:TextOk textC p.text
 kind:1<=p.kind/\p.kind<=5
 name:p.kind=2->p.text∈NameL
 turn:p.kind=5->p.text∈TurnL
 ok:paraOk p=true
theorem AgX{k:Int}{t:LU}(hk:k=1\/k=4)(h:TextOk textC t)(hl:t.length<=2000):DrawnP ⟨k,t⟩:=by
 have hp:=A4F AsU h;have hn:(t != [])=true:=by simpa using h.ne
 refine⟨h,by simp only; omega,by simp only; omega,by simp only; omega,?_⟩<;>grind[paraOk]
theorem A0R{t:LU}(h:TextOk wordC t)(hl:t.length<=200):DrawnP ⟨3,t⟩:=by
 have h':=h.weak AgW;have hp:=A4F AsU h';have hn:(t != [])=true:=by simpa using h.ne
 have hc:Lib.containsAny t [40,41]=false:=by
  have:Lib.NoAny t [40,41] t.length:=fun j b _ hj=>by
   have:=List.all_eq_true.1 h.all b (lar hj)
   grind[wordC]
  grind[Lib.containsAny,Lib.indexAny_none]
 refine⟨h',by simp,by simp,by simp,?_⟩<;>grind[paraOk]
theorem BjZ:(NameL.all fun t=>textB textC t&&paraOk ⟨2,t⟩)=true:=by decide +kernel
theorem BkA:(TurnL.all fun t=>textB textC t&&paraOk ⟨5,t⟩)=true:=by decide +kernel
theorem A7H{t:LU}(h:t∈NameL):DrawnP ⟨2,t⟩:=by
 have:=List.all_eq_true.1 BjZ t h
 simp at this
 exact⟨AsT this.1,by simp,fun _=>h,by simp,this.2⟩
theorem AqP{t:LU}(h:t∈TurnL):DrawnP ⟨5,t⟩:=by
 have:=List.all_eq_true.1 BkA t h
 simp at this
 exact⟨AsT this.1,by simp,by simp,fun _=>h,this.2⟩
def preB(a:LU):Bool:=a.all textC&&(noDbl a&&(a.head? != some 32&&(a != []&&decide (a.length<=2))))
theorem pre_all:(PreA.all preB&&PreB.all preB)=true:=by decide +kernel
theorem A4H{a t:LU}(h:a∈PreA\/a∈PreB)(y:TextOk wordC t):TextOk textC (a++t)/\a.length<=2:=by
 grind[preB,pre_all,TextOk.pre,AgW]
def pwP(k:Int):Nat:=if k=1\/k=4 then 4 else if k=3 then 1 else 3
def wtL(l:List Pa):Nat:=(l.map fun p=>pwP p.kind).sum
theorem wtL_one(a:List Pa)(p:Pa):wtL (a++[p])=wtL a+pwP p.kind:=by simp[wtL]
theorem A7I(a b:List Pa):wtL (a++b)=wtL a+wtL b:=by simp[wtL]
structure Block(b:List Pa):Prop where
 run:∀ l,l≠2->l≠3->∃ e,runL l b=some e/\e≠2/\e≠3
 len:1<=b.length/\b.length<=5
 all:∀ p∈b,DrawnP p
 wt:wtL b<=13
theorem AfY{k l:Int}(hk:k≠3)(hk':k≠4)(h2:l≠2)(h3:l≠3):followsL k l=true:=by grind[followsL]
theorem AiU{p:Pa}(h:DrawnP p)(hk:p.kind=1\/p.kind=5):Block [p]:=by
 refine⟨fun l h2 h3=>⟨p.kind,?_,by omega,by omega⟩,by simp,by grind,by grind[wtL,pwP]⟩
 simp[runL,h.ok,AfY (show p.kind≠3 by omega) (show p.kind≠4 by omega) h2 h3]
theorem AlG(ps:List Pa):(flat (ps.map paA)).all Av.frozen=true:=by
 induction ps<;>grind[flat,cellsOf,paA,Av.frozen]
theorem BkB(L:List Int)(k:Int)(h3:0<=k)(h4:k<=800000) :
  Mc prog 91 2 (str L k) [] (fun r s=>∃ (b:List Pa) (k':Int),r=.fz 2 (b.map paA)/\Block b/\s=str L k'/\k<=k'/\k'<=k+400):=by
 refine zcIF func91 rfl fun h ρ w=>?_
 simp only[go_sem];refine zm 0 (AcV L k _ (by omega) (by omega) h3 (by omega)) ?_;rintro _ _ ⟨⟨v,rfl,hv0,hv1⟩,rfl⟩;have hv:(v=0\/v=1)\/v=2\/((v==0)=false/\(v==1)=false/\(v==2)=false):=by
  by_cases a:v=0
  .exact .inl (.inl a)
  by_cases b:v=1
  .exact .inl (.inr b)
  by_cases c:v=2
  .exact .inr (.inl c)
  exact .inr (.inr ⟨by simpa using a,by simpa using b,by simpa using c⟩)
 rcases hv with hv|rfl|⟨d0,d1,d2⟩
 .have picks:∀ x∈[(3:Int),12,60],1<=x/\x<=80:=by decide
  rcases hv with rfl|rfl <;>
  .apply zgF
   simp only[go_sem];refine zm 0 (AkD L (k+1) [3,12,60] (by decide) (by decide) (by omega) (by omega)) ?_;rintro _ _ ⟨⟨x,hx,rfl⟩,rfl⟩;apply zgF;simp only[go_sem];refine zm 0 (AsV L (k+1+1) x 1998 (picks x hx).1 (picks x hx).2 (by omega) (by omega) (by omega) (by omega)) ?_;rintro _ _ ⟨t,k',rfl,t1,t2,rfl,t3,t4⟩;apply zgF;simp only[go_sem];refine zm 0 (AcW L k' 8 (by omega) (by omega) (by omega) (by omega)) ?_;rintro _ _ ⟨⟨b,rfl⟩,rfl⟩
   cases b with
   | true =>
    apply zgF;simp only[go_sem];refine zm 0 (AlF L (k'+1) PreA (by decide) (by decide) (by omega) (by omega)) ?_;rintro _ _ ⟨⟨y,hy,rfl⟩,rfl⟩;apply zgF;simp only[go_sem];obtain⟨u1,u2⟩:=A4H (.inl hy) t1;refine⟨by omega,?_⟩;exact aret [2] rfl ⟨_,_,rfl,⟨[⟨1,y++t⟩],k'+1+1,rfl,AiU (AgX (.inl rfl) u1 (by simp; omega)) (.inl rfl),rfl,by omega,by omega⟩,rfl,rfl⟩
   | false =>
    apply zgF;simp only[go_sem];exact aret [2] rfl ⟨_,_,rfl,⟨[⟨1,t⟩],k'+1,rfl,AiU (AgX (.inl rfl) (t1.weak AgW) (by omega)) (.inl rfl),rfl,by omega,by omega⟩,rfl,rfl⟩
 .apply zgF
  simp only[go_sem];refine zm 0 (AlF L (k+1) TurnL (by decide) (by decide) (by omega) (by omega)) ?_;rintro _ _ ⟨⟨y,hy,rfl⟩,rfl⟩;apply zgF;simp only[go_sem];exact aret [2] rfl ⟨_,_,rfl,⟨[⟨5,y⟩],k+1+1,rfl,AiU (AqP hy) (.inr rfl),rfl,by omega,by omega⟩,rfl,rfl⟩
 .apply zgN
  simp only[go_sem,d0,d1,d2];refine zpN (BjY) ?_;simp only[go_sem,d0,d1,d2];refine zm 0 (AlF L (k+1) NameL (by decide) (by decide) (by omega) (by omega)) ?_;rintro _ _ ⟨⟨y,hy,rfl⟩,rfl⟩;apply zgN;simp only[go_sem];refine zm 0 (AgV L (k+1+1) 1 2 (by omega) (by omega) (by omega) (by omega) (by omega)) ?_;rintro _ _ ⟨⟨n,rfl,hn1,hn2⟩,rfl⟩;apply zgN;simp only[go_sem];have dn:=A7H hy;refine AaC (ι:=Int×Int×Int×List Pa) (fun x=>(n-x.1).toNat)
   (fun x=>[(40,.int .i64 x.1),(39,.int .i64 n),(4,.sl 1 0 x.2.2.2.length x.2.2.2.length),(0,.ptr 0 1 0 0)])
   (fun x=>[.arr 2 [str L x.2.1],.arr 2 (x.2.2.2.map paA)])
   (fun x=>0<=x.1/\x.1<=n/\k<=x.2.1/\x.2.1<=k+3+170*x.1/\(x.2.2.1=2\/x.2.2.1=4)/\(0<x.1->x.2.2.1=4)/\(∀ l,l≠2->l≠3->runL l x.2.2.2=some x.2.2.1)/\(∀ p∈x.2.2.2,DrawnP p)/\1<=x.2.2.2.length/\(x.2.2.2.length:Int)<=1+2*x.1/\(wtL x.2.2.2:Int)<=3+5*x.1)
   (0,k+1+1+1,2,[⟨2,y⟩]) ⟨Int.le_refl _,by simp only; omega,by simp only; omega,by simp only; omega,.inl rfl,by simp,?_,by simpa using dn,by simp,by simp,by simp[wtL,pwP]⟩ ?_ ?_
  .intro l h2 h3
   simp[runL,dn.ok,AfY (show(2:Int)≠3 by decide) (show(2:Int)≠4 by decide) h2 h3]
  .refine Ls ?_
   simp only[go_sem]
  .rintro ⟨i,k',e,out⟩ ⟨g1,g2,g3,g4,g5,g6,g7,g8,g9,g10,g11⟩ J hJ
   simp only at g1 g2 g3 g4 g5 g6 g7 g8 g9 g10 g11 hJ |-;apply zgF
   by_cases gi:i<n
   .have di:decide (i<n)=true:=by simp; omega
    simp only[go_sem,di];refine zm 0 (AcW L k' 3 (by omega) (by omega) (by omega) (by omega)) ?_;rintro _ _ ⟨⟨b,rfl⟩,rfl⟩;refine amid (κ:=Int×Int×List Pa)
     (fun x=>[(40,.int .i64 i),(39,.int .i64 n),(4,.sl 1 0 x.2.2.length x.2.2.length),(0,.ptr 0 1 0 0)])
     (fun x=>[.arr 2 [str L x.1],.arr 2 (x.2.2.map paA)])
     (fun x=>k'<=x.1/\x.1<=k'+84/\(x.2.1=2\/x.2.1=3\/x.2.1=4)/\(∀ l,l≠2->l≠3->runL l x.2.2=some x.2.1)/\(∀ p∈x.2.2,DrawnP p)/\1<=x.2.2.length/\(x.2.2.length:Int)<=2+2*i/\(wtL x.2.2:Int)<=4+5*i) ?_ ?_
    .rintro ⟨k2,e2,out2⟩ ⟨f1,f2,f3,f4,f5,f6,f7,f8⟩
     simp only at f1 f2 f3 f4 f5 f6 f7 f8 |-;apply zgF;simp only[go_sem];refine zm 0 (AkD L k2 [3,12,80] (by decide) (by decide) (by omega) (by omega)) ?_;rintro _ _ ⟨⟨x,hx,rfl⟩,rfl⟩;have px:1<=x/\x<=80:=(show ∀ x∈[(3:Int),12,80],1<=x/\x<=80 by decide) x hx;apply zgF;simp only[go_sem];refine zm 0 (AsV L (k2+1) x 1998 px.1 px.2 (by omega) (by omega) (by omega) (by omega)) ?_;rintro _ _ ⟨t,k3,rfl,t1,t2,rfl,t3,t4⟩;apply zgF;simp only[go_sem];refine zm 0 (AcW L k3 8 (by omega) (by omega) (by omega) (by omega)) ?_;rintro _ _ ⟨⟨b,rfl⟩,rfl⟩;have fol:followsL 4 e2=true:=by rcases f3 with rfl|rfl|rfl <;> rfl
     have e3:∀ q u,List.map paA out2++[AV.agg [.int .i64 q,.str u]]=List.map paA (out2++[⟨q,u⟩]):=fun q u=>by simp[paA]
     have e4:∀ q u,out2.length+1=(out2++[(⟨q,u⟩:Pa)]).length:=fun q u=>by simp
     have next:∀ (q:Pa) (k4:Int),DrawnP q->q.kind=4->k3<=k4->k4<=k3+2->_:=fun q k4 hq hk h1 h2=>hJ (i+1,k4,4,out2++[q]) ⟨by simp only; omega,by simp only; omega,by simp only; omega,by simp only; omega,.inr rfl,fun _=>rfl,
      fun l l2 l3=>hk▸A4G (f4 l l2 l3) hq.ok (hk▸fol),fun p hp=>by
       rcases List.mem_append.1 hp with hp|hp
       .exact f5 p hp
       .rw [List.mem_singleton.1 hp]; exact hq,by simp,by simp only[lah,lal,laq]; omega,by simp only[wtL_one,hk,pwP]; simp; omega⟩ (by simp only; omega)
     cases b with
     | true =>
      apply zgF;simp only[go_sem];refine zm 0 (AlF L (k3+1) PreB (by decide) (by decide) (by omega) (by omega)) ?_;rintro _ _ ⟨⟨y,hy,rfl⟩,rfl⟩;obtain⟨u1,u2⟩:=A4H (.inr hy) t1;apply zgF;simp only[go_sem];refine⟨by omega,by simp,.inl trivial,by simp; omega,by simp; omega,by omega,by omega,?_⟩;rw[e3,e4 4 (y++t)];refine ainv (next ⟨4,y++t⟩ (k3+1+1) (AgX (.inr rfl) u1 (by simp; omega)) rfl (by omega) (by omega)) (Ls ?_);simp only[go_sem]
     | false =>
      apply zgF;simp only[go_sem];refine⟨by simp,.inl trivial,by simp; omega,by simp; omega,by omega,by omega,?_⟩;rw[e3,e4 4 t];refine ainv (next ⟨4,t⟩ (k3+1) (AgX (.inr rfl) (t1.weak AgW) (by omega)) rfl (by omega) (by omega)) (Ls ?_);simp only[go_sem]
    .intro Q hQ
     cases b with
     | true =>
      apply zgF;simp only[go_sem];refine zm 0 (AkD L (k'+1) [2,20] (by decide) (by decide) (by omega) (by omega)) ?_;rintro _ _ ⟨⟨x,hx,rfl⟩,rfl⟩;have px:1<=x/\x<=80:=(show ∀ x∈[(2:Int),20],1<=x/\x<=80 by decide) x hx;apply zgF;simp only[go_sem];refine zm 0 (AsV L (k'+1+1) x 200 px.1 px.2 (by omega) (by omega) (by omega) (by omega)) ?_;rintro _ _ ⟨t,k3,rfl,t1,t2,rfl,t3,t4⟩;apply zgF;simp only[go_sem];have e3:∀ q u,List.map paA out++[AV.agg [.int .i64 q,.str u]]=List.map paA (out++[⟨q,u⟩]):=fun q u=>by simp[paA]
      have e4:∀ q u,out.length+1=(out++[(⟨q,u⟩:Pa)]).length:=fun q u=>by simp
      have dq:DrawnP ⟨3,t⟩:=A0R t1 (by omega);have fol:followsL 3 e=true:=by rcases g5 with rfl|rfl <;> rfl
      refine⟨by simp,.inl trivial,by simp; omega,by simp; omega,?_⟩;rw[e3,e4 3 t];refine ainv (hQ (k3,3,out++[⟨3,t⟩]) ⟨by simp only; omega,by simp only; omega,.inr (.inl rfl),fun l l2 l3=>A4G (g7 l l2 l3) dq.ok fol,fun p hp=>?_,by simp,by simp; omega,by simp only[wtL_one,pwP]; simp; omega⟩) (Ls ?_)
      .rcases List.mem_append.1 hp with hp|hp
       .exact g8 p hp
       .rw [List.mem_singleton.1 hp]; exact dq
      .simp only [go_sem]
     | false =>
      apply zgF;simp only[go_sem];refine ainv (hQ (k'+1,e,out) ⟨by simp only; omega,by simp only; omega,by simp only; omega,g7,g8,g9,by simp only; omega,by simp only; omega⟩) (Ls ?_);simp only[go_sem]
   .have di:decide (i<n)=false:=by simp; omega
    simp only[go_sem,di];have i0:i=n:=by omega
    have e4:=g6 (by omega);refine ARet.shift (Shift.freeze 2 (id:=1) rfl rfl (by simp) (lab _) (AlG out)) (aret [2] rfl ⟨_,_,rfl,⟨out,k',?_,⟨fun l l2 l3=>⟨e,g7 l l2 l3,by omega,by omega⟩,⟨g9,by omega⟩,g8,by omega⟩,rfl,by omega,by omega⟩,rfl,rfl⟩)
    simp[resV,Av.get,Av.put,lae]
theorem AhY(id e:Nat)(l:LY)(L:List Int)(k:Int):frz id e l (str L k)=str L k:=rfl
theorem AfN(id e:Nat)(l:LY)(L:List Int)(k:Int):frzC id e l (str L k)=str L k:=rfl
structure DrawnS(x:Sc):Prop where
 no:x.no=[]
 place:1<=x.place/\x.place<=3
 set:x.set∈SetL
 time:1<=x.time/\x.time<=5
 run:∃ e,runL 0 x.Ld=some e/\e≠2/\e≠3
 len:x.Ld.length<=60
 all:∀ p∈x.Ld,DrawnP p
 wt:wtL x.Ld<=143
theorem AgY(L:List Int)(k:Int)(h3:0<=k)(h4:k<=700000) :
  Mc prog 44 2 (str L k) [] (fun r s=>∃ (x:Sc) (k':Int),r=scA x/\DrawnS x/\s=str L k'/\k<=k'/\k'<=k+5000):=by
 refine zcIF func44 rfl fun h ρ w=>?_
 simp only[go_sem];refine zm 0 (AgV L k 1 3 (by omega) (by omega) (by omega) (by omega) (by omega)) ?_;rintro _ _ ⟨⟨pl,rfl,hp1,hp2⟩,rfl⟩;apply zgF;simp only[go_sem];refine zpN (BrL) ?_;simp only[go_sem];refine zm 0 (AlF L (k+1) SetL (by decide) (by decide) (by omega) (by omega)) ?_;rintro _ _ ⟨⟨st,hst,rfl⟩,rfl⟩;apply zgF;simp only[go_sem];refine zm 0 (AgV L (k+1+1) 1 5 (by omega) (by omega) (by omega) (by omega) (by omega)) ?_;rintro _ _ ⟨⟨tm,rfl,ht1,ht2⟩,rfl⟩;apply zgF;simp only[go_sem];refine zm 0 (AkD L (k+1+1+1) [2,5,12] (by decide) (by decide) (by omega) (by omega)) ?_;rintro _ _ ⟨⟨n,hn,rfl⟩,rfl⟩;have pn:1<=n/\n<=12:=(show ∀ x∈[(2:Int),5,12],1<=x/\x<=12 by decide) n hn;apply zgF;simp only[go_sem];refine zm 0 (AcV L (k+1+1+1+1) n (by omega) (by omega) (by omega) (by omega)) ?_;rintro _ _ ⟨⟨v,rfl,hv0,hv1⟩,rfl⟩;apply zgF;simp only[go_sem];refine AaC (ι:=Int×Int×List Pa) (fun x=>(v-x.1).toNat)
  (fun x=>[(17,.int .i64 x.1),(16,.int .i64 v),(3,.ptr 2 1 0 0),(2,.ptr 1 1 0 0),(0,.ptr 0 1 0 0)])
  (fun x=>[.arr 2 [str L x.2.1],.arr 5 [.agg [.str [],.int .i64 0,.str [],.int .i64 0,.raw (.slice none 0 0)]],.arr 5 [.agg [.str [],.int .i64 pl,.str st,.int .i64 tm,.sl 3 0 x.2.2.length x.2.2.length]],.arr 2 (x.2.2.map paA)])
  (fun x=>0<=x.1/\x.1<=v/\k<=x.2.1/\x.2.1<=k+5+400*x.1/\(∃ e,runL 0 x.2.2=some e/\e≠2/\e≠3)/\(∀ p∈x.2.2,DrawnP p)/\(x.2.2.length:Int)<=5*x.1/\(wtL x.2.2:Int)<=13*x.1)
  (0,k+1+1+1+1+1,[]) ⟨Int.le_refl _,by simp only; omega,by simp only; omega,by simp only; omega,⟨0,rfl,by decide,by decide⟩,by simp,by simp,by simp[wtL]⟩ ?_ ?_
 .refine Shift.trans (Shift.cells 2 2 [.agg [.str [],.int .i64 pl,.str st,.int .i64 tm,.sl 3 0 0 0]] rfl rfl (by simp[cellsOf]) ⟨.refl,.refl,.refl,.refl,.sl,trivial⟩) (Ls ?_)
  simp only[go_sem]
 .rintro ⟨i,k',ps⟩ ⟨g1,g2,g3,g4,⟨e,g5,g6,g7⟩,g8,g9,g10⟩ J hJ
  simp only at g1 g2 g3 g4 g5 g6 g7 g8 g9 g10 hJ |-
  by_cases gi:i<v
  .have di:decide (i<v)=true:=by simp; omega
   apply zgN;simp only[go_sem,di];refine AfW [3] 0 [] AaF (by decide) rfl rfl 100 ?_;simp only[go_sem];refine A7B (BkB L k' (by omega) (by omega)) rfl rfl rfl ⟨_,_,[⟨5,[69,78,68]⟩],k',rfl,AiU (AqP (by simp[TurnL])) (.inr rfl),rfl,by omega,by omega⟩ ?_;rintro _ _ ⟨b,k2,rfl,hb,rfl,t1,t2⟩;simp only[go_sem];refine⟨by simp,.inl trivial,by simp; have:=hb.len.2; omega,by simp; have:=hb.len.2; omega,?_⟩;apply zgN;simp only[go_sem];refine⟨by omega,by omega,?_⟩;rw[<- laf,show ps.length+(List.map paA b).length=(ps++b).length by simp];obtain⟨e',r1,r2,r3⟩:=hb.run e g6 g7;have:=hb.len;refine ainv (hJ (i+1,k2,ps++b) ⟨by simp only; omega,by simp only; omega,by simp only; omega,by simp only; omega,⟨e',by rw[runL_append _ _ _ _ g5]; exact r1,r2,r3⟩,fun p hp=>?_,by simp; omega,by have:=hb.wt; simp only[A7I]; omega⟩ (by simp only; omega)) (Ls ?_)
   .rcases List.mem_append.1 hp with hp|hp
    .exact g8 p hp
    .exact hb.all p hp
   .simp only [go_sem,laa]
  .have di:decide (i<v)=false:=by simp; omega
   refine AWp.shift (Shift.frz 3 rfl (AlG ps)) ?_;simp only[go_sem,↓AfN,↓AhY,frzE,frz,frz1,frzC,frzB,laa,lab];have:List.take ps.length (List.map paA ps)=List.map paA ps:=lae (by simp);simp only[this];apply zgN;simp only[go_sem,di];exact AbF [.cell 2 83] rfl [_] ⟨by simp only[go_sem,sideIs],trivial⟩ ⟨_,_,rfl,⟨⟨[],pl,st,tm,ps⟩,k',rfl,⟨rfl,⟨hp1,hp2⟩,hst,⟨ht1,ht2⟩,⟨e,g5,g6,g7⟩,by simp only; omega,g8,by simp only; omega⟩,rfl,g3,by omega⟩,rfl,rfl⟩
def TitleL:List LU:=[[84],[84,104,101,32,77,105,108,108],[65,32,45,32,66]]
structure DrawnR(x:Sr):Prop where
 Lk:x.Lk∈TitleL
 len:x.Lc.length<=5
 all:∀ y∈x.Lc,DrawnS y
 first:∀ y,x.Lc.head? = some y->y.time≠5
theorem AaG(ps:List Sc):(flat (ps.map scA)).all Av.frozen=true:=by
 induction ps with
 | nil=>rfl
 | cons y l ih=>simpa[flat,cellsOf,scA,Av.frozen]using ih
theorem BbR(L:List Int)(k:Int)(h3:0<=k)(h4:k<=600000) :
  Mc prog 107 2 (str L k) [] (fun r s=>∃ (x:Sr) (k':Int),r=srA x/\DrawnR x/\s=str L k'/\k<=k'/\k'<=k+30000):=by
 refine zcIF func107 rfl fun h ρ w=>?_
 simp only[go_sem];refine zm 0 (AlF L k TitleL (by decide) (by decide) (by omega) (by omega)) ?_;rintro _ _ ⟨⟨ti,hti,rfl⟩,rfl⟩;apply zgF;simp only[go_sem];refine zm 0 (AcV L (k+1) 6 (by omega) (by omega) (by omega) (by omega)) ?_;rintro _ _ ⟨⟨v,rfl,hv0,hv1⟩,rfl⟩;apply zgF;simp only[go_sem];refine AaC (ι:=Int×Int×List Sc) (fun x=>(v-x.1).toNat)
  (fun x=>[(11,.int .i64 x.1),(10,.int .i64 v),(3,.ptr 2 1 0 0),(2,.ptr 1 1 0 0),(0,.ptr 0 1 0 0)])
  (fun x=>[.arr 2 [str L x.2.1],.arr 2 [.agg [.str [],.raw (.slice none 0 0)]],.arr 2 [.agg [.str ti,.sl 3 0 x.2.2.length x.2.2.length]],.arr 5 (x.2.2.map scA)])
  (fun x=>0<=x.1/\x.1<=v/\k<=x.2.1/\x.2.1<=k+2+5000*x.1/\(x.2.2.length:Int)=x.1/\(∀ y∈x.2.2,DrawnS y)/\(∀ y,x.2.2.head? = some y->y.time≠5))
  (0,k+1+1,[]) ⟨Int.le_refl _,by simp only; omega,by simp only; omega,by simp only; omega,rfl,by simp,by simp⟩ ?_ ?_
 .refine Shift.trans (Shift.cells 2 5 [.agg [.str ti,.sl 3 0 0 0]] rfl rfl (by simp[cellsOf]) ⟨.refl,.sl,trivial⟩) (Ls ?_)
  simp only[go_sem]
 .rintro ⟨i,k',xs⟩ ⟨g1,g2,g3,g4,g5,g6,g7⟩ J hJ
  simp only at g1 g2 g3 g4 g5 g6 g7 hJ |-
  by_cases gi:i<v
  .have di:decide (i<v)=true:=by simp; omega
   apply zgF;simp only[go_sem,di];refine zm 0 (AgY L k' (by omega) (by omega)) ?_;rintro _ _ ⟨x,k2,rfl,hx,rfl,t1,t2⟩;have hlen:(List.map scA xs).length=xs.length:=by simp
   have e2:∀ a b c d f,List.map scA xs++[AV.agg [.str a,.int .i64 b,.str c,.int .i64 d,.fz 2 (List.map paA f)]]=List.map scA (xs++[⟨a,b,c,d,f⟩]):=fun _ _ _ _ _=>by simp[scA]
   have e3:∀ y:Sc,xs.length+1=(xs++[y]).length:=fun y=>by simp
   have fin:∀ y:Sc,DrawnS y->(xs=[]->y.time≠5)->_:=fun y hy h5=>hJ (i+1,k2,xs++[y]) ⟨by simp only; omega,by simp only; omega,by simp only; omega,by simp only; omega,by simp; omega,fun z hz=>by
     rcases List.mem_append.1 hz with hz|hz
     .exact g6 z hz
     .rw [List.mem_singleton.1 hz]; exact hy,fun z hz=>by
     cases xs with
     | nil=>simp at hz; rw[<- hz]; exact h5 rfl
     | cons a r=>exact g7 z (by simpa using hz)⟩ (by simp only; omega)
   simp only[scA];apply zgF
   by_cases h0:xs=[]
   .have q0:((xs.length:Int)==0)=true:=by simp[h0]
    by_cases h5:x.time=5
    .have q5:(x.time==5)=true:=by simpa using h5
     simp only[go_sem,q0,q5];refine⟨by simp,by first|omega|(simp; done)|(simp; omega),by first|omega|(simp; done)|(simp; omega),by first|omega|(simp; done)|(simp; omega),by first|omega|(simp; done)|(simp; omega),by omega,by omega,?_⟩;rw[e2,e3 ⟨x.no,x.place,x.set,2,x.Ld⟩];refine ainv (fin ⟨x.no,x.place,x.set,2,x.Ld⟩ ⟨hx.no,hx.place,hx.set,by simp,hx.run,hx.len,hx.all,hx.wt⟩ (fun _=>by simp)) (Shift.low 4 (by simp) (by simp) ?_ ?_)
     .have:=AaG (xs++[⟨x.no,x.place,x.set,2,x.Ld⟩])
      simp only[go_sem,lowB,flat,str,AaH this]
     .simp only [go_sem]
    .have q5:(x.time==5)=false:=by simpa using h5
     simp only[go_sem,q0,q5];refine⟨by simp,by first|omega|(simp; done)|(simp; omega),by first|omega|(simp; done)|(simp; omega),by first|omega|(simp; done)|(simp; omega),by first|omega|(simp; done)|(simp; omega),by omega,by omega,?_⟩;rw[e2,e3 ⟨x.no,x.place,x.set,x.time,x.Ld⟩];refine ainv (fin ⟨x.no,x.place,x.set,x.time,x.Ld⟩ hx (fun _=>h5)) (Shift.low 4 (by simp) (by simp) ?_ ?_)
     .have:=AaG (xs++[⟨x.no,x.place,x.set,x.time,x.Ld⟩])
      simp only[go_sem,lowB,flat,str,AaH this]
     .simp only [go_sem]
   .have q0:((xs.length:Int)==0)=false:=by
     have:xs.length≠0:=by simpa using h0
     simp; omega
    simp only[go_sem,q0];refine⟨by simp,by first|omega|(simp; done)|(simp; omega),by first|omega|(simp; done)|(simp; omega),by first|omega|(simp; done)|(simp; omega),by first|omega|(simp; done)|(simp; omega),by omega,by omega,?_⟩;rw[e2,e3 ⟨x.no,x.place,x.set,x.time,x.Ld⟩];refine ainv (fin ⟨x.no,x.place,x.set,x.time,x.Ld⟩ hx (fun h=>(h0 h).elim)) (Shift.low 4 (by simp) (by simp) ?_ ?_)
    .have:=AaG (xs++[⟨x.no,x.place,x.set,x.time,x.Ld⟩])
     simp only[go_sem,lowB,flat,str,AaH this]
    .simp only [go_sem]
  .have di:decide (i<v)=false:=by simp; omega
   refine AWp.shift (Shift.frz 3 rfl (AaG xs)) ?_;simp only[go_sem,↓AfN,↓AhY,frzE,frz,frz1,frzC,frzB,laa,lab];have:List.take xs.length (List.map scA xs)=List.map scA xs:=lae (by simp);simp only[this];apply zgN;simp only[go_sem,di];exact AbF [.cell 2 30] rfl [_] ⟨by simp only[go_sem,sideIs],trivial⟩ ⟨_,_,rfl,⟨⟨ti,xs⟩,k',rfl,⟨hti,by simp only; omega,g6,g7⟩,rfl,g3,by omega⟩,rfl,rfl⟩
