/- Draws: Range, Pick, Flip, Names, Sets, words. -/
import Derived.Test.YtlldmgboedknfaaGreatDoorC23
set_option maxRecDepth 100000
set_option maxHeartbeats 2000000
set_option linter.unusedSimpArgs false
set_option linter.unusedVariables false
namespace Go.Proofs.YtlldmgboedknfaaGreatDoor
open Go Go.Av Go.RowKit _root_.Go.Proofs.Tryz
theorem AeQ(L:List Int)(k n:Int)(h1:1<=n)(h2:n<=1000)(h3:0<=k)(h4:k<=1000000) :
  Mc prog 25 2 (str L k) [.int .i64 n] (fun r s=>(∃ b,r=.bool b)/\s=str L (k+1)):=by
 refine zcIN func25 rfl fun h ρ w=>?_
 simp only[go_sem];refine zm 0 (AgH L k _ (by omega) (by omega) h3 h4) ?_;rintro _ _ ⟨⟨v,rfl,hv0,hv1⟩,rfl⟩;refine zgN ?_;simp only[go_sem];exact aret [4] rfl ⟨_,_,rfl,⟨_,rfl⟩,rfl,rfl,rfl⟩
theorem AjG(L:List Int)(k a b:Int)(h1:0<=a)(h2:a<=b)(hb:b<=1000)(h3:0<=k)(h4:k<=1000000) :
  Mc prog 13 2 (str L k) [.int .i64 a,.int .i64 b] (fun r s=>(∃ v,r=.int .i64 v/\a<=v/\v<=b)/\s=str L (k+1)):=by
 have d:decide (b<a)=false:=by simp; omega
 refine zcIN func13 rfl fun h ρ w=>?_
 simp only[go_sem,d];refine⟨by omega,by omega,by omega,by omega,?_⟩;refine zm 0 (AgH L k _ (by omega) (by omega) h3 h4) ?_;rintro _ _ ⟨⟨v,rfl,hv0,hv1⟩,rfl⟩;refine zgN ?_;simp only[go_sem];refine⟨by omega,by omega,?_⟩;exact aret [6] rfl ⟨_,_,rfl,⟨_,rfl,by omega,by omega⟩,rfl,rfl,rfl⟩
theorem AuA(L:List Int)(k:Int)(ls:List Int)(h1:1<=ls.length)(h2:ls.length<=1000)(h3:0<=k)(h4:k<=1000000) :
  Mc prog 76 2 (str L k) [.fz 1 (ls.map (.int .i64))] (fun r s=>(∃ x∈ls,r=.int .i64 x)/\s=str L (k+1)):=by
 have hlen:((List.map (AV.int .i64) ls).length:Int)=ls.length:=by simp
 refine zcIN func76 rfl fun h ρ w=>?_
 simp only[go_sem];refine zm 0 (AgH L k _ (by omega) (by omega) h3 h4) ?_;rintro _ _ ⟨⟨v,rfl,hv0,hv1⟩,rfl⟩;have hv:v.toNat<ls.length:=by omega
 have hx:(List.map (AV.int .i64) ls).getD v.toNat .any=.int .i64 ls[v.toNat]:=by simp[List.getD,hv]
 refine zgN ?_;simp only[go_sem,hx];refine⟨by omega,by omega,by simpa using hv,?_⟩;exact aret [4] rfl ⟨_,_,rfl,⟨_,List.getElem_mem hv,rfl⟩,rfl,rfl,rfl⟩
def NameL:List (List UInt8):=[[65,78,78],[66,79],[68,82,46,32,88],[65,78,78,45,77,65,82,73,69]]
def SetL:List (List UInt8):=[[72,65,76,76],[77,73,76,76],[66,65,82,78,32,47,32,76,79,70,84]]
theorem BiY:Pc prog 136 [] (· = .fz 1 (NameL.map .str)):=by
 refine zpIF func136 rfl fun h ρ w=>?_
 simp only[go_sem];exact zt [0]
theorem BpK:Pc prog 75 [] (· = .fz 1 (SetL.map .str)):=by
 refine zpIF func75 rfl fun h ρ w=>?_
 simp only[go_sem];exact zt [0]
def wordC(c:UInt8):Bool:=okB c&&(c != 40&&(c != 41&&c != 86))
def textC(c:UInt8):Bool:=okB c&&c != 86
theorem AhF(c:UInt8)(h:wordC c=true):textC c=true:=by
 simp only[wordC,textC,Bool.and_eq_true]at h |-;exact⟨h.1,h.2.2.2⟩
theorem A4P(c:UInt8)(h:textC c=true):okB c=true:=by
 simp only[textC,Bool.and_eq_true]at h;exact h.1
def WordL:List (List UInt8):=[[114,97,105,110],[84,119,111],[103,117,110,115],[65,78,78],[66,111],[97],[116,104,101],[114,101,100],[99,97,114,46],[115,111,108,100,105,101,114,115],[49,50],
 [100,111,110,39,116],[45,45],[97,98,99,100,101,102,103,104,105,106,107,108,109,110,111,112,113,114,115,116,117,118,119,120,121,122,97,98,99,100,101,102,103,104,105,106,107,108,109,110,111,112,113,114,115,116,117,118,119,120,121,122],[99,97,114]]
theorem BpL:(WordL.all fun x=>textB wordC x&&decide (x.length<=52))=true:=by decide +kernel
theorem BpM{x:List UInt8}(h:x∈WordL):TextOk wordC x/\x.length<=52:=by
 have:=List.all_eq_true.1 BpL x h;simp only[Bool.and_eq_true,decide_eq_true_eq]at this;exact⟨AtZ this.1,this.2⟩
theorem AuB(L:List Int)(k m b:Int)(h1:1<=m)(h2:m<=80)(h5:60<=b)(h6:b<=2000)(h3:0<=k)(h4:k<=900000) :
  Mc prog 135 2 (str L k) [.int .i64 m,.int .i64 b] (fun r s=>∃ (t:List UInt8) (k':Int),r=.str t/\TextOk wordC t/\(t.length:Int)<=b/\s=str L k'/\k<=k'/\k'<=k+81):=by
 refine zcIF func135 rfl fun h ρ w=>?_
 simp only[go_sem];refine zm 0 (AjG L k 1 m (by omega) (by omega) (by omega) h3 (by omega)) ?_;rintro _ _ ⟨⟨v,rfl,hv0,hv1⟩,rfl⟩;refine zgF ?_;simp only[go_sem];refine AlK (ι:=Int×List UInt8) (κ:=Int×List UInt8) (fun x=>(v-x.1).toNat)
  (fun x=>[(12,.int .i64 x.1),(11,.int .i64 v),(7,.str x.2),(2,.int .i64 b),(0,.ptr 0 1 0 0)])
  (fun x=>[.arr 2 [str L (k+1+x.1)]])
  (fun x=>0<=x.1/\x.1<=v/\(x.2.length:Int)<=b/\(x.1=0->x.2=[])/\(0<x.1->TextOk wordC x.2))
  (fun x=>[(7,.str x.2),(0,.ptr 0 1 0 0)]) (fun x=>[.arr 2 [str L x.1]])
  (fun x=>k+1<=x.1/\x.1<=k+81/\(x.2.length:Int)<=b/\TextOk wordC x.2)
  (0,[]) ⟨by omega,by omega,by simp; omega,by simp,by simp⟩ ?_ ?_ ?_
 .have h0:k+1+0=k+1:=by omega
  simp only[h0];refine Shift.weak ?_;simp only[go_sem]
 .rintro ⟨k',t⟩ ⟨g1,g2,g3,g4⟩
  simp only at g1 g2 g3 g4 |-;refine zgN ?_;simp only[go_sem];exact aret [6] rfl ⟨_,_,rfl,⟨t,k',rfl,g4,g3,rfl,by omega,by omega⟩,rfl,rfl⟩
 .rintro ⟨i,t⟩ ⟨g1,g2,g3,g4,g5⟩ J Q hJ hQ
  simp only at g1 g2 g3 g4 g5 hJ hQ |-;refine zgF ?_
  by_cases gi:i<v
  .have d1:decide (i<v)=true:=by simp; omega
   simp only[go_sem,d1];refine zm 0 (AlS L (k+1+i) WordL (by decide) (by decide) (by omega) (by omega)) ?_;rintro _ _ ⟨⟨x,hx,rfl⟩,rfl⟩;obtain⟨x1,x2⟩:=BpM hx;have e1:k+1+i+1=k+1+(i+1):=by omega
   by_cases ht:t=[]
   .subst ht
    have d3:decide (((0:Nat):Int)+(x.length:Int)>b)=false:=by simp; omega
    refine zgF ?_;simp only[go_sem,d3];refine⟨by omega,by omega,fun gl=>(by simp at gl; omega),fun gl=>?_⟩
    repeat refine ao ?_
    rw[e1];refine ainv (hJ (i+1,x) ⟨by omega,by omega,by simp; omega,by intro h; simp at h; omega,fun _=>x1⟩ (by simp; omega)) (Shift.weak ?_);simp only[go_sem]
   .have i0:0<i:=by
     rcases Int.lt_or_eq_of_le g1 with h|h
     .exact h
     .exact (ht (g4 h.symm)).elim
    have d2:(t != [])=true:=by simp[ht]
    have d2':(t==[])=false:=by simp[ht]
    refine zgF ?_;simp only[go_sem,d2,d2']
    repeat refine ao ?_
    refine⟨fun gl=>?_,fun gl=>?_⟩
    .rw [e1]
     refine ainv (hQ (k+1+(i+1),t) ⟨by omega,by omega,g3,g5 i0⟩) (Shift.weak ?_);simp only[go_sem]
    .repeat refine ao ?_
     rw[e1];refine ainv (hJ (i+1,t++32::x) ⟨by omega,by omega,by simp; simp at gl; omega,by intro h; simp at h; omega,fun _=>(g5 i0).join rfl x1⟩ (by simp; omega)) (Shift.weak ?_);simp only[go_sem]
  .have d1:decide (i<v)=false:=by simp; omega
   simp only[go_sem,d1];refine ainv (hQ (k+1+i,t) ⟨by omega,by omega,g3,g5 (by omega)⟩) (Shift.weak ?_);simp only[go_sem]
def runL:Int->List Pa->Option Int
 | l,[]=>some l
 | l,p::r=>if paraOk p&&followsL p.kind l then runL p.kind r else none
theorem AfP:∀ (a b:List Pa)(l e:Int),runL l a=some e->runL l (a++b)=runL e b
 | [],b,l,e,h=>by
  simp only[runL,Option.some.injEq]at h;subst h; rfl
 | p::a,b,l,e,h=>by
  simp only[runL]at h;simp only[List.cons_append,runL]
  split at h
  .rename_i hc
   rw[if_pos hc];exact AfP a b p.kind e h
  .simp at h
theorem A4Q{a:List Pa}{l e:Int}{p:Pa}(h:runL l a=some e)(h1:paraOk p=true)(h2:followsL p.kind e=true):runL l (a++[p])=some p.kind:=by
 rw[AfP a _ l e h]
 simp[runL,h1,h2]
def TurnL:List (List UInt8):=[[67,85,84,32,84,79],[70,65,68,69,32,79,85,84,46],[69,78,68],[65,78,78]]
def PreA:List (List UInt8):=[[64],[62,32],[35,32],[92],[40],[35]]
def PreB:List (List UInt8):=[[40],[92],[35],[64]]
structure DrawnP(p:Pa):Prop where
 text:TextOk textC p.text
 kind:1<=p.kind/\p.kind<=5
 name:p.kind=2->p.text∈NameL
 turn:p.kind=5->p.text∈TurnL
 ok:paraOk p=true
theorem AhG{k:Int}{t:List UInt8}(hk:k=1\/k=4)(h:TextOk textC t)(hl:t.length<=2000):DrawnP ⟨k,t⟩:=by
 have hp:=A4O A4P h;have hn:(t != [])=true:=by simpa using h.ne
 refine⟨h,by simp only; omega,by simp only; omega,by simp only; omega,?_⟩
 rcases hk with rfl|rfl <;> simp[paraOk,hp,hn,hl]
theorem A1N{t:List UInt8}(h:TextOk wordC t)(hl:t.length<=200):DrawnP ⟨3,t⟩:=by
 have h':=h.weak AhF;have hp:=A4O A4P h';have hn:(t != [])=true:=by simpa using h.ne
 have hc:Lib.containsAny t [40,41]=false:=by
  have:Lib.NoAny t [40,41] t.length:=fun j b _ hj=>by
   have:=List.all_eq_true.1 h.all b (List.mem_of_getElem? hj);simp only[wordC,Bool.and_eq_true,bne_iff_ne]at this
   simp[this.2.1,this.2.2.1]
  simp[Lib.containsAny,Lib.indexAny_none this]
 refine⟨h',by simp,by simp,by simp,?_⟩;have h2:t.length<=2000:=by omega
 simp[paraOk,hp,hn,hl,hc,h2]
theorem BiZ:(NameL.all fun t=>textB textC t&&paraOk ⟨2,t⟩)=true:=by decide +kernel
theorem BjA:(TurnL.all fun t=>textB textC t&&paraOk ⟨5,t⟩)=true:=by decide +kernel
theorem A7T{t:List UInt8}(h:t∈NameL):DrawnP ⟨2,t⟩:=by
 have:=List.all_eq_true.1 BiZ t h;simp only[Bool.and_eq_true]at this;exact⟨AtZ this.1,by simp,fun _=>h,by simp,this.2⟩
theorem ArP{t:List UInt8}(h:t∈TurnL):DrawnP ⟨5,t⟩:=by
 have:=List.all_eq_true.1 BjA t h;simp only[Bool.and_eq_true]at this;exact⟨AtZ this.1,by simp,by simp,fun _=>h,this.2⟩
def preB(a:List UInt8):Bool:=a.all textC&&(noDbl a&&(a.head? != some 32&&(a != []&&decide (a.length<=2))))
theorem BpN:(PreA.all preB&&PreB.all preB)=true:=by decide +kernel
theorem A4R{a t:List UInt8}(h:a∈PreA\/a∈PreB)(y:TextOk wordC t):TextOk textC (a++t)/\a.length<=2:=by
 have hp:preB a=true:=by
  have:=BpN;simp only[Bool.and_eq_true]at this
  rcases h with h|h
  .exact List.all_eq_true.1 this.1 a h
  .exact List.all_eq_true.1 this.2 a h
 simp only[preB,Bool.and_eq_true,bne_iff_ne,decide_eq_true_eq]at hp;exact⟨TextOk.pre AhF hp.1 hp.2.1 hp.2.2.1 hp.2.2.2.1 y,hp.2.2.2.2⟩
def pwP(k:Int):Nat:=if k=1\/k=4 then 4 else if k=3 then 1 else 3
def wtL(l:List Pa):Nat:=(l.map fun p=>pwP p.kind).sum
theorem wtL_one(a:List Pa)(p:Pa):wtL (a++[p])=wtL a+pwP p.kind:=by simp[wtL]
theorem A7U(a b:List Pa):wtL (a++b)=wtL a+wtL b:=by simp[wtL]
structure Block(b:List Pa):Prop where
 run:∀ l,l≠2->l≠3->∃ e,runL l b=some e/\e≠2/\e≠3
 len:1<=b.length/\b.length<=5
 all:∀ p∈b,DrawnP p
 wt:wtL b<=13
theorem AgI{k l:Int}(hk:k≠3)(hk':k≠4)(h2:l≠2)(h3:l≠3):followsL k l=true:=by simp[followsL,hk,hk',h2,h3]
theorem AjH{p:Pa}(h:DrawnP p)(hk:p.kind=1\/p.kind=5):Block [p]:=by
 refine⟨fun l h2 h3=>⟨p.kind,?_,by omega,by omega⟩,by simp,by simpa using h,by rcases hk with e|e <;> simp[wtL,pwP,e]⟩
 simp[runL,h.ok,AgI (show p.kind≠3 by omega) (show p.kind≠4 by omega) h2 h3]
theorem AgJ(ps:List Pa):(flat (ps.map paA)).all Av.frozen=true:=by
 induction ps with
 | nil=>rfl
 | cons y l ih=>simpa[flat,cellsOf,paA,Av.frozen]using ih
theorem BjB(L:List Int)(k:Int)(h3:0<=k)(h4:k<=800000) :
  Mc prog 77 2 (str L k) [] (fun r s=>∃ (b:List Pa) (k':Int),r=.fz 2 (b.map paA)/\Block b/\s=str L k'/\k<=k'/\k'<=k+400):=by
 refine zcIF func77 rfl fun h ρ w=>?_
 simp only[go_sem];refine zm 0 (AgH L k _ (by omega) (by omega) h3 (by omega)) ?_;rintro _ _ ⟨⟨v,rfl,hv0,hv1⟩,rfl⟩;have hv:(v=0\/v=1)\/v=2\/((v==0)=false/\(v==1)=false/\(v==2)=false):=by
  by_cases a:v=0
  .exact .inl (.inl a)
  by_cases b:v=1
  .exact .inl (.inr b)
  by_cases c:v=2
  .exact .inr (.inl c)
  exact .inr (.inr ⟨by simpa using a,by simpa using b,by simpa using c⟩)
 rcases hv with hv|rfl|⟨d0,d1,d2⟩
 .have picks:∀ x∈[(3:Int),12,60],1<=x/\x<=80:=by decide
  rcases hv with rfl|rfl <;>
  .refine zgF ?_
   simp only[go_sem];refine zm 0 (AuA L (k+1) [3,12,60] (by decide) (by decide) (by omega) (by omega)) ?_;rintro _ _ ⟨⟨x,hx,rfl⟩,rfl⟩;refine zgF ?_;simp only[go_sem];refine zm 0 (AuB L (k+1+1) x 1998 (picks x hx).1 (picks x hx).2 (by omega) (by omega) (by omega) (by omega)) ?_;rintro _ _ ⟨t,k',rfl,t1,t2,rfl,t3,t4⟩;refine zgF ?_;simp only[go_sem];refine zm 0 (AeQ L k' 8 (by omega) (by omega) (by omega) (by omega)) ?_;rintro _ _ ⟨⟨b,rfl⟩,rfl⟩
   cases b with
   | true =>
    refine zgF ?_;simp only[go_sem];refine zm 0 (AlS L (k'+1) PreA (by decide) (by decide) (by omega) (by omega)) ?_;rintro _ _ ⟨⟨y,hy,rfl⟩,rfl⟩;refine zgF ?_;simp only[go_sem];obtain⟨u1,u2⟩:=A4R (.inl hy) t1;refine⟨by omega,?_⟩;exact aret [2] rfl ⟨_,_,rfl,⟨[⟨1,y++t⟩],k'+1+1,rfl,AjH (AhG (.inl rfl) u1 (by simp; omega)) (.inl rfl),rfl,by omega,by omega⟩,rfl,rfl⟩
   | false =>
    refine zgF ?_;simp only[go_sem];exact aret [2] rfl ⟨_,_,rfl,⟨[⟨1,t⟩],k'+1,rfl,AjH (AhG (.inl rfl) (t1.weak AhF) (by omega)) (.inl rfl),rfl,by omega,by omega⟩,rfl,rfl⟩
 .refine zgF ?_
  simp only[go_sem];refine zm 0 (AlS L (k+1) TurnL (by decide) (by decide) (by omega) (by omega)) ?_;rintro _ _ ⟨⟨y,hy,rfl⟩,rfl⟩;refine zgF ?_;simp only[go_sem];exact aret [2] rfl ⟨_,_,rfl,⟨[⟨5,y⟩],k+1+1,rfl,AjH (ArP hy) (.inr rfl),rfl,by omega,by omega⟩,rfl,rfl⟩
 .refine zgN ?_
  simp only[go_sem,d0,d1,d2];refine zpN (BiY) ?_;simp only[go_sem,d0,d1,d2];refine zm 0 (AlS L (k+1) NameL (by decide) (by decide) (by omega) (by omega)) ?_;rintro _ _ ⟨⟨y,hy,rfl⟩,rfl⟩;refine zgN ?_;simp only[go_sem];refine zm 0 (AjG L (k+1+1) 1 2 (by omega) (by omega) (by omega) (by omega) (by omega)) ?_;rintro _ _ ⟨⟨n,rfl,hn1,hn2⟩,rfl⟩;refine zgN ?_;simp only[go_sem];have dn:=A7T hy;refine AaI (ι:=Int×Int×Int×List Pa) (fun x=>(n-x.1).toNat)
   (fun x=>[(40,.int .i64 x.1),(39,.int .i64 n),(4,.sl 1 0 x.2.2.2.length x.2.2.2.length),(0,.ptr 0 1 0 0)])
   (fun x=>[.arr 2 [str L x.2.1],.arr 2 (x.2.2.2.map paA)])
   (fun x=>0<=x.1/\x.1<=n/\k<=x.2.1/\x.2.1<=k+3+170*x.1/\(x.2.2.1=2\/x.2.2.1=4)/\(0<x.1->x.2.2.1=4)/\(∀ l,l≠2->l≠3->runL l x.2.2.2=some x.2.2.1)/\(∀ p∈x.2.2.2,DrawnP p)/\1<=x.2.2.2.length/\(x.2.2.2.length:Int)<=1+2*x.1/\(wtL x.2.2.2:Int)<=3+5*x.1)
   (0,k+1+1+1,2,[⟨2,y⟩]) ⟨Int.le_refl _,by simp only; omega,by simp only; omega,by simp only; omega,.inl rfl,by simp,?_,by simpa using dn,by simp,by simp,by simp[wtL,pwP]⟩ ?_ ?_
  .intro l h2 h3
   simp[runL,dn.ok,AgI (show(2:Int)≠3 by decide) (show(2:Int)≠4 by decide) h2 h3]
  .refine Shift.weak ?_
   simp only[go_sem]
  .rintro ⟨i,k',e,out⟩ ⟨g1,g2,g3,g4,g5,g6,g7,g8,g9,g10,g11⟩ J hJ
   simp only at g1 g2 g3 g4 g5 g6 g7 g8 g9 g10 g11 hJ |-;refine zgF ?_
   by_cases gi:i<n
   .have di:decide (i<n)=true:=by simp; omega
    simp only[go_sem,di];refine zm 0 (AeQ L k' 3 (by omega) (by omega) (by omega) (by omega)) ?_;rintro _ _ ⟨⟨b,rfl⟩,rfl⟩;refine amid (κ:=Int×Int×List Pa)
     (fun x=>[(40,.int .i64 i),(39,.int .i64 n),(4,.sl 1 0 x.2.2.length x.2.2.length),(0,.ptr 0 1 0 0)])
     (fun x=>[.arr 2 [str L x.1],.arr 2 (x.2.2.map paA)])
     (fun x=>k'<=x.1/\x.1<=k'+84/\(x.2.1=2\/x.2.1=3\/x.2.1=4)/\(∀ l,l≠2->l≠3->runL l x.2.2=some x.2.1)/\(∀ p∈x.2.2,DrawnP p)/\1<=x.2.2.length/\(x.2.2.length:Int)<=2+2*i/\(wtL x.2.2:Int)<=4+5*i) ?_ ?_
    .rintro ⟨k2,e2,out2⟩ ⟨f1,f2,f3,f4,f5,f6,f7,f8⟩
     simp only at f1 f2 f3 f4 f5 f6 f7 f8 |-;refine zgF ?_;simp only[go_sem];refine zm 0 (AuA L k2 [3,12,80] (by decide) (by decide) (by omega) (by omega)) ?_;rintro _ _ ⟨⟨x,hx,rfl⟩,rfl⟩;have px:1<=x/\x<=80:=(show ∀ x∈[(3:Int),12,80],1<=x/\x<=80 by decide) x hx;refine zgF ?_;simp only[go_sem];refine zm 0 (AuB L (k2+1) x 1998 px.1 px.2 (by omega) (by omega) (by omega) (by omega)) ?_;rintro _ _ ⟨t,k3,rfl,t1,t2,rfl,t3,t4⟩;refine zgF ?_;simp only[go_sem];refine zm 0 (AeQ L k3 8 (by omega) (by omega) (by omega) (by omega)) ?_;rintro _ _ ⟨⟨b,rfl⟩,rfl⟩;have fol:followsL 4 e2=true:=by rcases f3 with rfl|rfl|rfl <;> rfl
     have e3:∀ q u,List.map paA out2++[AV.agg [.int .i64 q,.str u]]=List.map paA (out2++[⟨q,u⟩]):=fun q u=>by simp[paA]
     have e4:∀ q u,out2.length+1=(out2++[(⟨q,u⟩:Pa)]).length:=fun q u=>by simp
     have next:∀ (q:Pa) (k4:Int),DrawnP q->q.kind=4->k3<=k4->k4<=k3+2->_:=fun q k4 hq hk h1 h2=>hJ (i+1,k4,4,out2++[q]) ⟨by simp only; omega,by simp only; omega,by simp only; omega,by simp only; omega,.inr rfl,fun _=>rfl,
      fun l l2 l3=>hk▸A4Q (f4 l l2 l3) hq.ok (hk▸fol),fun p hp=>by
       rcases List.mem_append.1 hp with hp|hp
       .exact f5 p hp
       .rw [List.mem_singleton.1 hp]; exact hq,by simp,by simp only[List.length_append,List.length_cons,List.length_nil]; omega,by simp only[wtL_one,hk,pwP]; simp; omega⟩ (by simp only; omega)
     cases b with
     | true =>
      refine zgF ?_;simp only[go_sem];refine zm 0 (AlS L (k3+1) PreB (by decide) (by decide) (by omega) (by omega)) ?_;rintro _ _ ⟨⟨y,hy,rfl⟩,rfl⟩;obtain⟨u1,u2⟩:=A4R (.inr hy) t1;refine zgF ?_;simp only[go_sem];refine⟨by omega,by simp,.inl trivial,by simp; omega,by simp; omega,by omega,by omega,?_⟩;rw[e3,e4 4 (y++t)];refine ainv (next ⟨4,y++t⟩ (k3+1+1) (AhG (.inr rfl) u1 (by simp; omega)) rfl (by omega) (by omega)) (Shift.weak ?_);simp only[go_sem]
     | false =>
      refine zgF ?_;simp only[go_sem];refine⟨by simp,.inl trivial,by simp; omega,by simp; omega,by omega,by omega,?_⟩;rw[e3,e4 4 t];refine ainv (next ⟨4,t⟩ (k3+1) (AhG (.inr rfl) (t1.weak AhF) (by omega)) rfl (by omega) (by omega)) (Shift.weak ?_);simp only[go_sem]
    .intro Q hQ
     cases b with
     | true =>
      refine zgF ?_;simp only[go_sem];refine zm 0 (AuA L (k'+1) [2,20] (by decide) (by decide) (by omega) (by omega)) ?_;rintro _ _ ⟨⟨x,hx,rfl⟩,rfl⟩;have px:1<=x/\x<=80:=(show ∀ x∈[(2:Int),20],1<=x/\x<=80 by decide) x hx;refine zgF ?_;simp only[go_sem];refine zm 0 (AuB L (k'+1+1) x 200 px.1 px.2 (by omega) (by omega) (by omega) (by omega)) ?_;rintro _ _ ⟨t,k3,rfl,t1,t2,rfl,t3,t4⟩;refine zgF ?_;simp only[go_sem];have e3:∀ q u,List.map paA out++[AV.agg [.int .i64 q,.str u]]=List.map paA (out++[⟨q,u⟩]):=fun q u=>by simp[paA]
      have e4:∀ q u,out.length+1=(out++[(⟨q,u⟩:Pa)]).length:=fun q u=>by simp
      have dq:DrawnP ⟨3,t⟩:=A1N t1 (by omega);have fol:followsL 3 e=true:=by rcases g5 with rfl|rfl <;> rfl
      refine⟨by simp,.inl trivial,by simp; omega,by simp; omega,?_⟩;rw[e3,e4 3 t];refine ainv (hQ (k3,3,out++[⟨3,t⟩]) ⟨by simp only; omega,by simp only; omega,.inr (.inl rfl),fun l l2 l3=>A4Q (g7 l l2 l3) dq.ok fol,fun p hp=>?_,by simp,by simp; omega,by simp only[wtL_one,pwP]; simp; omega⟩) (Shift.weak ?_)
      .rcases List.mem_append.1 hp with hp|hp
       .exact g8 p hp
       .rw [List.mem_singleton.1 hp]; exact dq
      .simp only [go_sem]
     | false =>
      refine zgF ?_;simp only[go_sem];refine ainv (hQ (k'+1,e,out) ⟨by simp only; omega,by simp only; omega,by simp only; omega,g7,g8,g9,by simp only; omega,by simp only; omega⟩) (Shift.weak ?_);simp only[go_sem]
   .have di:decide (i<n)=false:=by simp; omega
    simp only[go_sem,di];have i0:i=n:=by omega
    have e4:=g6 (by omega);refine ARet.shift (Shift.freeze 2 (id:=1) rfl rfl (by simp) (Nat.le_refl _) (AgJ out)) (aret [2] rfl ⟨_,_,rfl,⟨out,k',?_,⟨fun l l2 l3=>⟨e,g7 l l2 l3,by omega,by omega⟩,⟨g9,by omega⟩,g8,by omega⟩,rfl,by omega,by omega⟩,rfl,rfl⟩)
    simp[resV,Av.get,Av.put,List.take_of_length_le]
theorem AiK(id e:Nat)(l:List AV)(L:List Int)(k:Int):frz id e l (str L k)=str L k:=rfl
theorem AfQ(id e:Nat)(l:List AV)(L:List Int)(k:Int):frzC id e l (str L k)=str L k:=rfl
structure DrawnS(x:Sc):Prop where
 no:x.no=[]
 place:1<=x.place/\x.place<=3
 set:x.set∈SetL
 time:1<=x.time/\x.time<=5
 run:∃ e,runL 0 x.paras=some e/\e≠2/\e≠3
 len:x.paras.length<=60
 all:∀ p∈x.paras,DrawnP p
 wt:wtL x.paras<=143
theorem AhH(L:List Int)(k:Int)(h3:0<=k)(h4:k<=700000) :
  Mc prog 30 2 (str L k) [] (fun r s=>∃ (x:Sc) (k':Int),r=scA x/\DrawnS x/\s=str L k'/\k<=k'/\k'<=k+5000):=by
 refine zcIF func30 rfl fun h ρ w=>?_
 simp only[go_sem];refine zm 0 (AjG L k 1 3 (by omega) (by omega) (by omega) (by omega) (by omega)) ?_;rintro _ _ ⟨⟨pl,rfl,hp1,hp2⟩,rfl⟩;refine zgF ?_;simp only[go_sem];refine zpN (BpK) ?_;simp only[go_sem];refine zm 0 (AlS L (k+1) SetL (by decide) (by decide) (by omega) (by omega)) ?_;rintro _ _ ⟨⟨st,hst,rfl⟩,rfl⟩;refine zgF ?_;simp only[go_sem];refine zm 0 (AjG L (k+1+1) 1 5 (by omega) (by omega) (by omega) (by omega) (by omega)) ?_;rintro _ _ ⟨⟨tm,rfl,ht1,ht2⟩,rfl⟩;refine zgF ?_;simp only[go_sem];refine zm 0 (AuA L (k+1+1+1) [2,5,12] (by decide) (by decide) (by omega) (by omega)) ?_;rintro _ _ ⟨⟨n,hn,rfl⟩,rfl⟩;have pn:1<=n/\n<=12:=(show ∀ x∈[(2:Int),5,12],1<=x/\x<=12 by decide) n hn;refine zgF ?_;simp only[go_sem];refine zm 0 (AgH L (k+1+1+1+1) n (by omega) (by omega) (by omega) (by omega)) ?_;rintro _ _ ⟨⟨v,rfl,hv0,hv1⟩,rfl⟩;refine zgF ?_;simp only[go_sem];refine AaI (ι:=Int×Int×List Pa) (fun x=>(v-x.1).toNat)
  (fun x=>[(17,.int .i64 x.1),(16,.int .i64 v),(3,.ptr 2 1 0 0),(2,.ptr 1 1 0 0),(0,.ptr 0 1 0 0)])
  (fun x=>[.arr 2 [str L x.2.1],.arr 5 [.agg [.str [],.int .i64 0,.str [],.int .i64 0,.raw (.slice none 0 0)]],.arr 5 [.agg [.str [],.int .i64 pl,.str st,.int .i64 tm,.sl 3 0 x.2.2.length x.2.2.length]],.arr 2 (x.2.2.map paA)])
  (fun x=>0<=x.1/\x.1<=v/\k<=x.2.1/\x.2.1<=k+5+400*x.1/\(∃ e,runL 0 x.2.2=some e/\e≠2/\e≠3)/\(∀ p∈x.2.2,DrawnP p)/\(x.2.2.length:Int)<=5*x.1/\(wtL x.2.2:Int)<=13*x.1)
  (0,k+1+1+1+1+1,[]) ⟨Int.le_refl _,by simp only; omega,by simp only; omega,by simp only; omega,⟨0,rfl,by decide,by decide⟩,by simp,by simp,by simp[wtL]⟩ ?_ ?_
 .refine Shift.trans (Shift.cells 2 2 [.agg [.str [],.int .i64 pl,.str st,.int .i64 tm,.sl 3 0 0 0]] rfl rfl (by simp[cellsOf]) ⟨.refl,.refl,.refl,.refl,.sl,trivial⟩) (Shift.weak ?_)
  simp only[go_sem]
 .rintro ⟨i,k',ps⟩ ⟨g1,g2,g3,g4,⟨e,g5,g6,g7⟩,g8,g9,g10⟩ J hJ
  simp only at g1 g2 g3 g4 g5 g6 g7 g8 g9 g10 hJ |-
  by_cases gi:i<v
  .have di:decide (i<v)=true:=by simp; omega
   refine zgN ?_;simp only[go_sem,di];refine AnV [3] 0 [] mixed (by decide) rfl rfl 100 ?_;simp only[go_sem];refine BbP (BjB L k' (by omega) (by omega)) rfl rfl rfl ⟨_,_,[⟨5,[69,78,68]⟩],k',rfl,AjH (ArP (by simp[TurnL])) (.inr rfl),rfl,by omega,by omega⟩ ?_;rintro _ _ ⟨b,k2,rfl,hb,rfl,t1,t2⟩;simp only[go_sem];refine⟨by simp,.inl trivial,by simp; have:=hb.len.2; omega,by simp; have:=hb.len.2; omega,?_⟩;refine zgN ?_;simp only[go_sem];refine⟨by omega,by omega,?_⟩;rw[<- List.map_append,show ps.length+(List.map paA b).length=(ps++b).length by simp];obtain⟨e',r1,r2,r3⟩:=hb.run e g6 g7;have:=hb.len;refine ainv (hJ (i+1,k2,ps++b) ⟨by simp only; omega,by simp only; omega,by simp only; omega,by simp only; omega,⟨e',by rw[AfP _ _ _ _ g5]; exact r1,r2,r3⟩,fun p hp=>?_,by simp; omega,by have:=hb.wt; simp only[A7U]; omega⟩ (by simp only; omega)) (Shift.weak ?_)
   .rcases List.mem_append.1 hp with hp|hp
    .exact g8 p hp
    .exact hb.all p hp
   .simp only [go_sem,List.length_map]
  .have di:decide (i<v)=false:=by simp; omega
   refine AWp.shift (Shift.frz 3 rfl (AgJ ps)) ?_;simp only[go_sem,↓AfQ,↓AiK,frzE,frz,frz1,frzC,frzB,List.length_map,Nat.le_refl];have:List.take ps.length (List.map paA ps)=List.map paA ps:=List.take_of_length_le (by simp);simp only[this];refine zgN ?_;simp only[go_sem,di];exact AbB [.cell 2 71] rfl [_] ⟨by simp only[go_sem,sideIs],trivial⟩ ⟨_,_,rfl,⟨⟨[],pl,st,tm,ps⟩,k',rfl,⟨rfl,⟨hp1,hp2⟩,hst,⟨ht1,ht2⟩,⟨e,g5,g6,g7⟩,by simp only; omega,g8,by simp only; omega⟩,rfl,g3,by omega⟩,rfl,rfl⟩
def TitleL:List (List UInt8):=[[84],[84,104,101,32,77,105,108,108],[65,32,45,32,66]]
structure DrawnR(x:Sr):Prop where
 title:x.title∈TitleL
 len:x.scenes.length<=5
 all:∀ y∈x.scenes,DrawnS y
 first:∀ y,x.scenes.head? = some y->y.time≠5
theorem AaD(ps:List Sc):(flat (ps.map scA)).all Av.frozen=true:=by
 induction ps with
 | nil=>rfl
 | cons y l ih=>simpa[flat,cellsOf,scA,Av.frozen]using ih
theorem BcV(L:List Int)(k:Int)(h3:0<=k)(h4:k<=600000) :
  Mc prog 24 2 (str L k) [] (fun r s=>∃ (x:Sr) (k':Int),r=srA x/\DrawnR x/\s=str L k'/\k<=k'/\k'<=k+30000):=by
 refine zcIF func24 rfl fun h ρ w=>?_
 simp only[go_sem];refine zm 0 (AlS L k TitleL (by decide) (by decide) (by omega) (by omega)) ?_;rintro _ _ ⟨⟨ti,hti,rfl⟩,rfl⟩;refine zgF ?_;simp only[go_sem];refine zm 0 (AgH L (k+1) 6 (by omega) (by omega) (by omega) (by omega)) ?_;rintro _ _ ⟨⟨v,rfl,hv0,hv1⟩,rfl⟩;refine zgF ?_;simp only[go_sem];refine AaI (ι:=Int×Int×List Sc) (fun x=>(v-x.1).toNat)
  (fun x=>[(11,.int .i64 x.1),(10,.int .i64 v),(3,.ptr 2 1 0 0),(2,.ptr 1 1 0 0),(0,.ptr 0 1 0 0)])
  (fun x=>[.arr 2 [str L x.2.1],.arr 2 [.agg [.str [],.raw (.slice none 0 0)]],.arr 2 [.agg [.str ti,.sl 3 0 x.2.2.length x.2.2.length]],.arr 5 (x.2.2.map scA)])
  (fun x=>0<=x.1/\x.1<=v/\k<=x.2.1/\x.2.1<=k+2+5000*x.1/\(x.2.2.length:Int)=x.1/\(∀ y∈x.2.2,DrawnS y)/\(∀ y,x.2.2.head? = some y->y.time≠5))
  (0,k+1+1,[]) ⟨Int.le_refl _,by simp only; omega,by simp only; omega,by simp only; omega,rfl,by simp,by simp⟩ ?_ ?_
 .refine Shift.trans (Shift.cells 2 5 [.agg [.str ti,.sl 3 0 0 0]] rfl rfl (by simp[cellsOf]) ⟨.refl,.sl,trivial⟩) (Shift.weak ?_)
  simp only[go_sem]
 .rintro ⟨i,k',xs⟩ ⟨g1,g2,g3,g4,g5,g6,g7⟩ J hJ
  simp only at g1 g2 g3 g4 g5 g6 g7 hJ |-
  by_cases gi:i<v
  .have di:decide (i<v)=true:=by simp; omega
   refine zgF ?_;simp only[go_sem,di];refine zm 0 (AhH L k' (by omega) (by omega)) ?_;rintro _ _ ⟨x,k2,rfl,hx,rfl,t1,t2⟩;have hlen:(List.map scA xs).length=xs.length:=by simp
   have e2:∀ a b c d f,List.map scA xs++[AV.agg [.str a,.int .i64 b,.str c,.int .i64 d,.fz 2 (List.map paA f)]]=List.map scA (xs++[⟨a,b,c,d,f⟩]):=fun _ _ _ _ _=>by simp[scA]
   have e3:∀ y:Sc,xs.length+1=(xs++[y]).length:=fun y=>by simp
   have fin:∀ y:Sc,DrawnS y->(xs=[]->y.time≠5)->_:=fun y hy h5=>hJ (i+1,k2,xs++[y]) ⟨by simp only; omega,by simp only; omega,by simp only; omega,by simp only; omega,by simp; omega,fun z hz=>by
     rcases List.mem_append.1 hz with hz|hz
     .exact g6 z hz
     .rw [List.mem_singleton.1 hz]; exact hy,fun z hz=>by
     cases xs with
     | nil=>simp at hz; rw[<- hz]; exact h5 rfl
     | cons a r=>exact g7 z (by simpa using hz)⟩ (by simp only; omega)
   simp only[scA];refine zgF ?_
   by_cases h0:xs=[]
   .have q0:((xs.length:Int)==0)=true:=by simp[h0]
    by_cases h5:x.time=5
    .have q5:(x.time==5)=true:=by simpa using h5
     simp only[go_sem,q0,q5];refine⟨by simp,by first|omega|(simp; done)|(simp; omega),by first|omega|(simp; done)|(simp; omega),by first|omega|(simp; done)|(simp; omega),by first|omega|(simp; done)|(simp; omega),by omega,by omega,?_⟩;rw[e2,e3 ⟨x.no,x.place,x.set,2,x.paras⟩];refine ainv (fin ⟨x.no,x.place,x.set,2,x.paras⟩ ⟨hx.no,hx.place,hx.set,by simp,hx.run,hx.len,hx.all,hx.wt⟩ (fun _=>by simp)) (Shift.low 4 (by simp) (by simp) ?_ ?_)
     .have:=AaD (xs++[⟨x.no,x.place,x.set,2,x.paras⟩])
      simp only[go_sem,lowB,flat,str,AbL this]
     .simp only [go_sem]
    .have q5:(x.time==5)=false:=by simpa using h5
     simp only[go_sem,q0,q5];refine⟨by simp,by first|omega|(simp; done)|(simp; omega),by first|omega|(simp; done)|(simp; omega),by first|omega|(simp; done)|(simp; omega),by first|omega|(simp; done)|(simp; omega),by omega,by omega,?_⟩;rw[e2,e3 ⟨x.no,x.place,x.set,x.time,x.paras⟩];refine ainv (fin ⟨x.no,x.place,x.set,x.time,x.paras⟩ hx (fun _=>h5)) (Shift.low 4 (by simp) (by simp) ?_ ?_)
     .have:=AaD (xs++[⟨x.no,x.place,x.set,x.time,x.paras⟩])
      simp only[go_sem,lowB,flat,str,AbL this]
     .simp only [go_sem]
   .have q0:((xs.length:Int)==0)=false:=by
     have:xs.length≠0:=by simpa using h0
     simp; omega
    simp only[go_sem,q0];refine⟨by simp,by first|omega|(simp; done)|(simp; omega),by first|omega|(simp; done)|(simp; omega),by first|omega|(simp; done)|(simp; omega),by first|omega|(simp; done)|(simp; omega),by omega,by omega,?_⟩;rw[e2,e3 ⟨x.no,x.place,x.set,x.time,x.paras⟩];refine ainv (fin ⟨x.no,x.place,x.set,x.time,x.paras⟩ hx (fun h=>(h0 h).elim)) (Shift.low 4 (by simp) (by simp) ?_ ?_)
    .have:=AaD (xs++[⟨x.no,x.place,x.set,x.time,x.paras⟩])
     simp only[go_sem,lowB,flat,str,AbL this]
    .simp only [go_sem]
  .have di:decide (i<v)=false:=by simp; omega
   refine AWp.shift (Shift.frz 3 rfl (AaD xs)) ?_;simp only[go_sem,↓AfQ,↓AiK,frzE,frz,frz1,frzC,frzB,List.length_map,Nat.le_refl];have:List.take xs.length (List.map scA xs)=List.map scA xs:=List.take_of_length_le (by simp);simp only[this];refine zgN ?_;simp only[go_sem,di];exact AbB [.cell 2 28] rfl [_] ⟨by simp only[go_sem,sideIs],trivial⟩ ⟨_,_,rfl,⟨⟨ti,xs⟩,k',rfl,⟨hti,by simp only; omega,g6,g7⟩,rfl,g3,by omega⟩,rfl,rfl⟩
structure SceneOk(x:Sc):Prop where
 set:isSetL x.set=true
 len:x.set.length<1000000
 many:x.paras.length<1000000
 run:∃ e,runL 0 x.paras=some e/\e≠2/\e≠3
theorem AqV{S:Std}(hS:LibOk S)(x:Sc)(hx:SceneOk x):PcH prog S 54 [scA x] (· = .int .i64 0):=by
 obtain⟨e,hr,h2,h3⟩:=hx.run;have h4:=hx.many;simp only[scA];refine zqIN func54 rfl fun h ρ w hg=>?_
 simp only[go_sem];refine zqN hg (AnW hS x.set hx.len) ?_;rw[hx.set];simp only[go_sem];refine AaI (ι:=Nat×Int) (fun y=>x.paras.length-y.1)
  (fun y=>[(14,.int .i64 y.1),(13,.int .i64 x.paras.length),(12,.fz 2 (x.paras.map paA)),(3,.int .i64 y.2)])
  (fun _=>[.arr 5 [.agg [.str x.no,.int .i64 x.place,.str x.set,.int .i64 x.time,.fz 2 (x.paras.map paA)]]])
  (fun y=>y.1<=x.paras.length/\runL y.2 (x.paras.drop y.1)=some e) (0,0) ⟨by simp,hr⟩ ?_ ?_
 .refine Shift.weak ?_
  simp only[go_sem,List.length_map]
 .rintro ⟨i,l⟩ ⟨g1,g2⟩ J hJ
  simp only at g1 g2 hJ |-
  by_cases gi:i<x.paras.length
  .have di:decide ((i:Int)<(x.paras.length:Int))=true:=by simp; omega
   have hd:x.paras.drop i=x.paras[i]::x.paras.drop (i+1):=List.drop_eq_getElem_cons gi;rw[hd]at g2;simp only[runL]at g2
   split at g2
   rotate_left
   .cases g2
   rename_i hp;simp only[Bool.and_eq_true]at hp;have hg':List.getD (List.map paA x.paras) i .any=.agg [.int .i64 x.paras[i].kind,.str x.paras[i].text]:=by simp[List.getD,gi,paA]
   have hpf:=AtX hS x.paras[i] hp.1;simp only[paA]at hpf;refine zgN ?_;simp only[go_sem,di,hg'];refine⟨by omega,by simpa using gi,by simpa using gi,?_⟩;refine zqN hg (hpf) ?_;simp only[go_sem];refine zpN (A7S x.paras[i].kind l) ?_;rw[hp.2];simp only[go_sem];refine⟨by omega,by omega,?_⟩;rw[ic i];refine ainv (hJ (i+1,x.paras[i].kind) ⟨by simp only; omega,g2⟩ (by simp only; omega)) (Shift.low 1 (by simp) (by simp) ?_ ?_)
   .simp only[go_sem,lowB,flat]
   .simp only [go_sem]
  .have di:decide ((i:Int)<(x.paras.length:Int))=false:=by simp; omega
   have:i=x.paras.length:=by omega
   subst this;rw[List.drop_length]at g2;simp only[runL,Option.some.injEq]at g2;subst g2;have q2:(l==2)=false:=by simpa using h2
   have q3:(l==3)=false:=by simpa using h3
   refine zgN ?_;simp only[go_sem,di,q2,q3];exact zt [2]
