/- Draws: a story; any right script. -/
import Derived.Test.YtgenkcmfeeakoaaGreatDoorX17
set_option maxRecDepth 100000
set_option maxHeartbeats 2000000
set_option linter.all false
namespace Go.Proofs.YtgenkcmfeeakoaaGreatDoor
open Av RowKit Proofs.Tryz
def blkS(L:List Int)(k:Int):Blk:=.arr 2 [str L k]
def blkZ:Blk:=.arr 2 [.agg [.str [],.raw (.slice none 0 0)]]
theorem AyA{S:Std}(hS:LibOk S)(L:List Int)(k:Int)(ti:LU)(x:Sc)(xs:List Sc)(hl:xs.length<=1000) :
  CtH prog S 20 [srA ⟨ti,x::xs⟩] [blkS L k,blkZ] (fun r s=>r=.agg [.str ti,.sl 4 0 (xs.length+1) (xs.length+1)] /\
   s=[blkS L k,blkZ,.arr 2 [srA ⟨ti,x::xs⟩],.arr 2 [.agg [.str ti,.sl 4 0 (xs.length+1) (xs.length+1)]],.arr 5 ((numL 0 (x::xs)).map scA),.arr 2 [.agg [.str ti,.sl 4 0 (xs.length+1) (xs.length+1)]]]):=by
 simp only[srA];refine zdIN func20 rfl fun h ρ w hg=>?_
 simp only[go_sem];refine AWp.shift (Shift.reserve 5) ?_;refine AeB [4] 4 [] AaI (by decide) rfl rfl 100 ?_;simp only[go_sem];have hfro:(flat ((x::xs).map scA)).all Av.frozen=true:=AaF (x::xs);refine AoG (AmW x xs (by omega)) (by simp) (by simp) rfl hfro rfl ?_;simp only[go_sem];apply zgN;simp only[go_sem];refine⟨by simp,?_⟩;have hnum:∃ out,numL 0 (x::xs)=out:=⟨_,rfl⟩;obtain⟨out,hout⟩:=hnum;rw[hout];refine AaE (ι:=List Sc×List Sc) (fun y=>y.2.length)
  (fun y=>[(14,.int .i64 y.1.length),(13,.int .i64 ↑(xs.length+1)),(3,.ptr 5 1 0 0),(2,.ptr 3 1 0 0)])
  (fun y=>[blkS L k,blkZ,.arr 2 [.agg [.str ti,.fz 5 (scA x::List.map scA xs)]],.arr 2 [.agg [.str [],.raw (.slice none 0 0)]],.arr 5 (List.map scA (y.1++y.2)),.arr 2 [.agg [.str ti,.sl 4 0 (xs.length+1) (xs.length+1)]]])
  (fun y=>y.1.length+y.2.length=xs.length+1/\y.1++numL y.1.length y.2=out) ([],x::xs) ⟨by simp,hout⟩ ?_ ?_
 .refine Lr ?_
  simp only[go_sem]
 .rintro ⟨dn,rest⟩ ⟨g1,g2⟩ J hJ
  simp only at g1 g2 hJ |-
  cases rest with
  | cons y r =>
   have di:decide ((dn.length:Int)<((xs.length+1:Nat):Int))=true:=by simp at g1 |-; omega
   apply zgN;simp only[go_sem,di];refine zr [.str (Lib.itoa ((dn.length:Int)+1))] AaI ?_;have hx:List.getD (List.map scA (dn++y::r)) dn.length .any=.agg [.str y.no,.int .i64 y.place,.str y.set,.int .i64 y.time,.fz 2 (y.Ld.map paA)]:=by simp[List.getD,scA]
   simp only[go_sem,hx];refine⟨by omega,by omega,(AdP hS _ (by omega) (by omega)).at hg,rfl,by simp at g1 |-; omega,by omega,by simp at g1 |-; omega,by omega,by simp,?_⟩;have hset:(List.map scA (dn++y::r)).set dn.length (.agg [.str (Lib.itoa ((dn.length:Int)+1)),.int .i64 y.place,.str y.set,.int .i64 y.time,.fz 2 (y.Ld.map paA)])=List.map scA ((dn++[nm dn.length y])++r):=by
    simp[nm,scA]
   rw[hset];apply zgN;simp only[go_sem];refine⟨by omega,by omega,?_⟩;rw[show(dn.length:Int)+1=((dn++[nm dn.length y]).length:Int) by simp];refine ainv (hJ (dn++[nm dn.length y],r) ⟨by simp at g1 |-; omega,by rw[<- g2]; simp[numL]⟩ (by simp)) (Lr ?_);simp only[go_sem]
  | nil =>
   simp only[lca,numL]at g2 |-;subst g2;have hn:dn.length=xs.length+1:=by simpa using g1
   have di:decide ((dn.length:Int)<((xs.length+1:Nat):Int))=false:=by simp; omega
   apply zgN;simp only[go_sem,di];exact AcA [.cell 2 28] rfl [_] ⟨by simp only[go_sem,sideIs],trivial⟩ ⟨rfl,rfl⟩
theorem A6Q(i:Nat)(hi:i<5):Lib.itoa ((i:Int)+1)=AbJ (i+1):=by
 rw[itoa_dig3 (by omega) (by omega)];exact(AlE i hi).2.2.2.2.2.2.2.2.symm
theorem numL_len:∀ (i:Nat)(xs:List Sc),(numL i xs).length=xs.length
 | _,[]=>rfl
 | i,x::r=>by simp[numL,numL_len (i+1) r]
theorem AvD:∀ (xs:List Sc)(i j:Nat)(h:j<xs.length),(numL i xs)[j]? = some (nm (i+j) xs[j])
 | [],i,j,h=>by simp at h
 | x::r,i,0,h=>by simp[numL]
 | x::r,i,j+1,h=>by
  simp only[numL,List.getElem?_cons_succ,List.getElem_cons_succ];rw[AvD r (i+1) j (by simpa using h)]
  congr 2
  omega
theorem set_same{α:Type}{l:List α}{i:Nat}{a:α}(h:l[i]? = some a):l.set i a=l:=by
 apply lbz;intro j;rw[List.getElem?_set]
 split
 .rename_i hj
  subst hj
  split
  .exact h.symm
  .rename_i hn
   rw[List.getElem?_eq_none (by omega)]at h
   cases h
 .rfl
def nx(L:List Int)(k n:Int):Int:=if L.length=0 then(IntKind.i64.wrap ((k+1)*7919))%n else(IntKind.i64.wrap (L.getD (k%L.length).toNat 0%1073741824+IntKind.i64.wrap (k / L.length*IntKind.i64.wrap (7919+k%L.length))))%n
theorem AgF(L:List Int)(k n:Int)(h:1<=n):0<=nx L k n/\nx L k n<n:=by
 unfold nx
 split
 .exact ⟨Int.emod_nonneg _ (by omega),Int.emod_lt_of_pos _ (by omega)⟩
 .exact ⟨Int.emod_nonneg _ (by omega),Int.emod_lt_of_pos _ (by omega)⟩
theorem AcX(L:List Int)(k n:Int)(h1:1<=n)(h2:n<=9223372036854775807)(h3:0<=k)(h4:k<=1000000) :
  Mc prog 37 2 (str L k) [.int .i64 n] (fun r s=>r=.int .i64 (nx L k n)/\s=str L (k+1)):=by
 refine AbC func37 rfl ntmps37 hB37 (by simp) fun h ρ w=>goW rfl 200 ?_
 have hw:IntKind.i64.wrap (k+1)=k+1:=IntWalk.i64_in _ ⟨by omega,by omega⟩;have hk:k+1-1=k:=by omega
 have hwk:IntKind.i64.wrap k=k:=IntWalk.i64_in _ ⟨by omega,by omega⟩;have fin:∀ x:Int,0<=x%n/\x%n<n:=fun x=>⟨Int.emod_nonneg x (by omega),Int.emod_lt_of_pos x (by omega)⟩
 simp only[go_sem,str,hw];refine⟨fun h5=>?_,fun h5=>?_⟩
 .refine AaX (AhY _ n h1 h2) rfl rfl rfl (goW rfl 200 ?_)
  simp only[go_sem];have hL0:L.length=0:=by first|(simpa using h5)|omega
  exact aret [4] rfl ⟨_,_,rfl,by unfold nx; rw[if_pos hL0]; rfl,rfl,rfl,rfl⟩
 .refine zr [] AaI ?_
  simp only[go_sem,hw,hk,hwk];have hm0:0<((List.map (AV.int .i64) L).length:Int):=by omega
  have hmL:((List.map (AV.int .i64) L).length:Int)=L.length:=by simp
  generalize hM:((List.map (AV.int .i64) L).length:Int)=M at *;have d1:0<=k / M:=Int.ediv_nonneg h3 (by omega);have d2:k / M<=k:=Int.ediv_le_self _ h3;have d3:0<=k%M:=Int.emod_nonneg k (by omega);have d4:k%M<M:=Int.emod_lt_of_pos k hm0;have d5:k%M<=k:=by
   have q1:=Int.mul_ediv_add_emod k M;have q2:0<=M*(k / M):=Int.mul_nonneg (by omega) d1;omega
  have d6:0<=k / M*(7919+k%M):=Int.mul_nonneg d1 (by omega);have d7:k / M*(7919+k%M)<=1000000*1007919:=Int.mul_le_mul (by omega) (by omega) (by omega) (by omega);refine⟨by omega,by omega,by omega,by omega,?_⟩;refine goW rfl 200 ?_;simp only[go_sem,hw,hk,hwk,hM];refine zr [] AaI ?_;simp only[go_sem,hw,hk,hwk,hM];refine⟨by omega,by omega,by omega,by omega,by omega,by omega,?_⟩;have hx:∃ x,(List.map (AV.int .i64) L).getD (k%M).toNat .any=.int .i64 x:=by
   have:(k%M).toNat<L.length:=by omega
   exact⟨L[(k%M).toNat],by simp[List.getD,this]⟩
  have hxv:(List.map (AV.int .i64) L).getD (k%M).toNat .any=.int .i64 (L.getD (k%M).toNat 0):=by
   have:(k%M).toNat<L.length:=by omega
   simp[List.getD,this]
  clear hx;have hx:=hxv;have hnx:nx L k n=(IntKind.i64.wrap (L.getD (k%M).toNat 0%1073741824+IntKind.i64.wrap (k / M*IntKind.i64.wrap (7919+k%M))))%n:=by
   unfold nx;rw[if_neg (by omega),<- hmL]
  generalize L.getD (k%M).toNat 0=x at *;have f1:0<=x%1073741824:=Int.emod_nonneg x (by omega);have f2:x%1073741824<1073741824:=Int.emod_lt_of_pos x (by omega);refine goW rfl 200 ?_;simp only[go_sem,hw,hk,hwk,hM,hx];refine⟨by omega,by omega,by simp; omega,?_⟩;refine AaX (AhY _ _ (by omega) (by omega)) rfl rfl rfl (goW rfl 200 ?_);simp only[go_sem];refine AaX (AhY _ n h1 h2) rfl rfl rfl (goW rfl 200 ?_);simp only[go_sem];exact aret [4] rfl ⟨_,_,rfl,by rw[hnx]; rfl,rfl,rfl,rfl⟩
def oneF(L:List Int)(k:Int)(ls:List LU):LU:=ls.getD (nx L k ls.length).toNat []
def flipF(L:List Int)(k n:Int):Bool:=nx L k n==0
def pickF(L:List Int)(k:Int)(ls:List Int):Int:=ls.getD (nx L k ls.length).toNat 0
def rangeF(L:List Int)(k a b:Int):Int:=a+nx L k (b-a+1)
theorem AbW{L:List Int}{k:Int}{ls:List LU}(h:1<=ls.length):oneF L k ls∈ls:=by
 have:=AgF L k ls.length (by omega);have hv:(nx L k ls.length).toNat<ls.length:=by omega
 unfold oneF;simp only[List.getD,lab hv,lcn];exact lac hv
theorem AjY{L:List Int}{k:Int}{ls:List Int}(h:1<=ls.length):pickF L k ls∈ls:=by
 have:=AgF L k ls.length (by omega);have hv:(nx L k ls.length).toNat<ls.length:=by omega
 unfold pickF;simp only[List.getD,lab hv,lcn];exact lac hv
theorem AgG(L:List Int)(k:Int)(ls:List LU)(h1:1<=ls.length)(h2:ls.length<=1000)(h3:0<=k)(h4:k<=1000000) :
  Mc prog 24 2 (str L k) [.fz 1 (ls.map .str)] (fun r s=>r=.str (oneF L k ls)/\s=str L (k+1)):=by
 have hlen:((List.map AV.str ls).length:Int)=ls.length:=by simp
 have hb:=AgF L k ls.length (by omega);refine zcIN func24 rfl fun h ρ w=>?_
 simp only[go_sem];refine zm 0 (AcX L k _ (by omega) (by omega) h3 h4) ?_;rintro _ _ ⟨rfl,rfl⟩;rw[hlen];have hv:(nx L k ls.length).toNat<ls.length:=by omega
 have hx:(List.map AV.str ls).getD (nx L k ls.length).toNat .any=.str (oneF L k ls):=by
  unfold oneF
  simp[List.getD,hv]
 apply zgN;simp only[go_sem,hx];refine⟨by omega,by omega,by simpa using hv,?_⟩;exact aret [4] rfl ⟨_,_,rfl,rfl,rfl,rfl,rfl⟩
theorem AcN(L:List Int)(k n:Int)(h1:1<=n)(h2:n<=1000)(h3:0<=k)(h4:k<=1000000) :
  Mc prog 22 2 (str L k) [.int .i64 n] (fun r s=>r=.bool (flipF L k n)/\s=str L (k+1)):=by
 refine zcIN func22 rfl fun h ρ w=>?_
 simp only[go_sem];refine zm 0 (AcX L k _ (by omega) (by omega) h3 h4) ?_;rintro _ _ ⟨rfl,rfl⟩;apply zgN;simp only[go_sem];exact aret [4] rfl ⟨_,_,rfl,rfl,rfl,rfl,rfl⟩
theorem AeH(L:List Int)(k a b:Int)(h1:0<=a)(h2:a<=b)(hb:b<=1000)(h3:0<=k)(h4:k<=1000000) :
  Mc prog 52 2 (str L k) [.int .i64 a,.int .i64 b] (fun r s=>r=.int .i64 (rangeF L k a b)/\s=str L (k+1)):=by
 have d:decide (b<a)=false:=by simp; omega
 have hbd:=AgF L k (b-a+1) (by omega);refine zcIN func52 rfl fun h ρ w=>?_
 simp only[go_sem,d];refine⟨by omega,by omega,by omega,by omega,?_⟩;refine zm 0 (AcX L k _ (by omega) (by omega) h3 h4) ?_;rintro _ _ ⟨rfl,rfl⟩;apply zgN;simp only[go_sem];refine⟨by omega,by omega,?_⟩;exact aret [6] rfl ⟨_,_,rfl,rfl,rfl,rfl,rfl⟩
theorem AbQ(L:List Int)(k:Int)(ls:List Int)(h1:1<=ls.length)(h2:ls.length<=1000)(h3:0<=k)(h4:k<=1000000) :
  Mc prog 79 2 (str L k) [.fz 1 (ls.map (.int .i64))] (fun r s=>r=.int .i64 (pickF L k ls)/\s=str L (k+1)):=by
 have hlen:((List.map (AV.int .i64) ls).length:Int)=ls.length:=by simp
 have hb:=AgF L k ls.length (by omega);refine zcIN func79 rfl fun h ρ w=>?_
 simp only[go_sem];refine zm 0 (AcX L k _ (by omega) (by omega) h3 h4) ?_;rintro _ _ ⟨rfl,rfl⟩;rw[hlen];have hv:(nx L k ls.length).toNat<ls.length:=by omega
 have hx:(List.map (AV.int .i64) ls).getD (nx L k ls.length).toNat .any=.int .i64 (pickF L k ls):=by
  unfold pickF
  simp[List.getD,hv]
 apply zgN;simp only[go_sem,hx];refine⟨by omega,by omega,by simpa using hv,?_⟩;exact aret [4] rfl ⟨_,_,rfl,rfl,rfl,rfl,rfl⟩
def wordF(L:List Int)(k v b:Int):Nat->Nat->LU->LU×Int
 | 0,i,out=>(out,k+1+i)
 | f+1,i,out=>if(i:Int)<v then
   (if(out.length:Int)+((if out=[] then oneF L (k+1+i) WordL else 32::oneF L (k+1+i) WordL).length:Int)>b then(out,k+1+i+1)
    else wordF L k v b f (i+1) (out++(if out=[] then oneF L (k+1+i) WordL else 32::oneF L (k+1+i) WordL)))
  else(out,k+1+i)
theorem AvE(L:List Int)(k v b:Int)(h5:60<=b):∀ (f i:Nat)(out:LU),(i:Int)<=v->v<=i+f->(out.length:Int)<=b->(i=0->out=[])->(0<i->TextOk wordC out)->1<=v ->
  TextOk wordC (wordF L k v b f i out).1/\((wordF L k v b f i out).1.length:Int)<=b/\k<=(wordF L k v b f i out).2/\(wordF L k v b f i out).2<=k+1+v
 | 0,i,out,g1,g2,g3,g4,g5,g6=>⟨g5 (by omega),g3,by simp only[wordF]; omega,by simp only[wordF]; omega⟩
 | f+1,i,out,g1,g2,g3,g4,g5,g6=>by
  obtain⟨x1,x2⟩:=A2O (AbW (L:=L) (k:=k+1+i) (ls:=WordL) (by decide));simp only[wordF];generalize oneF L (k+1+i) WordL=x at *
  by_cases gi:(i:Int)<v
  .rw [if_pos gi]
   by_cases ho:out=[]
   .subst ho
    simp only[if_true,lap,lbx];rw[if_neg (by omega)];refine AvE L k v b h5 f (i+1) x (by omega) (by omega) (by omega) (by omega) (fun _=>x1) g6
   .have i0:0<i:=by
     rcases Nat.eq_zero_or_pos i with h|h
     .exact absurd (g4 h) ho
     .exact h
    simp only[if_neg ho]
    split
    .exact ⟨g5 i0,g3,by simp only; omega,by simp only; omega⟩
    .rename_i hgl
     refine AvE L k v b h5 f (i+1) _ (by omega) (by omega) (by simp at hgl |-; omega) (by omega) (fun _=>(g5 i0).join rfl x1) g6
  .rw [if_neg gi]
   exact⟨g5 (by omega),g3,by simp only; omega,by simp only; omega⟩
def wordsF(L:List Int)(k m b:Int):LU×Int:=wordF L k (rangeF L k 1 m) b (rangeF L k 1 m).toNat 0 []
theorem AfM(L:List Int)(k m b:Int)(h1:1<=m)(h2:m<=80)(h5:60<=b):TextOk wordC (wordsF L k m b).1/\((wordsF L k m b).1.length:Int)<=b/\k<=(wordsF L k m b).2/\(wordsF L k m b).2<=k+81:=by
 have hb:=AgF L k (m-1+1) (by omega);have hv:1<=rangeF L k 1 m/\rangeF L k 1 m<=m:=by unfold rangeF; omega
 obtain⟨a,b,c,d⟩:=AvE L k (rangeF L k 1 m) b h5 (rangeF L k 1 m).toNat 0 [] (by omega) (by omega) (by simp; omega) (by simp) (by simp) hv.1;exact⟨a,b,c,by unfold wordsF; omega⟩
theorem AoR(L:List Int)(k m b:Int)(h1:1<=m)(h2:m<=80)(h5:60<=b)(h6:b<=2000)(h3:0<=k)(h4:k<=900000) :
  Mc prog 144 2 (str L k) [.int .i64 m,.int .i64 b] (fun r s=>r=.str (wordsF L k m b).1/\s=str L (wordsF L k m b).2):=by
 have hb:=AgF L k (m-1+1) (by omega);have hv:1<=rangeF L k 1 m/\rangeF L k 1 m<=m:=by unfold rangeF; omega
 obtain⟨⟨t,kk⟩,hw⟩:∃ z,z=wordsF L k m b:=⟨_,rfl⟩;rw[<- hw];unfold wordsF at hw;refine zcIF func144 rfl fun h ρ w=>?_
 simp only[go_sem];refine zm 0 (AeH L k 1 m (by omega) (by omega) (by omega) h3 (by omega)) ?_;rintro _ _ ⟨rfl,rfl⟩;generalize rangeF L k 1 m=v at *;apply zgF;simp only[go_sem];refine AoB (ι:=Nat×LU) (κ:=Unit) (fun x=>v.toNat-x.1)
  (fun x=>[(12,.int .i64 x.1),(11,.int .i64 v),(7,.str x.2),(2,.int .i64 b),(0,.ptr 0 1 0 0)])
  (fun x=>[.arr 2 [str L (k+1+x.1)]])
  (fun x=>(x.1:Int)<=v/\(x.2.length:Int)<=b/\wordF L k v b (v.toNat-x.1) x.1 x.2=(t,kk))
  (fun x=>[(7,.str t),(0,.ptr 0 1 0 0)]) (fun x=>[.arr 2 [str L kk]])
  (fun x=>True)
  (0,[]) ⟨by simp only; omega,by simp; omega,by simpa using hw.symm⟩ ?_ ?_ ?_
 .have h0:k+1+((0:Nat):Int)=k+1:=by omega
  simp only[h0];refine Lr ?_;simp only[go_sem]
 .rintro ⟨⟩ _
  apply zgN;simp only[go_sem];exact aret [6] rfl ⟨_,_,rfl,rfl,rfl,rfl,rfl⟩
 .rintro ⟨i,u⟩ ⟨g1,g2,g3⟩ J Q hJ hQ
  simp only at g1 g2 g3 hJ hQ |-;apply zgF
  by_cases gi:(i:Int)<v
  .have d1:decide ((i:Int)<v)=true:=by simp; omega
   have e0:v.toNat-i=(v.toNat-(i+1))+1:=by omega
   have hx:=A2O (AbW (L:=L) (k:=k+1+i) (ls:=WordL) (by decide));rw[e0]at g3;simp only[wordF,if_pos gi]at g3;have ho:=AgG L (k+1+i) WordL (by decide) (by decide) (by omega) (by omega);generalize oneF L (k+1+i) WordL=x at *;obtain⟨x1,x2⟩:=hx;simp only[go_sem,d1];refine zm 0 (ho) ?_;rintro _ _ ⟨rfl,rfl⟩;have e1:k+1+(i:Int)+1=k+1+((i+1:Nat):Int):=by omega
   by_cases ht:u=[]
   .subst ht
    have d3:decide (((0:Nat):Int)+(x.length:Int)>b)=false:=by simp; omega
    simp only[if_true,lap,lbx]at g3;rw[if_neg (by omega)]at g3;apply zgF;simp only[go_sem,d3];refine⟨by omega,by omega,fun gl=>(by simp at gl; omega),fun gl=>?_⟩
    repeat refine ao ?_
    rw[e1,show(i:Int)+1=((i+1:Nat):Int) by omega];refine ainv (hJ (i+1,x) ⟨by simp only; omega,by simp only; omega,g3⟩ (by simp only; omega)) (Lr ?_);simp only[go_sem]
   .have d2:(u != [])=true:=by simp[ht]
    have d2':(u==[])=false:=by simp[ht]
    simp only[if_neg ht]at g3;apply zgF;simp only[go_sem,d2,d2']
    repeat refine ao ?_
    refine⟨fun gl=>?_,fun gl=>?_⟩
    .rw [if_pos (by simp at gl |-; omega)]at g3
     injection g3 with g3 g4
     rw[<- g3,<- g4]at hQ;refine ainv (hQ () trivial) (Lr ?_);simp only[go_sem]
    .rw [if_neg (by simp at gl |-; omega)]at g3
     repeat refine ao ?_
     rw[e1,show(i:Int)+1=((i+1:Nat):Int) by omega];refine ainv (hJ (i+1,u++32::x) ⟨by simp only; omega,by simp at gl |-; omega,g3⟩ (by simp only; omega)) (Lr ?_);simp only[go_sem]
  .have d1:decide ((i:Int)<v)=false:=by simp; omega
   have e0:v.toNat-i=0:=by omega
   rw[e0]at g3;simp only[wordF]at g3
   injection g3 with g3 g4
   rw[<- g3,<- g4]at hQ;simp only[go_sem,d1];refine ainv (hQ () trivial) (Lr ?_);simp only[go_sem]
def rndA(L:List Int)(x:Int×List Pa):Int×List Pa :=
 if flipF L x.1 3 then((wordsF L (x.1+1+1) (pickF L (x.1+1) [2,20]) 200).2,x.2++[⟨3,(wordsF L (x.1+1+1) (pickF L (x.1+1) [2,20]) 200).1⟩]) else(x.1+1,x.2)
def rndB(L:List Int)(x:Int×List Pa):Int×List Pa :=
 if flipF L (wordsF L (x.1+1) (pickF L x.1 [3,12,80]) 1998).2 8 then
  ((wordsF L (x.1+1) (pickF L x.1 [3,12,80]) 1998).2+1+1,x.2++[⟨4,oneF L ((wordsF L (x.1+1) (pickF L x.1 [3,12,80]) 1998).2+1) PreB++(wordsF L (x.1+1) (pickF L x.1 [3,12,80]) 1998).1⟩])
 else((wordsF L (x.1+1) (pickF L x.1 [3,12,80]) 1998).2+1,x.2++[⟨4,(wordsF L (x.1+1) (pickF L x.1 [3,12,80]) 1998).1⟩])
def rndsF(L:List Int):Nat->Int×List Pa->Int×List Pa
 | 0,x=>x
 | n+1,x=>rndsF L n (rndB L (rndA L x))
structure RunP(e:Int)(out:List Pa):Prop where
 run:∀ l,l≠2->l≠3->runL l out=some e
 all:∀ p∈out,DrawnP p
 len:1<=out.length
theorem RunP.add{e:Int}{out:List Pa}(h:RunP e out){p:Pa}(hp:DrawnP p)(hf:followsL p.kind e=true):RunP p.kind (out++[p]) :=
 ⟨fun l l2 l3=>AuY (h.run l l2 l3) hp.ok hf,fun q hq=>by
  rcases List.mem_append.1 hq with hq|hq
  .exact h.all q hq
  .rw [List.mem_singleton.1 hq]; exact hp,by simp⟩
theorem BwC(L:List Int)(k:Int):1<=pickF L k [2,20]/\pickF L k [2,20]<=80:=(show ∀ x∈[(2:Int),20],1<=x/\x<=80 by decide) _ (AjY (by decide))
theorem BwD(L:List Int)(k:Int):1<=pickF L k [3,12,80]/\pickF L k [3,12,80]<=80:=(show ∀ x∈[(3:Int),12,80],1<=x/\x<=80 by decide) _ (AjY (by decide))
theorem BwE(L:List Int)(k:Int):1<=pickF L k [3,12,60]/\pickF L k [3,12,60]<=80:=(show ∀ x∈[(3:Int),12,60],1<=x/\x<=80 by decide) _ (AjY (by decide))
theorem BfE(L:List Int)(x:Int×List Pa){e:Int}(h:RunP e x.2)(he:e=2\/e=4):(∃ e',RunP e' (rndA L x).2/\(e'=2\/e'=3\/e'=4))/\x.1<=(rndA L x).1/\(rndA L x).1<=x.1+84/\(rndA L x).2.length<=x.2.length+1:=by
 obtain⟨w1,w2,w3,w4⟩:=AfM L (x.1+1+1) (pickF L (x.1+1) [2,20]) 200 (BwC L _).1 (BwC L _).2 (by decide);unfold rndA;generalize wordsF L (x.1+1+1) (pickF L (x.1+1) [2,20]) 200=w at *
 split
 .refine ⟨⟨3,h.add (p:=⟨3,w.1⟩) (AoK w1 (by omega)) (by rcases he with rfl|rfl <;> rfl),.inr (.inl rfl)⟩,?_,?_,?_⟩
  .simp only; omega
  .simp only; omega
  .simp
 .exact ⟨⟨e,h,by omega⟩,by simp only; omega,by simp only; omega,by simp⟩
theorem BfF(L:List Int)(x:Int×List Pa){e:Int}(h:RunP e x.2)(he:e=2\/e=3\/e=4):RunP 4 (rndB L x).2/\x.1<=(rndB L x).1/\(rndB L x).1<=x.1+84/\(rndB L x).2.length<=x.2.length+1:=by
 obtain⟨w1,w2,w3,w4⟩:=AfM L (x.1+1) (pickF L x.1 [3,12,80]) 1998 (BwD L _).1 (BwD L _).2 (by decide);have fol:followsL 4 e=true:=by rcases he with rfl|rfl|rfl <;> rfl
 unfold rndB;generalize wordsF L (x.1+1) (pickF L x.1 [3,12,80]) 1998=w at *
 split
 .obtain ⟨u1,u2⟩:=AhZ (.inr (AbW (L:=L) (k:=w.2+1) (ls:=PreB) (by decide))) w1
  exact⟨h.add (p:=⟨4,oneF L (w.2+1) PreB++w.1⟩) (AcI (.inr rfl) u1 (by simp; omega)) fol,by simp only; omega,by simp only; omega,by simp⟩
 .exact ⟨h.add (p:=⟨4,w.1⟩) (AcI (.inr rfl) (w1.weak AdV) (by omega)) fol,by simp only; omega,by simp only; omega,by simp⟩
theorem A6R(L:List Int):∀ (n:Nat)(x:Int×List Pa)(e:Int),RunP e x.2->(e=2\/e=4)->(n=0->e=4) ->
  RunP 4 (rndsF L n x).2/\x.1<=(rndsF L n x).1/\(rndsF L n x).1<=x.1+168*n/\(rndsF L n x).2.length<=x.2.length+2*n
 | 0,x,e,h,he,h0=>⟨h0 rfl▸h,Int.le_refl _,by simp[rndsF],by simp[rndsF]⟩
 | n+1,x,e,h,he,h0=>by
  obtain⟨⟨e',a1,a2⟩,a3,a4,a5⟩:=BfE L x h he;obtain⟨b1,b2,b3,b4⟩:=BfF L (rndA L x) a1 a2;obtain⟨c1,c2,c3,c4⟩:=A6R L n (rndB L (rndA L x)) 4 b1 (.inr rfl) (fun _=>rfl);simp only[rndsF];exact⟨c1,by omega,by push_cast; omega,by omega⟩
def parasF(L:List Int)(k:Int):List Pa×Int :=
 if nx L k 6=0\/nx L k 6=1 then
  (if flipF L (wordsF L (k+1+1) (pickF L (k+1) [3,12,60]) 1998).2 8 then
   ([⟨1,oneF L ((wordsF L (k+1+1) (pickF L (k+1) [3,12,60]) 1998).2+1) PreA++(wordsF L (k+1+1) (pickF L (k+1) [3,12,60]) 1998).1⟩],(wordsF L (k+1+1) (pickF L (k+1) [3,12,60]) 1998).2+1+1)
  else([⟨1,(wordsF L (k+1+1) (pickF L (k+1) [3,12,60]) 1998).1⟩],(wordsF L (k+1+1) (pickF L (k+1) [3,12,60]) 1998).2+1))
 else if nx L k 6=2 then([⟨5,oneF L (k+1) TurnL⟩],k+1+1)
 else((rndsF L (rangeF L (k+1+1) 1 2).toNat (k+1+1+1,[⟨2,oneF L (k+1) NameL⟩])).2,(rndsF L (rangeF L (k+1+1) 1 2).toNat (k+1+1+1,[⟨2,oneF L (k+1) NameL⟩])).1)
theorem BfG(L:List Int)(k:Int):1<=rangeF L k 1 2/\rangeF L k 1 2<=2:=by
 have:=AgF L k (2-1+1) (by decide);unfold rangeF; omega
theorem A6S{t:LU}(h:t∈NameL):RunP 2 [⟨2,t⟩] :=
 ⟨fun l h2 h3=>by simp[runL,(AlB h).ok,AeT (show(2:Int)≠3 by decide) (show(2:Int)≠4 by decide) h2 h3],by simpa using AlB h,by simp⟩
theorem BwF(L:List Int)(x:Int×List Pa):wtL (rndA L x).2<=wtL x.2+1:=by
 unfold rndA; split <;> simp[wtL_one,pwP]
theorem BwG(L:List Int)(x:Int×List Pa):wtL (rndB L x).2=wtL x.2+4:=by
 unfold rndB; split <;> simp[wtL_one,pwP]
theorem A6T(L:List Int):∀ (n:Nat)(x:Int×List Pa),wtL (rndsF L n x).2<=wtL x.2+5*n
 | 0,x=>by simp[rndsF]
 | n+1,x=>by
  have h1:=BwF L x;have h2:=BwG L (rndA L x);have h3:=A6T L n (rndB L (rndA L x));simp only[rndsF];omega
theorem AoS(L:List Int)(k:Int):Block (parasF L k).1/\k<=(parasF L k).2/\(parasF L k).2<=k+400:=by
 unfold parasF
 split
 .obtain ⟨w1,w2,w3,w4⟩:=AfM L (k+1+1) (pickF L (k+1) [3,12,60]) 1998 (BwE L _).1 (BwE L _).2 (by decide)
  generalize wordsF L (k+1+1) (pickF L (k+1) [3,12,60]) 1998=w at *
  split
  .obtain ⟨u1,u2⟩:=AhZ (.inl (AbW (L:=L) (k:=w.2+1) (ls:=PreA) (by decide))) w1
   exact⟨AeE (AcI (.inl rfl) u1 (by simp; omega)) (.inl rfl),by simp only; omega,by simp only; omega⟩
  .exact ⟨AeE (AcI (.inl rfl) (w1.weak AdV) (by omega)) (.inl rfl),by simp only; omega,by simp only; omega⟩
 .split
  .exact ⟨AeE (AlC (AbW (by decide))) (.inr rfl),by simp only; omega,by simp only; omega⟩
  .have hr:=BfG L (k+1+1)
   generalize rangeF L (k+1+1) 1 2=n at *;obtain⟨c1,c2,c3,c4⟩:=A6R L n.toNat (k+1+1+1,[⟨2,oneF L (k+1) NameL⟩]) 2 (A6S (AbW (by decide))) (.inl rfl) (by omega);simp only at c2 c3 c4;exact⟨⟨fun l l2 l3=>⟨4,c1.run l l2 l3,by decide,by decide⟩,⟨c1.len,by simp at c4 |-; omega⟩,c1.all,by
    have h:=A6T L n.toNat (k+1+1+1,[⟨2,oneF L (k+1) NameL⟩]);have e:wtL [⟨2,oneF L (k+1) NameL⟩]=3:=by simp[wtL,pwP]
    simp only[e]at h |-;omega⟩,by simp only; omega,by simp only; omega⟩
theorem BfH(L:List Int)(k:Int)(h3:0<=k)(h4:k<=800000) :
  Mc prog 80 2 (str L k) [] (fun r s=>r=.fz 2 ((parasF L k).1.map paA)/\s=str L (parasF L k).2):=by
 obtain⟨⟨b0,k0⟩,hw⟩:∃ z,z=parasF L k:=⟨_,rfl⟩;rw[<- hw];unfold parasF at hw;have hb:=AgF L k 6 (by decide);refine zcIF func80 rfl fun h ρ w=>?_
 simp only[go_sem];refine zm 0 (AcX L k _ (by omega) (by omega) h3 (by omega)) ?_;rintro _ _ ⟨rfl,rfl⟩;generalize nx L k 6=v at *;have hv:(v=0\/v=1)\/v=2\/((v==0)=false/\(v==1)=false/\(v==2)=false):=by
  by_cases a:v=0
  .exact .inl (.inl a)
  by_cases b:v=1
  .exact .inl (.inr b)
  by_cases c:v=2
  .exact .inr (.inl c)
  exact .inr (.inr ⟨by simpa using a,by simpa using b,by simpa using c⟩)
 rcases hv with hv|rfl|⟨d0,d1,d2⟩
 .rw [if_pos hv]at hw
  have hp:=AbQ L (k+1) [3,12,60] (by decide) (by decide) (by omega) (by omega);obtain⟨x1,x2⟩:=BwE L (k+1);generalize pickF L (k+1) [3,12,60]=x at *;have hwx:=AoR L (k+1+1) x 1998 x1 x2 (by decide) (by decide) (by omega) (by omega);obtain⟨w1,w2,w3,w4⟩:=AfM L (k+1+1) x 1998 x1 x2 (by decide);generalize wordsF L (k+1+1) x 1998=w at *;obtain⟨t,k'⟩:=w;simp only at w1 w2 w3 w4 hwx hw;have hfl:=AcN L k' 8 (by decide) (by decide) (by omega) (by omega);have hon:=AgG L (k'+1) PreA (by decide) (by decide) (by omega) (by omega);have hom:=AbW (L:=L) (k:=k'+1) (ls:=PreA) (by decide);generalize oneF L (k'+1) PreA=y at *;obtain⟨u1,u2⟩:=AhZ (.inl hom) w1;generalize flipF L k' 8=fb at *
  rcases hv with rfl|rfl <;>
  .apply zgF
   simp only[go_sem];refine zm 0 (hp) ?_;rintro _ _ ⟨rfl,rfl⟩;apply zgF;simp only[go_sem];refine zm 0 (hwx) ?_;rintro _ _ ⟨rfl,rfl⟩;apply zgF;simp only[go_sem];refine zm 0 (hfl) ?_;rintro _ _ ⟨rfl,rfl⟩
   cases fb with
   | true =>
    simp only[if_true,lck]at hw;obtain⟨rfl,rfl⟩:=hw;apply zgF;simp only[go_sem];refine zm 0 (hon) ?_;rintro _ _ ⟨rfl,rfl⟩;apply zgF;simp only[go_sem];refine⟨by omega,?_⟩;exact aret [2] rfl ⟨_,_,rfl,rfl,rfl,rfl,rfl⟩
   | false =>
    simp only[lan,if_false,lck]at hw;obtain⟨rfl,rfl⟩:=hw;apply zgF;simp only[go_sem];exact aret [2] rfl ⟨_,_,rfl,rfl,rfl,rfl,rfl⟩
 .rw [if_neg (by decide),if_pos rfl]at hw
  simp only[lck]at hw;obtain⟨rfl,rfl⟩:=hw;apply zgF;simp only[go_sem];refine zm 0 (AgG L (k+1) TurnL (by decide) (by decide) (by omega) (by omega)) ?_;rintro _ _ ⟨rfl,rfl⟩;apply zgF;simp only[go_sem];exact aret [2] rfl ⟨_,_,rfl,rfl,rfl,rfl,rfl⟩
 .have e0:¬ (v=0\/v=1):=by simp at d0 d1; omega
  have e1:¬ v=2:=by simpa using d2
  rw[if_neg e0,if_neg e1]at hw;have hon:=AgG L (k+1) NameL (by decide) (by decide) (by omega) (by omega);have hom:=AbW (L:=L) (k:=k+1) (ls:=NameL) (by decide);generalize oneF L (k+1) NameL=y at *;have hra:=AeH L (k+1+1) 1 2 (by decide) (by decide) (by decide) (by omega) (by omega);have hr:=BfG L (k+1+1);generalize rangeF L (k+1+1) 1 2=n at *;apply zgN;simp only[go_sem,d0,d1,d2];refine zpN (A6G) ?_;simp only[go_sem,d0,d1,d2];refine zm 0 (hon) ?_;rintro _ _ ⟨rfl,rfl⟩;apply zgN;simp only[go_sem];refine zm 0 (hra) ?_;rintro _ _ ⟨rfl,rfl⟩;apply zgN;simp only[go_sem];refine AaE (ι:=Nat×Int×Int×List Pa) (fun x=>n.toNat-x.1)
   (fun x=>[(40,.int .i64 x.1),(39,.int .i64 n),(4,.sl 1 0 x.2.2.2.length x.2.2.2.length),(0,.ptr 0 1 0 0)])
   (fun x=>[.arr 2 [str L x.2.2.1],.arr 2 (x.2.2.2.map paA)])
   (fun x=>(x.1:Int)<=n/\k<=x.2.2.1/\x.2.2.1<=k+3+170*x.1/\(x.2.1=2\/x.2.1=4)/\RunP x.2.1 x.2.2.2/\(x.2.2.2.length:Int)<=1+2*x.1/\rndsF L (n.toNat-x.1) x.2.2=(k0,b0))
   (0,2,k+1+1+1,[⟨2,y⟩]) ⟨by simp only; omega,by simp only; omega,by simp only; omega,.inl rfl,A6S hom,by simp,?_⟩ ?_ ?_
  .simp only [lck]at hw
   obtain⟨rfl,rfl⟩:=hw;rfl
  .refine Lr ?_
   simp only[go_sem]
  .rintro ⟨i,e,k',out⟩ ⟨g1,g3,g4,g5,g7,g10,hF⟩ J hJ
   simp only at g1 g3 g4 g5 g7 g10 hF hJ |-;apply zgF
   by_cases gi:(i:Int)<n
   .have di:decide ((i:Int)<n)=true:=by simp; omega
    rw[show n.toNat-i=(n.toNat-(i+1))+1 by omega]at hF;simp only[rndsF]at hF;obtain⟨⟨e2,f4,f3⟩,f1,f2,f7⟩:=BfE L (k',out) g7 g5;simp only at f1 f2 f7;obtain⟨hB1,hB2,hB3,hB4⟩:=BfF L (rndA L (k',out)) f4 f3;have hfl:=AcN L k' 3 (by decide) (by decide) (by omega) (by omega);have hmid:∃ k2 out2,rndA L (k',out)=(k2,out2):=⟨_,_,rfl⟩;obtain⟨k2,out2,hmid⟩:=hmid;rw[hmid]at f1 f2 f4 f7 hB1 hB2 hB3 hB4 hF;simp only at f1 f2 f4 f7 hB2 hB3 hB4;simp only[go_sem,di];refine zm 0 (hfl) ?_;rintro _ _ ⟨rfl,rfl⟩;refine amid (κ:=Unit)
     (fun _=>[(40,.int .i64 i),(39,.int .i64 n),(4,.sl 1 0 out2.length out2.length),(0,.ptr 0 1 0 0)])
     (fun _=>[.arr 2 [str L k2],.arr 2 (out2.map paA)])
     (fun _=>True) ?_ ?_
    .rintro ⟨⟩ _
     have hp:=AbQ L k2 [3,12,80] (by decide) (by decide) (by omega) (by omega);obtain⟨x1,x2⟩:=BwD L k2;unfold rndB at hF hB1 hB2 hB3 hB4;simp only at hF hB1 hB2 hB3 hB4;generalize pickF L k2 [3,12,80]=x at *;have hwx:=AoR L (k2+1) x 1998 x1 x2 (by decide) (by decide) (by omega) (by omega);obtain⟨w1,w2,w3,w4⟩:=AfM L (k2+1) x 1998 x1 x2 (by decide);generalize wordsF L (k2+1) x 1998=w at *;obtain⟨t,k3⟩:=w;simp only at w1 w2 w3 w4 hwx hF hB1 hB2 hB3 hB4;have hf8:=AcN L k3 8 (by decide) (by decide) (by omega) (by omega);have hob:=AgG L (k3+1) PreB (by decide) (by decide) (by omega) (by omega);have homb:=AbW (L:=L) (k:=k3+1) (ls:=PreB) (by decide);generalize oneF L (k3+1) PreB=yb at *;obtain⟨u1,u2⟩:=AhZ (.inr homb) w1;generalize flipF L k3 8=fb at *;apply zgF;simp only[go_sem];refine zm 0 (hp) ?_;rintro _ _ ⟨rfl,rfl⟩;apply zgF;simp only[go_sem];refine zm 0 (hwx) ?_;rintro _ _ ⟨rfl,rfl⟩;apply zgF;simp only[go_sem];refine zm 0 (hf8) ?_;rintro _ _ ⟨rfl,rfl⟩;have e3:∀ q u,List.map paA out2++[AV.agg [.int .i64 q,.str u]]=List.map paA (out2++[⟨q,u⟩]):=fun q u=>by simp[paA]
     have e4:∀ q u,out2.length+1=(out2++[(⟨q,u⟩:Pa)]).length:=fun q u=>by simp
     cases fb with
     | true =>
      simp only[if_true]at hF hB1 hB2 hB3 hB4;apply zgF;simp only[go_sem];refine zm 0 (hob) ?_;rintro _ _ ⟨rfl,rfl⟩;apply zgF;simp only[go_sem];refine⟨by omega,by simp,.inl trivial,by simp; omega,by simp; omega,by omega,by omega,?_⟩;rw[e3,e4 4 (yb++t),show(i:Int)+1=((i+1:Nat):Int) by omega];refine ainv (hJ (i+1,4,k3+1+1,out2++[⟨4,yb++t⟩]) ⟨by simp only; omega,by simp only; omega,by simp only; omega,.inr rfl,hB1,by simp only; omega,hF⟩ (by simp only; omega)) (Lr ?_);simp only[go_sem]
     | false =>
      simp only[lan,if_false]at hF hB1 hB2 hB3 hB4;apply zgF;simp only[go_sem];refine⟨by simp,.inl trivial,by simp; omega,by simp; omega,by omega,by omega,?_⟩;rw[e3,e4 4 t,show(i:Int)+1=((i+1:Nat):Int) by omega];refine ainv (hJ (i+1,4,k3+1,out2++[⟨4,t⟩]) ⟨by simp only; omega,by simp only; omega,by simp only; omega,.inr rfl,hB1,by simp only; omega,hF⟩ (by simp only; omega)) (Lr ?_);simp only[go_sem]
    .intro Q hQ
     have hQ:=hQ () trivial;unfold rndA at hmid;simp only at hmid
     cases hfb:flipF L k' 3 with
     | true =>
      rw[hfb]at hmid;simp only[if_true,lck]at hmid;have hp:=AbQ L (k'+1) [2,20] (by decide) (by decide) (by omega) (by omega);obtain⟨x1,x2⟩:=BwC L (k'+1);generalize pickF L (k'+1) [2,20]=x at *;have hwx:=AoR L (k'+1+1) x 200 x1 x2 (by decide) (by decide) (by omega) (by omega);obtain⟨w1,w2,w3,w4⟩:=AfM L (k'+1+1) x 200 x1 x2 (by decide);generalize wordsF L (k'+1+1) x 200=w at *;obtain⟨t,k3⟩:=w;simp only at w1 w2 w3 w4 hwx hmid;obtain⟨rfl,rfl⟩:=hmid;apply zgF;simp only[go_sem];refine zm 0 (hp) ?_;rintro _ _ ⟨rfl,rfl⟩;apply zgF;simp only[go_sem];refine zm 0 (hwx) ?_;rintro _ _ ⟨rfl,rfl⟩;apply zgF;simp only[go_sem];have e3:∀ q u,List.map paA out++[AV.agg [.int .i64 q,.str u]]=List.map paA (out++[⟨q,u⟩]):=fun q u=>by simp[paA]
      have e4:∀ q u,out.length+1=(out++[(⟨q,u⟩:Pa)]).length:=fun q u=>by simp
      refine⟨by simp,.inl trivial,by simp; omega,by simp; omega,?_⟩;rw[e3,e4 3 t];refine ainv hQ (Lr ?_);simp only[go_sem]
     | false =>
      rw[hfb]at hmid;simp only[lan,if_false,lck]at hmid;obtain⟨rfl,rfl⟩:=hmid;apply zgF;simp only[go_sem];refine ainv hQ (Lr ?_);simp only[go_sem]
   .have di:decide ((i:Int)<n)=false:=by simp; omega
    rw[show n.toNat-i=0 by omega]at hF;simp only[rndsF,lck]at hF;obtain⟨rfl,rfl⟩:=hF;simp only[go_sem,di];refine ARet.shift (Shift.freeze 2 (id:=1) rfl rfl (by simp) (lad _) (AeU out)) (aret [2] rfl ⟨_,_,rfl,?_,rfl,rfl,rfl⟩)
    simp[resV,Av.get,Av.put,laj]
