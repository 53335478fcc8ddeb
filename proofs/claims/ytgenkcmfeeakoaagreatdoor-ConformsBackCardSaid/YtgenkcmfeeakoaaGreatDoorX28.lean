/- A code. -/
import Derived.Test.YtgenkcmfeeakoaaGreatDoorX27
set_option maxRecDepth 100000
set_option maxHeartbeats 1000000
set_option linter.all false
namespace Go.Proofs.YtgenkcmfeeakoaaGreatDoor
open Av RowKit Proofs.Tryz
def dg(n:Int):UInt8:=UInt8.ofNat (48+n).toNat
def two(n:Int):LU:=[dg (n / 10),dg (n%10)]
theorem BwM(n:Int):(two n).length=2:=rfl
theorem BgD(n:Int)(h1:0<=n)(h2:n<=99):Pc prog 159 [.int .i64 n] (· = .str (two n)):=by
 refine zpIB func159 rfl fun h ρ w=>?_
 simp only[go_sem]
 repeat refine aj ?_
 exact zt [2]
theorem BoO:Pc prog 100 [.int .i64 4,.int .i64 1800] (· = .str [48,48,58,48,49,58,48,48,59,48,50]):=by
 refine zpIB func100 rfl fun h ρ w=>?_
 simp only[go_sem]
 repeat refine aj ?_
 refine zpB (AsA 4 (by decide)) ?_;simp only[go_sem,cntR]
 repeat refine aj ?_
 refine zr [.str (two 0),.str (two 1),.str (two 0),.str (two 2)] AaI ?_;simp only[go_sem,BwM]
 repeat refine And.intro (by first|omega|rfl|exact(BgD 0 (by decide) (by decide)).at|exact(BgD 1 (by decide) (by decide)).at|exact(BgD 2 (by decide) (by decide)).at|(simp; done)|(simp; omega)) ?_
 apply zgB;simp only[go_sem];exact aret [4] rfl ⟨by simp[resV,Av.get,Av.put]; decide,rfl⟩
theorem BoP:Pc prog 50 [.int .i64 4,.int .i64 1800] (· = .tup [.str [48,48,58,48,49,58,48,48,59,48,50],.int .i64 0]):=by
 refine zpIB func50 rfl fun h ρ w=>?_
 simp only[go_sem];refine zpB (AyH 4 (by decide)) ?_;simp only[go_sem];refine zpB (AyI 4 (by decide)) ?_;simp only[go_sem,dayR];refine zpB (BoO) ?_;simp only[go_sem];exact zt [4,5]
theorem BoQ:Pc prog 16 [] (· = .bool true):=by
 refine zpIB func16 rfl fun h ρ w=>?_
 simp only[go_sem];refine zpB (BoP) ?_;simp only[go_sem];exact zt [0]
end Go.Proofs.YtgenkcmfeeakoaaGreatDoor
namespace Go.Av
section
variable {α:Type}
def Rise(a b:List α):Nat->Nat->List (Nat×Nat)->Prop
 | i,j,[]=>i<=a.length/\j<=b.length
 | i,j,p::r=>i<=p.1/\j<=p.2/\p.1<a.length/\p.2<b.length/\a[p.1]? = b[p.2]? /\ Rise a b (p.1+1) (p.2+1) r
theorem Rise.less{a b:List α}{i j i' j':Nat}(hi:i'<=i)(hj:j'<=j):∀ {ps:List (Nat×Nat)},Rise a b i j ps->Rise a b i' j' ps
 | [],h=>⟨lcl hi h.1,lcl hj h.2⟩
 | p::r,h=>⟨lcl hi h.1,lcl hj h.2.1,h.2.2⟩
def swpP(p:Nat×Nat):Nat×Nat:=(p.2,p.1)
theorem Rise.swpP{a b:List α}:∀ {ps:List (Nat×Nat)}{i j:Nat},Rise a b i j ps->Rise b a j i (ps.map swpP)
 | [],_,_,h=>⟨h.2,h.1⟩
 | p::r,_,_,h=>⟨h.2.1,h.1,h.2.2.2.1,h.2.2.1,h.2.2.2.2.1.symm,Rise.swpP h.2.2.2.2.2⟩
theorem take_add_one{l:List α}{n:Nat}{x:α}(h:l[n]? = some x):l.take (n+1)=l.take n++[x]:=by
 rw[List.take_add_one,h]; rfl
end
section
variable {α:Type} [DecidableEq α]
def lcs:List α->List α->Nat
 | [],_=>0
 | _::_,[]=>0
 | x::a,y::b=>if x=y then lcs a b+1 else max (lcs a (y::b)) (lcs (x::a) b)
termination_by a b=>a.length+b.length
@[simp] theorem lcs_nil (a:List α):lcs a []=0:=by cases a <;> simp[lcs]
@[simp] theorem nil_lcs (b:List α):lcs [] b=0:=by simp[lcs]
theorem AbS:∀ (a b:List α),lcs a b<=a.length
 | [],_=>by simp
 | _::_,[]=>by simp
 | x::a,y::b=>by
  have h1:=AbS a b;have h2:=AbS a (y::b);have h3:=AbS (x::a) b;rw[lcs];simp only[lam]at *
  split <;> omega
termination_by a b=>a.length+b.length
mutual
theorem AcB(a:List α)(y:α)(b:List α):lcs a b<=lcs a (y::b)/\lcs a (y::b)<=lcs a b+1 :=
 match a with
 | []=>by simp
 | x::a=>by
  rw[lcs]
  split
  .have h:=AgI x a b
   omega
  .have h:=AcB a y b
   have h':=AgI x a b;omega
termination_by a.length+b.length+1
theorem AgI(x:α)(a b:List α):lcs a b<=lcs (x::a) b/\lcs (x::a) b<=lcs a b+1 :=
 match b with
 | []=>by simp
 | y::b=>by
  rw[lcs]
  split
  .have h:=AcB a y b
   omega
  .have h:=AgI x a b
   have h':=AcB a y b;omega
termination_by a.length+b.length+1
end
def lix(x:α):List α->Option Nat
 | []=>none
 | y::b=>if y=x then some 0 else(lix x b).map (· + 1)
theorem AvI{x:α}{a:List α}:∀ {b:List α},lix x b=none->lcs (x::a) b=lcs a b
 | [],_=>by simp
 | y::b,h=>by
  simp only[lix]at h
  split at h
  .simp at h
  .rename_i hne
   have hb:lix x b=none:=by simpa using h
   rw[lcs,if_neg (Ne.symm hne),AvI hb];have:=(AcB a y b).1;omega
theorem A7C{x:α}{a:List α}:∀ {b:List α}{k:Nat},lix x b=some k->lcs (x::a) b=lcs a b\/lcs (x::a) b=lcs a (b.drop (k+1))+1
 | [],_,h=>by simp[lix]at h
 | y::b,k,h=>by
  simp only[lix]at h
  split at h
  .rename_i he
   simp at h
   subst h he
   right
   rw[lcs,if_pos rfl]; rfl
  .rename_i hne
   simp only[Option.map_eq_some_iff]at h;obtain⟨k',hk,rfl⟩:=h;have ih:=A7C (a:=a) hk;rw[lcs,if_neg (Ne.symm hne)];have h1:=(AcB a y b).1;have e:(y::b).drop (k'+1+1)=b.drop (k'+1):=rfl;rw[e];omega
theorem BgE{x:α}{a:List α}:∀ {b:List α}{k:Nat},lix x b=some k->0<lcs (x::a) b
 | [],_,h=>by simp[lix]at h
 | y::b,k,h=>by
  simp only[lix]at h;rw[lcs]
  split
  .omega
  .rename_i hne
   rw[if_neg (Ne.symm hne)]at h;simp only[Option.map_eq_some_iff]at h;obtain⟨k',hk,rfl⟩:=h;have:=BgE (a:=a) hk;omega
theorem BgF{x:α}:∀ {b:List α}{k:Nat},lix x b=some k->k<b.length/\b[k]? = some x
 | [],_,h=>by simp[lix]at h
 | y::b,k,h=>by
  simp only[lix]at h
  split at h
  .rename_i he
   simp at h
   subst h he
   simp
  .simp only [Option.map_eq_some_iff]at h
   obtain⟨k',hk,rfl⟩:=h;have:=BgF hk
   simpa using this
def keptL:List α->List α->Nat->Nat->List (Nat×Nat)
 | [],_,_,_=>[]
 | x::a,b,i,j=>match lix x b with
  | none=>keptL a b (i+1) j
  | some k=>if lcs a (b.drop (k+1))+1=lcs (x::a) b then(i,j+k)::keptL a (b.drop (k+1)) (i+1) (j+k+1) else keptL a b (i+1) j
theorem AsH:∀ {a b:List α}{i j:Nat},lcs a b=0->keptL a b i j=[]
 | [],_,_,_,_=>rfl
 | x::a,b,i,j,h=>by
  rw[keptL]
  split
  .rename_i hn
   rw[AvI hn]at h;exact AsH h
  .rename_i k hk
   have:=BgE (a:=a) hk;omega
theorem AfN(A B:List α):∀ (a b:List α)(i j:Nat),A.drop i=a->B.drop j=b->i<=A.length->j<=B.length->Rise A B i j (keptL a b i j)
 | [],b,i,j,_,_,hi,hj=>⟨hi,hj⟩
 | x::a,b,i,j,ha,hb,hi,hj=>by
  have ha':A.drop (i+1)=a:=by rw[<- List.drop_drop,ha]; rfl
  have hil:i<A.length:=by
   rcases Nat.lt_or_ge i A.length with h|h
   .exact h
   .rw [List.drop_eq_nil_of_le h]at ha; simp at ha
  have hx:A[i]? = some x:=by
   have:=congrArg (·[0]?) ha
   simpa using this
  rw[keptL]
  split
  .exact (AfN A B a b (i+1) j ha' hb hil hj).less (by omega) (lad _)
  .rename_i k hk
   have hkl:=BgF hk;have hbl:b.length=B.length-j:=by rw[<- hb]; simp
   split
   .refine ⟨lad _,by simp,hil,by simp; omega,?_,?_⟩
    .show A[i]? = B[j+k]?
     rw[hx,<- hkl.2,<- hb,List.getElem?_drop]
    .exact AfN A B a _ (i+1) (j+k+1) ha' (by rw[<- hb,List.drop_drop]; congr 1) hil (by omega)
   .exact (AfN A B a b (i+1) j ha' hb hil hj).less (by omega) (lad _)
def diag:Nat->Nat->List (Nat×Nat)
 | _,0=>[]
 | i,n+1=>(i,i)::diag (i+1) n
theorem keptL_self:∀ (a:List α)(i:Nat),keptL a a i i=diag i a.length
 | [],_=>rfl
 | x::a,i=>by
  rw[keptL];simp only[lix,if_true];rw[if_pos (by rw[lcs,if_pos rfl]; rfl)];simp only[lam,diag,Nat.add_zero];rw[show(x::a).drop (0+1)=a from rfl,keptL_self a (i+1)]
theorem A7D:∀ (n i:Nat),(diag i n).map swpP=diag i n
 | 0,_=>rfl
 | n+1,i=>by simp only[diag,lal,A7D n]; rfl
end
end Go.Av
namespace Go.Proofs.YtgenkcmfeeakoaaGreatDoor
open Av RowKit Proofs.Tryz
set_option maxRecDepth 100000
theorem AdB{l:List LU}{i:Nat}(h:i<l.length):(strs l).getD i .any=.str l[i]:=by simp[List.getD,h]
theorem strs_len(l:List LU):(strs l).length=l.length:=by simp
theorem A7E(l:List LU):Pc prog 96 [.fz 1 (strs l)] (· = .bool (decide (3000<l.length))):=by
 refine AbV (AbC func96 rfl ntmps96 hB96 (by simp) fun h ρ w=>go rfl 200 ?_);simp only[go_sem,strs_len];refine aret [2] rfl ⟨?_,rfl⟩
 simp[resV,Av.get]
 omega
def idxI(x:LU)(l:List LU):Int:=match lix x l with
 | some k=>k
 | none=>-1
theorem A7F{x:LU}:∀ {l:List LU}{i:Nat}(hi:i<l.length),(∀ j,(hj:j<i)->l[j]'(by omega)≠x)->l[i]=x->lix x l=some i
 | y::l,0,hi,h,he=>by simp at he; simp[lix,he]
 | y::l,i+1,hi,h,he=>by
  have h0:=h 0 (by omega)
  simp at h0
  have:=A7F (l:=l) (i:=i) (by simpa using hi) (fun j hj=>by have:=h (j+1) (by omega); simpa using this) (by simpa using he)
  simp[lix,h0,this]
theorem BtH{x:LU}:∀ {l:List LU},(∀ j,(hj:j<l.length)->l[j]≠x)->lix x l=none
 | [],_=>rfl
 | y::l,h=>by
  have h0:=h 0 (by simp)
  simp at h0
  have:=BtH (l:=l) (fun j hj=>by have:=h (j+1) (by simpa using hj); simpa using this)
  simp[lix,h0,this]
theorem BgG(l:List LU)(x:LU)(hl:l.length<=1000000):Pc prog 134 [.fz 1 (strs l),.str x] (· = .int .i64 (idxI x l)):=by
 refine AbV (AbC func134 rfl ntmps134 hB134 (by simp) fun h ρ w=>go rfl 200 ?_);simp only[go_sem,strs_len];refine AaE (ι:=Nat) (fun i=>l.length-i)
  (fun i=>[(8,.int .i64 i),(7,.int .i64 l.length),(0,.fz 1 (strs l)),(1,.str x)])
  (fun _=>[]) (fun i=>i<=l.length/\∀ j,j<i->∀ hj:j<l.length,l[j]≠x) 0 ⟨by omega,by simp⟩ ?_ ?_
 .refine Lr ?_
  simp only[go_sem]
 .rintro i ⟨g1,g2⟩ J hJ
  refine go rfl 200 ?_
  by_cases hi:(i:Int)<l.length
  .have hia:i<l.length:=by omega
   by_cases he:l[i]=x
   .have hne:(x==l[i])=true:=by simpa using he.symm
    simp only[go_sem,hi,strs_len,AdB hia,hne];refine⟨by omega,hia,?_⟩;refine aret [4] rfl ⟨?_,rfl⟩
    simp[resV,Av.get,idxI,A7F hia (fun j hj=>g2 j hj (by omega)) he]
   .have hne:(x==l[i])=false:=by simpa using fun h=>he h.symm
    simp only[go_sem,hi,strs_len,AdB hia,hne];have e1:(i:Int)+1=((i+1:Nat):Int):=by omega
    refine⟨by omega,hia,by omega,by omega,?_⟩;rw[e1];refine ainv (hJ (i+1) ⟨by omega,fun j hj hjl=>?_⟩ (by omega)) (Lr ?_)
    .rcases Nat.lt_or_ge j i with h|h
     .exact g2 j h hjl
     .have:j=i:=by omega
      subst this; exact he
    .simp only [go_sem]
  .simp only [go_sem,hi]
   refine aret [4] rfl ⟨?_,rfl⟩
   simp[resV,Av.get,idxI,BtH (fun j hj=>g2 j (by omega) hj)]
theorem AyM(x:LU):Pc prog 244 [.str x] (· = .bool false):=by
 refine AbV (AbC func244 rfl ntmps244 hB244 (by simp) fun h ρ w=>go rfl 200 ?_);simp only[go_sem];refine aret [2] rfl ⟨?_,rfl⟩
 simp[resV,Av.get]
def cmpB(x y:LU):Int:=if bytesLess x y=true then -1 else if x=y then 0 else 1
theorem BwN(x y:LU):Pc prog 213 [.str x,.str y] (· = .int .i64 (cmpB x y)):=by
 refine AbV (AbC func213 rfl ntmps213 hB213 (by simp) fun h ρ w=>go rfl 200 ?_);simp only[go_sem];refine zpN (AyM x) ?_;simp only[go_sem];refine zpN (AyM y) ?_;simp only[go_sem];refine⟨fun h1=>?_,fun h1=>⟨fun h2=>?_,fun h2=>?_⟩⟩
 .refine aret [4] rfl ⟨?_,rfl⟩
  simp[resV,Av.get,cmpB,h1]
 .refine aret [4] rfl ⟨?_,rfl⟩
  simp[resV,Av.get,cmpB,h2]
 .refine aret [4] rfl ⟨?_,rfl⟩
  have:x=y:=by rcases h2 with h|h; rw[h1]at h; cases h; exact h
  simp[resV,Av.get,cmpB,h1,this]
  subst this
  simp[h1]
def cmpL:List LU->List LU->Int
 | [],[]=>0
 | [],_::_=>-1
 | _::_,[]=>1
 | x::a,y::b=>if cmpB x y=0 then cmpL a b else cmpB x y
theorem AfO{α:Type}{l:List α}{i:Nat}(h:i<l.length):l.drop i=l[i]::l.drop (i+1):=lbc h
theorem BaE(a b:List LU)(ha:a.length<=1000000)(hb:b.length<=1000000):Pc prog 156 [.fz 1 (strs a),.fz 1 (strs b)] (· = .int .i64 (cmpL a b)):=by
 refine AbV (AbC func156 rfl ntmps156 hB156 (by simp) fun h ρ w=>go rfl 200 ?_);simp only[go_sem,strs_len];refine AaE (ι:=Nat) (fun i=>a.length-i)
  (fun i=>[(11,.int .i64 i),(10,.int .i64 a.length),(9,.fz 1 (strs a)),(0,.fz 1 (strs a)),(1,.fz 1 (strs b))])
  (fun _=>[]) (fun i=>i<=a.length/\i<=b.length/\cmpL (a.drop i) (b.drop i)=cmpL a b) 0 ⟨by omega,by omega,rfl⟩ ?_ ?_
 .refine Lr ?_
  simp only[go_sem]
 .rintro i ⟨g1,g2,g3⟩ J hJ
  refine go rfl 200 ?_
  by_cases hi:(i:Int)<a.length
  .have hia:i<a.length:=by omega
   rw[AfO hia]at g3
   by_cases hib:i<b.length
   .have hge:decide ((i:Int)>=b.length)=false:=by simp; omega
    have hlt:(i:Int)<b.length:=by omega
    rw[AfO hib]at g3;simp only[go_sem,hi,hge,hlt,strs_len,AdB hia,AdB hib];refine⟨by omega,hia,by omega,hib,?_⟩;refine zpN (BwN _ _) ?_
    by_cases hc:cmpB a[i] b[i]=0
    .have hc':(cmpB a[i] b[i] != 0)=false:=by simpa using hc
     have e1:(i:Int)+1=((i+1:Nat):Int):=by omega
     simp only[go_sem,hc'];refine⟨by omega,by omega,?_⟩;rw[e1];refine ainv (hJ (i+1) ⟨by omega,by omega,?_⟩ (by omega)) (Lr ?_)
     .rw [<- g3,cmpL,if_pos hc]
     .simp only [go_sem]
    .have hc':(cmpB a[i] b[i] != 0)=true:=by simpa using hc
     simp only[go_sem,hc'];refine aret [4] rfl ⟨?_,rfl⟩;rw[cmpL,if_neg hc]at g3
     simp[resV,Av.get,g3]
   .have hge:decide ((i:Int)>=b.length)=true:=by simp; omega
    simp only[go_sem,hi,hge,strs_len,AdB hia];refine⟨by omega,hia,?_⟩;refine aret [4] rfl ⟨?_,rfl⟩;rw[List.drop_eq_nil_of_le (by omega:b.length<=i),cmpL]at g3
    simp[resV,Av.get,g3]
  .have e:i=a.length:=by omega
   subst e;simp only[List.drop_length]at g3;simp only[go_sem,hi,strs_len];refine⟨fun h1=>?_,fun h1=>?_⟩
   .refine aret [4] rfl ⟨?_,rfl⟩
    have hlb:a.length<b.length:=by omega
    rw[AfO hlb,cmpL]at g3
    simp[resV,Av.get,<- g3]
   .refine aret [4] rfl ⟨?_,rfl⟩
    rw[List.drop_eq_nil_of_le (by omega:b.length<=a.length),cmpL]at g3
    simp[resV,Av.get,<- g3]
set_option maxRecDepth 100000
def u16s(l:List Nat):LA:=l.map fun x=>.int .u16 (x:Nat)
def prs(l:List (Nat×Nat)):LA:=l.map fun p=>.agg [.int .i64 p.1,.int .i64 p.2]
def Grid(a b:List LU)(x y:Nat)(l:List Nat):Prop :=
 l.length=(a.length+1)*(b.length+1) /\
 ∀ p q,p<=a.length->q<=b.length->(p=a.length\/q=b.length\/x<=p\/(p+1=x/\y<=q))->l[p*(b.length+1)+q]? = some (lcs (a.drop p) (b.drop q))
theorem BoR(n:Nat):List.replicate n (AV.int .u16 0)=u16s (List.replicate n 0):=by simp[u16s]
theorem AiC{p q n m:Nat}(hp:p<=n)(hq:q<=m):p*(m+1)+q<(n+1)*(m+1):=by
 have:=lbq (m+1) hp;rw[Nat.add_mul]; omega
theorem BgH{p q p' q' m:Nat}(hq:q<=m)(hq':q'<=m)(h:p*(m+1)+q=p'*(m+1)+q'):p=p'/\q=q':=by
 have h1:(p*(m+1)+q) / (m+1)=p:=by rw[Nat.add_comm,Nat.add_mul_div_right _ _ (by omega),Nat.div_eq_of_lt (by omega)]; omega
 have h2:(p'*(m+1)+q') / (m+1)=p':=by rw[Nat.add_comm,Nat.add_mul_div_right _ _ (by omega),Nat.div_eq_of_lt (by omega)]; omega
 rw[h,h2]at h1;subst h1;exact⟨rfl,by omega⟩
theorem Grid.start(a b:List LU):Grid a b a.length b.length (List.replicate ((a.length+1)*(b.length+1)) 0):=by
 refine⟨by simp,fun p q hp hq h=>?_⟩;rw[List.getElem?_replicate,if_pos (AiC hp hq)]
 rcases h with h|h|h|h
 .subst h; simp
 .subst h; simp
 .have:p=a.length:=by omega
  subst this; simp
 .have:q=b.length:=by omega
  subst this; simp
theorem AlJ{L:List Nat}{q v:Nat}(h:L[q]? = some v):(u16s L).getD q .any=.int .u16 (v:Nat):=by simp[u16s,List.getD,h]
theorem BgI(L:List Nat)(k v:Nat):(u16s L).set k (.int .u16 (v:Nat))=u16s (L.set k v):=by simp[u16s]
theorem u16_len(L:List Nat):(u16s L).length=L.length:=by simp[u16s]
theorem Grid.put{a b:List LU}{i j:Nat}{L:List Nat}(g:Grid a b (i+1) (j+1) L)(hi:i<a.length)(hj:j<b.length):Grid a b (i+1) j (L.set (i*(b.length+1)+j) (lcs (a.drop i) (b.drop j))):=by
 refine⟨by simp[g.1],fun p q hp hq h=>?_⟩;rw[List.getElem?_set]
 split
 .rename_i he
  obtain⟨rfl,rfl⟩:=BgH (by omega) hq he;rw[if_pos (by rw[g.1]; exact AiC (by omega) (by omega))]
 .rename_i hne
  refine g.2 p q hp hq ?_
  rcases h with h|h|h|h
  .exact .inl h
  .exact .inr (.inl h)
  .exact .inr (.inr (.inl h))
  .by_cases hqj:q=j
   .exfalso
    refine hne ?_;rw[hqj,show p=i by omega]
   .exact .inr (.inr (.inr ⟨h.1,by omega⟩))
theorem prs_len(l:List (Nat×Nat)):(prs l).length=l.length:=by simp[prs]
theorem AvJ:∀ l:List (Nat×Nat),(flat (prs l)).all Av.frozen=true
 | []=>rfl
 | p::l=>by simp only[prs,lal,flat,cellsOf,lbo,lae]; exact⟨by simp[Av.frozen],AvJ l⟩
theorem prs_add(l:List (Nat×Nat))(x y:Nat):prs l++[.agg [.int .i64 (x:Nat),.int .i64 (y:Nat)]]=prs (l++[(x,y)]):=by simp[prs]
theorem strs_drop(l:List LU)(j:Nat):List.drop j (strs l)=strs (l.drop j):=by simp
theorem BgJ(a b:List LU)(ha:a.length<=3000)(hb:b.length<=3000) :
  Ct prog 157 [.fz 1 (strs a),.fz 1 (strs b)] [] (fun r s=>r=.sl 0 0 (keptL a b 0 0).length (keptL a b 0 0).length/\s=[.arr 2 (prs (keptL a b 0 0))]):=by
 refine AbC func157 rfl ntmps157 hB157 (by simp) fun h ρ w=>go rfl 200 ?_
 have hW:((b.length:Int)+1)=((b.length+1:Nat):Int):=by omega
 have hT:((a.length:Int)+1)*((b.length+1:Nat):Int)=(((a.length+1)*(b.length+1):Nat):Int):=by rw[Int.natCast_mul]; rfl
 have hTb:(a.length+1)*(b.length+1)<=3001*3001:=Nat.mul_le_mul (by omega) (by omega);simp only[go_sem,strs_len,hW,hT];generalize hTT:(a.length+1)*(b.length+1)=T at *
 repeat refine ao ?_
 refine go rfl 200 ?_;simp only[go_sem];refine AaE (ι:=Nat×List Nat) (fun x=>x.1)
  (fun x=>[(9,.int .i64 ((x.1:Int)-1)),(8,.sl 0 0 T T),(7,.int .i64 ((b.length+1:Nat):Int)),(6,.int .i64 b.length),(5,.int .i64 a.length),(0,.fz 1 (strs a)),(1,.fz 1 (strs b)),(4,.raw (.slice none 0 0))])
  (fun x=>[.arr 1 (u16s x.2)]) (fun x=>x.1<=a.length/\Grid a b x.1 b.length x.2) (a.length,List.replicate T 0) ⟨lad _,by rw[<- hTT]; exact Grid.start a b⟩ ?_ ?_
 .rw [BoR]
  refine Lr ?_;simp only[go_sem]
 .rintro ⟨x,L⟩ ⟨g1,g2⟩ J hJ
  simp only at g1 g2 hJ |-;refine go rfl 200 ?_
  cases x with
  | zero =>
   have hT0:0<T:=by rw[<- hTT]; exact Nat.mul_pos (by omega) (by omega)
   have hLT:L.length=T:=by rw[<- hTT]; exact g2.1
   have g00:=g2.2 0 0 (by omega) (by omega) (.inr (.inr (.inl (lad _))));simp only[Nat.zero_mul,laq,lcj]at g00;have u0:=AlJ g00;simp only[go_sem,u0,u16_len,hLT]
   repeat refine ao ?_
   refine AWp.shift (Ls 11 2 rfl) ?_;refine AaE (ι:=Nat×Nat×List (Nat×Nat)) (fun x=>a.length-x.1)
    (fun x=>[(14,.int .u16 (lcs (a.drop x.1) (b.drop x.2.1):Nat)),(13,.int .i64 x.2.1),(12,.int .i64 x.1),(11,.sl 1 0 x.2.2.length x.2.2.length),(8,.sl 0 0 T T),(7,.int .i64 ((b.length+1:Nat):Int)),(0,.fz 1 (strs a)),(1,.fz 1 (strs b))])
    (fun x=>[.arr 1 (u16s L),.arr 2 (prs x.2.2)]) (fun x=>x.1<=a.length/\x.2.1<=b.length/\x.2.2.length<=x.1/\x.2.2++keptL (a.drop x.1) (b.drop x.2.1) x.1 x.2.1=keptL a b 0 0) (0,0,[]) ⟨by simp,by simp,by simp,by simp⟩ ?_ ?_
   .refine Lr ?_
    simp[wk,go_sem,prs]
   .rintro ⟨i,j,ps⟩ ⟨k1,k2,k3,k4⟩ J2 hJ2
    simp only at k1 k2 k3 k4 hJ2 |-;refine go rfl 200 ?_
    by_cases h0:lcs (a.drop i) (b.drop j)=0
    .have hd:decide ((lcs (a.drop i) (b.drop j):Int)>0)=false:=by simp[h0]
     rw[AsH h0,lca]at k4;simp only[go_sem,hd];subst k4;refine ARet.shift (Shift.only 0 1 (e':=[(4,.sl 0 0 (keptL a b 0 0).length (keptL a b 0 0).length)]) (lad _) (by omega) rfl (by simp) (AvJ _) rfl ?_) (aret [4] rfl ⟨rfl,rfl⟩)
     simp[wkg,okg,go_sem]
    .have hd:decide ((lcs (a.drop i) (b.drop j):Int)>0)=true:=by simp; omega
     simp only[go_sem,hd];have hia:i<a.length:=by
      rcases Nat.lt_or_ge i a.length with h|h
      .exact h
      .rw [List.drop_eq_nil_of_le h]at h0; simp at h0
     refine zr [.int .i64 (idxI a[i] (b.drop j))] AaI ?_;simp only[go_sem,AdB hia,strs_drop,strs_len];have hidx:=BgG (b.drop j) a[i] (by simp; omega)
     repeat first|refine And.intro (by first|exact hidx.at|exact hia) ?_|refine aj ?_
     refine goF rfl 200 ?_;have ei:=AfO hia
     cases hx:lix a[i] (b.drop j)with
     | none =>
      have hl:idxI a[i] (b.drop j)=-1:=by simp[idxI,hx]
      have k5:lcs (a.drop i) (b.drop j)=lcs (a.drop (i+1)) (b.drop j):=by rw[ei]; exact AvI hx
      have k6:keptL (a.drop i) (b.drop j) i j=keptL (a.drop (i+1)) (b.drop j) (i+1) j:=by rw[ei,keptL,hx]
      have hm:decide ((-1:Int)<0)=true:=rfl;simp only[go_sem,hl,hm];rw[k5,show(i:Int)+1=((i+1:Nat):Int) by omega];refine⟨by omega,by omega,?_⟩;refine ainv (hJ2 (i+1,j,ps) ⟨by simp only; omega,k2,by simp only; omega,by rw[<- k4,k6]⟩ (by simp only; omega)) (Lr ?_);simp only[go_sem]
     | some k =>
      have hl:idxI a[i] (b.drop j)=k:=by simp[idxI,hx]
      have hk:=BgF hx;simp only[List.length_drop]at hk;have hm:decide ((k:Int)<0)=false:=by simp
      have hbd:(b.drop j).drop (k+1)=b.drop (j+k+1):=by rw[List.drop_drop]; congr 1
      have gq:=g2.2 (i+1) (j+k+1) (by omega) (by omega) (.inr (.inr (.inl (by omega))));have pl:(i+1)*(b.length+1)+(j+k+1)<T:=by rw[<- hTT]; exact AiC (by omega) (by omega)
      have hB:((i:Int)+1)*((b.length+1:Nat):Int)=(((i+1)*(b.length+1):Nat):Int):=by rw[Int.natCast_mul]; rfl
      have l1:=AbS (a.drop i) (b.drop j);have l2:=AbS (a.drop (i+1)) (b.drop (j+k+1));simp only[List.length_drop]at l1 l2;have ks:=A7C (a:=a.drop (i+1)) hx;rw[<- ei,hbd]at ks;have kk:keptL (a.drop i) (b.drop j) i j=if lcs (a.drop (i+1)) (b.drop (j+k+1))+1=lcs (a.drop i) (b.drop j) then(i,j+k)::keptL (a.drop (i+1)) (b.drop (j+k+1)) (i+1) (j+k+1) else keptL (a.drop (i+1)) (b.drop j) (i+1) j:=by
       rw[ei,keptL,hx];simp only[hbd]
      generalize (i+1)*(b.length+1)=B at *;have q0:(B:Int)+j=((B+j:Nat):Int):=by omega
      have q1:((B+j:Nat):Int)+k=((B+j+k:Nat):Int):=by omega
      have q2:((B+j+k:Nat):Int)+1=((B+(j+k+1):Nat):Int):=by omega
      have u1:=AlJ gq
      by_cases he:lcs (a.drop (i+1)) (b.drop (j+k+1))+1=lcs (a.drop i) (b.drop j)
      .have hne:((lcs (a.drop (i+1)) (b.drop (j+k+1)):Int) != (lcs (a.drop i) (b.drop j):Int)-1)=false:=by simp; omega
       rw[if_pos he]at kk;simp only[go_sem,hl,hm,hne,u16_len,prs_len,prs_add,hB,q0,q1,q2,u1,hLT];rw[show(i:Int)+1=((i+1:Nat):Int) by omega,show(j:Int)+((k:Int)+1)=((j+k+1:Nat):Int) by omega,show(j:Int)+(k:Int)=((j+k:Nat):Int) by omega,
        show(lcs (a.drop i) (b.drop j):Int)-1=(lcs (a.drop (i+1)) (b.drop (j+k+1)):Nat) by omega,prs_add,show ps.length+1=(ps++[(i,j+k)]).length by simp]
       have hps:(ps++[(i,j+k)]).length=ps.length+1:=by simp
       repeat refine aqd ?_
       refine ainv (hJ2 (i+1,j+k+1,ps++[(i,j+k)]) ⟨by simp only; omega,by simp only; omega,by simp only; omega,by simp only; rw[<- k4,kk]; simp⟩ (by simp only; omega)) (Lr ?_);simp only[go_sem]
      .have hne:((lcs (a.drop (i+1)) (b.drop (j+k+1)):Int) != (lcs (a.drop i) (b.drop j):Int)-1)=true:=by simp; omega
       rw[if_neg he]at kk;have k5:lcs (a.drop i) (b.drop j)=lcs (a.drop (i+1)) (b.drop j):=by omega
       simp only[go_sem,hl,hm,hne,u16_len,hB,q0,q1,q2,u1,hLT];rw[k5,show(i:Int)+1=((i+1:Nat):Int) by omega]
       repeat refine ao ?_
       refine ainv (hJ2 (i+1,j,ps) ⟨by simp only; omega,k2,by simp only; omega,by rw[<- k4,kk]⟩ (by simp only; omega)) (Lr ?_);simp only[go_sem]
  | succ i =>
   have ei:((i+1:Nat):Int)-1=i:=by omega
   have hi0:decide ((i:Int)>=0)=true:=by simp
   simp only[go_sem,ei,hi0];refine⟨by omega,by omega,?_⟩;refine go rfl 200 ?_;simp only[go_sem];refine AaE (ι:=Nat×List Nat) (fun y=>y.1)
    (fun y=>[(10,.int .i64 ((y.1:Int)-1)),(9,.int .i64 i),(8,.sl 0 0 T T),(7,.int .i64 ((b.length+1:Nat):Int)),(6,.int .i64 b.length),(5,.int .i64 a.length),(0,.fz 1 (strs a)),(1,.fz 1 (strs b)),(4,.raw (.slice none 0 0))])
    (fun y=>[.arr 1 (u16s y.2)]) (fun y=>y.1<=b.length/\Grid a b (i+1) y.1 y.2) (b.length,L) ⟨lad _,g2⟩ ?_ ?_
   .refine Lr ?_
    simp only[go_sem]
   .rintro ⟨y,M⟩ ⟨k1,k2⟩ J2 hJ2
    simp only at k1 k2 hJ2 |-;refine go rfl 200 ?_
    cases y with
    | zero =>
     simp only[go_sem];refine⟨by omega,by omega,?_⟩;refine ainv (hJ (i,M) ⟨by omega,k2.1,fun p q hp hq h=>k2.2 p q hp hq ?_⟩ (by simp only; omega)) (Lr ?_)
     .simp only at h |-
      omega
     .simp only [go_sem]
    | succ j =>
     have ej:((j+1:Nat):Int)-1=j:=by omega
     have hj0:decide ((j:Int)>=0)=true:=by simp
     have hia:i<a.length:=by omega
     have hjb:j<b.length:=by omega
     simp only[go_sem,ej,hj0];refine zr [] AaI ?_;simp only[go_sem,strs_len,AdB hia,AdB hjb];refine⟨by omega,by omega,hia,by omega,by omega,hjb,?_⟩;have gd:=k2.2 (i+1) (j+1) (by omega) (by omega) (.inr (.inr (.inl (lad _))));have gr:=k2.2 (i+1) j (by omega) (by omega) (.inr (.inr (.inl (lad _))));have gc:=k2.2 i (j+1) (by omega) (by omega) (.inr (.inr (.inr ⟨rfl,lad _⟩)));have kn:=k2.put hia hjb;have hM:M.length=T:=by rw[<- hTT]; exact k2.1
     have pl1:i*(b.length+1)+j<T:=by rw[<- hTT]; exact AiC (by omega) (by omega)
     have pl2:(i+1)*(b.length+1)+(j+1)<T:=by rw[<- hTT]; exact AiC (by omega) (by omega)
     have pl3:i*(b.length+1)+(j+1)<T:=by rw[<- hTT]; exact AiC (by omega) (by omega)
     have hA:(i:Int)*((b.length+1:Nat):Int)=((i*(b.length+1):Nat):Int):=by rw[Int.natCast_mul]
     have hB:((i:Int)+1)*((b.length+1:Nat):Int)=(((i+1)*(b.length+1):Nat):Int):=by rw[Int.natCast_mul]; rfl
     have d0:=AfO hia;have d1:=AfO hjb;have l1:=AbS (a.drop (i+1)) (b.drop (j+1));have l2:=AbS (a.drop (i+1)) (b.drop j);have l3:=AbS (a.drop i) (b.drop (j+1));simp only[List.length_drop]at l1 l2 l3;generalize (i+1)*(b.length+1)=B at *;generalize i*(b.length+1)=A at *;have q0:(A:Int)+j=((A+j:Nat):Int):=by omega
     have q1:((A+j:Nat):Int)+1=((A+(j+1):Nat):Int):=by omega
     have q2:(B:Int)+j=((B+j:Nat):Int):=by omega
     have q3:((B+j:Nat):Int)+1=((B+(j+1):Nat):Int):=by omega
     have u1:=AlJ gd;have u2:=AlJ gr;have u3:=AlJ gc;have u4:=AlJ (show M[A+j]? = some M[A+j] from lab (by omega));refine go rfl 200 ?_
     by_cases he:a[i]=b[j]
     .have hne:(a[i]==b[j])=true:=by simpa using he
      have hv:lcs (a.drop i) (b.drop j)=lcs (a.drop (i+1)) (b.drop (j+1))+1:=by rw[d0,d1,lcs,if_pos he]
      rw[hv]at kn;simp only[go_sem,hne,u16_len,hA,hB,q0,q1,q2,q3,u1,u2,u3,u4,hM];rw[show(lcs (a.drop (i+1)) (b.drop (j+1)):Int)+1=((lcs (a.drop (i+1)) (b.drop (j+1))+1:Nat):Int) by omega,BgI]
      repeat refine ao ?_
      refine ainv (hJ2 (j,M.set (A+j) (lcs (a.drop (i+1)) (b.drop (j+1))+1)) ⟨by simp only; omega,kn⟩ (by simp only; omega)) (Lr ?_);simp only[go_sem]
     .have hne:(a[i]==b[j])=false:=by simpa using he
      have hv:lcs (a.drop i) (b.drop j)=max (lcs (a.drop (i+1)) (b.drop j)) (lcs (a.drop i) (b.drop (j+1))):=by rw[d0,d1,lcs,if_neg he]
      rw[hv]at kn;simp only[go_sem,hne];refine zr [] AaI ?_;simp only[go_sem,hne,u16_len,hA,hB,q0,q1,q2,q3,u1,u2,u3,u4,hM];have hmx:(if(lcs (a.drop (i+1)) (b.drop j):Int)<lcs (a.drop i) (b.drop (j+1)) then(lcs (a.drop i) (b.drop (j+1)):Int) else lcs (a.drop (i+1)) (b.drop j))=((max (lcs (a.drop (i+1)) (b.drop j)) (lcs (a.drop i) (b.drop (j+1))):Nat):Int):=by
       split <;> omega
      rw[hmx,BgI]
      repeat refine ao ?_
      refine go rfl 200 ?_;simp only[go_sem];refine⟨by omega,by omega,?_⟩;refine ainv (hJ2 (j,M.set (A+j) (max (lcs (a.drop (i+1)) (b.drop j)) (lcs (a.drop i) (b.drop (j+1))))) ⟨by simp only; omega,kn⟩ (by simp only; omega)) (Lr ?_);simp only[go_sem]
set_option maxRecDepth 100000
def pairsL(a b:List LU):List (Nat×Nat):=if cmpL a b<=0 then keptL a b 0 0 else(keptL b a 0 0).map swpP
def mixP(ps:List (Nat×Nat))(i:Nat):List (Nat×Nat):=(ps.take i).map swpP++ps.drop i
theorem mixP_len(ps:List (Nat×Nat))(i:Nat):(mixP ps i).length=ps.length:=by simp[mixP]; omega
theorem BgK(ps:List (Nat×Nat)):mixP ps 0=ps:=by simp[mixP]
theorem BoS{ps:List (Nat×Nat)}{i:Nat}(h:i<ps.length):(prs (mixP ps i)).getD i .any=.agg [.int .i64 (ps[i].1:Nat),.int .i64 (ps[i].2:Nat)]:=by
 have:(mixP ps i)[i]? = some ps[i]:=by
  rw[mixP,lcg (by simp; omega)]
  simp[Nat.min_eq_left (Nat.le_of_lt h),h]
 simp[prs,List.getD,this]
theorem BoT{ps:List (Nat×Nat)}{i:Nat}(h:i<ps.length):(prs (mixP ps i)).set i (.agg [.int .i64 (ps[i].2:Nat),.int .i64 (ps[i].1:Nat)])=prs (mixP ps (i+1)):=by
 have e:(mixP ps i).set i (swpP ps[i])=mixP ps (i+1):=by
  have hl:((ps.take i).map swpP).length=i:=by simp; omega
  rw[mixP,List.set_append_right _ _ (by omega),hl,Nat.sub_self,lbc h,List.set_cons_zero,mixP,laf h,lak]
  simp
 rw[<- e]
 simp[prs,swpP]
theorem AfP:∀ (a b:List LU)(i j:Nat),(keptL a b i j).length<=a.length
 | [],_,_,_=>by simp[keptL]
 | x::a,b,i,j=>by
  rw[keptL]
  split
  .have:=AfP a b (i+1) j; simp; omega
  .rename_i k _
   split
   .have:=AfP a (b.drop (k+1)) (i+1) (j+k+1); simp; omega
   .have:=AfP a b (i+1) j; simp; omega
theorem BoU(a b:List LU)(ha:a.length<=3000)(hb:b.length<=3000) :
  Ct prog 97 [.fz 1 (strs a),.fz 1 (strs b)] [] (fun r s=>r=.sl 0 0 (pairsL a b).length (pairsL a b).length/\s=[.arr 2 (prs (pairsL a b))]):=by
 refine AbC func97 rfl ntmps97 hB97 (by simp) fun h ρ w=>go rfl 200 ?_
 simp only[go_sem];refine zpN (BaE a b (by omega) (by omega)) ?_
 by_cases hc:cmpL a b<=0
 .have hd:decide (cmpL a b<=0)=true:=by simpa using hc
  have hp:pairsL a b=keptL a b 0 0:=by simp[pairsL,hc]
  simp only[go_sem,hd];refine za (BgJ a b ha hb) ?_;rintro _ _ ⟨rfl,rfl⟩;refine go rfl 200 ?_;simp only[go_sem];exact aret [4] rfl ⟨by simp[resV,Av.get,hp],by rw[hp]⟩
 .have hd:decide (cmpL a b<=0)=false:=by simpa using hc
  have hp:pairsL a b=(keptL b a 0 0).map swpP:=by simp[pairsL,hc]
  simp only[go_sem,hd];refine za (BgJ b a hb ha) ?_;rintro _ _ ⟨rfl,rfl⟩;have hpl:(keptL b a 0 0).length<=3000:=lcl (AfP _ _ _ _) hb;generalize keptL b a 0 0=ps at hp hpl |-;refine go rfl 200 ?_;simp only[go_sem,prs_len];refine AaE (ι:=Nat) (fun i=>ps.length-i)
   (fun i=>[(20,.int .i64 i),(19,.int .i64 ps.length),(18,.sl 0 0 ps.length ps.length),(5,.sl 0 0 ps.length ps.length)])
   (fun i=>[.arr 2 (prs (mixP ps i))]) (fun i=>i<=ps.length) 0 (by omega) ?_ ?_
  .rw [BgK]
   refine Lr ?_;simp only[go_sem]
  .rintro i g1 J hJ
   refine go rfl 200 ?_
   by_cases hi:(i:Int)<ps.length
   .have hil:i<ps.length:=by omega
    simp only[go_sem,hi,prs_len,mixP_len,BoS hil];rw[BoT hil,show(i:Int)+1=((i+1:Nat):Int) by omega]
    repeat refine ao ?_
    refine ainv (hJ (i+1) (by omega) (by omega)) (Shift.only 0 0 (lad _) (lad _) rfl (by simp) (AvJ _) rfl ?_)
    simp[wkg,okg,go_sem,Av.frozen]
   .simp only [go_sem,hi,prs_len,mixP_len]
    have:i=ps.length:=by omega
    subst this;have e:mixP ps ps.length=pairsL a b:=by rw[hp]; simp[mixP]
    rw[e];exact aret [4] rfl ⟨by simp[resV,Av.get,hp],rfl⟩
theorem BaF(a b:List LU):(pairsL a b).length<=a.length+b.length:=by
 unfold pairsL
 split
 .have:=AfP a b 0 0; omega
 .have:=AfP b a 0 0; simp; omega
theorem AgJ(a b:List LU):Rise a b 0 0 (pairsL a b):=by
 unfold pairsL
 split
 .exact AfN a b a b 0 0 rfl rfl (Nat.zero_le _) (Nat.zero_le _)
 .exact (AfN b a b a 0 0 rfl rfl (Nat.zero_le _) (Nat.zero_le _)).swpP
theorem BoV(a b:List LU)(ha:a.length<=3000)(hb:b.length<=3000) :
  Pc prog 43 [.fz 1 (strs a),.fz 1 (strs b)] (· = .tup [.fz 2 (prs (pairsL a b)),.int .i64 0]):=by
 have hp:=BoU a b ha hb;have e1:decide (3000<a.length)=false:=by simp; omega
 have e2:decide (3000<b.length)=false:=by simp; omega
 refine zpIB func43 rfl fun h ρ w=>?_
 simp only[go_sem];refine zpB (A7E a) ?_;simp only[go_sem,e1];refine zpB (A7E b) ?_;simp only[go_sem,e2];refine za (hp) ?_;rintro _ _ ⟨rfl,rfl⟩;apply zgB;simp only[go_sem];refine ARet.shift (Shift.freeze 4 (id:=0) (l:=prs (pairsL a b)) rfl rfl (by rw[prs_len]; omega) (lad _) (AvJ _)) ?_;have htk:List.take (pairsL a b).length (List.drop 0 (prs (pairsL a b)))=prs (pairsL a b):=by rw[lcj,laj (by rw[prs_len]; omega)]
 rw[htk];exact zt [4,5]
def lnP(p:Pa):LU:=Lib.itoa p.kind++[32]++p.text
theorem BaG(ps:List Pa)(i:Nat)(h:i<ps.length):List.getD (ps.map paA) i .any=.agg [.int .i64 ps[i].kind,.str ps[i].text]:=by simp[List.getD,h,paA]
theorem BwO(p:Pa)(h:0<=p.kind/\p.kind<=999):(lnP p).length<=p.text.length+20:=by
 have:=AjT p.kind;rw[lnP,itoa_dig3 h.1 h.2]
 simp; omega
theorem A7G(l:List LU):(flat (strs l)).all Av.frozen=true:=by
 induction l with
 | nil=>rfl
 | cons x r ih=>simpa[flat,cellsOf,Av.frozen]using ih
theorem AsI{S:Std}(hS:LibOk S)(y:Sc)(hk:∀ p∈y.Ld,0<=p.kind/\p.kind<=999/\p.text.length<=100000)(hl:y.Ld.length<=1000):PcH prog S 44 [scA y] (· = .fz 1 (strs (y.Ld.map lnP))):=by
 obtain⟨ps,hps⟩:∃ ps,ps=y.Ld:=⟨_,rfl⟩;rw[<- hps]at hk hl |-;simp only[scA,<- hps];refine zqIB func44 rfl fun h ρ w hg=>?_
 simp only[go_sem,laa];refine AaE (ι:=Nat) (fun i=>ps.length-i)
  (fun i=>[(9,.int .i64 i),(8,.int .i64 ps.length),(7,.fz 2 (ps.map paA)),(3,.sl 0 0 i i)])
  (fun i=>[.arr 1 (strs ((ps.take i).map lnP))]) (fun i=>i<=ps.length) 0 (by simp) ?_ ?_
 .refine Shift.trans (Ls 3 1 rfl) (Lt ?_ rfl)
  simp only[go_sem,laa]
 intro i g1 J hJ
 by_cases gi:i<ps.length
 .have di:decide ((i:Int)<(ps.length:Int))=true:=by simp; omega
  have hget:=BaG ps i gi;obtain⟨k0,k1,k2⟩:=hk _ (lac gi);have hit:=AdP hS ps[i].kind (by omega) (by omega);have hfin:=hJ (i+1) (by omega) (by omega);have hln:=BwO ps[i] ⟨k0,k1⟩;have hadd:strs ((ps.take i).map lnP)++[.str (Lib.itoa ps[i].kind++[32]++ps[i].text)]=strs ((ps.take (i+1)).map lnP):=by
   rw[List.take_add_one,lab gi,lak]
   show _=List.map AV.str (_++_)
   rw[lak];rfl
  have hlen:(strs ((ps.take i).map lnP)).length=i:=by simp; omega
  have hil:(Lib.itoa ps[i].kind).length<=20:=by rw[itoa_dig3 k0 k1]; have:=AjT ps[i].kind; omega
  generalize hp:ps[i]=p at *;apply zgB;simp only[go_sem,di,hget,laa]
  repeat refine ak ?_
  apply zgB;simp only[go_sem];refine BfB (0) [.str (Lib.itoa p.kind)] AaI (by decide) rfl rfl 100 ?_;simp only[go_sem,laa,cka,isApp,appOk,hadd,hlen]
  repeat refine And.intro (by first|omega|rfl|kernel_rfl|exact hit.at hg|exact .inl rfl|exact .inl trivial|(simp; done)|(simp; omega)) ?_
  apply zgB;simp only[go_sem]
  repeat refine ak ?_
  rw[ic i];refine ainv hfin ?_;refine Shift.low 1 (by simp) (by simp) ?_ ?_
  .simp only[go_sem,lowB,AaD (A7G ((ps.take (i+1)).map lnP))]
  .simp only [go_sem]
 .have hi:i=ps.length:=by omega
  have di:decide ((i:Int)<(ps.length:Int))=false:=by simp; omega
  rw[show ps.take i=ps from laj (by omega)];clear hJ;subst hi;have hlen:(strs (ps.map lnP)).length=ps.length:=by simp
  refine AWp.shift (Shift.freeze 3 (id:=0) (l:=strs (ps.map lnP)) rfl rfl (by omega) (lad _) (A7G _)) ?_;have htk:List.take ps.length (List.drop 0 (strs (ps.map lnP)))=strs (ps.map lnP):=by rw[lcj,laj (by omega)]
  rw[htk];apply zgB;simp only[go_sem,di];exact zt [2]
