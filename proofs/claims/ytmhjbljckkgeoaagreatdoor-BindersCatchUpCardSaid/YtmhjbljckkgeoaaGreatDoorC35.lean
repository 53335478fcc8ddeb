/- SortStableFunc at leaves, told exactly: swaps, rotations, insertions. -/
import Derived.Test.YtmhjbljckkgeoaaGreatDoorC34
set_option maxRecDepth 100000
set_option maxHeartbeats 8000000
set_option linter.all false
namespace Go.Proofs.YtmhjbljckkgeoaaGreatDoor
open Av RowKit Proofs.Tryz
abbrev Lq:={ f:Le' // leafNameL f.name=true }
def lqA(x:Lq):AV:=leA x.1
def keyC(x y:Lq):Int:=compareN (endsL x.1.name).1 (endsL y.1.name).1
theorem AbP(l:List Lq)(i:Nat)(h:i<l.length):List.getD (l.map lqA) i .any=.agg [.str l[i].1.name,.int .i64 l[i].1.Lj,.str l[i].1.first,.fz 1 (l[i].1.Lb.map .str)]:=by simp_all[lqA,leA]
theorem AgK(l:List Lq)(i:Nat)(x:Lq):(l.map lqA).set i (.agg [.str x.1.name,.int .i64 x.1.Lj,.str x.1.first,.fz 1 (x.1.Lb.map .str)])=(l.set i x).map lqA:=by
 rw[List.map_set]; rfl
theorem AjK{q l:List Lq}(hq:q.Perm l){i j:Nat}(h1:i<q.length)(h2:j<q.length):((q.set i q[j]).set j q[i]).Perm l:=(List.set_set_perm h1 h2).trans hq
theorem A5V{n:Int}(h0:0<=n)(h1:n<9223372036854775808):IntKind.u64.wrap n=n:=by
 grind[IntKind.wrap,IntKind.bits]
theorem AjL{St:Std}(hS:LibOk St)(x y:Lq):PcH prog St 38 [lqA x,lqA y] (· = .int .i64 (keyC x y)):=by
 have h1:=ends_num x.2;have h2:=ends_num y.2;have e1:=AtS hS x.1.name (by have:=AbW x.2; omega);have e2:=AtS hS y.1.name (by have:=AbW y.2; omega);have hc:=AcM _ _ h1.1 h2.1;unfold keyC;simp only[lqA,leA];generalize endsL x.1.name=p at *;generalize endsL y.1.name=q at *;refine zqIB func38 rfl fun h ρ w hg=>?_
 simp only[go_sem];refine zqB hg (e1) ?_;simp only[go_sem];refine zqB hg (e2) ?_;simp only[go_sem];refine zpB (hc) ?_;simp only[go_sem];exact zt [4]
def ApD(l:List Lq)(r:AV)(s:LB):Prop:=r=.tup []/\s=[.arr 4 (l.map lqA)]
def d00:Lq:=⟨⟨[49],0,[],[]⟩,by decide +kernel⟩
theorem atD{q:List Lq}{i:Nat}(h:i<q.length):q.getD i d00=q[i]:=by grind
def swF(a b n:Nat):Nat->List Lq->List Lq
 | 0,q=>q
 | k+1,q=>swF a b n k ((q.set (a+(n-(k+1))) (q.getD (b+(n-(k+1))) d00)).set (b+(n-(k+1))) (q.getD (a+(n-(k+1))) d00))
def swp4(a b n:Nat)(q:List Lq):List Lq:=swF a b n n q
theorem A5W(a b n:Nat):∀ (k:Nat)(q:List Lq),k<=n->a+n<=q.length->b+n<=q.length->(swF a b n k q).Perm q
 | 0,q,_,_,_=>.refl _
 | k+1,q,hk,h1,h2=>by
  rw[swF,atD (by omega),atD (by omega)];exact(A5W a b n k _ (by omega) (by simp; omega) (by simp; omega)).trans (List.set_set_perm (by omega) (by omega))
theorem AeE(a b n:Nat)(q:List Lq)(h1:a+n<=q.length)(h2:b+n<=q.length):(swp4 a b n q).Perm q:=A5W a b n n q (lab _) h1 h2
def rotF(m:Nat):Nat->Nat->Nat->List Lq->List Lq
 | 0,_,_,q=>q
 | f+1,i,j,q=>if i=j then swp4 (m-i) m i q else if j<i then rotF m f (i-j) j (swp4 (m-i) m j q) else rotF m f i (j-i) (swp4 (m-i) (m+j-i) i q)
theorem ApE(m:Nat):∀ (f i j:Nat)(q:List Lq),i<=m->m+j<=q.length->(rotF m f i j q).Perm q
 | 0,_,_,q,_,_=>.refl _
 | f+1,i,j,q,h1,h2=>by
  rw[rotF]
  split
  .exact AeE _ _ _ _ (by omega) (by omega)
  .split
   .have hp:=AeE (m-i) m j q (by omega) (by omega)
    exact(ApE m f (i-j) j _ (by omega) (by rw[hp.length_eq]; omega)).trans hp
   .have hp:=AeE (m-i) (m+j-i) i q (by omega) (by omega)
    exact(ApE m f i (j-i) _ h1 (by rw[hp.length_eq]; omega)).trans hp
def insF(a:Nat):Nat->Nat->List Lq->List Lq
 | 0,_,q=>q
 | f+1,j,q=>if a<j/\keyC (q.getD j d00) (q.getD (j-1) d00)<0 then insF a f (j-1) ((q.set j (q.getD (j-1) d00)).set (j-1) (q.getD j d00)) else q
def isQ(a b:Nat):Nat->Nat->List Lq->List Lq
 | 0,_,q=>q
 | f+1,i,q=>if i<b then isQ a b f (i+1) (insF a i i q) else q
theorem AkT(l:List Lq)(a b n:Nat)(f:FuncId)(h1:a+n<=l.length)(h2:b+n<=l.length)(hl:l.length<1000000) :
  Ct prog 256 [.sl 0 0 l.length l.length,.int .i64 a,.int .i64 b,.int .i64 n,.fn (.func f) []] [.arr 4 (l.map lqA)] (ApD (swp4 a b n l)):=by
 refine zcIB func256 rfl fun h ρ w=>?_
 simp only[go_sem];refine AaC (ι:=Nat×List Lq) (fun y=>n-y.1) (fun y=>[(10,.int .i64 y.1),(3,.int .i64 n),(2,.int .i64 b),(1,.int .i64 a),(0,.sl 0 0 l.length l.length)]) (fun y=>[.arr 4 (y.2.map lqA)])
  (fun y=>y.1<=n/\y.2.Perm l/\swF a b n (n-y.1) y.2=swp4 a b n l) (0,l) ⟨by simp,.refl _,rfl⟩ ?_ ?_
 .refine Lu ?_ rfl
  simp only[go_sem]
 .rintro ⟨i,q⟩ ⟨g1,g2,g3⟩ J hJ
  simp only at g1 g2 g3 hJ |-;have hq:=g2.length_eq
  by_cases gi:i<n
  .have di:decide ((i:Int)<(n:Int))=true:=by simp; omega
   have e1:((a:Int)+(i:Int)).toNat=a+i:=by omega
   have e2:((b:Int)+(i:Int)).toNat=b+i:=by omega
   have p1:=AbP q (a+i) (by omega);have p2:=AbP q (b+i) (by omega);have p3:=AbP (q.set (a+i) (q[b+i]'(by omega))) (b+i) (by simp; omega);have s1:=AgK q (a+i) (q[b+i]'(by omega));have s2:=AgK (q.set (a+i) (q[b+i]'(by omega))) (b+i) (q[a+i]'(by omega));have hfin:=hJ (i+1,_) ⟨by simp only; omega,AjK g2 (i:=a+i) (j:=b+i) (by omega) (by omega),by
    simp only;rw[show n-i=(n-(i+1))+1 by omega,swF,show n-(n-(i+1)+1)=i by omega,atD (by omega),atD (by omega)]at g3;exact g3⟩ (by simp only; omega)
   apply zgB;simp only[go_sem,di];refine A5U [] AaF (by decide) rfl rfl 100 ?_;simp only[go_sem,e1,e2,p1,p2,p3,s1,s2,laa,List.length_set]
   repeat refine aj ?_
   apply zgB;simp only[go_sem]
   repeat refine aj ?_
   rw[ic i];refine ainv hfin (Lu ?_ rfl);simp only[go_sem]
  .have di:decide ((i:Int)<(n:Int))=false:=by simp; omega
   apply zgB;simp only[go_sem,di];refine aret [] rfl ⟨rfl,?_⟩;rw[show n-i=0 by omega,swF]at g3;rw[<- g3]
theorem BtN(l:List Lq)(a m b:Nat)(f:FuncId)(h1:a<m)(h2:m<b)(h3:b<=l.length)(hl:l.length<1000000) :
  Ct prog 196 [.sl 0 0 l.length l.length,.int .i64 a,.int .i64 m,.int .i64 b,.fn (.func f) []] [.arr 4 (l.map lqA)] (ApD (rotF m (b-a) (m-a) (b-m) l)):=by
 refine zcIB func196 rfl fun h ρ w=>?_
 simp only[go_sem]
 repeat refine ao ?_
 rw[show(m:Int)-(a:Int)=((m-a:Nat):Int) by omega,show(b:Int)-(m:Int)=((b-m:Nat):Int) by omega];refine AaC (ι:=Nat×Nat×List Lq) (fun y=>y.1+y.2.1) (fun y=>[(11,.int .i64 y.2.1),(10,.int .i64 y.1),(4,.fn (.func f) []),(2,.int .i64 m),(0,.sl 0 0 l.length l.length)]) (fun y=>[.arr 4 (y.2.2.map lqA)])
  (fun y=>0<y.1/\0<y.2.1/\y.1<=m/\m+y.2.1<=l.length/\y.2.2.Perm l/\∃ f,y.1+y.2.1<=f/\rotF m f y.1 y.2.1 y.2.2=rotF m (b-a) (m-a) (b-m) l) (m-a,b-m,l) ⟨by simp only; omega,by simp only; omega,by simp only; omega,by simp only; omega,.refl _,b-a,by simp only; omega,rfl⟩ ?_ ?_
 .refine Lu ?_ rfl
  simp only[go_sem]
 .rintro ⟨i,j,q⟩ ⟨g1,g2,g3,g4,g5,f0,g6,g7⟩ J hJ
  simp only at g1 g2 g3 g4 g5 g6 g7 hJ |-;obtain⟨f1,rfl⟩:∃ f1,f0=f1+1:=⟨f0-1,by omega⟩;rw[rotF]at g7;have hq:=g5.length_eq
  by_cases hij:i=j
  .have dj:((i:Int) != (j:Int))=false:=by simp; omega
   have hc:=AkT q (m-i) m i f (by omega) (by omega) (by omega);rw[show((m-i:Nat):Int)=(m:Int)-(i:Int) by omega,hq]at hc;apply zgB;simp only[go_sem,dj]
   repeat refine ao ?_
   refine za (hc) ?_;rintro _ _ ⟨rfl,rfl⟩;apply zgB;simp only[go_sem];refine aret [] rfl ⟨rfl,?_⟩;rw[if_pos hij]at g7;rw[<- g7]
  .have dj:((i:Int) != (j:Int))=true:=by simp; omega
   by_cases hlt:j<i
   .have dg:decide ((i:Int)>(j:Int))=true:=by simp; omega
    have hc:=AkT q (m-i) m j f (by omega) (by omega) (by omega);rw[show((m-i:Nat):Int)=(m:Int)-(i:Int) by omega,hq]at hc;apply zgB;simp only[go_sem,dj,dg]
    repeat refine ao ?_
    refine za (hc) ?_;rintro _ _ ⟨rfl,rfl⟩;rw[if_neg hij,if_pos hlt]at g7;have hfin:=hJ (i-j,j,_) ⟨by simp only; omega,g2,by simp only; omega,by simp only; omega,(AeE _ _ _ _ (by omega) (by omega)).trans g5,f1,by simp only; omega,g7⟩ (by simp only; omega);apply zgB;simp only[go_sem]
    repeat refine ao ?_
    rw[show(i:Int)-(j:Int)=((i-j:Nat):Int) by omega];refine ainv hfin (Lu ?_ rfl);simp only[go_sem]
   .have dg:decide ((i:Int)>(j:Int))=false:=by simp; omega
    have hc:=AkT q (m-i) (m+j-i) i f (by omega) (by omega) (by omega);rw[show((m-i:Nat):Int)=(m:Int)-(i:Int) by omega,show((m+j-i:Nat):Int)=(m:Int)+(j:Int)-(i:Int) by omega,hq]at hc;apply zgB;simp only[go_sem,dj,dg]
    repeat refine ao ?_
    refine za (hc) ?_;rintro _ _ ⟨rfl,rfl⟩;rw[if_neg hij,if_neg hlt]at g7;have hfin:=hJ (i,j-i,_) ⟨g1,by simp only; omega,g3,by simp only; omega,(AeE _ _ _ _ (by omega) (by omega)).trans g5,f1,by simp only; omega,g7⟩ (by simp only; omega);apply zgB;simp only[go_sem]
    repeat refine ao ?_
    rw[show(j:Int)-(i:Int)=((j-i:Nat):Int) by omega];refine ainv hfin (Lu ?_ rfl);simp only[go_sem]
theorem AhQ{St:Std}(hS:LibOk St)(l:List Lq)(a b:Nat)(h2:a<=b)(h3:b<=l.length)(hl:l.length<1000000) :
  CtH prog St 133 [.sl 0 0 l.length l.length,.int .i64 a,.int .i64 b,.fn (.func 38) []] [.arr 4 (l.map lqA)] (ApD (isQ a b (b+1-(a+1)) (a+1) l)):=by
 refine zdIB func133 rfl fun h ρ w hg=>?_
 simp only[go_sem]
 repeat refine ao ?_
 rw[ic a];refine AaC (ι:=Nat×List Lq) (fun y=>b+1-y.1) (fun y=>[(8,.int .i64 y.1),(3,.fn (.func 38) []),(2,.int .i64 b),(1,.int .i64 a),(0,.sl 0 0 l.length l.length)]) (fun y=>[.arr 4 (y.2.map lqA)])
  (fun y=>a+1<=y.1/\y.2.Perm l/\isQ a b (b+1-y.1) y.1 y.2=isQ a b (b+1-(a+1)) (a+1) l) (a+1,l) ⟨by simp,.refl _,rfl⟩ ?_ ?_
 .refine Lu ?_ rfl
  simp only[go_sem]
 .rintro ⟨i,q⟩ ⟨g1,g2,g3⟩ J hJ
  simp only at g1 g2 g3 hJ |-
  by_cases gi:i<b
  .have di:decide ((i:Int)<(b:Int))=true:=by simp; omega
   apply zgB;simp only[go_sem,di];refine AaC (ι:=Nat×List Lq) (fun y=>y.1) (fun y=>[(9,.int .i64 y.1),(8,.int .i64 i),(3,.fn (.func 38) []),(2,.int .i64 b),(1,.int .i64 a),(0,.sl 0 0 l.length l.length)]) (fun y=>[.arr 4 (y.2.map lqA)])
    (fun y=>a<=y.1/\y.1<=i/\y.2.Perm l/\∃ f,y.1<=f/\insF a f y.1 y.2=insF a i i q) (i,q) ⟨by simp only; omega,by simp,g2,i,lab _,rfl⟩ ?_ ?_
   .refine Lu ?_ rfl
    simp only[go_sem]
   .rintro ⟨j,p⟩ ⟨k1,k2,k3,f0,k4,k5⟩ K hK
    simp only at k1 k2 k3 k4 k5 hK |-;have hgo:insF a i i q=p->isQ a b (b+1-(i+1)) (i+1) p=isQ a b (b+1-(a+1)) (a+1) l:=fun e=>by
     rw[show b+1-i=(b+1-(i+1))+1 by omega,isQ,if_pos gi,e]at g3;exact g3
    have hq:=k3.length_eq
    by_cases hja:a<j
    .obtain ⟨f1,rfl⟩:∃ f1,f0=f1+1:=⟨f0-1,by omega⟩
     have dj:decide ((j:Int)>(a:Int))=true:=by simp; omega
     have e1:((j:Int)-1).toNat=j-1:=by omega
     have p1:=AbP p j (by omega);have p2:=AbP p (j-1) (by omega);have hc:=AjL hS (p[j]'(by omega)) (p[j-1]'(by omega));simp only[lqA,leA]at hc;apply zgB;simp only[go_sem];refine zr [.int .i64 (keyC (p[j]'(by omega)) (p[j-1]'(by omega)))] AaF ?_
     cases dc:decide (keyC (p[j]'(by omega)) (p[j-1]'(by omega))<0)with
     | true =>
      have p3:=AbP (p.set j (p[j-1]'(by omega))) (j-1) (by simp; omega);have s1:=AgK p j (p[j-1]'(by omega));have s2:=AgK (p.set j (p[j-1]'(by omega))) (j-1) (p[j]'(by omega));have hfin:=hK (j-1,_) ⟨by simp only; omega,by simp only; omega,AjK k3 (i:=j) (j:=j-1) (by omega) (by omega),f1,by simp only; omega,by
       rw[insF,atD (by omega),atD (by omega),if_pos ⟨hja,of_decide_eq_true dc⟩]at k5;exact k5⟩ (by simp only; omega)
      simp only[go_sem,dj,e1,p1,p2,dc,laa]
      repeat first|refine And.intro (by first|exact hc.at hg) ?_|refine aj ?_
      apply zgB;simp only[go_sem];refine A5U [] AaF (by decide) rfl rfl 100 ?_;simp only[go_sem,e1,p1,p2,p3,s1,s2,laa,List.length_set]
      repeat refine aj ?_
      apply zgB;simp only[go_sem]
      repeat refine aj ?_
      rw[show(j:Int)-1=((j-1:Nat):Int) by omega];refine ainv hfin (Lu ?_ rfl);simp only[go_sem]
     | false =>
      rw[insF,atD (by omega),atD (by omega),if_neg (fun h=>of_decide_eq_false dc h.2)]at k5;have hfin:=hJ (i+1,p) ⟨by simp only; omega,k3,hgo k5.symm⟩ (by simp only; omega);simp only[go_sem,dj,e1,p1,p2,dc,laa]
      repeat first|refine And.intro (by first|exact hc.at hg) ?_|refine aj ?_
      apply zgB;simp only[go_sem]
      repeat refine aj ?_
      rw[ic i];refine ainv hfin (Lu ?_ rfl);simp only[go_sem]
    .have dj:decide ((j:Int)>(a:Int))=false:=by simp; omega
     have k6:insF a f0 j p=p:=by
      cases f0 with
      | zero=>rfl
      | succ f=>rw[insF,if_neg (fun h=>hja h.1)]
     have hfin:=hJ (i+1,p) ⟨by simp only; omega,k3,hgo (by rw[<- k5,k6])⟩ (by simp only; omega);apply zgB;simp only[go_sem];refine zr [.any] AaF ?_;simp only[go_sem,dj]
     repeat refine aj ?_
     apply zgB;simp only[go_sem]
     repeat refine aj ?_
     rw[ic i];refine ainv hfin (Lu ?_ rfl);simp only[go_sem]
  .have di:decide ((i:Int)<(b:Int))=false:=by simp; omega
   apply zgB;simp only[go_sem,di];have g4:isQ a b (b+1-i) i q=q:=by
    cases b+1-i with
    | zero=>rfl
    | succ f=>rw[isQ,if_neg gi]
   exact aret [] rfl ⟨rfl,by rw[<- g3,g4]⟩
def bsF(P:Nat->Bool):Nat->Nat->Nat->Nat
 | 0,i,_=>i
 | f+1,i,j=>if i<j then(if P ((i+j) / 2)=true then bsF P f ((i+j) / 2+1) j else bsF P f i ((i+j) / 2)) else i
theorem A2F{P:Nat->Bool}{f i j:Nat}(h:¬ i<j):bsF P f i j=i:=by
 cases f<;>grind[bsF]
theorem ApF(P:Nat->Bool):∀ (f i j:Nat),i<=j->i<=bsF P f i j/\bsF P f i j<=j
 | 0,i,j,h=>⟨lab _,h⟩
 | f+1,i,j,h=>by
  rw[bsF]
  split
  .split
   .have:=ApF P f ((i+j) / 2+1) j (by omega)
    omega
   .have:=ApF P f i ((i+j) / 2) (by omega)
    omega
  .omega
def upQ(i:Nat):Nat->Nat->List Lq->List Lq
 | 0,_,q=>q
 | f+1,k,q=>if k+1<i then upQ i f (k+1) ((q.set k (q.getD (k+1) d00)).set (k+1) (q.getD k d00)) else q
theorem BtO{i f k:Nat}{q:List Lq}(h:¬ k+1<i):upQ i f k q=q:=by
 cases f<;>grind[upQ]
theorem AuI(i:Nat):∀ (f k:Nat)(q:List Lq),i<=q.length->(upQ i f k q).Perm q
 | 0,_,q,_=>.refl _
 | f+1,k,q,h=>by
  rw[upQ]
  split
  .rw [atD (by omega),atD (by omega)]
   exact(AuI i f (k+1) _ (by simp; omega)).trans (List.set_set_perm (by omega) (by omega))
  .exact .refl _
def dnF(i:Nat):Nat->Nat->List Lq->List Lq
 | 0,_,q=>q
 | f+1,k,q=>if i<k then dnF i f (k-1) ((q.set k (q.getD (k-1) d00)).set (k-1) (q.getD k d00)) else q
theorem BtP{i f k:Nat}{q:List Lq}(h:¬ i<k):dnF i f k q=q:=by
 cases f<;>grind[dnF]
theorem AuJ(i:Nat):∀ (f k:Nat)(q:List Lq),k<q.length->(dnF i f k q).Perm q
 | 0,_,q,_=>.refl _
 | f+1,k,q,h=>by
  rw[dnF]
  split
  .rw [atD (by omega),atD (by omega)]
   exact(AuJ i f (k-1) _ (by simp; omega)).trans (List.set_set_perm (by omega) (by omega))
  .exact .refl _
theorem AuK{St:Std}(hS:LibOk St)(l:List Lq)(a b:Nat)(h2:a+1<b)(h3:b<=l.length)(hl:l.length<1000000) :
  CtH prog St 134 [.sl 0 0 l.length l.length,.int .i64 a,.int .i64 ((a+1:Nat):Int),.int .i64 b,.fn (.func 38) []] [.arr 4 (l.map lqA)] (ApD (upQ (bsF (fun c=>decide (keyC (l.getD c d00) (l.getD a d00)<0)) b (a+1) b) b a l)):=by
 have d0:(((a+1:Nat):Int)-(a:Int)==1)=true:=by simp; omega
 refine zdIB func134 rfl fun h ρ w hg=>?_
 simp only[go_sem,d0]
 repeat refine ao ?_
 refine AaC (ι:=Nat×Nat) (fun y=>y.2-y.1) (fun y=>[(11,.int .i64 y.2),(10,.int .i64 y.1),(4,.fn (.func 38) []),(1,.int .i64 a),(0,.sl 0 0 l.length l.length)]) (fun y=>[.arr 4 (l.map lqA)])
  (fun y=>a+1<=y.1/\y.1<=y.2/\y.2<=b/\∃ f,y.2-y.1<=f/\bsF (fun c=>decide (keyC (l.getD c d00) (l.getD a d00)<0)) f y.1 y.2=bsF (fun c=>decide (keyC (l.getD c d00) (l.getD a d00)<0)) b (a+1) b) (a+1,b) ⟨by simp,by simp only; omega,by simp,b,by simp only; omega,rfl⟩ ?_ ?_
 .refine Lu ?_ rfl
  simp only[go_sem]
 .rintro ⟨i,j⟩ ⟨g1,g2,g3,f0,f1,f2⟩ J hJ
  simp only at g1 g2 g3 f1 f2 hJ |-
  by_cases hij:i<j
  .obtain ⟨f3,rfl⟩:∃ f3,f0=f3+1:=⟨f0-1,by omega⟩
   rw[bsF,if_pos hij]at f2;have di:decide ((i:Int)<(j:Int))=true:=by simp; omega
   obtain⟨c,hc⟩:∃ c,c=(i+j) / 2:=⟨_,rfl⟩;have e1:((i:Int)+(j:Int)) / 2=(c:Int):=by omega
   have e2:((c:Int)).toNat=c:=by omega
   have e3:((a:Int)).toNat=a:=by omega
   have p1:=AbP l c (by omega);have p2:=AbP l a (by omega);have hc2:=AjL hS (l[c]'(by omega)) (l[a]'(by omega));simp only[lqA,leA]at hc2;apply zgB;simp only[go_sem,di,e1]
   repeat refine And.intro (by first|omega|rfl|exact A5V (by omega) (by omega)|(simp; done)|(simp[inr]; omega)) ?_
   refine zr [.int .i64 (keyC (l[c]'(by omega)) (l[a]'(by omega)))] AaF ?_
   cases dc:decide (keyC (l[c]'(by omega)) (l[a]'(by omega))<0)with
   | true =>
    have hP:decide (keyC (l.getD c d00) (l.getD a d00)<0)=true:=by rw[atD (by omega),atD (by omega)]; exact dc
    rw[<- hc,if_pos hP]at f2;have hfin:=hJ (c+1,j) ⟨by simp only; omega,by simp only; omega,g3,f3,by simp only; omega,f2⟩ (by simp only; omega);simp only[go_sem,e2,e3,p1,p2,dc,laa]
    repeat first|refine And.intro (by first|exact hc2.at hg) ?_|refine aj ?_
    apply zgB;simp only[go_sem]
    repeat refine ao ?_
    rw[ic c];refine ainv hfin (Lu ?_ rfl);simp only[go_sem]
   | false =>
    have hP:¬ decide (keyC (l.getD c d00) (l.getD a d00)<0)=true:=by rw[atD (by omega),atD (by omega),dc]; simp
    rw[<- hc,if_neg hP]at f2;have hfin:=hJ (i,c) ⟨g1,by simp only; omega,by simp only; omega,f3,by simp only; omega,f2⟩ (by simp only; omega);simp only[go_sem,e2,e3,p1,p2,dc,laa]
    repeat first|refine And.intro (by first|exact hc2.at hg) ?_|refine aj ?_
    apply zgB;simp only[go_sem];refine ainv hfin (Lu ?_ rfl);simp only[go_sem]
  .have di:decide ((i:Int)<(j:Int))=false:=by simp; omega
   apply zgB;simp only[go_sem,di];clear hJ J;rw[A2F hij]at f2;rw[<- f2];refine AaC (ι:=Nat×List Lq) (fun y=>i-y.1) (fun y=>[(13,.int .i64 y.1),(10,.int .i64 i),(0,.sl 0 0 l.length l.length)]) (fun y=>[.arr 4 (y.2.map lqA)])
    (fun y=>y.2.Perm l/\∃ f,i-y.1<=f/\upQ i f y.1 y.2=upQ i b a l) (a,l) ⟨.refl _,b,by simp only; omega,rfl⟩ ?_ ?_
   .refine Lu ?_ rfl
    simp only[go_sem]
   .rintro ⟨k,q⟩ ⟨g5,f4,f5,f6⟩ J hJ
    simp only at g5 f5 f6 hJ |-;have hq:=g5.length_eq
    by_cases hk:k+1<i
    .obtain ⟨f7,rfl⟩:∃ f7,f4=f7+1:=⟨f4-1,by omega⟩
     rw[upQ,if_pos hk,atD (by omega),atD (by omega)]at f6;have dk:decide ((k:Int)<(i:Int)-1)=true:=by simp; omega
     have e1:((k:Int)+1).toNat=k+1:=by omega
     have e2:((k:Int)).toNat=k:=by omega
     have p1:=AbP q (k+1) (by omega);have p2:=AbP q k (by omega);have p3:=AbP (q.set k (q[k+1]'(by omega))) (k+1) (by simp; omega);have s1:=AgK q k (q[k+1]'(by omega));have s2:=AgK (q.set k (q[k+1]'(by omega))) (k+1) (q[k]'(by omega));have hfin:=hJ (k+1,_) ⟨AjK g5 (i:=k) (j:=k+1) (by omega) (by omega),f7,by simp only; omega,f6⟩ (by simp only; omega);apply zgB;simp only[go_sem,dk]
     repeat refine ao ?_
     refine A5U [] AaF (by decide) rfl rfl 100 ?_;simp only[go_sem,e1,e2,p1,p2,p3,s1,s2,laa,List.length_set]
     repeat refine aj ?_
     apply zgB;simp only[go_sem]
     repeat refine aj ?_
     rw[ic k];refine ainv hfin (Lu ?_ rfl);simp only[go_sem]
    .have dk:decide ((k:Int)<(i:Int)-1)=false:=by simp; omega
     apply zgB;simp only[go_sem,dk]
     repeat refine ao ?_
     rw[BtO hk]at f6;exact aret [] rfl ⟨rfl,by rw[f6]⟩
theorem AqD{St:Std}(hS:LibOk St)(l:List Lq)(a m:Nat)(h2:a+1<m)(h3:m+1<=l.length)(hl:l.length<1000000) :
  CtH prog St 134 [.sl 0 0 l.length l.length,.int .i64 a,.int .i64 m,.int .i64 ((m+1:Nat):Int),.fn (.func 38) []] [.arr 4 (l.map lqA)] (ApD (dnF (bsF (fun c=>!decide (keyC (l.getD m d00) (l.getD c d00)<0)) m a m) m m l)):=by
 have d0:((m:Int)-(a:Int)==1)=false:=by simp; omega
 have dxx:(((m+1:Nat):Int)-(m:Int)==1)=true:=by simp; omega
 refine zdIB func134 rfl fun h ρ w hg=>?_
 simp only[go_sem,d0,dxx]
 repeat refine ao ?_
 refine AaC (ι:=Nat×Nat) (fun y=>y.2-y.1) (fun y=>[(15,.int .i64 y.2),(14,.int .i64 y.1),(4,.fn (.func 38) []),(2,.int .i64 m),(0,.sl 0 0 l.length l.length)]) (fun y=>[.arr 4 (l.map lqA)])
  (fun y=>y.1<=y.2/\y.2<=m/\∃ f,y.2-y.1<=f/\bsF (fun c=>!decide (keyC (l.getD m d00) (l.getD c d00)<0)) f y.1 y.2=bsF (fun c=>!decide (keyC (l.getD m d00) (l.getD c d00)<0)) m a m) (a,m) ⟨by simp only; omega,by simp,m,by simp only; omega,rfl⟩ ?_ ?_
 .refine Lu ?_ rfl
  simp only[go_sem]
 .rintro ⟨i,j⟩ ⟨g2,g3,f0,f1,f2⟩ J hJ
  simp only at g2 g3 f1 f2 hJ |-
  by_cases hij:i<j
  .obtain ⟨f3,rfl⟩:∃ f3,f0=f3+1:=⟨f0-1,by omega⟩
   rw[bsF,if_pos hij]at f2;have di:decide ((i:Int)<(j:Int))=true:=by simp; omega
   obtain⟨c,hc⟩:∃ c,c=(i+j) / 2:=⟨_,rfl⟩;have e1:((i:Int)+(j:Int)) / 2=(c:Int):=by omega
   have e2:((c:Int)).toNat=c:=by omega
   have e3:((m:Int)).toNat=m:=by omega
   have p1:=AbP l c (by omega);have p2:=AbP l m (by omega);have hc2:=AjL hS (l[m]'(by omega)) (l[c]'(by omega));simp only[lqA,leA]at hc2;apply zgB;simp only[go_sem,di,e1]
   repeat refine And.intro (by first|omega|rfl|exact A5V (by omega) (by omega)|(simp; done)|(simp[inr]; omega)) ?_
   refine zr [.int .i64 (keyC (l[m]'(by omega)) (l[c]'(by omega)))] AaF ?_
   cases dc:decide (keyC (l[m]'(by omega)) (l[c]'(by omega))<0)with
   | false =>
    have hP:(!decide (keyC (l.getD m d00) (l.getD c d00)<0))=true:=by rw[atD (by omega),atD (by omega),dc]; rfl
    rw[<- hc,if_pos hP]at f2;have hfin:=hJ (c+1,j) ⟨by simp only; omega,g3,f3,by simp only; omega,f2⟩ (by simp only; omega);simp only[go_sem,e2,e3,p1,p2,dc,laa]
    repeat first|refine And.intro (by first|exact hc2.at hg) ?_|refine aj ?_
    apply zgB;simp only[go_sem]
    repeat refine ao ?_
    rw[ic c];refine ainv hfin (Lu ?_ rfl);simp only[go_sem]
   | true =>
    have hP:¬ (!decide (keyC (l.getD m d00) (l.getD c d00)<0))=true:=by rw[atD (by omega),atD (by omega),dc]; simp
    rw[<- hc,if_neg hP]at f2;have hfin:=hJ (i,c) ⟨by simp only; omega,by simp only; omega,f3,by simp only; omega,f2⟩ (by simp only; omega);simp only[go_sem,e2,e3,p1,p2,dc,laa]
    repeat first|refine And.intro (by first|exact hc2.at hg) ?_|refine aj ?_
    apply zgB;simp only[go_sem];refine ainv hfin (Lu ?_ rfl);simp only[go_sem]
  .have di:decide ((i:Int)<(j:Int))=false:=by simp; omega
   apply zgB;simp only[go_sem,di];clear hJ J;rw[A2F hij]at f2;rw[<- f2];refine AaC (ι:=Nat×List Lq) (fun y=>y.1) (fun y=>[(17,.int .i64 y.1),(14,.int .i64 i),(0,.sl 0 0 l.length l.length)]) (fun y=>[.arr 4 (y.2.map lqA)])
    (fun y=>y.1<=m/\y.2.Perm l/\∃ f,y.1<=f/\dnF i f y.1 y.2=dnF i m m l) (m,l) ⟨by simp,.refl _,m,by simp,rfl⟩ ?_ ?_
   .refine Lu ?_ rfl
    simp only[go_sem]
   .rintro ⟨k,q⟩ ⟨g6,g5,f4,f5,f6⟩ J hJ
    simp only at g6 g5 f5 f6 hJ |-;have hq:=g5.length_eq
    by_cases hk:i<k
    .obtain ⟨f7,rfl⟩:∃ f7,f4=f7+1:=⟨f4-1,by omega⟩
     rw[dnF,if_pos hk,atD (by omega),atD (by omega)]at f6;have dk:decide ((k:Int)>(i:Int))=true:=by simp; omega
     have e1:((k:Int)-1).toNat=k-1:=by omega
     have e2:((k:Int)).toNat=k:=by omega
     have p1:=AbP q (k-1) (by omega);have p2:=AbP q k (by omega);have p3:=AbP (q.set k (q[k-1]'(by omega))) (k-1) (by simp; omega);have s1:=AgK q k (q[k-1]'(by omega));have s2:=AgK (q.set k (q[k-1]'(by omega))) (k-1) (q[k]'(by omega));have hfin:=hJ (k-1,_) ⟨by simp only; omega,AjK g5 (i:=k) (j:=k-1) (by omega) (by omega),f7,by simp only; omega,f6⟩ (by simp only; omega);apply zgB;simp only[go_sem,dk];refine A5U [] AaF (by decide) rfl rfl 100 ?_;simp only[go_sem,e1,e2,p1,p2,p3,s1,s2,laa,List.length_set]
     repeat refine aj ?_
     apply zgB;simp only[go_sem]
     repeat refine aj ?_
     rw[show(k:Int)-1=((k-1:Nat):Int) by omega];refine ainv hfin (Lu ?_ rfl);simp only[go_sem]
    .have dk:decide ((k:Int)>(i:Int))=false:=by simp; omega
     apply zgB;simp only[go_sem,dk];rw[BtP hk]at f6;exact aret [] rfl ⟨rfl,by rw[f6]⟩
def kf(x:Lq):LU:=(endsL x.1.name).1
def kl(x y:Lq):Prop:=nLt (kf x) (kf y)
theorem BpL(x:Lq):numberL (kf x)=true:=(ends_num x.2).1
theorem keyC_lt{x y:Lq}:keyC x y<0 ↔ kl x y:=compareN_lt
theorem kl_trans{x y z:Lq}(h1:kl x y)(h2:kl y z):kl x z:=nLt_trans h1 h2
theorem AyM(x:Lq):¬ kl x x:=nLt_irrefl _
def le(x y:Lq):Prop:=¬ kl y x
theorem le_refl(x:Lq):le x x:=AyM x
theorem A5X{x y:Lq}(h:le x y):kl x y\/kf x=kf y:=by
 by_cases h1:kl x y
 .grind
 .exact .inr (number_eq (BpL x) (BpL y) (AkI h1 h))
theorem le_trans{x y z:Lq}(h1:le x y)(h2:le y z):le x z:=fun h=>by
 rcases A5X h1 with e1|e1
 .exact h2 (kl_trans h e1)
 .unfold kl at h
  rw[e1]at h;exact h2 h
theorem BfN{x y:Lq}(h:kl x y):le x y:=fun h'=>AyM x (kl_trans h h')
theorem set_getD(q:List Lq)(i t:Nat)(v:Lq):(q.set i v).getD t d00=if t=i/\i<q.length then v else q.getD t d00:=by
 grind
theorem BfO(a b n:Nat):∀ (k:Nat)(q:List Lq)(t:Nat),k<=n->a+n<=b->b+n<=q.length->(swF a b n k q).getD t d00=if a+(n-k)<=t/\t<a+n then q.getD (b+(t-a)) d00 else if b+(n-k)<=t/\t<b+n then q.getD (a+(t-b)) d00 else q.getD t d00
 | 0,q,t,_,_,_=>by
  simp_all[swF,if_neg]
 | k+1,q,t,hk,h1,h2=>by
  rw[swF,BfO a b n k _ t (by omega) h1 (by grind)];simp only[set_getD,List.length_set]
  by_cases c1:a+(n-(k+1))<=t/\t<a+n
  .grind
  .rw [if_neg c1]
   by_cases c3:b+(n-(k+1))<=t/\t<b+n
   .rw [if_pos c3]
    by_cases c4:t=b+(n-(k+1))
    .grind
    grind
   .rw [if_neg c3,if_neg (by omega),if_neg (by omega),if_neg (by omega),if_neg (by omega)]
theorem AuL{a b n:Nat}{q:List Lq}(t:Nat)(h1:a+n<=b)(h2:b+n<=q.length):(swp4 a b n q).getD t d00=if a<=t/\t<a+n then q.getD (b+(t-a)) d00 else if b<=t/\t<b+n then q.getD (a+(t-b)) d00 else q.getD t d00:=by
 have:=BfO a b n n q t (lab _) h1 h2;rw[Nat.sub_self,Nat.add_zero,Nat.add_zero]at this;exact this
theorem AuM(m:Nat):∀ (f i j:Nat)(q:List Lq)(t:Nat),i+j<=f->0<i->0<j->i<=m->m+j<=q.length->(rotF m f i j q).getD t d00=if t<m-i then q.getD t d00 else if t<m-i+j then q.getD (m+(t-(m-i))) d00 else if t<m+j then q.getD (t-j) d00 else q.getD t d00
 | 0,i,j,q,t,hf,hi,_,_,_=>by omega
 | f+1,i,j,q,t,hf,hi,hj,h1,h2=>by
  rw[rotF]
  split
  .rename_i e
   subst e;rw[AuL t (by omega) (by omega)]
   by_cases c1:t<m-i
   .rw [if_neg (by omega),if_neg (by omega),if_pos c1]
   .rw [if_neg c1]
    by_cases c2:t<m-i+i
    .rw [if_pos (by omega),if_pos c2]
    .rw [if_neg (by omega),if_neg c2]
     by_cases c3:t<m+i
     .rw [if_pos (by omega),if_pos c3]
      congr 1; omega
     .rw [if_neg (by omega),if_neg c3]
  .split
   .have hp:=AeE (m-i) m j q (by omega) (by omega)
    rw[AuM m f (i-j) j _ t (by omega) (by omega) hj (by omega) (by rw[hp.length_eq]; omega)];have g:=fun u=>AuL (a:=m-i) (b:=m) (n:=j) u (by omega) (by omega)
    simp only[g]
    by_cases c1:t<m-i
    .rw [if_pos (by omega),if_neg (by omega),if_neg (by omega),if_pos c1]
    .rw [if_neg c1]
     by_cases c2:t<m-i+j
     .rw [if_pos (by omega),if_pos (by omega),if_pos c2]
     .rw [if_neg c2,if_neg (by omega)]
      by_cases c3:t<m-(i-j)+j
      .rw [if_pos c3,if_neg (by omega),if_pos (by omega),if_pos (by omega)]
       congr 1; omega
      .rw [if_neg c3]
       by_cases c4:t<m+j
       .rw [if_pos c4,if_pos c4,if_neg (by omega),if_neg (by omega)]
       .rw [if_neg c4,if_neg c4,if_neg (by omega),if_neg (by omega)]
   .rename_i hne hlt
    have hp:=AeE (m-i) (m+j-i) i q (by omega) (by omega);rw[AuM m f i (j-i) _ t (by omega) hi (by omega) h1 (by rw[hp.length_eq]; omega)];have g:=fun u=>AuL (a:=m-i) (b:=m+j-i) (n:=i) (q:=q) u (by omega) (by omega)
    simp only[g]
    by_cases c1:t<m-i
    .rw [if_pos c1,if_neg (by omega),if_neg (by omega),if_pos c1]
    .rw [if_neg c1,if_neg c1]
     by_cases c2:t<m-i+(j-i)
     .rw [if_pos c2,if_neg (by omega),if_neg (by omega),if_pos (by omega)]
     .rw [if_neg c2]
      by_cases c3:t<m+(j-i)
      .rw [if_pos c3,if_pos (by omega),if_pos (by omega)]
       congr 1; omega
      .rw [if_neg c3]
       by_cases c4:t<m+j
       .rw [if_neg (by omega),if_pos (by omega),if_neg (by omega),if_pos c4]
        congr 1; omega
       .rw [if_neg (by omega),if_neg (by omega),if_neg (by omega),if_neg c4]
theorem AjM{P:Nat->Bool}:∀ (f i j:Nat),i<=j->j-i<=f->(∀ x y,i<=x->x<y->y<j->P y=true->P x=true)->(∀ x,i<=x->x<bsF P f i j->P x=true)/\(∀ x,bsF P f i j<=x->x<j->P x=false)
 | 0,i,j,h,hf,_=>⟨fun x h1 h2=>by grind[bsF],fun x h1 h2=>by grind[bsF]⟩
 | f+1,i,j,h,hf,hm=>by
  rw[bsF]
  split
  .have hc:i<=(i+j) / 2/\(i+j) / 2<j:=by omega
   generalize (i+j) / 2=c at hc |-
   split
   .obtain ⟨s1,s2⟩:=AjM f (c+1) j (by omega) (by omega) fun x y h1 h2 h3=>hm x y (by omega) h2 h3
    grind
   .obtain ⟨s1,s2⟩:=AjM f i c (by omega) (by omega) fun x y h1 h2 h3=>hm x y h1 h2 (by omega)
    grind
  grind
theorem BfP(i:Nat):∀ (f k:Nat)(q:List Lq)(t:Nat),i-k<=f->k<i->i<=q.length->(upQ i f k q).getD t d00=if k<=t/\t+1<i then q.getD (t+1) d00 else if t+1=i/\k<=t then q.getD k d00 else q.getD t d00
 | 0,k,q,t,hf,hk,_=>by omega
 | f+1,k,q,t,hf,hk,hl=>by
  rw[upQ]
  split
  .rw [BfP i f (k+1) _ t (by omega) (by omega) (by grind)]
   simp only[set_getD,List.length_set]
   by_cases c1:k<=t/\t+1<i
   .grind
   .rw [if_neg c1,if_neg (by omega)]
    by_cases c3:t+1=i/\k<=t
    .grind
    .rw [if_neg c3,if_neg (by omega),if_neg (by omega),if_neg (by omega)]
  grind
theorem BfQ(i:Nat):∀ (f k:Nat)(q:List Lq)(t:Nat),k-i<=f->i<=k->k<q.length->(dnF i f k q).getD t d00=if i<t/\t<=k then q.getD (t-1) d00 else if t=i then q.getD k d00 else q.getD t d00
 | 0,k,q,t,hf,hk,_=>by
  have:i=k:=by omega
  simp_all[dnF,if_neg]
 | f+1,k,q,t,hf,hk,hl=>by
  rw[dnF]
  split
  .rw [BfQ i f (k-1) _ t (by omega) (by omega) (by simp; omega)]
   simp only[set_getD,List.length_set]
   by_cases c1:i<t/\t<=k
   .rw [if_pos c1]
    by_cases c2:t=k
    .rw [if_neg (by omega),if_neg (by omega),if_neg (by omega),if_pos (by omega)]
     congr 1; omega
    .rw [if_pos (by omega),if_neg (by omega),if_neg (by omega)]
   .rw [if_neg c1,if_neg (by omega)]
    by_cases c3:t=i
    .rw [if_pos c3,if_pos c3,if_pos ⟨trivial,by omega⟩]
    .rw [if_neg c3,if_neg c3,if_neg (by omega),if_neg (by omega)]
  .have:i=k:=by omega
   subst this;rw[if_neg (by omega)]
   split
   .rename_i e; rw[e]
   .rfl
def Srt(l:List Lq)(a b:Nat):Prop:=∀ s t,a<=s->s<t->t<b->le (l.getD s d00) (l.getD t d00)
theorem Srt.sub{l:List Lq}{a b c d:Nat}(h:Srt l a b)(h1:a<=c)(h2:d<=b):Srt l c d:=fun s t hs hst ht=>h s t (by omega) hst (by omega)
theorem Srt.le'{l:List Lq}{a b:Nat}(h:Srt l a b){s t:Nat}(hs:a<=s)(hst:s<=t)(ht:t<b):le (l.getD s d00) (l.getD t d00):=by
 by_cases e:s=t
 .grind[le_refl]
 .exact h s t hs (by omega) ht
structure Good(l l':List Lq)(a b:Nat):Prop where
 perm:l'.Perm l
 srt:Srt l' a b
 out:∀ t,t<a\/b<=t->l'.getD t d00=l.getD t d00
 inn:∀ t,a<=t->t<b->∃ u,a<=u/\u<b/\l'.getD t d00=l.getD u d00
theorem A5Y{x y:Lq}:decide (keyC x y<0)=true ↔ kl x y:=by grind[keyC_lt]
theorem A5Z{x y:Lq}:(!decide (keyC x y<0))=true ↔ le y x:=by
 rw[lcb,lai,keyC_lt]; rfl
theorem BmU{l:List Lq}{a b:Nat}(h2:a+1<b)(h3:b<=l.length)(hs:Srt l (a+1) b):Good l (upQ (bsF (fun c=>decide (keyC (l.getD c d00) (l.getD a d00)<0)) b (a+1) b) b a l) a b:=by
 have hbd:=ApF (fun c=>decide (keyC (l.getD c d00) (l.getD a d00)<0)) b (a+1) b (by omega);obtain⟨s1,s2⟩:=AjM (P:=fun c=>decide (keyC (l.getD c d00) (l.getD a d00)<0)) b (a+1) b (by omega) (by omega) fun x y hx hxy hy hp=>by
  rw[A5Y]at hp |-
  rcases A5X (hs x y hx hxy hy)with e|e<;>grind[kl_trans,kl]
 simp only[A5Y]at s1;have s2:∀ x,bsF (fun c=>decide (keyC (l.getD c d00) (l.getD a d00)<0)) b (a+1) b<=x->x<b->le (l.getD a d00) (l.getD x d00):=fun x h1 h4 h5=>by
  grind[keyC_lt]
 generalize bsF (fun c=>decide (keyC (l.getD c d00) (l.getD a d00)<0)) b (a+1) b=i at *;have g:=fun t=>BfP i b a l t (by omega) (by omega) (by omega)
 refine⟨AuI _ _ _ _ (by omega),fun s t h4 h5 h6=>?_,fun t ht=>?_,fun t h4 h5=>?_⟩
 .rw [g s,g t]
  by_cases c1:s+1<i
  .rw [if_pos ⟨h4,c1⟩]
   by_cases c2:t+1<i
   .rw [if_pos (by omega)]; exact hs _ _ (by omega) (by omega) (by omega)
   .rw [if_neg (by omega)]
    by_cases c3:t+1=i
    .rw [if_pos (by omega)]; simp_all[BfN]
    .rw [if_neg (by omega)]; exact hs _ _ (by omega) (by omega) (by omega)
  .rw [if_neg (by omega)]
   by_cases c2:s+1=i
   .rw [if_pos (by omega),if_neg (by omega),if_neg (by omega)]
    grind
   .rw [if_neg (by omega),if_neg (by omega),if_neg (by omega)]
    exact hs _ _ (by omega) h5 h6
 .rw [g t,if_neg (by omega),if_neg (by omega)]
 .rw [g t]
  split
  .exact ⟨t+1,by omega,by omega,rfl⟩
  .split
   .grind
   grind
theorem BfR{l:List Lq}{a m:Nat}(h2:a<m)(h3:m+1<=l.length)(hs:Srt l a m):Good l (dnF (bsF (fun c=>!decide (keyC (l.getD m d00) (l.getD c d00)<0)) m a m) m m l) a (m+1):=by
 have hbd:=ApF (fun c=>!decide (keyC (l.getD m d00) (l.getD c d00)<0)) m a m (by omega);obtain⟨s1,s2⟩:=AjM (P:=fun c=>!decide (keyC (l.getD m d00) (l.getD c d00)<0)) m a m (by omega) (by omega) fun x y hx hxy hy hp=>by
  rw[A5Z]at hp |-;exact le_trans (hs x y hx hxy hy) hp
 simp only[A5Z]at s1;have s2:∀ x,bsF (fun c=>!decide (keyC (l.getD m d00) (l.getD c d00)<0)) m a m<=x->x<m->kl (l.getD m d00) (l.getD x d00):=fun x h1 h4=>by
  grind[A5Y]
 generalize bsF (fun c=>!decide (keyC (l.getD m d00) (l.getD c d00)<0)) m a m=i at *;have g:=fun t=>BfQ i m m l t (by omega) (by omega) (by omega)
 refine⟨AuJ _ _ _ _ (by omega),fun s t h4 h5 h6=>?_,fun t ht=>?_,fun t h4 h5=>?_⟩
 .rw [g s,g t]
  by_cases c1:s<i
  .rw [if_neg (by omega),if_neg (by omega)]
   by_cases c2:i<t
   .rw [if_pos (by omega)]; exact hs.le' h4 (by omega) (by omega)
   .rw [if_neg (by omega)]
    by_cases c3:t=i
    .grind
    .rw [if_neg c3]; exact hs _ _ h4 h5 (by omega)
  .by_cases c2:s=i
   .rw [if_neg (by omega),if_pos c2,if_pos (by omega)]
    exact BfN (s2 (t-1) (by omega) (by omega))
   .rw [if_pos (by omega),if_pos (by omega)]
    exact hs.le' (by omega) (by omega) (by omega)
 .rw [g t,if_neg (by omega),if_neg (by omega)]
 .rw [g t]
  split
  .exact ⟨t-1,by omega,by omega,rfl⟩
  .split
   .grind
   .exact ⟨t,h4,h5,rfl⟩
