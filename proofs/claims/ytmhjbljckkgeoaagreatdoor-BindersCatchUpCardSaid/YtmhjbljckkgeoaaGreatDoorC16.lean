/- Numbers of scenes: what they are, divided, compared. -/
import Derived.Lib.AtoiErrMem
import Derived.Lib.AppendIntMem
import Derived.Test.YtmhjbljckkgeoaaGreatDoorC15
set_option maxRecDepth 100000
set_option maxHeartbeats 2000000
set_option linter.all false
namespace Go.Proofs.YtmhjbljckkgeoaaGreatDoor
open Av RowKit Proofs.Tryz
def digB(c:UInt8):Bool:=digI c.toNat
def capB(c:UInt8):Bool:=capI c.toNat
def digs(s:LU):LU:=s.takeWhile digB
def caps(s:LU):LU:=s.dropWhile digB
theorem AdD{p:UInt8->Bool}:∀ {s:LU}{k:Nat},k<=s.length->(s.take k).all p=true->(k=s.length\/p (s.getD k 0)=false)->s.takeWhile p=s.take k/\s.dropWhile p=s.drop k
 | [],k,hk,_,_=>by simp
 | c::s,0,_,_,e=>by
  simp_all
 | c::s,k+1,hk,h,e=>by
  simp only[lbk,las,lag]at h;have ih:=AdD (by simpa using hk) h.2 (by simpa using e)
  simp[h.1,ih.1,ih.2]
def numberL(s:LU):Bool :=
 (caps s).all capB&&(!(decide (((caps s).length:Int)>5)||Lib.hasSuffix (caps s) [65]) &&
  (if digs s=[48] then caps s != [] else decide (1<=(digs s).length)&&(decide ((digs s).length<=3)&&((s.getD 0 0).toNat:Int) != 48)))
theorem AcL(s:LU)(hs:s.length<1000000):Pc prog 63 [.str s] (· = .bool (numberL s)):=by
 refine AaJ (AaI func63 rfl ntmps63 hB63 (by simp) fun h ρ w=>go ntmps63 300 ?_);simp only[go_sem];refine AlB (κ:=Unit) (fun i=>s.length-i) (fun i=>[(3,.int .i64 i),(0,.str s)]) (fun _=>[]) (fun i=>i<=s.length/\(s.take i).all digB=true)
  (fun _=>[(3,.int .i64 (digs s).length),(0,.str s)]) (fun _=>[]) (fun _=>s=digs s++caps s) 0 ⟨by omega,by simp⟩ ?_ ?_ ?_
 .refine Ls ?_
  simp only[go_sem]
 .rintro-hd
  have hdl:(digs s).length<=s.length:=(congrArg List.length hd).symm▸by simp
  have edr:List.drop (digs s).length s=caps s:=(congrArg (List.drop (digs s).length) hd).trans (by simp);have etk:List.take (digs s).length s=digs s:=(congrArg (List.take (digs s).length) hd).trans (by simp);have hcl:(caps s).length<=s.length:=(congrArg List.length hd).symm▸by simp
  refine go ntmps63 300 ?_;simp only[go_sem,edr];refine⟨by omega,by omega,by omega,?_⟩;refine AlB (κ:=Unit) (fun i=>(caps s).length-i) (fun i=>[(23,.int .i64 i),(22,.int .i64 (caps s).length),(4,.str (caps s)),(3,.int .i64 (digs s).length),(0,.str s)]) (fun _=>[]) (fun i=>i<=(caps s).length/\((caps s).take i).all capB=true)
   (fun _=>[(4,.str (caps s)),(3,.int .i64 (digs s).length),(0,.str s)]) (fun _=>[]) (fun _=>(caps s).all capB=true) 0 ⟨by omega,by simp⟩ ?_ ?_ ?_
  .refine Ls ?_
   simp only[go_sem]
  .rintro-hc
   by_cases h5:((caps s).length:Int)>5
   .have d5:decide (((caps s).length:Int)>5)=true:=by grind
    refine go ntmps63 300 ?_;simp only[go_sem,d5];exact aret [2] rfl ⟨by grind[resV,Av.get,numberL],rfl⟩
   have d5:decide (((caps s).length:Int)>5)=false:=by grind
   refine go ntmps63 300 ?_;simp only[go_sem,d5];refine AaL (AbC (caps s) [65] (by omega)) rfl ntmps63 rfl (go ntmps63 300 ?_)
   cases e6:Lib.hasSuffix (caps s) [65]with
   | true =>
    simp only[go_sem];exact aret [2] rfl ⟨by grind[resV,Av.get,numberL],rfl⟩
   | false =>
   by_cases h7:digs s=[48]
   .have d7:(digs s==[48])=true:=by grind
    simp only[go_sem,etk,d7];refine⟨by omega,by omega,?_⟩;exact aret [2] rfl ⟨by grind[resV,Av.get,numberL],rfl⟩
   have d7:(digs s==[48])=false:=by grind
   by_cases h8:((digs s).length:Int)>=1
   .have d8:decide (((digs s).length:Int)>=1)=true:=by grind
    have d8':decide (1<=(digs s).length)=true:=by grind
    by_cases h9:((digs s).length:Int)<=3
    .have d9:decide (((digs s).length:Int)<=3)=true:=by grind
     have d9':decide ((digs s).length<=3)=true:=by grind
     simp only[go_sem,etk,d7,d8,d9];refine⟨by omega,by omega,by omega,?_⟩;exact aret [2] rfl ⟨by grind[resV,Av.get,numberL],rfl⟩
    .have d9:decide (((digs s).length:Int)<=3)=false:=by grind
     have d9':decide ((digs s).length<=3)=false:=by grind
     simp only[go_sem,etk,d7,d8,d9];refine⟨by omega,by omega,?_⟩;exact aret [2] rfl ⟨by grind[resV,Av.get,numberL],rfl⟩
   .have d8:decide (((digs s).length:Int)>=1)=false:=by grind
    have d8':decide (1<=(digs s).length)=false:=decide_eq_false (by omega);simp only[go_sem,etk,d7,d8];refine⟨by omega,by omega,?_⟩;exact aret [2] rfl ⟨by grind[resV,Av.get,numberL],rfl⟩
  .rintro i ⟨g1,g2⟩ J Q hJ hQ
   refine go ntmps63 300 ?_
   by_cases hi:(i:Int)<(caps s).length
   .have hil:i<(caps s).length:=by omega
    have hgd:(caps s).getD i 0=(caps s)[i]:=by grind
    simp only[go_sem,hi,hgd];refine⟨by omega,?_⟩;refine AaL (AbG _) rfl ntmps63 rfl (go ntmps63 300 ?_)
    cases c1:capI ((caps s)[i].toNat:Int)with
    | true =>
     simp only[go_sem];rw[ic i]
     repeat refine ao ?_
     refine ainv (hJ (i+1) ⟨by omega,AaK hil g2 c1⟩ (by omega)) (Ls ?_);simp only[go_sem]
    | false =>
     simp only[go_sem];exact aret [2] rfl ⟨by grind[resV,Av.get,numberL,all_false_at,capB],rfl⟩
   .simp only [go_sem,hi]
    have hall:(caps s).all capB=true:=by
     grind
    refine ainv (hQ () hall) (Ls ?_);simp only[go_sem]
 .rintro i ⟨g1,g2⟩ J Q hJ hQ
  have out:(i=s.length\/digB (s.getD i 0)=false)->((digs s).length=i/\s=digs s++caps s):=fun e=>by
   obtain⟨e1,e2⟩:=AdD g1 g2 e
   simp_all[digs,caps]
  refine go ntmps63 300 ?_
  by_cases hi:(i:Int)<s.length
  .have hil:i<s.length:=by omega
   have hgd:s.getD i 0=s[i]:=by grind
   simp only[go_sem,hi,hgd];refine⟨by omega,?_⟩;refine AaL (AkC _) rfl ntmps63 rfl (go ntmps63 300 ?_)
   cases c1:digI (s[i].toNat:Int)with
   | true =>
    simp only[go_sem];rw[ic i]
    repeat refine ao ?_
    refine ainv (hJ (i+1) ⟨by omega,AaK hil g2 c1⟩ (by omega)) (Ls ?_);simp only[go_sem]
   | false =>
    obtain⟨e1,e2⟩:=out (.inr (by rw[hgd]; exact c1));simp only[go_sem];refine ainv (hQ () e2) (Ls ?_);rw[e1];simp only[go_sem]
  .simp only [go_sem,hi]
   obtain⟨e1,e2⟩:=out (.inl (by omega));refine ainv (hQ () e2) (Ls ?_);rw[e1];simp only[go_sem]
def pN(s:LU):Int:=(Lib.atoi (digs s)).getD 0
def okD(s:LU):Prop:=1<=(digs s).length/\(digs s).length<=18
theorem A4I{c:UInt8}(h:digB c=true):Lib.digitVal c=some (c.toNat-48):=by
 grind[digB,digI,Lib.digitVal]
theorem AeM:∀ (l:LU)(acc:Nat),l.all digB=true->∃ n,Lib.decFrom acc l=some n
 | [],acc,_=>⟨acc,rfl⟩
 | c::l,acc,h=>by
  simp only[las,lag]at h;obtain⟨n,hn⟩:=AeM l (acc*10+(c.toNat-48)) h.2;exact⟨n,by rw[Lib.decFrom,A4I h.1]; exact hn⟩
theorem AfO(s:LU):(digs s).all digB=true:=List.all_takeWhile
theorem AdE{s:LU}(h:okD s):Lib.atoi (digs s)=some (pN s):=by
 obtain⟨n,hn⟩:=AeM (digs s) 0 (AfO s);have h1:=h.1;have ha:=AfO s;have key:Lib.atoi (digs s)=some (n:Int):=by
  cases hq:digs s with
  | nil=>grind
  | cons b r =>
   rw[hq]at hn ha;simp only[las,lag,digB,digI,laj]at ha;have b1:(b==45)=false:=by
    cases hb:b==45<;>simp_all
   have b2:(b==43)=false:=by
    cases hb:b==43<;>simp_all
   grind[Lib.atoi,Lib.decNat]
 grind[pN]
theorem AfA{w w':World}(b:Below w.heap.size w w'):Same w w':=⟨b.os,b.tape,⟨b.output,trivial⟩,b.size,b.block⟩
theorem AnH(s:LU):∀ h vs',RL h Lf0 true vs' [.str s]->vs'=[.string ⟨s.toArray⟩]:=by
 intro h vs' r
 cases r with|cons r1 r=>cases r; grind[rv_str]
theorem BrO(k:IntKind)(n:Int):∀ h vs',RL h Lf0 true vs' [.int k n]->vs'=[.int k n]:=by
 intro h vs' r
 cases r with|cons r1 r=>cases r; grind[BbH]
theorem BrP(s:LU)(k:IntKind)(n:Int):∀ h vs',RL h Lf0 true vs' [.str s,.int k n]->vs'=[.string ⟨s.toArray⟩,.int k n]:=by
 intro h vs' r
 cases r with|cons r1 r=>cases r with|cons r2 r=>cases r<;>grind[rv_str,BbH]
theorem AkE(s:LU)(n:Int)(hl:s.length<=18)(h:Lib.atoi s=some n):Pc prog 78 [.str s] (· = .tup [.int .i64 n,.raw .nilIface]) :=
 AlC [_] (.tuple #[.int .i64 n,.nilIface]) hB78 (AnH s) (fun h=>.tup [_,_] [_,_] (.cons (.int _ _) (.cons (.raw _) .nil)))
  fun w=>(Any.strconv_Atoi Tryz.lays172 ⟨s.toArray⟩ n (by grind[ByteArray.size]) h w).mono fun e w' ⟨h1,t,h2⟩=>⟨h1,h2▸AfA (Lib.bytesWorld_below _ _ _)⟩
theorem AeT(a b:LU):Pc prog 81 [.str a,.str b] (· = .int .i64 (Lib.compareBytes a b)) :=
 AlC [_,_] (.int .i64 (Lib.compareBytes a b)) hB81 (AcA a b) (fun h=>.int _ _) fun w=>(Any.strings_Compare Tryz.lays106 ⟨a.toArray⟩ ⟨b.toArray⟩ w).mono fun e w' ⟨h1,h2⟩=>⟨h1,h2▸.refl w⟩
theorem AdF(s:LU)(c:Nat)(hlen:s.length*c<=1000000)(hc:c<=1000000):Pc prog 222 [.str s,.int .i64 c] (· = .str (Lib.repeatL s c)) :=
 AlC [_,.int .i64 c] (.string ⟨(Lib.repeatL s c).toArray⟩) hB222 (BrP s .i64 c) (fun h=>.str _)
  fun w=>(Any.strings_Repeat Tryz.lays105 Tryz.Builder_Extra_105 ⟨s.toArray⟩ c w (by omega) (by grind[ByteArray.size])).mono fun e w' ⟨h1,h2⟩=>⟨h1,AfA h2⟩
theorem A4J(s:LU)(hs:s.length<1000000)(hd:okD s):Pc prog 85 [.str s] (· = .agg [.int .i64 (pN s),.str (caps s)]):=by
 refine AaJ (AaI func85 rfl ntmps85 hB85 (by simp) fun h ρ w=>go ntmps85 300 ?_);simp only[go_sem];refine AlB (κ:=Unit) (fun i=>s.length-i) (fun i=>[(3,.int .i64 i),(2,.ptr 0 1 0 0),(0,.str s)]) (fun _=>[.arr 2 [.agg [.int .i64 0,.str []]]]) (fun i=>i<=s.length/\(s.take i).all digB=true)
  (fun _=>[(3,.int .i64 (digs s).length),(2,.ptr 0 1 0 0),(0,.str s)]) (fun _=>[.arr 2 [.agg [.int .i64 0,.str []]]]) (fun _=>s=digs s++caps s) 0 ⟨by omega,by simp⟩ ?_ ?_ ?_
 .refine Ls ?_
  simp only[go_sem]
 .rintro-hd'
  have hdl:(digs s).length<=s.length:=(congrArg List.length hd').symm▸by simp
  have edr:List.drop (digs s).length s=caps s:=(congrArg (List.drop (digs s).length) hd').trans (by simp);have etk:List.take (digs s).length s=digs s:=(congrArg (List.take (digs s).length) hd').trans (by simp);refine go ntmps85 300 ?_;simp only[go_sem,etk];refine⟨by omega,by omega,?_⟩;refine AaL (AkE (digs s) (pN s) hd.2 (AdE hd)) rfl ntmps85 rfl (go ntmps85 300 ?_);simp only[go_sem,edr];refine⟨by omega,by omega,?_⟩;refine⟨by omega,AbF [.cell 2 124] rfl [.agg [.int .i64 (pN s),.str (caps s)]] ⟨?_,trivial⟩ ⟨rfl,rfl⟩⟩;simp only[go_sem,sideIs]
 .rintro i ⟨g1,g2⟩ J Q hJ hQ
  have out:(i=s.length\/digB (s.getD i 0)=false)->((digs s).length=i/\s=digs s++caps s):=fun e=>by
   obtain⟨e1,e2⟩:=AdD g1 g2 e
   simp_all[digs,caps]
  refine go ntmps85 300 ?_
  by_cases hi:(i:Int)<s.length
  .have hil:i<s.length:=by omega
   have hgd:s.getD i 0=s[i]:=by grind
   have hb:digB s[i]=(decide ((s[i].toNat:Int)>=48)&&decide ((s[i].toNat:Int)<=57)):=rfl
   cases c1:decide ((s[i].toNat:Int)>=48)with
   | true =>
    cases c2:decide ((s[i].toNat:Int)<=57)with
    | true =>
     simp only[go_sem,hi,hgd,c1,c2];rw[ic i]
     repeat refine ao ?_
     refine ainv (hJ (i+1) ⟨by omega,AaK hil g2 (by grind)⟩ (by omega)) (Ls ?_);simp only[go_sem]
    | false =>
     obtain⟨e1,e2⟩:=out (.inr (by grind));simp only[go_sem,hi,hgd,c1,c2]
     repeat refine ao ?_
     refine ainv (hQ () e2) (Ls ?_);rw[e1];simp only[go_sem]
   | false =>
    obtain⟨e1,e2⟩:=out (.inr (by grind));simp only[go_sem,hi,hgd,c1]
    repeat refine ao ?_
    refine ainv (hQ () e2) (Ls ?_);rw[e1];simp only[go_sem]
  .simp only [go_sem,hi]
   obtain⟨e1,e2⟩:=out (.inl (by omega));refine ainv (hQ () e2) (Ls ?_);rw[e1];simp only[go_sem]
theorem AlH(x:Int):Pc prog 131 [.int .i64 x] (· = .bool false):=by
 refine AaJ (AaI func131 rfl ntmps131 hB131 (by simp) fun h ρ w=>go ntmps131 300 ?_);simp only[go_sem];exact aret [2] rfl ⟨by grind[resV,Av.get],rfl⟩
def cmpI(x y:Int):Int:=if x<y then -1 else if x>y then 1 else 0
theorem AkF(x y:Int):Pc prog 80 [.int .i64 x,.int .i64 y] (· = .int .i64 (cmpI x y)):=by
 refine AaJ (AaI func80 rfl ntmps80 hB80 (by simp) fun h ρ w=>go ntmps80 300 ?_);simp only[go_sem];refine AaL (AlH _) rfl ntmps80 rfl (go ntmps80 300 ?_);simp only[go_sem];refine AaL (AlH _) rfl ntmps80 rfl (go ntmps80 300 ?_)
 by_cases h1:x<y
 .have d1:decide (x<y)=true:=by grind
  simp only[go_sem,d1];exact aret [4] rfl ⟨by grind[resV,Av.get,cmpI],rfl⟩
 have d1:decide (x<y)=false:=by grind
 by_cases h2:x>y
 .have d2:decide (x>y)=true:=by grind
  simp only[go_sem,d1,d2];exact aret [4] rfl ⟨by grind[resV,Av.get,cmpI],rfl⟩
 have d2:decide (x>y)=false:=by grind
 simp only[go_sem,d1,d2];exact aret [4] rfl ⟨by grind[resV,Av.get,cmpI],rfl⟩
def orI(x y:Int):Int:=if x=0 then y else x
theorem BrQ(x y:Int):Pc prog 79 [.fz 1 [.int .i64 x,.int .i64 y]] (· = .int .i64 (orI x y)):=by
 refine AaJ (AaI func79 rfl ntmps79 hB79 (by simp) fun h ρ w=>go ntmps79 300 ?_);simp only[go_sem];refine AcE (around (go ntmps79 300 ?_))
 by_cases h1:x=0
 .have d1:(x != 0)=false:=by grind
  simp only[go_sem,d1];refine AdY (around (go ntmps79 300 ?_))
  by_cases h2:y=0
  .have d2:(y != 0)=false:=by grind
   simp only[go_sem,d2];refine AdY (around (go ntmps79 300 ?_));simp only[go_sem];exact aret [2] rfl ⟨by grind[resV,Av.get,orI],rfl⟩
  have d2:(y != 0)=true:=by grind
  simp only[go_sem,d2];exact aret [2] rfl ⟨by grind[resV,Av.get,orI],rfl⟩
 have d1:(x != 0)=true:=by grind
 simp only[go_sem,d1];exact aret [2] rfl ⟨by grind[resV,Av.get,orI],rfl⟩
def compareN(a b:LU):Int:=orI (cmpI (pN a) (pN b)) (Lib.compareBytes (caps a) (caps b))
theorem compareN_pc(a b:LU)(ha:a.length<1000000)(hb:b.length<1000000)(da:okD a)(db:okD b):Pc prog 40 [.str a,.str b] (· = .int .i64 (compareN a b)):=by
 refine AaJ (AaI func40 rfl ntmps40 hB40 (by simp) fun h ρ w=>go ntmps40 300 ?_);simp only[go_sem];refine AaL (A4J a ha da) rfl ntmps40 rfl (go ntmps40 300 ?_);simp only[go_sem];refine AaL (A4J b hb db) rfl ntmps40 rfl (go ntmps40 300 ?_);simp only[go_sem];refine BqW [.int .i64 (cmpI (pN a) (pN b)),.int .i64 (Lib.compareBytes (caps a) (caps b)),.int .i64 (compareN a b)] AaF (by decide) ntmps40 (by decide) 100 ?_;simp only[go_sem];have ho:=BrQ (cmpI (pN a) (pN b)) (Lib.compareBytes (caps a) (caps b));refine⟨(AkF _ _).at,rfl,rfl,(AeT _ _).at,rfl,rfl,ho.at,rfl,?_⟩;refine go ntmps40 300 ?_;simp only[go_sem];exact aret [4] rfl ⟨by grind[resV,Av.get],rfl⟩
def lowestL(n:Nat):LU:=Lib.repeatL [65] (n-1)++[66]
abbrev bys(l:LU):LY:=l.map fun b=>.int .u8 b.toNat
theorem A0S{l:LU}{k:Nat}(h:k<l.length):(bys l).getD k .any=.int .u8 (l.getD k 0).toNat:=by grind
theorem bys_set(l:LU)(k:Nat)(x:UInt8):(bys l).set k (.int .u8 x.toNat)=bys (l.set k x):=by simp_all
theorem bys_len(l:LU):(bys l).length=l.length:=by simp
theorem AsW(l:LU):(bys l).all AeV=true/\(bys l).map Go.Av.AkZ=l:=by
 refine⟨by grind[AeV],?_⟩
 induction l<;>simp_all[Go.Av.AkZ]
def bumpR:LU->Option LU
 | []=>none
 | c::r=>if c=90 then(bumpR r).map (65::·) else some ((c+1)::r)
def fixR:LU->LU
 | []=>[]
 | c::r=>(if c=65 then 66 else c)::r
def aboveL(c:LU)(n:Nat):LU :=
 if c.length<n then c++lowestL (n-c.length) else
  match bumpR (c.take n).reverse with
  | none=>[]
  | some r=>(fixR r).reverse
theorem bump_run(p:LU):∀ j,bumpR (List.replicate j 90++p)=(bumpR p).map (List.replicate j 65 ++ ·)
 | 0=>by simp_all
 | j+1=>by
  rw[List.replicate_succ,lbc,bumpR,if_pos rfl,bump_run p j]
  cases bumpR p <;> simp[List.replicate_succ]
theorem BbS{c:LU}{n j:Nat}(hj:j<=n)(hn:n<=c.length)(h:∀ i,n-j<=i->i<n->c.getD i 0=90):c.take n=c.take (n-j)++List.replicate j 90:=by
 refine lbo fun i=>?_<;>grind
theorem BoV{c:LU}{k:Nat}(hk:k<c.length):c.take (k+1)=c.take k++[c.getD k 0]:=by
 simp_all
theorem BbT{c:LU}{n:Nat}(hn:n<=c.length)(h:∀ i,n-n<=i->i<n->c.getD i 0=90):bumpR (c.take n).reverse=none:=by
 rw[BbS (lab n) hn h];have:=bump_run [] n
 grind[bumpR]
theorem BbU{c:LU}{n j:Nat}(hj:j<n)(hn:n<=c.length)(h:∀ i,n-j<=i->i<n->c.getD i 0=90)(hk:c.getD (n-1-j) 0≠90) :
  bumpR (c.take n).reverse=some (List.replicate j 65++(c.getD (n-1-j) 0+1)::(c.take (n-1-j)).reverse):=by
 rw[BbS (Nat.le_of_lt hj) hn h,List.reverse_append,List.reverse_replicate,show n-j=(n-1-j)+1 by omega,BoV (by omega),List.reverse_append,List.reverse_singleton,List.singleton_append,bump_run,bumpR,if_neg hk];rfl
theorem BkC{l:LU}{n:Nat}(h0:1<=n)(hl:l.length=n):(fixR l.reverse).reverse=if l.getD (n-1) 0=65 then l.set (n-1) 66 else l:=by
 obtain⟨r,x,rfl⟩:∃ r x,l=r++[x]:=⟨l.dropLast,l.getLast (by grind),(List.dropLast_concat_getLast _).symm⟩;have hr:n-1=r.length:=by grind
 rw[hr];simp only[List.reverse_append,List.reverse_singleton,List.singleton_append,fixR]
 grind
theorem AeN{S:Std}(hS:LibOk S)(n:Int)(h0:-9223372036854775808<=n)(h1:n<=9223372036854775807):PcH prog S 106 [.int .i64 n] (· = .str (Lib.itoa n)) :=
 AsO [_] (.string ⟨(Lib.itoa n).toArray⟩) hB106 (BrO .i64 n) (fun h=>.str _) fun w H=>by
  obtain⟨t,z,hp⟩:=hS.pow10;refine(Any.strconv_Itoa Tryz.laysM171 n h0 h1 w ?_).mono fun e w' ⟨e1,k,os,e2⟩=>⟨e1,e2▸AfA (Lib.below_grow _ _ (lab _) _ _)⟩
  show w.var? _ _=_
  have hg:prog.globalNamed "internal/strconv.uint64pow10" = some 5:=by kernel_rfl
  simp only[World.var?,hg,Option.bind_some,H _ _ hp]
def dig3(d:Int):LU :=
 if d.toNat<10 then[UInt8.ofNat (48+d.toNat)] else if d.toNat<100 then[UInt8.ofNat (48+d.toNat / 10),UInt8.ofNat (48+d.toNat%10)]
 else[UInt8.ofNat (48+d.toNat / 100),UInt8.ofNat (48+d.toNat / 10%10),UInt8.ofNat (48+d.toNat%10)]
theorem itoa_dig3{d:Int}(h0:0<=d)(h1:d<=999):Lib.itoa d=dig3 d:=by
 grind[Lib.itoa,dig3,Lib.decDigits]
theorem AsX(d:Int):1<=(dig3 d).length/\(dig3 d).length<=3:=by
 grind[dig3]
theorem BrR{n:Nat}(h:n<10):digB (UInt8.ofNat (48+n))=true:=by
 have:(UInt8.ofNat (48+n)).toNat=48+n:=by simp; omega
 grind[digB,digI]
theorem A4K{d:Int}(h0:0<=d)(h1:d<=999):(dig3 d).all digB=true:=by
 grind[dig3,BrR]
def nextX(a:LU)(n:Nat):Int×LU :=
 if a=[] then(if n=0 then(1,[]) else(0,lowestL n))
 else if n=0 then(pN a+1,[])
 else if aboveL (caps a) n=[] then(pN a+1,lowestL n) else(pN a,aboveL (caps a) n)
def ApX(a:LU)(n:Nat):LU:=if(nextX a n).1>999 then[] else dig3 (nextX a n).1++(nextX a n).2
def okA(a:LU):Prop:=a=[]\/(okD a/\a.length<1000/\(caps a).all capB=true/\0<=pN a/\pN a<1000000)
theorem BoW{l:LU}(h:l.all capB=true):∀ x∈l,x.toNat<=90:=by grind[capB,capI]
theorem AkG(n:Nat):(lowestL n).length<=n+1:=by grind[lowestL,Lib.repeatL_length]
theorem AsY:∀ (l r:LU),bumpR l=some r->r.length=l.length
 | [],r,h=>by grind[bumpR]
 | c::l,r,h=>by
  unfold bumpR at h
  split at h
  .cases hq:bumpR l with
   | none=>simp[hq]at h
   | some r'=>simp[hq]at h; subst h; simp[AsY l r' hq]
  .simp at h; subst h; simp
theorem fix_len(l:LU):(fixR l).length=l.length:=by cases l <;> rfl
theorem above_len(c:LU)(n:Nat):(aboveL c n).length<=c.length+n+1:=by
 unfold aboveL
 split
 .grind[AkG]
 .split
  .simp
  .rename_i r hr
   have:=AsY _ _ hr
   grind[fix_len]
theorem A0T{a:LU}{n:Nat}(hn:n<=100)(ha:okA a):0<=(nextX a n).1/\(nextX a n).1<=1000001/\(nextX a n).2.length<=100000:=by
 have hl:=AkG n
 by_cases h0:a=[]
 .grind[nextX]
 .obtain ⟨ho,hal,hc,h1,h2⟩:=ha.resolve_left h0
  grind[caps,List.dropWhile_suffix,above_len,nextX]
theorem cap_iff{x:UInt8}:capB x=true ↔ 65<=x.toNat/\x.toNat<=90:=by
 grind[capB,capI]
theorem BrS(n:Nat):(Lib.repeatL [65] n).all capB=true:=by
 induction n with
 | zero=>rfl
 | succ n ih=>simp only[Lib.repeatL,List.all_append,ih]; rfl
theorem lowest_cap(n:Nat):(lowestL n).all capB=true:=by
 simp only[lowestL,List.all_append,BrS]; rfl
theorem A4L:∀ (l r:LU),bumpR l=some r->l.all capB=true->r.all capB=true
 | [],r,h,_=>by grind[bumpR]
 | c::l,r,h,hc=>by
  simp only[las,lag]at hc;unfold bumpR at h
  split at h
  .cases hq:bumpR l with
   | none=>simp[hq]at h
   | some r' =>
    simp[hq]at h; subst h
    simp only[las,A4L l r' hq hc.2,lau]; rfl
  .rename_i h90
   simp at h; subst h
   have h1:=cap_iff.1 hc.1;have h2:c.toNat≠90:=fun e=>h90 (UInt8.toNat_inj.1 e)
   have h3:(c+1).toNat=(c.toNat+1)%256:=by rfl
   have h4:capB (c+1)=true:=cap_iff.2 (by omega);simp only[las,h4,hc.2,lbh]
theorem fix_cap(l:LU)(h:l.all capB=true):(fixR l).all capB=true:=by
 cases l with
 | nil=>rfl
 | cons c l =>
  simp only[las,lag]at h;simp only[fixR,las,h.2,lau]
  split
  .rfl
  grind
theorem AwH{c:LU}(h:c.all capB=true)(n:Nat):(aboveL c n).all capB=true:=by
 grind[aboveL,lowest_cap,fix_cap,A4L]
theorem BbV{a:LU}(n:Nat)(h:(caps a).all capB=true):(nextX a n).2.all capB=true:=by
 grind[nextX,lowest_cap,AwH]
theorem AwI{d c:LU}(hd:d.all digB=true)(hc:c.all capB=true):digs (d++c)=d/\caps (d++c)=c:=by
 have h:=AdD (p:=digB) (s:=d++c) (k:=d.length) (by simp) (by grind) (by
  grind[cap_iff,digB,digI])
 grind[digs,caps]
theorem AqQ:∀ (l:LU)(acc n:Nat),Lib.decFrom acc l=some n->n<(acc+1)*10 ^ l.length
 | [],acc,n,h=>by grind[Lib.decFrom]
 | c::l,acc,n,h=>by
  unfold Lib.decFrom at h
  split at h
  .rename_i d hd
   have ih:=AqQ l _ _ h;have:d<=9:=by
    grind[Lib.digitVal]
   refine Nat.lt_of_lt_of_le ih ?_;rw[lal,Nat.pow_succ,Nat.mul_comm (10 ^ l.length) 10,<- Nat.mul_assoc];exact lbg _ (by omega)
  grind
theorem BkD{a:LU}(h:okD a):0<=pN a/\pN a<((10 ^ (digs a).length:Nat):Int):=by
 obtain⟨n,hn⟩:=AeM (digs a) 0 (AfO a);have hlt:=AqQ _ _ _ hn;have hat:=AdE h;have h1:=h.1;have ha:=AfO a;have key:pN a=(n):=by
  cases hq:digs a with
  | nil=>grind
  | cons b r =>
   rw[hq]at hn ha hat;simp only[las,lag,digB,digI,laj]at ha;have b1:(b==45)=false:=by
    cases hb:b==45<;>simp_all
   have b2:(b==43)=false:=by
    cases hb:b==43<;>simp_all
   grind[Lib.atoi,Lib.decNat]
 omega
theorem AaM{a:LU}(h:numberL a=true):okD a/\(digs a).length<=3/\(caps a).length<=5/\(caps a).all capB=true:=by
 grind[numberL,okD]
theorem AbD(s:LU):s=digs s++caps s:=by simp[digs,caps]
theorem number_okA{a:LU}(h:numberL a=true):okD a/\a.length<1000/\(caps a).all capB=true/\0<=pN a/\pN a<1000000:=by
 obtain⟨h1,h2,h3,h4⟩:=AaM h;have hl:=congrArg List.length (AbD a);have hp:=BkD h1;have:10 ^ (digs a).length<=10 ^ 3:=Nat.pow_le_pow_right (by omega) h2
 grind
theorem clone0_pc:Pc prog 148 [.fz 5 []] (· = .fz 5 []):=by
 refine zpIN func148 rfl fun h ρ w=>?_
 simp only[go_sem];intro b;apply zgN
 cases b with
 | true =>
  simp only[go_sem];exact ARet.shift (Shift.nilfz 2 5 rfl) (aret [2] rfl ⟨rfl,rfl⟩)
 | false =>
  simp only[go_sem];refine⟨.inl trivial,?_⟩;exact ARet.shift (Shift.freeze 2 (id:=0) rfl rfl rfl (lab _) rfl) (aret [2] rfl ⟨rfl,rfl⟩)
theorem AmC(x:Sc)(xs:List Sc)(hl:xs.length<=100000) :
  Ct prog 148 [.fz 5 ((x::xs).map scA)] [] (fun r s=>r=.sl 0 0 (x::xs).length (x::xs).length/\s=[.arr 5 ((x::xs).map scA)]):=by
 refine zcIN func148 rfl fun h ρ w=>?_
 simp only[go_sem,scA];refine⟨by simp,by simp; omega,by simp; omega,aret [2] rfl ⟨by simp[resV,Av.get,scA],rfl⟩⟩
def nm(i:Nat)(x:Sc):Sc:={ x with no:=Lib.itoa ((i:Int)+1) }
def numL:Nat->List Sc->List Sc
 | _,[]=>[]
 | i,x::r=>nm i x::numL (i+1) r
def numR(x:Sr):Sr:=⟨x.Lk,numL 0 x.Lc⟩
theorem AwJ{S:Std}(hS:LibOk S)(x:Sr)(hl:x.Lc.length<=1000):PcH prog S 102 [srA x] (· = srA (numR x)):=by
 obtain⟨ti,xs⟩:=x
 cases xs with
 | nil =>
  simp only[srA,lao,numR,numL];refine zqIN func102 rfl fun h ρ w hg=>?_
  simp only[go_sem];refine AfW [] 99 [.fz 5 []] AaF (by decide) rfl rfl 100 ?_;simp only[go_sem];refine⟨clone0_pc.at,rfl,?_⟩;apply zgN;simp only[go_sem];refine AcE (around (zgN ?_));simp only[go_sem];exact AbF [.cell 2 30] rfl [_] ⟨by simp only[go_sem,sideIs],trivial⟩ ⟨rfl,rfl⟩
 | cons x xs =>
  simp only[srA];refine zqIN func102 rfl fun h ρ w hg=>?_
  simp only[go_sem];refine AWp.shift (Lr 5) ?_;refine AfW [4] 2 [] AaF (by decide) rfl rfl 100 ?_;simp only[go_sem];have hfro:(flat ((x::xs).map scA)).all Av.frozen=true:=AaG (x::xs);refine AnD (AmC x xs (by simp at hl |-; omega)) (by simp) (by simp) rfl hfro rfl ?_;simp only[go_sem];apply zgN;simp only[go_sem];refine⟨by simp,?_⟩;have hys:AV.fz 5 (List.map scA (numR ⟨ti,x::xs⟩).Lc)=.fz 5 (List.map scA (numL 0 (x::xs))):=rfl;rw[hys];clear hys;have hl':xs.length+1<=1000:=by simpa using hl
  have hnum:∃ out,numL 0 (x::xs)=out:=⟨_,rfl⟩;obtain⟨out,hout⟩:=hnum;rw[hout];refine AaC (ι:=List Sc×List Sc) (fun y=>y.2.length)
   (fun y=>[(14,.int .i64 y.1.length),(13,.int .i64 ↑(xs.length+1)),(3,.ptr 3 1 0 0),(2,.ptr 1 1 0 0)])
   (fun y=>[.arr 2 [.agg [.str ti,.fz 5 (scA x::List.map scA xs)]],.arr 2 [.agg [.str [],.raw (.slice none 0 0)]],.arr 5 (List.map scA (y.1++y.2)),.arr 2 [.agg [.str ti,.sl 2 0 (xs.length+1) (xs.length+1)]]])
   (fun y=>y.1.length+y.2.length=xs.length+1/\y.1++numL y.1.length y.2=out) ([],x::xs) ⟨by simp,hout⟩ ?_ ?_
  .refine Ls ?_
   simp only[go_sem]
  .rintro ⟨dn,rest⟩ ⟨g1,g2⟩ J hJ
   simp only at g1 g2 hJ |-
   cases rest with
   | cons y r =>
    have di:decide ((dn.length:Int)<((xs.length+1:Nat):Int))=true:=by simp at g1 |-; omega
    apply zgN;simp only[go_sem,di];refine zr [.str (Lib.itoa ((dn.length:Int)+1))] AaF ?_;have hx:List.getD (List.map scA (dn++y::r)) dn.length .any=.agg [.str y.no,.int .i64 y.place,.str y.set,.int .i64 y.time,.fz 2 (y.Ld.map paA)]:=by simp[List.getD,scA]
    simp only[go_sem,hx];refine⟨by omega,by omega,(AeN hS _ (by omega) (by omega)).at hg,rfl,by simp at g1 |-; omega,by omega,by simp at g1 |-; omega,by omega,by simp,?_⟩;have hset:(List.map scA (dn++y::r)).set dn.length (.agg [.str (Lib.itoa ((dn.length:Int)+1)),.int .i64 y.place,.str y.set,.int .i64 y.time,.fz 2 (y.Ld.map paA)])=List.map scA ((dn++[nm dn.length y])++r):=by
     simp[nm,scA]
    rw[hset];apply zgN;simp only[go_sem];refine⟨by omega,by omega,?_⟩;rw[show(dn.length:Int)+1=((dn++[nm dn.length y]).length:Int) by simp];refine ainv (hJ (dn++[nm dn.length y],r) ⟨by simp at g1 |-; omega,by rw[<- g2]; simp[numL]⟩ (by simp)) (Ls ?_);simp only[go_sem]
   | nil =>
    have di:decide (((xs.length+1:Nat):Int)<((xs.length+1:Nat):Int))=false:=by simp
    simp only[lbp,numL]at g2 |-;subst g2;have hn:dn.length=xs.length+1:=by simpa using g1
    refine AWp.shift (Shift.frz 2 rfl (AaG dn)) ?_;simp only[go_sem,frzE,frz,frz1,frzC,frzB,laa,hn,lab];have:List.take (xs.length+1) (List.map scA dn)=List.map scA dn:=lae (by simp; omega);simp only[this];apply zgN;simp only[go_sem,di];exact AbF [.cell 2 30] rfl [_] ⟨by simp only[go_sem,sideIs,numR],trivial⟩ ⟨rfl,rfl⟩
def DIG:LU:=[48,49,50,51,52,53,54,55,56,57]
def CAPS:LU:=[65,66,67,68,69,70,71,72,73,74,75,76,77,78,79,80,81,82,83,84,85,86,87,88,89,90]
theorem AwK{S:Std}(hS:LibOk S):PcH prog S 78 [.str []] (· = .tup [.int .i64 0,.any]):=by
 refine⟨hB78,fun h w vs' hg hm hv=>?_⟩;have:=AnH [] h vs' hv;subst this;obtain⟨te,pe,t,z,hs⟩:=hS.syn;have hcell:=(Lib.cell_of_heap (hg _ _ hs) 0).trans rfl;refine(Any.strconv_Atoi_err Tryz.laysC172 ⟨#[]⟩ (by decide) rfl (.iface te pe) w hcell (.inr ⟨te,pe,rfl⟩)).mono ?_;rintro e w' ⟨N,rfl,_,_,hb⟩;have hs:=AfA hb;exact⟨_,_,h,rfl,rfl,fun b o v e=>⟨hs.cell (hm b o v e).1,(hm b o v e).2⟩,fun _ _ _ x=>x,fun b o e n=>(n e).elim,hs,.tup [_,_] [_,_] (.cons (.int _ _) (.cons (.any _) .nil))⟩
theorem AiV(s:LU)(hs:s.length<1000000)(h0:Lib.trimLeftS s DIG=[]):Pc prog 75 [.str s] (· = .tup [.str s,.str []]):=by
 refine zpIN func75 rfl fun h ρ w=>?_
 simp only[go_sem];refine zpN (AnC s DIG (by decide) (AbS (by decide))) ?_;rw[h0];have:List.take s.length s=s:=lap;simp only[go_sem,this];refine⟨by omega,by omega,by omega,by omega,?_⟩;refine aret [2,3] rfl ⟨?_,rfl⟩
 simp[resV,Av.get]
theorem BrT(s:LU)(a b:Int)(h1:a<=s.length)(h2:s.length<=b):Pc prog 76 [.str s,.int .i64 a,.int .i64 b] (· = .bool true):=by
 have d1:decide ((s.length:Int)>=a)=true:=by simpa using h1
 have d2:decide ((s.length:Int)<=b)=true:=by simpa using h2
 refine zpIN func76 rfl fun h ρ w=>?_
 simp only[go_sem,d1,d2];exact zt [6]
theorem BkE:Pc prog 77 [.str [],.str CAPS] (· = .bool true):=by
 refine zpIN func77 rfl fun h ρ w=>?_
 simp only[go_sem];refine zpN (A0L [] CAPS (by decide) (by decide) (AbS (by decide))) ?_;rw[show Lib.trimS [] CAPS=[] from rfl];simp only[go_sem];exact zt [4]
theorem A0U(s:LU)(h0:Lib.trimLeftS s DIG=[])(h1:1<=s.length)(h2:s.length<=3)(h3:s.getD 0 0≠48):Pc prog 30 [.str s] (· = .bool true):=by
 have d3:(((s.getD 0 0).toNat:Int) != 48)=true:=by
  simp only[bne_iff_ne,ne_eq];intro e;exact h3 (UInt8.toNat_inj.1 (by simpa using(show(s.getD 0 0).toNat=48 by omega)))
 refine zpIN func30 rfl fun h ρ w=>?_
 simp only[go_sem];refine zpN (AiV s (by omega) h0) ?_;simp only[go_sem];refine zpN (BrT s 1 3 (by omega) (by omega)) ?_;simp only[go_sem];refine zpN (BkE) ?_;simp only[go_sem];refine zpN (AbC [] [65] (by simp)) ?_;rw[show Lib.hasSuffix [] [65]=false from rfl];simp only[go_sem,d3];refine⟨by omega,?_⟩;exact zt [2]
theorem BbW(s:LU)(m:Int)(h0:Lib.trimLeftS s DIG=[])(h1:s.length<=18)(h2:Lib.atoi s=some m):Pc prog 31 [.str s,.str [57]] (· = .int .i64 (orI (cmpI m 9) 0)):=by
 refine zpIF func31 rfl fun h ρ w=>?_
 simp only[go_sem];refine zpF (AiV s (by omega) h0) ?_;simp only[go_sem];refine zpF (AiV [57] (by simp) rfl) ?_;simp only[go_sem];refine zpF (AkE s m h1 h2) ?_;simp only[go_sem];refine zpF (AkE [57] 9 (by simp) rfl) ?_;simp only[go_sem];refine zpF (AkF m 9) ?_;simp only[go_sem];refine zpF (AeT [] []) ?_;rw[show Lib.compareBytes [] []=0 from rfl];simp only[go_sem];refine zpF (BrQ (cmpI m 9) 0) ?_;simp only[go_sem];exact zt [4]
def AcX(n:Nat):LU:=if n=0 then[] else dig3 n
theorem AkH(j:Nat)(hj:j<5):Lib.trimLeftS (AcX j) DIG=[]/\(AcX j).length<=3/\(j≠0->Lib.atoi (AcX j)=some (j:Int)) /\
  Lib.trimLeftS (dig3 ((j:Int)+1)) DIG=[]/\(dig3 ((j:Int)+1)).length=1/\(dig3 ((j:Int)+1)).getD 0 0≠48/\Lib.atoi (dig3 ((j:Int)+1))=some ((j:Int)+1)/\(dig3 ((j:Int)+1)==[])=false/\AcX (j+1)=dig3 ((j:Int)+1):=by
 have:j=0\/j=1\/j=2\/j=3\/j=4:=by omega
 rcases this with rfl|rfl|rfl|rfl|rfl <;> exact⟨by decide,by decide,by decide,by decide,by decide,by decide,by decide,by decide,by decide⟩
theorem AsZ{S:Std}(hS:LibOk S)(j:Nat)(hj:j<5)(b:LU)(hb:b=[]\/b=[57]):PcH prog S 108 [.str (AcX j),.str b] (· = .tup [.str (AcX (j+1)),.bool true]):=by
 obtain⟨f1,f2,f3,f4,f5,f6,f7,f8,f9⟩:=AkH j hj;rw[f9];have hit:=AeN hS ((j:Int)+1) (by omega) (by omega);rw[itoa_dig3 (by omega) (by omega)]at hit;have ho:=BbW (dig3 ((j:Int)+1)) ((j:Int)+1) f4 (by omega) f7;have hc:orI (cmpI ((j:Int)+1) 9) 0=-1:=by
  have:cmpI ((j:Int)+1) 9=-1:=by unfold cmpI; rw[if_pos (by omega)]
  rw[this]; rfl
 rw[hc]at ho;have hn:=A0U (dig3 ((j:Int)+1)) f4 (by omega) (by omega) f6;generalize dig3 ((j:Int)+1)=x at *;refine zqIN func108 rfl fun h ρ w hg=>?_
 simp only[go_sem];refine zpN (AiV (AcX j) (by omega) f1) ?_;simp only[go_sem]
 by_cases h0:j=0
 .subst h0
  refine zqN hg (AwK hS) ?_;simp only[go_sem];refine AcE (around (zgN ?_));simp only[go_sem];refine zqN hg (hit) ?_;simp only[go_sem];refine⟨.inl trivial,?_⟩;refine AcE (around (zgN ?_));simp only[go_sem];refine zpN (hn) ?_;simp only[go_sem]
  rcases hb with rfl|rfl
  .simp only [go_sem]
   exact zt [4,5]
  .simp only [go_sem]
   refine zpN (ho) ?_;simp only[go_sem];exact zt [4,5]
 .refine zpN (AkE (AcX j) j (by omega) (f3 h0)) ?_
  simp only[go_sem];refine AcE (around (zgN ?_));simp only[go_sem];refine⟨by omega,by omega,?_⟩;refine zqN hg (hit) ?_;simp only[go_sem];refine⟨.inl trivial,?_⟩;refine AcE (around (zgN ?_));simp only[go_sem];refine zpN (hn) ?_;simp only[go_sem]
  rcases hb with rfl|rfl
  .simp only [go_sem]
   exact zt [4,5]
  .simp only [go_sem]
   refine zpN (ho) ?_;simp only[go_sem];exact zt [4,5]
structure SceneOk(x:Sc):Prop where
 set:isSetL x.set=true
 len:x.set.length<1000000
 many:x.Ld.length<1000000
 run:∃ e,runL 0 x.Ld=some e/\e≠2/\e≠3
theorem ApY{S:Std}(hS:LibOk S)(x:Sc)(hx:SceneOk x):PcH prog S 64 [scA x] (· = .int .i64 0):=by
 obtain⟨e,hr,h2,h3⟩:=hx.run;have h4:=hx.many;simp only[scA];refine zqIN func64 rfl fun h ρ w hg=>?_
 simp only[go_sem];refine zqN hg (AnB hS x.set hx.len) ?_;rw[hx.set];simp only[go_sem];refine AaC (ι:=Nat×Int) (fun y=>x.Ld.length-y.1)
  (fun y=>[(14,.int .i64 y.1),(13,.int .i64 x.Ld.length),(12,.fz 2 (x.Ld.map paA)),(3,.int .i64 y.2)])
  (fun _=>[.arr 5 [.agg [.str x.no,.int .i64 x.place,.str x.set,.int .i64 x.time,.fz 2 (x.Ld.map paA)]]])
  (fun y=>y.1<=x.Ld.length/\runL y.2 (x.Ld.drop y.1)=some e) (0,0) ⟨by simp,hr⟩ ?_ ?_
 .refine Ls ?_
  simp only[go_sem,laa]
 .rintro ⟨i,l⟩ ⟨g1,g2⟩ J hJ
  simp only at g1 g2 hJ |-
  by_cases gi:i<x.Ld.length
  .have di:decide ((i:Int)<(x.Ld.length:Int))=true:=by simp; omega
   have hd:x.Ld.drop i=x.Ld[i]::x.Ld.drop (i+1):=lbl gi;rw[hd]at g2;simp only[runL]at g2
   split at g2
   rotate_left
   .cases g2
   rename_i hp;simp only[lag]at hp;have hg':List.getD (List.map paA x.Ld) i .any=.agg [.int .i64 x.Ld[i].kind,.str x.Ld[i].text]:=by simp[List.getD,gi,paA]
   have hpf:=AsP hS x.Ld[i] hp.1;simp only[paA]at hpf;apply zgN;simp only[go_sem,di,hg'];refine⟨by omega,by simpa using gi,by simpa using gi,?_⟩;refine zqN hg (hpf) ?_;simp only[go_sem];refine zpN (A7G x.Ld[i].kind l) ?_;rw[hp.2];simp only[go_sem];refine⟨by omega,by omega,?_⟩;rw[ic i];refine ainv (hJ (i+1,x.Ld[i].kind) ⟨by simp only; omega,g2⟩ (by simp only; omega)) (Shift.low 1 (by simp) (by simp) ?_ ?_)
   .simp only[go_sem,lowB,flat]
   .simp only [go_sem]
  .have di:decide ((i:Int)<(x.Ld.length:Int))=false:=by simp; omega
   have:i=x.Ld.length:=by omega
   subst this;rw[List.drop_length]at g2;simp only[runL,lbr]at g2;subst g2;have q2:(l==2)=false:=by simpa using h2
   have q3:(l==3)=false:=by simpa using h3
   apply zgN;simp only[go_sem,di,q2,q3];exact zt [2]
