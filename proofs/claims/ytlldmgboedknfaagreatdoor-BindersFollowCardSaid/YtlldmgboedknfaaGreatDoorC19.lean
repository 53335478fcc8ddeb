/- Numbers of scenes: what they are, divided, compared. -/
import Derived.Test.YtlldmgboedknfaaGreatDoorC18
import Derived.Lib.AtoiErrMem
import Derived.Lib.AppendIntMem
set_option maxRecDepth 100000
set_option maxHeartbeats 1000000
set_option linter.unusedSimpArgs false
set_option linter.unusedVariables false
namespace Go.Proofs.YtlldmgboedknfaaGreatDoor
open Go Go.Av Go.RowKit _root_.Go.Proofs.Tryz
def digB(c:UInt8):Bool:=digI c.toNat
def capB(c:UInt8):Bool:=capI c.toNat
def digs(s:List UInt8):List UInt8:=s.takeWhile digB
def caps(s:List UInt8):List UInt8:=s.dropWhile digB
theorem AdF{p:UInt8->Bool}:∀ {s:List UInt8}{k:Nat},k<=s.length->(s.take k).all p=true->(k=s.length\/p (s.getD k 0)=false)->s.takeWhile p=s.take k/\s.dropWhile p=s.drop k
 | [],k,hk,_,_=>by simp
 | c::s,0,_,_,e=>by
  rcases e with e|e
  .simp at e
  .simp at e; simp[e]
 | c::s,k+1,hk,h,e=>by
  simp only[List.take_succ_cons,List.all_cons,Bool.and_eq_true]at h;have ih:=AdF (s:=s) (k:=k) (by simpa using hk) h.2 (by simpa using e)
  simp[h.1,ih.1,ih.2]
def numberL(s:List UInt8):Bool :=
 (caps s).all capB&&(!(decide (((caps s).length:Int)>5)||Lib.hasSuffix (caps s) [65]) &&
  (if digs s=[48] then caps s != [] else decide (1<=(digs s).length)&&(decide ((digs s).length<=3)&&((s.getD 0 0).toNat:Int) != 48)))
theorem AcK(s:List UInt8)(hs:s.length<1000000):Pc prog 53 [.str s] (· = .bool (numberL s)):=by
 refine zpIN func53 rfl fun h ρ w=>?_
 simp only[go_sem];refine AlK (ι:=Nat) (κ:=Unit) (fun i=>s.length-i) (fun i=>[(3,.int .i64 i),(0,.str s)]) (fun _=>[]) (fun i=>i<=s.length/\(s.take i).all digB=true)
  (fun _=>[(3,.int .i64 (digs s).length),(0,.str s)]) (fun _=>[]) (fun _=>s=digs s++caps s) 0 ⟨by omega,by simp⟩ ?_ ?_ ?_
 .refine Shift.weak ?_
  simp only[go_sem]
 .rintro-hd
  have hdl:(digs s).length<=s.length:=(congrArg List.length hd).symm▸by simp
  have edr:List.drop (digs s).length s=caps s:=(congrArg (List.drop (digs s).length) hd).trans (by simp);have etk:List.take (digs s).length s=digs s:=(congrArg (List.take (digs s).length) hd).trans (by simp);have hcl:(caps s).length<=s.length:=(congrArg List.length hd).symm▸by simp
  refine zgN ?_;simp only[go_sem,edr];refine⟨by omega,by omega,by omega,?_⟩;refine AlK (ι:=Nat) (κ:=Unit) (fun i=>(caps s).length-i) (fun i=>[(23,.int .i64 i),(22,.int .i64 (caps s).length),(4,.str (caps s)),(3,.int .i64 (digs s).length),(0,.str s)]) (fun _=>[]) (fun i=>i<=(caps s).length/\((caps s).take i).all capB=true)
   (fun _=>[(4,.str (caps s)),(3,.int .i64 (digs s).length),(0,.str s)]) (fun _=>[]) (fun _=>(caps s).all capB=true) 0 ⟨by omega,by simp⟩ ?_ ?_ ?_
  .refine Shift.weak ?_
   simp only[go_sem]
  .rintro-hc
   by_cases h5:((caps s).length:Int)>5
   .have d5:decide (((caps s).length:Int)>5)=true:=by simpa using h5
    refine zgN ?_;simp only[go_sem,d5];exact aret [2] rfl ⟨by simp[resV,Av.get,numberL,d5],rfl⟩
   have d5:decide (((caps s).length:Int)>5)=false:=by simpa using h5
   refine zgN ?_;simp only[go_sem,d5];refine zpN (AcJ (caps s) [65] (by omega)) ?_
   cases e6:Lib.hasSuffix (caps s) [65]with
   | true =>
    simp only[go_sem];exact aret [2] rfl ⟨by simp[resV,Av.get,numberL,e6],rfl⟩
   | false =>
   by_cases h7:digs s=[48]
   .have d7:(digs s==[48])=true:=by simpa using h7
    simp only[go_sem,etk,d7];refine⟨by omega,by omega,?_⟩;exact aret [2] rfl ⟨by simp[resV,Av.get,numberL,h7,d5,e6,hc],rfl⟩
   have d7:(digs s==[48])=false:=by simpa using h7
   by_cases h8:((digs s).length:Int)>=1
   .have d8:decide (((digs s).length:Int)>=1)=true:=by simpa using h8
    have d8':decide (1<=(digs s).length)=true:=by simp; omega
    by_cases h9:((digs s).length:Int)<=3
    .have d9:decide (((digs s).length:Int)<=3)=true:=by simpa using h9
     have d9':decide ((digs s).length<=3)=true:=by simp; omega
     simp only[go_sem,etk,d7,d8,d9];refine⟨by omega,by omega,by omega,?_⟩;exact aret [2] rfl ⟨by simp only[resV,Av.get,numberL,d5,e6,hc,if_neg h7,d8',d9']; rfl,rfl⟩
    .have d9:decide (((digs s).length:Int)<=3)=false:=by simpa using h9
     have d9':decide ((digs s).length<=3)=false:=by simp; omega
     simp only[go_sem,etk,d7,d8,d9];refine⟨by omega,by omega,?_⟩;exact aret [2] rfl ⟨by simp only[resV,Av.get,numberL,d5,e6,hc,if_neg h7,d8',d9']; rfl,rfl⟩
   .have d8:decide (((digs s).length:Int)>=1)=false:=by simpa using h8
    have d8':decide (1<=(digs s).length)=false:=decide_eq_false (by omega);simp only[go_sem,etk,d7,d8];refine⟨by omega,by omega,?_⟩;exact aret [2] rfl ⟨by simp only[resV,Av.get,numberL,d5,e6,hc,if_neg h7,d8']; rfl,rfl⟩
  .rintro i ⟨g1,g2⟩ J Q hJ hQ
   refine zgN ?_
   by_cases hi:(i:Int)<(caps s).length
   .have hil:i<(caps s).length:=by omega
    have hgd:(caps s).getD i 0=(caps s)[i]:=by simp[List.getD,hil]
    simp only[go_sem,hi,hgd];refine⟨by omega,?_⟩;refine zpN (AbP _) ?_
    cases c1:capI ((caps s)[i].toNat:Int)with
    | true =>
     simp only[go_sem];rw[ic i]
     repeat refine ao ?_
     refine ainv (hJ (i+1) ⟨by omega,AaO hil g2 c1⟩ (by omega)) (Shift.weak ?_);simp only[go_sem]
    | false =>
     simp only[go_sem];exact aret [2] rfl ⟨by simp[resV,Av.get,numberL,AdE hil (p:=capB) c1],rfl⟩
   .simp only [go_sem,hi]
    have hall:(caps s).all capB=true:=by
     have ht:(caps s).take i=caps s:=List.take_of_length_le (by omega);rw[ht]at g2; exact g2
    refine ainv (hQ () hall) (Shift.weak ?_);simp only[go_sem]
 .rintro i ⟨g1,g2⟩ J Q hJ hQ
  have out:(i=s.length\/digB (s.getD i 0)=false)->((digs s).length=i/\s=digs s++caps s):=fun e=>by
   obtain⟨e1,e2⟩:=AdF g1 g2 e;exact⟨by rw[digs,e1]; simp; omega,by simp[digs,caps]⟩
  refine zgN ?_
  by_cases hi:(i:Int)<s.length
  .have hil:i<s.length:=by omega
   have hgd:s.getD i 0=s[i]:=by simp[List.getD,hil]
   simp only[go_sem,hi,hgd];refine⟨by omega,?_⟩;refine zpN (AkO _) ?_
   cases c1:digI (s[i].toNat:Int)with
   | true =>
    simp only[go_sem];rw[ic i]
    repeat refine ao ?_
    refine ainv (hJ (i+1) ⟨by omega,AaO hil g2 c1⟩ (by omega)) (Shift.weak ?_);simp only[go_sem]
   | false =>
    obtain⟨e1,e2⟩:=out (.inr (by rw[hgd]; exact c1));simp only[go_sem];refine ainv (hQ () e2) (Shift.weak ?_);rw[e1];simp only[go_sem]
  .simp only [go_sem,hi]
   obtain⟨e1,e2⟩:=out (.inl (by omega));refine ainv (hQ () e2) (Shift.weak ?_);rw[e1];simp only[go_sem]
def pN(s:List UInt8):Int:=(Lib.atoi (digs s)).getD 0
def okD(s:List UInt8):Prop:=1<=(digs s).length/\(digs s).length<=18
theorem A4C{c:UInt8}(h:digB c=true):Lib.digitVal c=some (c.toNat-48):=by
 simp only[digB,digI,Bool.and_eq_true,decide_eq_true_eq]at h;unfold Lib.digitVal;rw[if_pos (by omega)]
theorem AeI:∀ (l:List UInt8)(acc:Nat),l.all digB=true->∃ n,Lib.decFrom acc l=some n
 | [],acc,_=>⟨acc,rfl⟩
 | c::l,acc,h=>by
  simp only[List.all_cons,Bool.and_eq_true]at h;obtain⟨n,hn⟩:=AeI l (acc*10+(c.toNat-48)) h.2;exact⟨n,by rw[Lib.decFrom,A4C h.1]; exact hn⟩
theorem AfO(s:List UInt8):(digs s).all digB=true:=List.all_takeWhile
theorem AfB{s:List UInt8}(h:okD s):Lib.atoi (digs s)=some (pN s):=by
 obtain⟨n,hn⟩:=AeI (digs s) 0 (AfO s);have h1:=h.1;have ha:=AfO s;have key:Lib.atoi (digs s)=some (n:Int):=by
  cases hq:digs s with
  | nil=>simp[hq]at h1
  | cons b r =>
   rw[hq]at hn ha;simp only[List.all_cons,Bool.and_eq_true,digB,digI,decide_eq_true_eq]at ha;have b1:(b==45)=false:=by
    cases hb:b==45 with
    | false=>rfl
    | true =>
     have:b=45:=by simpa using hb
     subst this; exact absurd ha.1.1 (by decide)
   have b2:(b==43)=false:=by
    cases hb:b==43 with
    | false=>rfl
    | true =>
     have:b=43:=by simpa using hb
     subst this; exact absurd ha.1.1 (by decide)
   simp[Lib.atoi,b1,b2,Lib.decNat,hn]
 rw[pN,key]; rfl
theorem AhB{w w':World}(b:Below w.heap.size w w'):Same w w':=⟨b.os,b.tape,⟨b.output,trivial⟩,b.size,b.block⟩
theorem A1B(s:List UInt8):∀ h vs',RL h Lf0 true vs' [.str s]->vs'=[.string ⟨s.toArray⟩]:=by
 intro h vs' r
 cases r with|cons r1 r=>cases r; rw[AwR r1]
theorem BoU(k:IntKind)(n:Int):∀ h vs',RL h Lf0 true vs' [.int k n]->vs'=[.int k n]:=by
 intro h vs' r
 cases r with|cons r1 r=>cases r; rw[BbS r1]
theorem BoV(s:List UInt8)(k:IntKind)(n:Int):∀ h vs',RL h Lf0 true vs' [.str s,.int k n]->vs'=[.string ⟨s.toArray⟩,.int k n]:=by
 intro h vs' r
 cases r with|cons r1 r=>cases r with|cons r2 r=>cases r; rw[AwR r1,BbS r2]
theorem AkP(s:List UInt8)(n:Int)(hl:s.length<=18)(h:Lib.atoi s=some n):Pc prog 65 [.str s] (· = .tup [.int .i64 n,.raw .nilIface]) :=
 AlL [_] (.tuple #[.int .i64 n,.nilIface]) hB65 (A1B s) (fun h=>.tup [_,_] [_,_] (.cons (.int _ _) (.cons (.raw _) .nil)))
  fun w=>(Any.strconv_Atoi Tryz.lays172 ⟨s.toArray⟩ n (by simpa[ByteArray.size]using hl) h w).mono fun e w' ⟨h1,t,h2⟩=>⟨h1,h2▸AhB (Lib.bytesWorld_below _ _ _)⟩
theorem AeP(a b:List UInt8):Pc prog 81 [.str a,.str b] (· = .int .i64 (Lib.compareBytes a b)) :=
 AlL [_,_] (.int .i64 (Lib.compareBytes a b)) hB81 (AcA a b) (fun h=>.int _ _) fun w=>(Any.strings_Compare Tryz.lays106 ⟨a.toArray⟩ ⟨b.toArray⟩ w).mono fun e w' ⟨h1,h2⟩=>⟨h1,h2▸.refl w⟩
theorem AgD(s:List UInt8)(c:Nat)(hlen:s.length*c<=1000000)(hc:c<=1000000):Pc prog 37 [.str s,.int .i64 c] (· = .str (Lib.repeatL s c)) :=
 AlL [_,.int .i64 c] (.string ⟨(Lib.repeatL s c).toArray⟩) hB37 (BoV s .i64 c) (fun h=>.str _)
  fun w=>(Any.strings_Repeat Tryz.lays105 Tryz.Builder_Extra_105 ⟨s.toArray⟩ c w (by omega) (by simp[ByteArray.size]; omega)).mono fun e w' ⟨h1,h2⟩=>⟨h1,AhB h2⟩
theorem AtP(s:List UInt8)(hs:s.length<1000000)(hd:okD s):Pc prog 101 [.str s] (· = .agg [.int .i64 (pN s),.str (caps s)]):=by
 refine zpIN func101 rfl fun h ρ w=>?_
 simp only[go_sem];refine AlK (ι:=Nat) (κ:=Unit) (fun i=>s.length-i) (fun i=>[(3,.int .i64 i),(2,.ptr 0 1 0 0),(0,.str s)]) (fun _=>[.arr 2 [.agg [.int .i64 0,.str []]]]) (fun i=>i<=s.length/\(s.take i).all digB=true)
  (fun _=>[(3,.int .i64 (digs s).length),(2,.ptr 0 1 0 0),(0,.str s)]) (fun _=>[.arr 2 [.agg [.int .i64 0,.str []]]]) (fun _=>s=digs s++caps s) 0 ⟨by omega,by simp⟩ ?_ ?_ ?_
 .refine Shift.weak ?_
  simp only[go_sem]
 .rintro-hd'
  have hdl:(digs s).length<=s.length:=(congrArg List.length hd').symm▸by simp
  have edr:List.drop (digs s).length s=caps s:=(congrArg (List.drop (digs s).length) hd').trans (by simp);have etk:List.take (digs s).length s=digs s:=(congrArg (List.take (digs s).length) hd').trans (by simp);refine zgN ?_;simp only[go_sem,etk];refine⟨by omega,by omega,?_⟩;refine zpN (AkP (digs s) (pN s) hd.2 (AfB hd)) ?_;simp only[go_sem,edr];refine⟨by omega,by omega,?_⟩;refine⟨by omega,AbB [.cell 2 155] rfl [.agg [.int .i64 (pN s),.str (caps s)]] ⟨?_,trivial⟩ ⟨rfl,rfl⟩⟩;simp only[go_sem,sideIs]
 .rintro i ⟨g1,g2⟩ J Q hJ hQ
  have out:(i=s.length\/digB (s.getD i 0)=false)->((digs s).length=i/\s=digs s++caps s):=fun e=>by
   obtain⟨e1,e2⟩:=AdF g1 g2 e;exact⟨by rw[digs,e1]; simp; omega,by simp[digs,caps]⟩
  refine zgN ?_
  by_cases hi:(i:Int)<s.length
  .have hil:i<s.length:=by omega
   have hgd:s.getD i 0=s[i]:=by simp[List.getD,hil]
   have hb:digB s[i]=(decide ((s[i].toNat:Int)>=48)&&decide ((s[i].toNat:Int)<=57)):=rfl
   cases c1:decide ((s[i].toNat:Int)>=48)with
   | true =>
    cases c2:decide ((s[i].toNat:Int)<=57)with
    | true =>
     simp only[go_sem,hi,hgd,c1,c2];rw[ic i]
     repeat refine ao ?_
     refine ainv (hJ (i+1) ⟨by omega,AaO hil g2 (by rw[hb,c1,c2]; rfl)⟩ (by omega)) (Shift.weak ?_);simp only[go_sem]
    | false =>
     obtain⟨e1,e2⟩:=out (.inr (by rw[hgd,hb,c1,c2]; rfl));simp only[go_sem,hi,hgd,c1,c2]
     repeat refine ao ?_
     refine ainv (hQ () e2) (Shift.weak ?_);rw[e1];simp only[go_sem]
   | false =>
    obtain⟨e1,e2⟩:=out (.inr (by rw[hgd,hb,c1]; rfl));simp only[go_sem,hi,hgd,c1]
    repeat refine ao ?_
    refine ainv (hQ () e2) (Shift.weak ?_);rw[e1];simp only[go_sem]
  .simp only [go_sem,hi]
   obtain⟨e1,e2⟩:=out (.inl (by omega));refine ainv (hQ () e2) (Shift.weak ?_);rw[e1];simp only[go_sem]
theorem AlP(x:Int):Pc prog 137 [.int .i64 x] (· = .bool false):=by
 refine zpIN func137 rfl fun h ρ w=>?_
 simp only[go_sem];exact aret [2] rfl ⟨by simp[resV,Av.get],rfl⟩
def cmpI(x y:Int):Int:=if x<y then -1 else if x>y then 1 else 0
theorem AkQ(x y:Int):Pc prog 80 [.int .i64 x,.int .i64 y] (· = .int .i64 (cmpI x y)):=by
 refine zpIN func80 rfl fun h ρ w=>?_
 simp only[go_sem];refine zpN (AlP _) ?_;simp only[go_sem];refine zpN (AlP _) ?_
 by_cases h1:x<y
 .have d1:decide (x<y)=true:=by simpa using h1
  simp only[go_sem,d1];exact aret [4] rfl ⟨by simp[resV,Av.get,cmpI,h1],rfl⟩
 have d1:decide (x<y)=false:=by simpa using h1
 by_cases h2:x>y
 .have d2:decide (x>y)=true:=by simpa using h2
  simp only[go_sem,d1,d2];exact aret [4] rfl ⟨by simp[resV,Av.get,cmpI,h1,h2],rfl⟩
 have d2:decide (x>y)=false:=by simpa using h2
 simp only[go_sem,d1,d2];exact aret [4] rfl ⟨by simp[resV,Av.get,cmpI,h1,h2],rfl⟩
def orI(x y:Int):Int:=if x=0 then y else x
theorem BoW(x y:Int):Pc prog 79 [.fz 1 [.int .i64 x,.int .i64 y]] (· = .int .i64 (orI x y)):=by
 refine zpIN func79 rfl fun h ρ w=>?_
 simp only[go_sem];refine AcT (around (zgN ?_))
 by_cases h1:x=0
 .have d1:(x != 0)=false:=by simpa using h1
  simp only[go_sem,d1];refine AdZ (around (zgN ?_))
  by_cases h2:y=0
  .have d2:(y != 0)=false:=by simpa using h2
   simp only[go_sem,d2];refine AdZ (around (zgN ?_));simp only[go_sem];exact aret [2] rfl ⟨by simp[resV,Av.get,orI,h1,h2],rfl⟩
  have d2:(y != 0)=true:=by simpa using h2
  simp only[go_sem,d2];exact aret [2] rfl ⟨by simp[resV,Av.get,orI,h1],rfl⟩
 have d1:(x != 0)=true:=by simpa using h1
 simp only[go_sem,d1];exact aret [2] rfl ⟨by simp[resV,Av.get,orI,h1],rfl⟩
def AaC(a b:List UInt8):Int:=orI (cmpI (pN a) (pN b)) (Lib.compareBytes (caps a) (caps b))
theorem AnX(a b:List UInt8)(ha:a.length<1000000)(hb:b.length<1000000)(da:okD a)(db:okD b):Pc prog 47 [.str a,.str b] (· = .int .i64 (AaC a b)):=by
 refine zpIN func47 rfl fun h ρ w=>?_
 simp only[go_sem];refine zpN (AtP a ha da) ?_;simp only[go_sem];refine zpN (AtP b hb db) ?_;simp only[go_sem];refine zr [.int .i64 (cmpI (pN a) (pN b)),.int .i64 (Lib.compareBytes (caps a) (caps b)),.int .i64 (AaC a b)] mixed ?_;simp only[go_sem];have ho:=BoW (cmpI (pN a) (pN b)) (Lib.compareBytes (caps a) (caps b));refine⟨(AkQ _ _).at,rfl,rfl,(AeP _ _).at,rfl,rfl,ho.at,rfl,?_⟩;refine zgN ?_;simp only[go_sem];exact aret [4] rfl ⟨by simp[resV,Av.get],rfl⟩
def lowestL(n:Nat):List UInt8:=Lib.repeatL [65] (n-1)++[66]
theorem AnY(n:Nat)(h0:1<=n)(h1:n<=1000):Pc prog 188 [.int .i64 n] (· = .str (lowestL n)):=by
 have hr:=AgD [65] (n-1) (by simp; omega) (by omega);rw[show((n-1:Nat):Int)=(n:Int)-1 by omega]at hr;refine zpIN func188 rfl fun h ρ w=>?_
 simp only[go_sem];refine⟨by omega,by omega,?_⟩;refine zpN (hr) ?_;simp only[go_sem];refine⟨by rw[Lib.repeatL_length]; simp; omega,?_⟩;exact aret [2] rfl ⟨by simp[resV,Av.get,lowestL],rfl⟩
abbrev bys(l:List UInt8):List AV:=l.map fun b=>.int .u8 b.toNat
theorem A1C{l:List UInt8}{k:Nat}(h:k<l.length):(bys l).getD k .any=.int .u8 (l.getD k 0).toNat:=by simp[List.getD,h]
theorem bys_set(l:List UInt8)(k:Nat)(x:UInt8):(bys l).set k (.int .u8 x.toNat)=bys (l.set k x):=by simp[bys,List.map_set]
theorem bys_len(l:List UInt8):(bys l).length=l.length:=by simp
theorem AmL(l:List UInt8):(bys l).all AeU=true/\(bys l).map Go.Av.AhS=l:=by
 refine⟨by simp[List.all_eq_true,AeU],?_⟩
 induction l with
 | nil=>rfl
 | cons b l ih =>
  simp only[bys,List.map_cons,Go.Av.AhS]at ih |-;rw[ih]
  simp
def bumpR:List UInt8->Option (List UInt8)
 | []=>none
 | c::r=>if c=90 then(bumpR r).map (65::·) else some ((c+1)::r)
def fixR:List UInt8->List UInt8
 | []=>[]
 | c::r=>(if c=65 then 66 else c)::r
def aboveL(c:List UInt8)(n:Nat):List UInt8 :=
 if c.length<n then c++lowestL (n-c.length) else
  match bumpR (c.take n).reverse with
  | none=>[]
  | some r=>(fixR r).reverse
theorem bump_run(p:List UInt8):∀ j,bumpR (List.replicate j 90++p)=(bumpR p).map (List.replicate j 65 ++ ·)
 | 0=>by cases h:bumpR p <;> simp[h]
 | j+1=>by
  rw[List.replicate_succ,List.cons_append,bumpR,if_pos rfl,bump_run p j]
  cases bumpR p <;> simp[List.replicate_succ]
theorem BmE{c:List UInt8}{n j:Nat}(hj:j<=n)(hn:n<=c.length)(h:∀ i,n-j<=i->i<n->c.getD i 0=90):c.take n=c.take (n-j)++List.replicate j 90:=by
 refine List.ext_getElem? fun i=>?_
 by_cases h1:i<n-j
 .rw [List.getElem?_append_left (by simp; omega),List.getElem?_take,List.getElem?_take,if_pos h1,if_pos (by omega)]
 .rw [List.getElem?_append_right (by simp; omega),List.getElem?_take,List.getElem?_replicate,List.length_take]
  by_cases h2:i<n
  .have:=h i (by omega) h2
   simp only[List.getD,List.getElem?_eq_getElem (show i<c.length by omega),Option.getD_some]at this;rw[if_pos h2,if_pos (by omega),List.getElem?_eq_getElem (show i<c.length by omega),this]
  .rw [if_neg h2,if_neg (by omega)]
theorem BbU{c:List UInt8}{k:Nat}(hk:k<c.length):c.take (k+1)=c.take k++[c.getD k 0]:=by
 rw[List.take_succ_eq_append_getElem hk]; simp[List.getD,hk]
theorem BbV{c:List UInt8}{n:Nat}(hn:n<=c.length)(h:∀ i,n-n<=i->i<n->c.getD i 0=90):bumpR (c.take n).reverse=none:=by
 rw[BmE (Nat.le_refl n) hn h];have:=bump_run [] n
 simpa[bumpR]using this
theorem BbW{c:List UInt8}{n j:Nat}(hj:j<n)(hn:n<=c.length)(h:∀ i,n-j<=i->i<n->c.getD i 0=90)(hk:c.getD (n-1-j) 0≠90) :
  bumpR (c.take n).reverse=some (List.replicate j 65++(c.getD (n-1-j) 0+1)::(c.take (n-1-j)).reverse):=by
 rw[BmE (Nat.le_of_lt hj) hn h,List.reverse_append,List.reverse_replicate,show n-j=(n-1-j)+1 by omega,BbU (by omega),List.reverse_append,List.reverse_singleton,List.singleton_append,bump_run,bumpR,if_neg hk];rfl
theorem BiJ{l:List UInt8}{n:Nat}(h0:1<=n)(hl:l.length=n):(fixR l.reverse).reverse=if l.getD (n-1) 0=65 then l.set (n-1) 66 else l:=by
 obtain⟨r,x,rfl⟩:∃ r x,l=r++[x]:=⟨l.dropLast,l.getLast (by intro h; simp[h]at hl; omega),(List.dropLast_concat_getLast _).symm⟩;have hr:n-1=r.length:=by simp at hl; omega
 rw[hr];simp only[List.reverse_append,List.reverse_singleton,List.singleton_append,fixR]
 by_cases hx:x=65
 .subst hx; simp
 .simp [hx]
theorem BiK(c:List UInt8)(n:Nat)(h0:1<=n)(h1:n<=1000)(hc:c.length<1000000)(hcap:∀ x∈c,x.toNat<=90):Pc prog 189 [.str c,.int .i64 n] (· = .str (aboveL c n)):=by
 by_cases hl:(c.length:Int)<n
 .have hr:=AnY (n-c.length) (by omega) (by omega)
  rw[show((n-c.length:Nat):Int)=(n:Int)-c.length by omega]at hr;have hll:(lowestL (n-c.length)).length<=1000:=by simp[lowestL,Lib.repeatL_length]; omega
  refine zpIN func189 rfl fun h ρ w=>?_
  simp only[go_sem,hl];refine⟨by omega,by omega,?_⟩;refine zpN (hr) ?_;simp only[go_sem];refine⟨by omega,?_⟩;exact aret [4] rfl ⟨by rw[aboveL,if_pos (by omega)]; rfl,rfl⟩
 .have hl':n<=c.length:=by omega
  have hlt:(c.take n).length=n:=by simp; omega
  refine zpIN func189 rfl fun h ρ w=>?_
  simp only[go_sem,hl,hlt]
  repeat refine ao ?_
  refine AlK (ι:=Nat) (κ:=Nat) (fun j=>n-j) (fun j=>[(6,.int .i64 ((n:Int)-1-j)),(5,.sl 0 0 n n),(4,.str []),(1,.int .i64 n),(0,.str c)]) (fun j=>[.arr 1 (bys (c.take (n-j)++List.replicate j 65))])
   (fun j=>j<=n/\∀ i,n-j<=i->i<n->c.getD i 0=90)
   (fun j=>[(6,.int .i64 ((n:Int)-1-j)),(5,.sl 0 0 n n),(4,.str []),(1,.int .i64 n),(0,.str c)]) (fun j=>[.arr 1 (bys (c.take (n-j)++List.replicate j 65))])
   (fun j=>j<=n/\(∀ i,n-j<=i->i<n->c.getD i 0=90)/\(j=n\/c.getD (n-1-j) 0≠90)) 0 ⟨by omega,by omega⟩ ?_ ?_ ?_
  .have e0:((n:Int)-1-(0:Nat))=n-1:=by omega
   simp only[e0,Nat.sub_zero,List.replicate_zero,List.append_nil];refine Shift.weak ?_;simp only[go_sem]
  .rintro j ⟨g1,g2,g3⟩
   by_cases hj:j=n
   .subst hj
    have d1:decide ((j:Int)-1-j<0)=true:=by simp; omega
    refine zgN ?_;simp only[go_sem,d1];exact aret [4] rfl ⟨by rw[aboveL,if_neg (by omega),BbV hl' g2]; rfl,rfl⟩
   have g3':=g3.resolve_left hj;have hk:((n:Int)-1-j).toNat=n-1-j:=by omega
   have hlen:(c.take (n-j)++List.replicate j 65).length=n:=by simp; omega
   have hg0:(c.take (n-j)++List.replicate j 65).getD (n-1-j) 0=c.getD (n-1-j) 0:=by
    simp only[List.getD,List.getElem?_append_left (show n-1-j<(c.take (n-j)).length by simp; omega),List.getElem?_take,if_pos (show n-1-j<n-j by omega)]
   have hg:(bys (c.take (n-j)++List.replicate j 65)).getD (n-1-j) .any=.int .u8 (c.getD (n-1-j) 0).toNat:=by
    rw[A1C (by omega),hg0]
   have hx:(c.getD (n-1-j) 0).toNat<=90:=hcap _ (by simp only[List.getD,List.getElem?_eq_getElem (show n-1-j<c.length by omega),Option.getD_some]; exact List.getElem_mem _);have d1:decide ((n:Int)-1-j<0)=false:=by simp; omega
   have hu:((c.getD (n-1-j) 0).toNat:Int)+1=((c.getD (n-1-j) 0+1).toNat:Int):=by
    have:∀ x:UInt8,x.toNat<=90->(x.toNat:Int)+1=((x+1).toNat:Int):=fun x h=>by
     have e:(x+1).toNat=(x.toNat+1)%256:=by rw[UInt8.toNat_add]; rfl
     omega
    exact this _ hx
   have hsetl:(bys (c.take (n-j)++List.replicate j 65)).set (n-1-j) (.int .u8 (c.getD (n-1-j) 0+1).toNat)=bys (c.take (n-1-j)++(c.getD (n-1-j) 0+1)::List.replicate j 65):=by
    rw[bys_set,show n-j=(n-1-j)+1 by omega,BbU (by omega),List.append_assoc,List.set_append_right _ _ (by simp; omega)]
    simp[show n-1-j-min (n-1-j) c.length=0 by omega]
   have hbs:=BbW (by omega) hl' g2 g3';have hab:aboveL c n=(fixR (c.take (n-1-j)++(c.getD (n-1-j) 0+1)::List.replicate j 65).reverse).reverse:=by
    rw[aboveL,if_neg (by omega),hbs]
    simp
   have hL:(c.take (n-1-j)++(c.getD (n-1-j) 0+1)::List.replicate j 65).length=n:=by simp; omega
   rw[BiJ h0 hL]at hab;generalize c.take (n-1-j)++(c.getD (n-1-j) 0+1)::List.replicate j 65=L at hsetl hab hL;have hk1:((n:Int)-1).toNat=n-1:=by omega
   have hgL:=A1C (l:=L) (k:=n-1) (by omega)
   by_cases h65:L.getD (n-1) 0=65
   .have d2:(((L.getD (n-1) 0).toNat:Int)==65)=true:=by rw[h65]; rfl
    rw[if_pos h65]at hab;have hset2:(bys L).set (n-1) (.int .u8 66)=bys (L.set (n-1) 66):=bys_set L (n-1) 66;have hL2:(L.set (n-1) 66).length=n:=by simp[hL]
    generalize L.set (n-1) 66=L2 at hset2 hab hL2;have ht:List.take n (bys L2)=bys L2:=List.take_of_length_le (by simp[hL2]);refine zgN ?_;simp only[go_sem,d1,bys_len,hlen,hk,hg,hu,hsetl,hk1,hgL,d2,hL,hset2,hL2,ht,(AmL L2).1,(AmL L2).2]
    repeat refine ao ?_
    exact aret [4] rfl ⟨by rw[hab]; rfl,rfl⟩
   .have d2:(((L.getD (n-1) 0).toNat:Int)==65)=false:=by
     simp only[beq_eq_false_iff_ne,ne_eq];intro h;exact h65 (UInt8.toNat_inj.1 (show(L.getD (n-1) 0).toNat=65 by omega))
    rw[if_neg h65]at hab;refine zgN ?_;have ht:List.take n (bys L)=bys L:=List.take_of_length_le (by simp[hL]);simp only[go_sem,d1,bys_len,hlen,hk,hg,hu,hsetl,hk1,hgL,d2,hL,ht,(AmL L).1,(AmL L).2]
    repeat refine ao ?_
    exact aret [4] rfl ⟨by rw[hab]; rfl,rfl⟩
  .rintro j ⟨g1,g2⟩ J Q hJ hQ
   have hlen:(c.take (n-j)++List.replicate j 65).length=n:=by simp; omega
   refine zgN ?_
   by_cases hj:j=n
   .have d1:decide ((n:Int)-1-j>=0)=false:=by simp; omega
    simp only[go_sem,d1,bys_len,hlen];refine ainv (hQ j ⟨g1,g2,.inl hj⟩) (Shift.weak ?_);simp only[go_sem]
   .have d1:decide ((n:Int)-1-j>=0)=true:=by simp; omega
    have hk:((n:Int)-1-j).toNat=n-1-j:=by omega
    have hg0:(c.take (n-j)++List.replicate j 65).getD (n-1-j) 0=c.getD (n-1-j) 0:=by
     simp only[List.getD,List.getElem?_append_left (show n-1-j<(c.take (n-j)).length by simp; omega),List.getElem?_take,if_pos (show n-1-j<n-j by omega)]
    have hg:(bys (c.take (n-j)++List.replicate j 65)).getD (n-1-j) .any=.int .u8 (c.getD (n-1-j) 0).toNat:=by
     rw[A1C (by omega),hg0]
    by_cases h90:c.getD (n-1-j) 0=90
    .have d2:(((c.getD (n-1-j) 0).toNat:Int)==90)=true:=by rw[h90]; rfl
     have hset:(bys (c.take (n-j)++List.replicate j 65)).set (n-1-j) (.int .u8 65)=bys (c.take (n-(j+1))++List.replicate (j+1) 65):=by
      have:=bys_set (c.take (n-j)++List.replicate j 65) (n-1-j) 65;refine this.trans (congrArg bys ?_);rw[show n-j=(n-1-j)+1 by omega,BbU (by omega),List.append_assoc,List.set_append_right _ _ (by simp; omega),show n-(j+1)=n-1-j by omega]
      simp[show n-1-j-min (n-1-j) c.length=0 by omega,List.replicate_succ]
     simp only[go_sem,d1,d2,bys_len,hlen,hk,hg,hset];rw[show(n:Int)-1-j-1=(n:Int)-1-((j+1:Nat):Int) by omega]
     repeat refine ao ?_
     refine ainv (hJ (j+1) ⟨by omega,fun i h1 h2=>?_⟩ (by omega)) (Shift.weak ?_)
     .by_cases hi:i=n-1-j
      .rw [hi]; exact h90
      .exact g2 i (by omega) h2
     .simp only [go_sem]
    .have d2:(((c.getD (n-1-j) 0).toNat:Int)==90)=false:=by
      simp only[beq_eq_false_iff_ne,ne_eq];intro h;exact h90 (UInt8.toNat_inj.1 (show(c.getD (n-1-j) 0).toNat=90 by omega))
     simp only[go_sem,d1,d2,bys_len,hlen,hk,hg]
     repeat refine ao ?_
     refine ainv (hQ j ⟨g1,g2,.inr h90⟩) (Shift.weak ?_);simp only[go_sem]
theorem AjC{S:Std}(hS:LibOk S)(n:Int)(h0:-9223372036854775808<=n)(h1:n<=9223372036854775807):PcH prog S 22 [.int .i64 n] (· = .str (Lib.itoa n)) :=
 AtN [_] (.string ⟨(Lib.itoa n).toArray⟩) hB22 (BoU .i64 n) (fun h=>.str _) fun w H=>by
  obtain⟨t,z,hp⟩:=hS.pow10;refine(Any.strconv_Itoa Tryz.laysM171 n h0 h1 w ?_).mono fun e w' ⟨e1,k,os,e2⟩=>⟨e1,e2▸AhB (Lib.below_grow _ _ (Nat.le_refl _) _ _)⟩
  show w.var? _ _=_
  have hg:prog.globalNamed "internal/strconv.uint64pow10" = some 1:=by kernel_rfl
  simp only[World.var?,hg,Option.bind_some,H _ _ hp]
def dig3(d:Int):List UInt8 :=
 if d.toNat<10 then[UInt8.ofNat (48+d.toNat)] else if d.toNat<100 then[UInt8.ofNat (48+d.toNat / 10),UInt8.ofNat (48+d.toNat%10)]
 else[UInt8.ofNat (48+d.toNat / 100),UInt8.ofNat (48+d.toNat / 10%10),UInt8.ofNat (48+d.toNat%10)]
theorem AjD{d:Int}(h0:0<=d)(h1:d<=999):Lib.itoa d=dig3 d:=by
 unfold Lib.itoa dig3;rw[if_neg (by omega)];generalize hu:d.toNat=u;have hu1:u<=999:=by omega
 by_cases h10:u<10
 .rw [if_pos h10,Lib.decDigits_one h10]
 .rw [if_neg h10]
  by_cases h100:u<100
  .rw [if_pos h100,Lib.decDigits_two h10 h100]
  .rw [if_neg h100,Lib.decDigits,dif_neg h10,Lib.decDigits_two (by omega) (by omega)]
   simp[Nat.div_div_eq_div_mul]
theorem AtQ(d:Int):1<=(dig3 d).length/\(dig3 d).length<=3:=by
 unfold dig3
 split
 .simp
 .split <;> simp
theorem AkR{n:Nat}(h:n<10):digB (UInt8.ofNat (48+n))=true:=by
 have:(UInt8.ofNat (48+n)).toNat=48+n:=by simp; omega
 simp only[digB,digI,this]; simp; omega
theorem AtR{d:Int}(h0:0<=d)(h1:d<=999):(dig3 d).all digB=true:=by
 unfold dig3
 split
 .simp only [List.all_cons,List.all_nil,AkR (n:=d.toNat) (by omega),Bool.and_true]
 .split
  .simp only [List.all_cons,List.all_nil,AkR (n:=d.toNat / 10) (by omega),AkR (n:=d.toNat%10) (by omega),Bool.and_true]
  .simp only [List.all_cons,List.all_nil,AkR (n:=d.toNat / 100) (by omega),AkR (n:=d.toNat / 10%10) (by omega),AkR (n:=d.toNat%10) (by omega),Bool.and_true]
def nextX(a:List UInt8)(n:Nat):Int×List UInt8 :=
 if a=[] then(if n=0 then(1,[]) else(0,lowestL n))
 else if n=0 then(pN a+1,[])
 else if aboveL (caps a) n=[] then(pN a+1,lowestL n) else(pN a,aboveL (caps a) n)
def nextL(a:List UInt8)(n:Nat):List UInt8:=if(nextX a n).1>999 then[] else dig3 (nextX a n).1++(nextX a n).2
def okA(a:List UInt8):Prop:=a=[]\/(okD a/\a.length<1000/\(caps a).all capB=true/\0<=pN a/\pN a<1000000)
theorem BmF{l:List UInt8}(h:l.all capB=true):∀ x∈l,x.toNat<=90:=fun x hx=>by
 have:=List.all_eq_true.1 h x hx;simp only[capB,capI,Bool.and_eq_true,decide_eq_true_eq]at this;omega
theorem ArM(n:Nat):(lowestL n).length<=n+1:=by simp[lowestL,Lib.repeatL_length]
theorem AtS:∀ (l r:List UInt8),bumpR l=some r->r.length=l.length
 | [],r,h=>by simp[bumpR]at h
 | c::l,r,h=>by
  unfold bumpR at h
  split at h
  .cases hq:bumpR l with
   | none=>simp[hq]at h
   | some r'=>simp[hq]at h; subst h; simp[AtS l r' hq]
  .simp at h; subst h; simp
theorem fix_len(l:List UInt8):(fixR l).length=l.length:=by cases l <;> rfl
theorem BbX(c:List UInt8)(n:Nat):(aboveL c n).length<=c.length+n+1:=by
 unfold aboveL
 split
 .have:=ArM (n-c.length); simp; omega
 .split
  .simp
  .rename_i r hr
   have:=AtS _ _ hr
   simp[fix_len,this]; omega
theorem AiJ{a:List UInt8}{n:Nat}(hn:n<=100)(ha:okA a):0<=(nextX a n).1/\(nextX a n).1<=1000001/\(nextX a n).2.length<=100000:=by
 have hl:=ArM n
 by_cases h0:a=[]
 .unfold nextX
  rw[if_pos h0]
  split <;> simp <;> omega
 .obtain ⟨ho,hal,hc,h1,h2⟩:=ha.resolve_left h0
  have hcl:(caps a).length<=a.length:=by unfold caps; exact(List.dropWhile_suffix _).length_le
  have:=BbX (caps a) n;unfold nextX;rw[if_neg h0]
  split
  .simp; omega
  .split <;> simp <;> omega
theorem BiL{S:Std}(hS:LibOk S)(a:List UInt8)(n:Nat)(hn:n<=100)(ha:okA a):PcH prog S 134 [.str a,.int .i64 n] (· = .str (nextL a n)):=by
 refine AcF (AcN func134 rfl ntmps134 hB134 (by simp) fun h ρ w hg=>go rfl 15 ?_);simp only[go_sem];refine amid (κ:=Unit) (fun _=>[(5,.ptr 0 1 0 0),(0,.str a),(1,.int .i64 n)]) (fun _=>[.arr 2 [.agg [.int .i64 (nextX a n).1,.str (nextX a n).2]]]) (fun _=>True) ?_ ?_
 .rintro - -
  have hb:0<=(nextX a n).1/\(nextX a n).1<=1000001/\(nextX a n).2.length<=100000:=AiJ hn ha;have hi:=AtQ (nextX a n).1
  by_cases h9:(nextX a n).1>999
  .have d9:decide ((nextX a n).1>999)=true:=by simpa using h9
   refine zgN ?_;simp only[go_sem,d9];exact aret [4] rfl ⟨by rw[nextL,if_pos h9]; rfl,rfl⟩
  have d9:decide ((nextX a n).1>999)=false:=by simpa using h9
  refine zgN ?_;simp only[go_sem,d9];have hit:=AjC hS (nextX a n).1 (by omega) (by omega);rw[AjD hb.1 (by omega)]at hit;refine zr [.str (dig3 (nextX a n).1)] mixed ?_;simp only[go_sem];refine⟨hit.at hg,rfl,by omega,?_⟩;refine zgN ?_;simp only[go_sem];exact aret [4] rfl ⟨by rw[nextL,if_neg h9]; rfl,rfl⟩
 .intro Q hQ
  by_cases ha0:a=[]
  .subst ha0
   by_cases hn0:n=0
   .subst hn0
    refine zgN ?_;simp only[go_sem];refine ainv (hQ () trivial) (Shift.weak ?_);simp only[go_sem]
   .have d2:((n:Int)==0)=false:=by simp; omega
    refine zgN ?_;simp only[go_sem,d2];refine zpN (AnY n (by omega) (by omega)) ?_;simp only[go_sem];rw[show lowestL n=(nextX [] n).2 by simp[nextX,hn0],show(0:Int)=(nextX [] n).1 by simp[nextX,hn0]];refine ainv (hQ () trivial) (Shift.weak ?_);simp only[go_sem]
  .have d1:(a==[])=false:=by simpa using ha0
   obtain⟨ho,hl,hc,h0,h1⟩:=ha.resolve_left ha0;have hcl:(caps a).length<=a.length:=by unfold caps; exact(List.dropWhile_suffix _).length_le
   refine zgN ?_;simp only[go_sem,d1];refine zpN (AtP a (by omega) ho) ?_
   by_cases hn0:n=0
   .subst hn0
    simp only[go_sem];refine⟨by omega,by omega,?_⟩;rw[show pN a+1=(nextX a 0).1 by simp[nextX,ha0],show(AV.str [])=.str (nextX a 0).2 by simp[nextX,ha0]];refine ainv (hQ () trivial) (Shift.weak ?_);simp only[go_sem]
   have d2:((n:Int)==0)=false:=by simp; omega
   have d3:decide ((n:Int)>0)=true:=by simp; omega
   simp only[go_sem,d3];refine zpN (BiK (caps a) n (by omega) (by omega) (by omega) (BmF hc)) ?_
   by_cases hz:aboveL (caps a) n=[]
   .have d4:(aboveL (caps a) n==[])=true:=by simpa using hz
    simp only[go_sem,d2,d3,d4];refine⟨by omega,by omega,?_⟩;refine zpN (AnY n (by omega) (by omega)) ?_;simp only[go_sem];rw[show pN a+1=(nextX a n).1 by simp[nextX,ha0,hn0,hz],show lowestL n=(nextX a n).2 by simp[nextX,ha0,hn0,hz]];refine ainv (hQ () trivial) (Shift.weak ?_);simp only[go_sem]
   .have d4:(aboveL (caps a) n==[])=false:=by simpa using hz
    simp only[go_sem,d2,d3,d4];have e1:(nextX a n).1=pN a:=by simp[nextX,ha0,hn0,hz]
    have e2:(nextX a n).2=aboveL (caps a) n:=by simp[nextX,ha0,hn0,hz]
    rw[<- e1,<- e2];refine ainv (hQ () trivial) (Shift.weak ?_);simp only[go_sem]
theorem cap_iff{x:UInt8}:capB x=true ↔ 65<=x.toNat/\x.toNat<=90:=by
 simp only[capB,capI,Bool.and_eq_true,decide_eq_true_eq]; omega
theorem BoX(n:Nat):(Lib.repeatL [65] n).all capB=true:=by
 induction n with
 | zero=>rfl
 | succ n ih=>simp only[Lib.repeatL,List.all_append,ih]; rfl
theorem lowest_cap(n:Nat):(lowestL n).all capB=true:=by
 simp only[lowestL,List.all_append,BoX]; rfl
theorem A4D:∀ (l r:List UInt8),bumpR l=some r->l.all capB=true->r.all capB=true
 | [],r,h,_=>by simp[bumpR]at h
 | c::l,r,h,hc=>by
  simp only[List.all_cons,Bool.and_eq_true]at hc;unfold bumpR at h
  split at h
  .cases hq:bumpR l with
   | none=>simp[hq]at h
   | some r' =>
    simp[hq]at h; subst h
    simp only[List.all_cons,A4D l r' hq hc.2,Bool.and_true]; rfl
  .rename_i h90
   simp at h; subst h
   have h1:=cap_iff.1 hc.1;have h2:c.toNat≠90:=fun e=>h90 (UInt8.toNat_inj.1 e)
   have h3:(c+1).toNat=(c.toNat+1)%256:=by rw[UInt8.toNat_add]; rfl
   have h4:capB (c+1)=true:=cap_iff.2 (by omega);simp only[List.all_cons,h4,hc.2,Bool.and_self]
theorem BoY(l:List UInt8)(h:l.all capB=true):(fixR l).all capB=true:=by
 cases l with
 | nil=>rfl
 | cons c l =>
  simp only[List.all_cons,Bool.and_eq_true]at h;simp only[fixR,List.all_cons,h.2,Bool.and_true]
  split
  .rfl
  .exact h.1
theorem BbY{c:List UInt8}(h:c.all capB=true)(n:Nat):(aboveL c n).all capB=true:=by
 unfold aboveL
 split
 .simp only [List.all_append,h,lowest_cap,Bool.and_self]
 .split
  .rfl
  .rename_i r hr
   rw[List.all_reverse];refine BoY r (A4D _ _ hr ?_);rw[List.all_reverse];rw[List.all_eq_true]at h |-;exact fun x hx=>h x (List.mem_of_mem_take hx)
theorem AnZ{a:List UInt8}(n:Nat)(h:(caps a).all capB=true):(nextX a n).2.all capB=true:=by
 unfold nextX
 split
 .split
  .rfl
  .exact lowest_cap n
 .split
  .rfl
  .split
   .exact lowest_cap n
   .exact BbY h n
theorem AwU{d c:List UInt8}(hd:d.all digB=true)(hc:c.all capB=true):digs (d++c)=d/\caps (d++c)=c:=by
 have h:=AdF (p:=digB) (s:=d++c) (k:=d.length) (by simp) (by simpa using hd) (by
  cases c with
  | nil=>left; simp
  | cons x c =>
   right
   simp only[List.all_cons,Bool.and_eq_true]at hc;have h1:=cap_iff.1 hc.1;have:(d++x::c).getD d.length 0=x:=by simp[List.getD]
   rw[this];simp only[digB,digI]; simp; omega)
 exact⟨by rw[digs,h.1]; simp,by rw[caps,h.2]; simp⟩
theorem BiM:(caps []).all capB=true:=rfl
theorem BiN{a:List UInt8}{n:Nat}(hn:n<=100)(ha:okA a):nextL a n=[]\/(okD (nextL a n)/\(nextL a n).length<100010/\(caps (nextL a n)).all capB=true):=by
 have hb:=AiJ hn ha;unfold nextL
 split
 .exact .inl rfl
 .have hc:(caps a).all capB=true:=by
   rcases ha with rfl|h
   .exact BiM
   .exact h.2.2.1
  have hs:=AwU (AtR hb.1 (by omega)) (AnZ n hc);have hl:=AtQ (nextX a n).1;refine .inr ⟨?_,by simp; omega,by rw[hs.2]; exact AnZ n hc⟩;unfold okD; rw[hs.1]; omega
theorem ArN:∀ (l:List UInt8)(acc n:Nat),Lib.decFrom acc l=some n->n<(acc+1)*10 ^ l.length
 | [],acc,n,h=>by simp[Lib.decFrom]at h; simp; omega
 | c::l,acc,n,h=>by
  unfold Lib.decFrom at h
  split at h
  .rename_i d hd
   have ih:=ArN l _ _ h;have:d<=9:=by
    unfold Lib.digitVal at hd
    split at hd
    .simp at hd; omega
    .cases hd
   refine Nat.lt_of_lt_of_le ih ?_;rw[List.length_cons,Nat.pow_succ,Nat.mul_comm (10 ^ l.length) 10,<- Nat.mul_assoc];exact Nat.mul_le_mul_right _ (by omega)
  .cases h
theorem BiO{a:List UInt8}(h:okD a):0<=pN a/\pN a<((10 ^ (digs a).length:Nat):Int):=by
 obtain⟨n,hn⟩:=AeI (digs a) 0 (AfO a);have hlt:=ArN _ _ _ hn;have hat:=AfB h;have h1:=h.1;have ha:=AfO a;have key:pN a=(n:Int):=by
  cases hq:digs a with
  | nil=>simp[hq]at h1
  | cons b r =>
   rw[hq]at hn ha hat;simp only[List.all_cons,Bool.and_eq_true,digB,digI,decide_eq_true_eq]at ha;have b1:(b==45)=false:=by
    cases hb:b==45 with
    | false=>rfl
    | true =>
     have:b=45:=by simpa using hb
     subst this; exact absurd ha.1.1 (by decide)
   have b2:(b==43)=false:=by
    cases hb:b==43 with
    | false=>rfl
    | true =>
     have:b=43:=by simpa using hb
     subst this; exact absurd ha.1.1 (by decide)
   simp[Lib.atoi,b1,b2,Lib.decNat,hn]at hat
   exact hat.symm
 rw[key];refine⟨by omega,?_⟩
 simp at hlt
 exact_mod_cast hlt
theorem AbS{a:List UInt8}(h:numberL a=true):okD a/\(digs a).length<=3/\(caps a).length<=5/\(caps a).all capB=true:=by
 unfold numberL at h;simp only[Bool.and_eq_true,Bool.not_eq_true',Bool.or_eq_false_iff,decide_eq_false_iff_not]at h;obtain⟨h1,⟨h2,_⟩,h3⟩:=h;have hc:(caps a).length<=5:=by omega
 split at h3
 .rename_i hd
  unfold okD;rw[hd];exact⟨by simp,by simp,hc,h1⟩
 .simp only [Bool.and_eq_true,decide_eq_true_eq]at h3
  exact⟨⟨h3.1,by omega⟩,h3.2.1,hc,h1⟩
theorem AdG(s:List UInt8):s=digs s++caps s:=by simp[digs,caps]
theorem AaG{a:List UInt8}(h:numberL a=true):okD a/\a.length<1000/\(caps a).all capB=true/\0<=pN a/\pN a<1000000:=by
 obtain⟨h1,h2,h3,h4⟩:=AbS h;have hl:=congrArg List.length (AdG a);simp only[List.length_append]at hl;have hp:=BiO h1;have:10 ^ (digs a).length<=10 ^ 3:=Nat.pow_le_pow_right (by omega) h2;exact⟨h1,by omega,h4,hp.1,by omega⟩
