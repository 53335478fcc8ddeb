/- Drafts that are drawn. -/
import Derived.Test.YtmhjbljckkgeoaaGreatDoorC51
set_option maxRecDepth 100000
set_option maxHeartbeats 8000000
set_option linter.all false
namespace Go.Proofs.YtmhjbljckkgeoaaGreatDoor
open Av RowKit Proofs.Tryz
def bdR:Nat->Nat
 | 0=>5
 | i+1=>2*bdR i+3
def kbR:Nat->Nat
 | 0=>41000
 | i+1=>kbR i+10010*bdR i+16010
theorem BxO{i:Nat}(h:i<2):bdR i<=13/\kbR i+10010*bdR i+16010<=253200:=by
 have:i=0\/i=1:=by omega
 rcases this with rfl|rfl <;> decide
theorem BhY{i:Nat}(h:i<=2):bdR i<=bdR 2/\kbR i<=253200:=by
 have:i=0\/i=1\/i=2:=by omega
 rcases this with rfl|rfl|rfl <;> decide
structure FolR(i:Nat)(d:Dr):Prop where
 inn:DrIn d
 ok:DraftOk d
 plain:plainR d.Lk=true
 few:d.Lc.length<=bdR i
theorem A9P{S:Std}(hS:LibR S)(L:List Int)(k:Int)(h3:0<=k)(h4:k<=300000) :
  McH prog S 24 2 (str L k) [.int .i64 3] (fun r s=>∃ (pre:List Dr) (d:Dr) (k':Int),r=.fz 5 ((pre++[d]).map drA)/\FolR 2 d/\pre.length<=1000/\s=str L k'/\k<=k'/\k'<=k+260000):=by
 refine zdIN func24 rfl fun h ρ w hg=>?_
 simp only[go_sem];refine zmH 0 hg (agg:=str L k) (BdO hS.ok L k h3 (by omega)) ?_;rintro _ _ ⟨x,k',rfl,hx,rfl,hk1,hk2⟩;have hok:=BlJ ⟨x,hx,.inr rfl⟩;obtain⟨hsd,hsh⟩:=BuS hx;have htp:=List.all_eq_true.1 A9C _ hx.Lk;obtain⟨ti,xs0⟩:=x;simp only[numR]at hok hsd hsh htp |-;generalize numL 0 xs0=xs at *;have hsk:=BhP hok htp hsd.sc ((AzO xs).nodup (AuZ hsd.rise));have hlk:=BhN hS hsk hsd;have hin:=BuT hok hsd;have hlo:=BuO (ti:=ti) hsd;simp only[srA,drA,lao]at hlk |-;apply zgN;simp only[go_sem];refine zqN hg (hlk) ?_;simp only[go_sem];refine zm 0 (AcV L k' 3 (by omega) (by omega) (by omega) (by omega)) ?_;rintro _ _ ⟨⟨v,rfl,v1,v2⟩,rfl⟩;obtain⟨n,rfl⟩:∃ n:Nat,v=(n:Int):=⟨v.toNat,by omega⟩;apply zgN;simp only[go_sem];refine AlB (ι:=Nat×Int×List Dr×Dr) (κ:=Int×List Dr×Dr) (fun y=>n-y.1)
  (fun y=>[(21,.int .i64 y.1),(20,.int .i64 n),(7,.sl 1 0 (y.2.2.1.length+1) (y.2.2.1.length+1)),(0,.ptr 0 1 0 0)])
  (fun y=>[.arr 2 [str L y.2.1],.arr 5 ((y.2.2.1++[y.2.2.2]).map drA)])
  (fun y=>y.1<=n/\y.2.2.1.length<=y.1/\FolR y.1 y.2.2.2/\k<=y.2.1/\y.2.1<=k+kbR y.1)
  (fun y=>[(7,.sl 1 0 (y.2.1.length+1) (y.2.1.length+1)),(0,.ptr 0 1 0 0)])
  (fun y=>[.arr 2 [str L y.1],.arr 5 ((y.2.1++[y.2.2]).map drA)])
  (fun y=>FolR 2 y.2.2/\y.2.1.length<=1000/\k<=y.1/\y.1<=k+260000) (0,k'+1,[],⟨1,ti,xs,[],lockL xs⟩)
  ⟨by omega,by simp,⟨hin,hlo,htp,hsd.few⟩,by simp only; omega,by show k'+1<=k+((41000:Nat):Int); omega⟩ ?_ ?_ ?_
 .refine Shift.trans (Ls (e':=[(21,.int .i64 ((0:Nat):Int)),(20,.int .i64 n),(7,.sl 2 0 1 1),(0,.ptr 0 1 0 0)]) (by simp only[go_sem])) (Shift.trans (Shift.ren [0,2] rfl) (Lu ?_ rfl))
  simp only[renE,renV,ren1,idx,go_sem]
 .rintro ⟨k2,pre,d⟩ ⟨q1,q0,q2,q3⟩
  simp only at q1 q0 q2 q3 |-;apply zgN;simp only[go_sem];have hf:(flat ((pre++[d]).map drA)).all Av.frozen=true:=AbA (fun _=>rfl) _;refine ARet.shift (Shift.trans (Shift.freeze 4 (id:=1) rfl rfl (by simp) (lab _) hf) (Lu (e':=[(4,.fz 5 ((pre++[d]).map drA)),(0,.ptr 0 1 0 0)]) (s':=[.arr 2 [str L k2],.dead]) ?_ ?_)) (aret [4] rfl ⟨_,_,rfl,⟨pre,d,k2,rfl,q1,q0,rfl,q2,q3⟩,rfl,rfl⟩)
  .simp only[go_sem]
   rw[lae (by simp)]
  .rfl
 .rintro ⟨i,k2,pre,d⟩ ⟨g1,g2,g3,g4,g5⟩ J Q hJ hQ
  simp only at g1 g2 g3 g4 g5 hJ hQ |-
  by_cases gi:i<n
  .have di:decide ((i:Int)<(n:Int))=true:=by rw[laj]; omega
   obtain⟨b1,b2⟩:=BxO (show i<2 by omega);have hfw:=g3.few;have hinn:=g3.inn;have hnodR:=AuZ g3.ok.nums.rise;have hti:=hinn.script.Lk;have htpl:=hinn.script.plain;simp only at hti htpl;have hrv:=A2I L k2 (by omega) d.no d.Lk d.Lc (by omega) d.Lp (d.La.map leA) hinn.sc (by omega) hnodR (fun n hn=>⟨hinn.Lp n hn,g3.ok.nums.apart n hn⟩) hinn.Lm;have hgl:List.getD ((pre++[d]).map drA) pre.length .any=.agg [.int .i64 d.no,.str d.Lk,.fz 5 (d.Lc.map scA),.fz 1 (d.Lp.map .str),.fz 4 (d.La.map leA)]:=by simp[List.getD,drA]
   have ep:(((pre.length+1:Nat):Int)-1).toNat=pre.length:=by omega
   have hll:((pre++[d]).map drA).length=pre.length+1:=by simp
   apply zgN;simp only[go_sem,di];refine AfW [13,14] 0 [] AaF (by decide) rfl rfl 100 ?_;simp only[go_sem,ep,hgl,hll]
   repeat refine aqb ?_
   refine A7B hrv rfl rfl rfl ⟨_,_,[],k2,rfl,⟨by simp,by simp[hasNo,nosL],by simp,by simp⟩,rfl,by omega,by omega⟩ ?_;rintro _ _ ⟨zs,k3,rfl,hz,rfl,hk3,hk4⟩;have hzl:=hz.len;have hzs:=hz.script (by omega) hti htpl;have hsk2:=BhP hzs g3.plain hz.sc hz.nod;have hnx:=A3I hS hinn g3.ok g3.plain (fun f hf=>by have:=AbW (g3.ok.binder.all f hf).name; omega) hsk2;simp only[srA,drA]at hnx |-;simp only[go_sem];refine BcL hg hnx rfl rfl ⟨_,.inl ⟨1,by decide,rfl⟩⟩ ?_;rintro _ (⟨e,he,rfl⟩|⟨E,E',la,l,hN,rfl⟩)
   .have de:(e != 0)=true:=by simpa using he
    obtain⟨b3,b4⟩:=BhY (show i<=2 by omega);have hq:=hQ (k3,pre,d) ⟨⟨g3.inn,g3.ok,g3.plain,by show d.Lc.length<=bdR 2; omega⟩,by show pre.length<=1000; omega,by show k<=k3; omega,by show k3<=k+260000; omega⟩;simp only[drZ];simp only[go_sem]
    repeat refine aqb ?_
    apply zgN;simp only[go_sem,de];refine ainv hq (Shift.trans (Shift.low 2 (e':=[(7,.sl 1 0 (pre.length+1) (pre.length+1)),(0,.ptr 0 1 0 0)]) (by simp) (by simp) ?_ ?_) (Lu ?_ rfl))
    .show (_&&(lowB 2 (.arr 5 _)&&true))=true
     rw[lau,lag];exact⟨rfl,AaH (AbA (f:=drA) (fun _=>rfl) _)⟩
    .simp only[go_sem]
    .simp only [go_sem]
   .have hnk:=BtM hinn hti htpl hz.sc hz.first (by simp only; omega) hN
    have hfin:=hJ (i+1,k3,pre++[d],nextD d ⟨d.Lk,zs⟩ E l) ⟨by simp only; omega,by simp; omega,⟨hnk.inn,hnk.ok,by rw[hnk.Lk]; exact g3.plain,by rw[hnk.Lc]; simp only[bdR]; omega⟩,by show k<=k3; omega,by show k3<=k+((kbR i+10010*bdR i+16010:Nat):Int); omega⟩ (by simp only; omega);have d2:((0:Int) != 0)=false:=by decide
    generalize nextD d ⟨d.Lk,zs⟩ E l=N at *;simp only[drA]at hfin |-;simp only[go_sem]
    repeat refine aqb ?_
    apply zgN;simp only[go_sem,d2,hll]
    repeat refine aqb ?_
    rw[ic i];rw[lah,lal,laq]at hfin;refine ainv hfin (Shift.trans (Shift.low 2 (e':=[(21,.int .i64 ((i+1:Nat):Int)),(20,.int .i64 n),(7,.sl 1 0 (pre.length+1+1) (pre.length+1+1)),(0,.ptr 0 1 0 0)]) (by simp) (by simp) ?_ ?_) (Lu ?_ ?_))
    .have h1:=AbA (f:=drA) (fun _=>rfl) ((pre++[d])++[N])
     rw[laf]at h1
     show(_&&(lowB 2 (.arr 5 _)&&true))=true
     rw[lau,lag];exact⟨rfl,AaH h1⟩
    .simp only[go_sem]
    .simp only [go_sem]
    .rw [laf (l₂:=[N])]
     rfl
  .have di:decide ((i:Int)<(n:Int))=false:=by rw[lai]; omega
   obtain⟨b1,b2⟩:=BhY (show i<=2 by omega);have hq:=hQ (k2,pre,d) ⟨⟨g3.inn,g3.ok,g3.plain,by have:=g3.few; show d.Lc.length<=bdR 2; omega⟩,by show pre.length<=1000; omega,g4,by show k2<=k+260000; omega⟩;apply zgN;simp only[go_sem,di];refine ainv hq (Ls ?_);simp only[go_sem]
theorem AzV{S:Std}(hS:LibR S)(L:List Int)(k:Int)(h3:0<=k)(h4:k<=300000) :
  McH prog S 6 2 (str L k) [] (fun r s=>∃ (d:Dr) (k':Int),r=drA d/\FolR 2 d/\s=str L k'/\k<=k'/\k'<=k+260000):=by
 refine zdIF func6 rfl fun h ρ w hg=>?_
 simp only[go_sem];refine zmH 0 hg (agg:=str L k) (A9P hS L k h3 h4) ?_;rintro _ _ ⟨pre,d,k',rfl,hd,hpl,rfl,hk1,hk2⟩;have hgl:List.getD ((pre++[d]).map drA) pre.length .any=.agg [.int .i64 d.no,.str d.Lk,.fz 5 (d.Lc.map scA),.fz 1 (d.Lp.map .str),.fz 4 (d.La.map leA)]:=by simp[List.getD,drA]
 have ep:(((pre.length+1:Nat):Int)-1).toNat=pre.length:=by omega
 have hll:((pre++[d]).map drA).length=pre.length+1:=by simp
 apply zgF;simp only[go_sem,ep,hgl,hll]
 repeat refine aqb ?_
 exact AbF [.cell 2 33] rfl [_] ⟨by simp only[go_sem,sideIs],trivial⟩ ⟨_,_,rfl,⟨d,k',rfl,hd,rfl,hk1,hk2⟩,rfl,rfl⟩
theorem AkY(L:List Int)(k:Int)(ls:List LU)(h1:1<=ls.length)(h2:ls.length<=1000)(h3:0<=k)(h4:k<=1000000) :
  Mc prog 21 2 (str L k) [.fz 1 (ls.map .str)] (fun r s=>(∃ x∈ls,r=.str x)/\s=str L (k+1)):=by
 have hlen:((List.map AV.str ls).length:Int)=ls.length:=by simp
 refine zcIF func21 rfl fun h ρ w=>?_
 simp only[go_sem,hlen,laa];refine zm 0 (AcV L k ls.length (by omega) (by omega) (by omega) (by omega)) ?_;rintro _ _ ⟨⟨v,rfl,v1,v2⟩,rfl⟩;obtain⟨n,rfl⟩:∃ n:Nat,v=(n:Int):=⟨v.toNat,by omega⟩;have hn:n<ls.length:=by omega
 have hg:List.getD (ls.map AV.str) n .any=.str ls[n]:=by simp[List.getD,hn]
 apply zgF;simp only[go_sem,hg,laa]
 repeat refine aqb ?_
 exact aret [4] rfl ⟨_,_,rfl,⟨ls[n],lac hn,rfl⟩,rfl,rfl,rfl⟩
def NOL:List LU:=[[],[49],[50],[57],[49,50],[49,50,66],[49,50,65,66],[49,50,66,66],[49,50,90,90,90,90,90],[49,51],[48,66],[48,65,66],[48,65,65,65,65,66],[57,57,57],[57,57,57,66],[57,57,57,90,90,90,90,90],[57,57,56,90,90,90,90,90],[49,65],[48],[48,49],[49,98],[49,48,48,48]]
theorem BhZ:∀ x∈NOL,x.length<=100:=by decide
def LNL:List LU:=[[97],[98],[99],[97],[]]
theorem BiA:∀ x∈LNL,x.length<=100:=by decide
theorem BxP(L:List Int)(k:Int)(h3:0<=k)(h4:k<=1000000) :
  Mc prog 55 2 (str L k) [] (fun r s=>(∃ x:LU,x.length<=100/\r=.str x)/\s=str L (k+1)):=by
 have ho:=AkY L k NOL (by decide) (by decide) h3 h4;refine zcIF func55 rfl fun h ρ w=>?_
 simp only[go_sem];refine zm 0 (ho) ?_;rintro _ _ ⟨⟨x,hx,rfl⟩,rfl⟩;apply zgF;simp only[go_sem];exact aret [2] rfl ⟨_,_,rfl,⟨x,BhZ x hx,rfl⟩,rfl,rfl,rfl⟩
def BpW(ls:List LU)(n:Nat):Prop:=ls.length<=n/\∀ x∈ls,x.length<=100
theorem AzW(L:List Int)(k:Int)(B:Blk)(m:Nat)(h1:m<=10)(h3:0<=k)(h4:k<=900000) :
  Ct prog 22 [.ptr 0 1 0 0,.int .i64 (m:Int)] [.arr 2 [str L k],B] (fun r s=>∃ ls k',BpW ls m/\k<=k'/\k'<=k+20/\r=.sl 2 0 ls.length ls.length/\s=[.arr 2 [str L k'],B,.arr 1 (ls.map .str)]):=by
 refine zcIF func22 rfl fun h ρ w=>?_
 simp only[go_sem]
 repeat refine aqb ?_
 refine zm 0 (AcV L k ((m:Int)+1) (by omega) (by omega) (by omega) (by omega)) ?_;rintro _ _ ⟨⟨v,rfl,v1,v2⟩,rfl⟩;obtain⟨n,rfl⟩:∃ n:Nat,v=(n:Int):=⟨v.toNat,by omega⟩;apply zgF;simp only[go_sem];refine AaC (ι:=Nat×List LU) (fun y=>n-y.1)
  (fun y=>[(10,.int .i64 (y.1:Int)),(9,.int .i64 n),(5,.sl 2 0 y.2.length y.2.length),(0,.ptr 0 1 0 0)])
  (fun y=>[.arr 2 [str L (k+1+(y.1:Int))],B,.arr 1 (y.2.map .str)]) (fun y=>y.1<=n/\BpW y.2 y.1) (0,[]) ⟨by omega,by simp,by simp⟩ ?_ ?_
 .refine Shift.trans (Lv 5 1 rfl) (Lu ?_ (by simp))
  simp only[go_sem]
 .rintro ⟨i,ls⟩ ⟨g1,g2,g3⟩ J hJ
  simp only at g1 g2 g3 hJ |-
  by_cases gi:i<n
  .have di:decide ((i:Int)<(n:Int))=true:=by rw[laj]; omega
   have ho:=AkY L (k+1+(i:Int)) LNL (by decide) (by decide) (by omega) (by omega);apply zgF;simp only[go_sem,di];refine zm 0 (ho) ?_;rintro _ _ ⟨⟨x,hx,rfl⟩,rfl⟩;have hfin:=hJ (i+1,ls++[x]) ⟨by simp only; omega,by simp; omega,fun z hz=>by
    rcases List.mem_append.1 hz with hz|hz
    .exact g3 z hz
    .rw [List.mem_singleton.1 hz]; exact BiA x hx⟩ (by simp only; omega)
   rw[lah,lal,laq]at hfin;apply zgF;simp only[go_sem,laa]
   repeat refine aqb ?_
   rw[ic i];refine ainv hfin (Lu ?_ ?_)
   .simp only [go_sem]
   .simp only [laf,lak,lao]
    rw[show k+1+(i:Int)+1=k+1+((i+1:Nat):Int) by omega]
  .have di:decide ((i:Int)<(n:Int))=false:=by rw[lai]; omega
   apply zgF;simp only[go_sem,di];exact aret [4] rfl ⟨ls,k+1+(i:Int),⟨by omega,g3⟩,by omega,by omega,rfl,rfl⟩
structure BdIn(l:List Le'):Prop where
 n:l.length<=3000
 all:∀ f∈l,f.name.length<=20000/\f.first.length<=20000/\f.Lb.length<=1000/\∀ s∈f.Lb,s.length<=20000
theorem A9Q(sto:LB)(l:List Le')(hl:l.length<=1000000) :
  Ct prog 54 [.fz 4 (l.map leA)] sto (fun r s=>r=.sl sto.length 0 l.length l.length/\s=sto++[.arr 4 (l.map leA)]):=by
 cases l with
 | nil =>
  simp only[lao];refine zcIN func54 rfl fun h ρ w=>?_
  simp only[go_sem];intro b;apply zgN
  cases b with
  | true =>
   simp only[go_sem,getD_endP,set_endP];refine ARet.shift (Lv 2 4 rfl) (aret [2] rfl ⟨rfl,rfl⟩)
  | false =>
   simp only[go_sem,getD_endP,set_endP];exact⟨.inl trivial,aret [2] rfl ⟨rfl,rfl⟩⟩
 | cons x ls =>
  refine zcIN func54 rfl fun h ρ w=>?_
  simp only[go_sem,getD_endP,set_endP,leA];refine⟨by simp,by simp at hl |-; omega,by simp at hl |-; omega,aret [2] rfl ⟨by simp[resV,Av.get],rfl⟩⟩
def xL(n j:Nat):List LU:=List.replicate j [120]++List.replicate (n-j) []
theorem A9R(L:List Int)(k:Int)(n:Nat)(hn:n<=1000):Mc prog 58 2 (str L k) [.int .i64 (n:Int)] (fun r s=>r=.fz 1 ((List.replicate n [120]).map .str)/\s=str L k):=by
 refine zcIF func58 rfl fun h ρ w=>?_
 simp only[go_sem]
 repeat refine aqb ?_
 refine AaC (ι:=Nat) (fun j=>n-j) (fun j=>[(11,.int .i64 (j:Int)),(10,.int .i64 n),(5,.sl 1 0 n n)]) (fun j=>[.arr 2 [str L k],.arr 1 ((xL n j).map .str)]) (fun j=>j<=n) 0 (by omega) ?_ ?_
 .refine Lu ?_ ?_
  .simp only [go_sem]
  .simp [xL]
 .intro j g1 J hJ
  by_cases gj:j<n
  .have dj:decide ((j:Int)<(n:Int))=true:=by rw[laj]; omega
   have hl:((xL n j).map AV.str).length=n:=by simp[xL]; omega
   have hg:List.getD ((xL n j).map AV.str) j .any=.str []:=by
    unfold xL;rw[lcf,lbw,List.getElem?_append_right (by simp),List.getElem?_replicate,if_pos (by simp; omega)]; rfl
   have hs:((xL n j).map AV.str).set j (.str [120])=(xL n (j+1)).map AV.str:=by
    unfold xL;rw[laf,List.set_append_right _ _ (by simp),show n-j=(n-(j+1))+1 by omega,List.replicate_succ' (n:=j)]
    simp[List.replicate_succ]
   have hfin:=hJ (j+1) (by omega) (by omega);apply zgF;simp only[go_sem,dj,hg,hs,hl]
   repeat refine aqb ?_
   rw[ic j];refine ainv hfin (Ls ?_);simp only[go_sem]
  .have dj:decide ((j:Int)<(n:Int))=false:=by rw[lai]; omega
   have hj:j=n:=by omega
   subst hj;apply zgF;simp only[go_sem,dj];have e:List.take j ((xL j j).map AV.str)=(List.replicate j [120]).map .str:=by simp[xL]
   refine ARet.shift (Shift.trans (Shift.freeze 4 (id:=1) rfl rfl (by simp[xL]) (lab _) (AaD _)) (Lu (e':=[(4,.fz 1 ((List.replicate j [120]).map .str))]) (s':=[.arr 2 [str L k],.dead]) ?_ rfl)) (aret [4] rfl ⟨_,_,rfl,rfl,rfl,rfl,rfl⟩);simp only[go_sem];exact congrArg _ e
structure BdIn0(l:List Le'):Prop where
 n:l.length<=2000
 all:∀ f∈l,f.name.length<=10000/\f.first.length<=10000/\f.Lb.length<=900/\∀ s∈f.Lb,s.length<=10000
def NML:List LU:=[[],[49],[52,45,50],[50,45,50],[50,45],[50,45,52,45,54],[49,65],[51,66]]
theorem BiB:∀ x∈NML,x.length<=100:=by decide
def NFL:List LU:=[[49,65],[120],[49]]
theorem BiC:∀ x∈NFL,x.length<=100:=by decide
def D40:LU:=[49,50,51,52,53,54,55,56,57,48,49,50,51,52,53,54,55,56,57,48,49,50,51,52,53,54,55,56,57,48,49,50,51,52,53,54,55,56,57,48]
def LNX:List LU:=[[97,32],[97,9,98],[32,97],D40++D40,D40++(D40++[49])]
theorem BiD:∀ x∈LNX,x.length<=100:=by decide
theorem gdM(D D':LY)(c d:AV):List.getD (D++c::D') D.length d=c:=by simp[List.getD]
theorem stM(D D':LY)(c d:AV):(D++c::D').set D.length d=D++d::D':=by simp
theorem A9S(L:List Int)(k:Int)(l:List Le')(hl:BdIn0 l)(h3:0<=k)(h4:k<=800000) :
  Mc prog 23 2 (str L k) [.fz 4 (l.map leA)] (fun r s=>∃ (l':List Le') (k':Int),r=.fz 4 (l'.map leA)/\BdIn l'/\s=str L k'/\k<=k'/\k'<=k+40):=by
 have hln:=hl.n;refine zcIF func23 rfl fun h ρ w=>?_
 simp only[go_sem];refine za (A9Q [.arr 2 [str L k]] l (by omega)) ?_;rintro _ _ ⟨rfl,rfl⟩
 by_cases h0:l=[]
 .subst h0
  simp only[lao,laq,lbc,lbs,lal,lay];apply zgF;simp only[go_sem];refine zm 0 (BxP L k h3 (by omega)) ?_;rintro _ _ ⟨⟨x,hx,rfl⟩,rfl⟩;apply zgF;simp only[go_sem];refine zm 0 (AgV L (k+1) 0 31 (by omega) (by omega) (by omega) (by omega) (by omega)) ?_;rintro _ _ ⟨⟨v,rfl,v1,v2⟩,rfl⟩;apply zgF;simp only[go_sem];have hli:=AzW L (k+1+1) (.arr 4 []) 2 (by omega) (by omega) (by omega);refine za (hli) ?_;rintro _ _ ⟨ls,k',⟨lg1,lg2⟩,hk1,hk2,rfl,rfl⟩;apply zgN;simp only[go_sem]
  repeat refine aqb ?_
  have ht:List.take ls.length (ls.map AV.str)=ls.map .str:=lae (by simp);refine ARet.shift (Shift.trans (Ls (e':=[(4,.sl 1 0 1 1)]) (by simp only[go_sem])) (Shift.trans (Shift.frz 2 (es:=1) (l:=ls.map .str) rfl (AaD _)) (Shift.trans (Lu (e':=[(4,.sl 1 0 1 1)]) (s':=[.arr 2 [str L k'],.arr 4 [leA ⟨x,v,[],ls⟩],.dead,.arr 4 [leA ⟨x,v,[],ls⟩]]) ?_ ?_) (Shift.trans (Shift.freeze 4 (id:=1) rfl rfl rfl (lab _) rfl) (Lu (e':=[(4,.fz 4 [leA ⟨x,v,[],ls⟩])]) (s':=[.arr 2 [str L k'],.dead,.dead,.arr 4 [leA ⟨x,v,[],ls⟩]]) ?_ rfl))))) (aret [4] rfl ⟨_,_,rfl,⟨[⟨x,v,[],ls⟩],k',rfl,⟨by simp,fun f hf=>?_⟩,rfl,by omega,by omega⟩,rfl,rfl⟩)
  .simp only[frzE,frz,frz1,go_sem]
  .simp only[go_sem,frzB,frzC,frz1,laa,ht,lab,str,leA]
  .simp only [go_sem]
  .rw [List.mem_singleton.1 hf]
   exact⟨by simp only; omega,by simp,by simp only; omega,fun s hs=>by have:=lg2 s hs; omega⟩
 .have hpos:=List.length_pos_iff.2 h0
  have d0:((l.length:Int)==0)=false:=by rw[lax]; omega
  simp only[lbc,lbs,lal,laq,lay];apply zgF;simp only[go_sem,d0,laa];refine zm 0 (AcV L k l.length (by omega) (by omega) (by omega) (by omega)) ?_;rintro _ _ ⟨⟨v,rfl,v1,v2⟩,rfl⟩;obtain⟨j,rfl⟩:∃ n:Nat,v=(n:Int):=⟨v.toNat,by omega⟩;obtain⟨pre,f,post,hlf,hj⟩:∃ pre f post,l=pre++f::post/\j=pre.length:=by
   have hjl:j<l.length:=by omega
   exact⟨l.take j,l[j],l.drop (j+1),by rw[<- lbl hjl,lbd],by simp; omega⟩
  subst hlf hj;obtain⟨f1,f2,f3,f4⟩:=hl.all f (by simp);have hD:(List.map leA (pre++f::post))=List.map leA pre++.agg [.str f.name,.int .i64 f.Lj,.str f.first,.fz 1 (f.Lb.map .str)]::List.map leA post:=by simp[leA]
  rw[hD];have hDl:(List.map leA pre).length=pre.length:=by simp
  have hall:(List.map leA pre++AV.agg [.str f.name,.int .i64 f.Lj,.str f.first,.fz 1 (f.Lb.map .str)]::List.map leA post).length=(pre++f::post).length:=by simp
  have hgm:=fun c d=>gdM (List.map leA pre) (List.map leA post) c d
  have hsm:=fun c d=>stM (List.map leA pre) (List.map leA post) c d
  rw[hDl]at hgm hsm;apply zgF;simp only[go_sem,hgm,hall]
  repeat refine aqb ?_
  refine za (AnR [.arr 2 [str L (k+1)],.arr 4 (List.map leA pre++.agg [.str f.name,.int .i64 f.Lj,.str f.first,.fz 1 (f.Lb.map .str)]::List.map leA post)] (f.Lb.map .str) (AtG _) (by simp; omega)) ?_;rintro _ _ ⟨rfl,rfl⟩;simp only[lbc,lbs,lal,laq,laa,lay];apply zgF;simp only[go_sem,hgm,hsm,hall]
  repeat refine aqb ?_
  refine zm 0 (AcV L (k+1) 6 (by omega) (by omega) (by omega) (by omega)) ?_;rintro _ _ ⟨⟨v,rfl,w1,w2⟩,rfl⟩;refine goF rfl 1 ?_;simp only[go_sem];refine acut (ι:=Int×LY×List LU×List Le') (fun y=>[(5,.sl 1 0 y.2.1.length y.2.1.length),(0,.ptr 0 1 0 0)]) (fun y=>[.arr 2 [str L y.1],.arr 4 y.2.1,.arr 1 (y.2.2.1.map .str)])
   (fun y=>k<=y.1/\y.1<=k+40/\BdIn y.2.2.2/\y.2.1.map (frzC 2 1 (y.2.2.1.map .str))=y.2.2.2.map leA) ?_ ?_
  .intro J hJ
   have ht:List.take f.Lb.length (f.Lb.map AV.str)=f.Lb.map .str:=lae (by simp);have hfz:∀ n d fi,(List.map leA pre++.agg [.str n,.int .i64 d,.str fi,.sl 2 0 f.Lb.length f.Lb.length]::List.map leA post).map (frzC 2 1 (f.Lb.map .str))=(pre++⟨n,d,fi,f.Lb⟩::post).map leA:=fun n d fi=>by
    rw[laf,lak,AcZ (fun _=>rfl) pre,AcZ (fun _=>rfl) post,laf,lak];simp only[frzC,frz1,lak,lao,laa,ht,lbu,lay,decide_true,lab,lbh,lbf,cond_true,leA]
   have hBd:∀ g:Le',g.name.length<=20000->g.first.length<=20000->g.Lb.length<=1000->(∀ s∈g.Lb,s.length<=20000)->BdIn (pre++g::post):=fun g g1 g2 g3 g4=>by
    have h1:=hl.n;simp only[lah,lal]at h1;refine⟨by simp only[lah,lal]; omega,fun y hy=>?_⟩;have old:y∈pre++f::post->y.name.length<=20000/\y.first.length<=20000/\y.Lb.length<=1000/\∀ s∈y.Lb,s.length<=20000:=fun hm=>by
     obtain⟨a1,a2,a3,a4⟩:=hl.all y hm;exact⟨by omega,by omega,by omega,fun s hs=>by have:=a4 s hs; omega⟩
    rcases List.mem_append.1 hy with hy|hy
    .exact old (by simp[hy])
    .rcases List.mem_cons.1 hy with rfl|hy
     .exact ⟨g1,g2,g3,g4⟩
     .exact old (by simp[hy])
   have hRl:∀ c:AV,(List.map leA pre++c::List.map leA post).length=pre.length+(post.length+1):=fun c=>by simp
   have hv:v=0\/v=1\/v=2\/v=3\/v=4\/v=5:=by omega
   have hfl:∀ s∈f.Lb,s.length<=20000:=fun s hs=>by have:=f4 s hs; omega
   rcases hv with rfl|rfl|rfl|rfl|rfl|rfl
   .apply zgF
    simp only[go_sem];have ho:=AkY L (k+1+1) NML (by decide) (by decide) (by omega) (by omega);refine zm 0 (ho) ?_;rintro _ _ ⟨⟨x,hx,rfl⟩,rfl⟩;have hfin:=hJ (k+1+1+1,(List.map leA pre++.agg [.str x,.int .i64 f.Lj,.str f.first,.sl 2 0 f.Lb.length f.Lb.length]::List.map leA post),f.Lb,pre++⟨x,f.Lj,f.first,f.Lb⟩::post) ⟨by simp only; omega,by simp only; omega,hBd _ (by have:=BiB x hx; simp only; omega) (by simp only; omega) (by simp only; omega) hfl,hfz x f.Lj f.first⟩;simp only[hRl]at hfin;apply zgF;simp only[go_sem,hgm,hsm,hRl]
    repeat refine aqb ?_
    refine ainv hfin (Ls ?_);simp only[go_sem]
   .apply zgF
    simp only[go_sem];have ho:=AkD L (k+1+1) [0,1,30,31] (by decide) (by decide) (by omega) (by omega);refine zm 0 (ho) ?_;rintro _ _ ⟨⟨x,hx,rfl⟩,rfl⟩;have hfin:=hJ (k+1+1+1,(List.map leA pre++.agg [.str f.name,.int .i64 x,.str f.first,.sl 2 0 f.Lb.length f.Lb.length]::List.map leA post),f.Lb,pre++⟨f.name,x,f.first,f.Lb⟩::post) ⟨by simp only; omega,by simp only; omega,hBd _ (by simp only; omega) (by simp only; omega) (by simp only; omega) hfl,hfz f.name x f.first⟩;simp only[hRl]at hfin;apply zgF;simp only[go_sem,hgm,hsm,hRl]
    repeat refine aqb ?_
    refine ainv hfin (Ls ?_);simp only[go_sem]
   .apply zgF
    simp only[go_sem];have ho:=AkY L (k+1+1) NFL (by decide) (by decide) (by omega) (by omega);refine zm 0 (ho) ?_;rintro _ _ ⟨⟨x,hx,rfl⟩,rfl⟩;have hfin:=hJ (k+1+1+1,(List.map leA pre++.agg [.str f.name,.int .i64 f.Lj,.str x,.sl 2 0 f.Lb.length f.Lb.length]::List.map leA post),f.Lb,pre++⟨f.name,f.Lj,x,f.Lb⟩::post) ⟨by simp only; omega,by simp only; omega,hBd _ (by simp only; omega) (by have:=BiC x hx; simp only; omega) (by simp only; omega) hfl,hfz f.name f.Lj x⟩;simp only[hRl]at hfin;apply zgF;simp only[go_sem,hgm,hsm,hRl]
    repeat refine aqb ?_
    refine ainv hfin (Ls ?_);simp only[go_sem]
   .apply zgF
    simp only[go_sem];have ho:=AkD L (k+1+1) [0,54,55] (by decide) (by decide) (by omega) (by omega);refine zm 0 (ho) ?_;rintro _ _ ⟨⟨x,hx,rfl⟩,rfl⟩;obtain⟨n,rfl,hn⟩:∃ n:Nat,x=(n:Int)/\n<=55:=by
     simp only[List.mem_cons,List.not_mem_nil,or_false]at hx
     rcases hx with rfl|rfl|rfl
     .exact ⟨0,rfl,by decide⟩
     .exact ⟨54,rfl,by decide⟩
     .exact ⟨55,rfl,by decide⟩
    have hlo:=A9R L (k+1+1+1) n (by omega);apply zgF;simp only[go_sem];refine zm 0 (hlo) ?_;rintro _ _ ⟨rfl,rfl⟩;have hfin:=hJ (k+1+1+1,(List.map leA pre++.agg [.str f.name,.int .i64 f.Lj,.str f.first,.fz 1 ((List.replicate n [120]).map .str)]::List.map leA post),f.Lb,pre++⟨f.name,f.Lj,f.first,List.replicate n [120]⟩::post) ⟨by simp only; omega,by simp only; omega,hBd _ (by simp only; omega) (by simp only; omega) (by simp; omega) (fun s hs=>by rw[List.eq_of_mem_replicate hs]; decide),by
     rw[laf,lak,AcZ (fun _=>rfl) pre,AcZ (fun _=>rfl) post,laf,lak];rfl⟩
    simp only[hRl]at hfin;apply zgF;simp only[go_sem,hgm,hsm,hRl]
    repeat refine aqb ?_
    refine ainv hfin (Ls ?_);simp only[go_sem]
   .apply zgF
    simp only[go_sem];refine AfW [7] 0 [] AaF (by decide) rfl rfl 100 ?_;simp only[go_sem,hgm,hsm,hRl]
    repeat refine aqb ?_
    have ho:=AkY L (k+1+1) LNX (by decide) (by decide) (by omega) (by omega);refine A7B ho rfl rfl rfl ⟨_,_,⟨[97,32],by decide,rfl⟩,rfl⟩ ?_;rintro _ _ ⟨⟨x,hx,rfl⟩,rfl⟩;have htx:List.take (f.Lb.length+1) (List.map AV.str (f.Lb++[x]))=List.map .str (f.Lb++[x]):=lae (by simp);have hlx:(List.map AV.str (f.Lb++[x])).length=f.Lb.length+1:=by simp
    have hfin:=hJ (k+1+1+1,(List.map leA pre++.agg [.str f.name,.int .i64 f.Lj,.str f.first,.sl 2 0 (f.Lb.length+1) (f.Lb.length+1)]::List.map leA post),f.Lb++[x],pre++⟨f.name,f.Lj,f.first,f.Lb++[x]⟩::post) ⟨by simp only; omega,by simp only; omega,hBd _ (by simp only; omega) (by simp only; omega) (by simp; omega) (fun s hs=>by
     rcases List.mem_append.1 hs with hs|hs
     .exact hfl s hs
     .rw [List.mem_singleton.1 hs]; have:=BiD x hx; omega),by
     have hq2:frzC 2 1 (List.map AV.str (f.Lb++[x])) (.agg [.str f.name,.int .i64 f.Lj,.str f.first,.sl 2 0 (f.Lb.length+1) (f.Lb.length+1)])=leA ⟨f.name,f.Lj,f.first,f.Lb++[x]⟩:=by
      simp only[frzC,frz1,List.map,hlx,htx,lbu,lay,decide_true,lab,lbh,lbf,cond_true,leA]
     have hq3:∀ M:LY,frzC 2 1 M (.agg [.str f.name,.int .i64 f.Lj,.str f.first,.sl 2 0 (f.Lb.length+1) (f.Lb.length+1)])=leA ⟨f.name,f.Lj,f.first,f.Lb++[x]⟩->(List.map leA pre++.agg [.str f.name,.int .i64 f.Lj,.str f.first,.sl 2 0 (f.Lb.length+1) (f.Lb.length+1)]::List.map leA post).map (frzC 2 1 M)=(pre++⟨f.name,f.Lj,f.first,f.Lb++[x]⟩::post).map leA:=fun M hM=>by
      rw[laf,lak,AcZ (fun _=>rfl) pre,AcZ (fun _=>rfl) post,laf,lak,hM]
     exact hq3 _ hq2⟩
    simp only[hRl]at hfin;simp only[go_sem,hgm,hsm,hRl,laa]
    repeat refine aqb ?_
    apply zgF;simp only[go_sem];refine ainv hfin (Lu ?_ ?_)
    .simp only [go_sem]
    .rw [laf]
     rfl
   .have hlw:(flat (List.map leA pre++.agg [.str f.name,.int .i64 f.Lj,.str f.first,.sl 2 0 f.Lb.length f.Lb.length]::List.map leA post)).all (lowC 3)=true:=by
     have h1:=AcK 3 pre;have h2:=AcK 3 post;simp only[lowB]at h1 h2;simp only[flat_append,flat,List.all_append,las,lba,h1,h2,cellsOf,lowC,Av.frozen,lau,laz,decide_true,Nat.reduceLT]
    obtain⟨c0,R0,hR0,hc0⟩:∃ c0 R0,(List.map leA pre++.agg [.str f.name,.int .i64 f.Lj,.str f.first,.sl 2 0 f.Lb.length f.Lb.length]::List.map leA post)=c0::R0/\∃ (a:LU) (b:Int) (c:LU) (e:AV),c0=AV.agg [.str a,.int .i64 b,.str c,e]/\(e=.sl 2 0 f.Lb.length f.Lb.length\/∃ ls:List LU,e=.fz 1 (ls.map .str)):=by
     cases pre with
     | nil=>exact⟨_,_,rfl,_,_,_,_,rfl,.inl rfl⟩
     | cons p ps=>exact⟨_,_,rfl,_,_,_,_,rfl,.inr ⟨_,rfl⟩⟩
    obtain⟨ca,cb,cc,ce,rfl,hce⟩:=hc0;have hz:=hfz f.name f.Lj f.first;rw[hR0]at hz hlw |-;have hRl0:=hRl (.agg [.str f.name,.int .i64 f.Lj,.str f.first,.sl 2 0 f.Lb.length f.Lb.length]);rw[hR0]at hRl0;have hlt:pre.length+(post.length+1)<=2000:=by have:=hl.n; simpa using this
    have hb0:=hBd f (by omega) (by omega) (by omega) hfl;obtain⟨l0,ltl,hl0⟩:∃ l0 ltl,pre++f::post=l0::ltl:=by
     cases pre with
     | nil=>exact⟨_,_,rfl⟩
     | cons p ps=>exact⟨_,_,rfl⟩
    have hz':(AV.agg [.str ca,.int .i64 cb,.str cc,ce]::R0).map (frzC 2 1 (f.Lb.map .str))=(l0::ltl).map leA:=by rw[hz,<- hl0]
    have hfin:=hJ (k+1+1,(AV.agg [.str ca,.int .i64 cb,.str cc,ce]::R0)++[.agg [.str ca,.int .i64 cb,.str cc,ce]],f.Lb,(l0::ltl)++[l0]) ⟨by simp only; omega,by simp only; omega,⟨by
      have:=congrArg List.length hl0
      simp at this |-; omega,fun y hy=>by
      rw[hl0]at hb0
      rcases List.mem_append.1 hy with hy|hy
      .exact hb0.all y hy
      .rw [List.mem_singleton.1 hy]; exact hb0.all l0 (by simp)⟩,by
      have h1:=hz';simp only[lak,List.cons.injEq]at h1;rw[laf,hz',laf]
      congr 1
      simp only[lak,lao,h1.1]⟩
    simp only[lah,lal,laq]at hfin hRl0;have hgg:∀ d,List.getD (AV.agg [.str ca,.int .i64 cb,.str cc,ce]::R0) 0 d=.agg [.str ca,.int .i64 cb,.str cc,ce]:=fun d=>rfl
    have hpp:pre.length+(post.length+1)=R0.length+1:=hRl0.symm;rw[hpp];have hlw3:∀ s:LB,s=[.arr 2 [str L (k+1+1)],.arr 4 (AV.agg [.str ca,.int .i64 cb,.str cc,ce]::R0++[AV.agg [.str ca,.int .i64 cb,.str cc,ce]]),.arr 1 (f.Lb.map .str)]->s.all (lowB 3)=true:=fun s hs=>by
     subst hs;have h3:(flat [AV.agg [.str ca,.int .i64 cb,.str cc,ce]]).all (lowC 3)=true:=by
      rw[show AV.agg [.str ca,.int .i64 cb,.str cc,ce]::R0=[AV.agg [.str ca,.int .i64 cb,.str cc,ce]]++R0 from rfl,flat_append,List.all_append,lag]at hlw;exact hlw.1
     have h4:(flat (f.Lb.map AV.str)).all (lowC 3)=true:=AaH (AaD f.Lb);simp only[las,lba,lowB,flat_append,List.all_append,hlw,h3,h4,lau];rfl
    rcases hce with rfl|⟨lx,rfl⟩
    .apply zgN
     simp only[go_sem,hgg]
     repeat refine aqb ?_
     refine ainv hfin (Shift.low 3 (by simp) (by simp) (hlw3 _ rfl) ?_);simp only[go_sem]
    .apply zgN
     simp only[go_sem,hgg]
     repeat refine aqb ?_
     refine ainv hfin (Shift.low 3 (by simp) (by simp) (hlw3 _ rfl) ?_);simp only[go_sem]
  .rintro ⟨k',R,ls,l'⟩ ⟨q1,q2,q3,q4⟩
   simp only at q1 q2 q3 q4 |-;have hRl:R.length=l'.length:=by
    have:=congrArg List.length q4
    simpa using this
   have hfr:(flat (l'.map leA)).all Av.frozen=true:=AdS l';apply zgF;simp only[go_sem];refine ARet.shift (Shift.trans (Ls (e':=[(4,.sl 1 0 R.length R.length)]) (by simp only[go_sem])) (Shift.trans (Shift.frz 2 (es:=1) (l:=ls.map .str) rfl (AaD _)) (Shift.trans (Lu (e':=[(4,.sl 1 0 l'.length l'.length)]) (s':=[.arr 2 [str L k'],.arr 4 (l'.map leA),.dead]) ?_ ?_) (Shift.trans (Shift.freeze 4 (id:=1) rfl rfl (by simp) (lab _) hfr) (Lu (e':=[(4,.fz 4 (l'.map leA))]) (s':=[.arr 2 [str L k'],.dead,.dead]) ?_ rfl))))) (aret [4] rfl ⟨_,_,rfl,⟨l',k',rfl,q3,rfl,q1,q2⟩,rfl,rfl⟩)
   .simp only[frzE,frz,frz1,go_sem,hRl]
   .show [Blk.arr 2 [str L k'],.arr 4 (R.map (frzC 2 1 (ls.map .str))),.dead]=_
    rw[q4]
   .simp only[go_sem]
    rw[lae (by simp)]
