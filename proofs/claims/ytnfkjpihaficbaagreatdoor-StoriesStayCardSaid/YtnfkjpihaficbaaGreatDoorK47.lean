/- What is changed between two lists of looks; the looks of a map, exactly. -/
import Derived.Test.YtnfkjpihaficbaaGreatDoorK46
import Derived.Shelf.SlMaps.Clone
import Derived.Shelf.SlGeneric
set_option maxRecDepth 100000
set_option maxHeartbeats 4000000
set_option linter.unusedSimpArgs false
set_option linter.unusedVariables false
namespace Go.Proofs.YtnfkjpihaficbaaGreatDoor
open Go Go.Av Go.RowKit _root_.Go.Proofs.Tryz
def AsC(y:Lk):List Lk->List Lk
 | []=>[y]
 | z::r=>if kCmp (lkey y) (lkey z)<0 then y::z::r else z::AsC y r
def AiO(es:LMap):List Lk:=(lvL es).foldr AsC []
theorem AjN(y:Lk):∀ l,(AsC y l).Perm (y::l)
 | []=>.refl _
 | z::r=>by
  rw[AsC]
  split
  .exact .refl _
  .exact ((AjN y r).cons z).trans (.swap _ _ _)
theorem AkH(y:Lk):∀ l:List Lk,l.Pairwise lkLt->(∀ z∈l,lkey z≠lkey y)->(AsC y l).Pairwise lkLt
 | [],_,_=>by simp[AsC]
 | z::r,h,hk=>by
  obtain⟨h1,h2⟩:=List.pairwise_cons.1 h;rw[AsC]
  split
  .rename_i hlt
   have hlt:=kCmp_lt.1 hlt;refine List.pairwise_cons.2 ⟨fun w hw=>?_,h⟩
   rcases List.mem_cons.1 hw with rfl|hw
   .exact hlt
   .exact kO.trans _ _ _ hlt (h1 w hw)
  .rename_i hlt
   have hlt:¬ kLt (lkey y) (lkey z):=fun e=>hlt (kCmp_lt.2 e)
   have hz:lkLt z y:=by
    by_cases h3:kLt (lkey z) (lkey y)
    .exact h3
    .exact absurd (kO.total _ _ h3 hlt) (hk z (by simp))
   refine List.pairwise_cons.2 ⟨fun w hw=>?_,AkH y r h2 fun w hw=>hk w (by simp[hw])⟩
   rcases List.mem_cons.1 ((AjN y r).mem_iff.1 hw)with rfl|hw
   .exact hz
   .exact h1 w hw
theorem AjO:∀ l:List Lk,(l.Pairwise fun a b=>lkey a≠lkey b)->(l.foldr AsC []).Perm l/\(l.foldr AsC []).Pairwise lkLt
 | [],_=>⟨.refl _,.nil⟩
 | a::l,h=>by
  obtain⟨h1,h2⟩:=List.pairwise_cons.1 h;obtain⟨p,s⟩:=AjO l h2;refine⟨(AjN a _).trans (p.cons a),AkH a _ s fun z hz=>?_⟩;exact fun e=>h1 z (p.mem_iff.1 hz) e.symm
theorem AyJ{es:LMap}(hu:AbX es):AdZ es (AiO es):=by
 obtain⟨p,s⟩:=AjO (lvL es) (AiJ hu);exact⟨fun y=>by rw[<- A9P hu]; exact p.mem_iff,s⟩
theorem A3R{es:LMap}(hu:AbX es){l:List Lk}(h:AdZ es l):l=AiO es:=AuZ (fun _=>rfl) h (AyJ hu)
theorem AvI{es:LMap}(hu:AbX es):(AiO es).length<=es.length:=by
 unfold AiO;rw[(AjO (lvL es) (AiJ hu)).1.length_eq];exact List.length_filterMap_le _ _
structure RightOk(x:Sr)(js:List Jm)(fs:List Fa):Prop where
 story:StoryOk x
 jumps:JumpsOk x js
 facts:FactsOk x fs
def rightF(L:List Int)(k:Int):Sr×List Jm×List Fa×Int :=
 let x:=numR (storyF L k).1
 let j:=jumpsF L (storyF L k).2 x
 let f:=factsF L j.2 x
 (x,if AkC x j.1=0 then j.1 else[],if AfM x f.1=0 then f.1 else[],f.2)
theorem BaL(L:List Int)(k:Int):RightOk (rightF L k).1 (rightF L k).2.1 (rightF L k).2.2.1/\k<=(rightF L k).2.2.2/\(rightF L k).2.2.2<=k+50000:=by
 obtain⟨hd,k1,k2⟩:=AtX L k;have hso:=A0F hd;have hlen:=hso.len;obtain⟨j1,j2,j3⟩:=AuB L (storyF L k).2 (numR (storyF L k).1) (by omega);obtain⟨f1,f2,f3⟩:=AuC L (jumpsF L (storyF L k).2 (numR (storyF L k).1)).2 (numR (storyF L k).1);have fd:=AuR L (jumpsF L (storyF L k).2 (numR (storyF L k).1)).2 hso;unfold rightF;refine⟨⟨hso,?_,?_⟩,by simp only; omega,by simp only; omega⟩
 .simp only
  split
  .rename_i h; exact A9A hso (by omega) h
  .exact AxL _
 .simp only
  split
  .rename_i h; exact A8Z hso f3 fd h
  .exact AxK _
theorem AoK{S:Std}(hS:LibR S)(L:List Int)(k:Int)(h3:0<=k)(h4:k<=400000) :
  McH prog S 19 2 (str L k) [] (fun v s=>v=.tup [srA (rightF L k).1,.fz 4 ((rightF L k).2.1.map jmA),.fz 5 ((rightF L k).2.2.1.map faA)]/\s=str L (rightF L k).2.2.2):=by
 have hst:=A2N hS.ok L k h3 (by omega);obtain⟨hd,k1,k2⟩:=AtX L k;have hso:=A0F hd;have hlen:=hso.len;unfold rightF;generalize storyF L k=z at *;obtain⟨x0,kk⟩:=z;simp only at hst hd k1 k2 hso hlen |-;generalize numR x0=x at *;have hju:=A7J L kk x (by omega) (by omega) (by omega);obtain⟨j1,j2,j3⟩:=AuB L kk x (by omega);generalize jumpsF L kk x=jz at *;obtain⟨js,kj⟩:=jz;simp only at hju j1 j2 j3 |-;have hfa:=A8W L kj x (by omega) (by omega) (by omega);obtain⟨f1,f2,f3⟩:=AuC L kj x;have fd:=AuR L kj hso;generalize factsF L kj x=fz at *;obtain⟨fs,kf⟩:=fz;simp only at hfa f1 f2 f3 fd |-;have hjr:=A2S hS x hso js (by omega);have hfr:=A2T hS x hso fs (by omega) (fun f hf=>(fd f hf).sz);simp only[srA]at hst hju hfa hjr hfr |-;refine zdIB func19 rfl fun h ρ w hg=>?_
 simp only[go_sem];refine zmH 0 hg (hst) ?_;rintro _ _ ⟨rfl,rfl⟩;refine zgB ?_;simp only[go_sem]
 repeat refine aqo ?_
 refine AoV [2,5] 0 [] mixed (by decide) rfl rfl 100 ?_;simp only[go_sem]
 repeat refine aqo ?_
 refine BcF hju rfl rfl rfl ⟨_,_,rfl,rfl⟩ ?_;rintro _ _ ⟨rfl,rfl⟩;simp only[go_sem]
 repeat refine aqo ?_
 refine BcF hfa rfl rfl rfl ⟨_,_,rfl,rfl⟩ ?_;rintro _ _ ⟨rfl,rfl⟩;simp only[go_sem]
 repeat refine aqo ?_
 refine zgB ?_;simp only[go_sem]
 by_cases hj0:AkC x js=0
 .have d1:(AkC x js != 0)=false:=by simpa using hj0
  simp only[if_pos hj0];refine zqB hg (hjr) ?_;simp only[go_sem,d1]
  by_cases hf0:AfM x fs=0
  .have d2:(AfM x fs != 0)=false:=by simpa using hf0
   simp only[if_pos hf0];refine zqB hg (hfr) ?_;simp only[go_sem,d2];exact AcH [.cell 2 28,.tmp 3,.tmp 4] rfl [_,_,_] ⟨by simp only[go_sem,sideIs],by simp only[go_sem,sideIs,List.map_nil],by simp only[go_sem,sideIs,List.map_nil],trivial⟩ ⟨_,_,rfl,rfl,rfl,rfl,rfl⟩
  .have d2:(AfM x fs != 0)=true:=by simpa using hf0
   simp only[if_neg hf0];refine zqB hg (hfr) ?_;simp only[go_sem,d2];refine ARet.shift (Shift.nilfz 4 5 rfl) ?_;exact AcH [.cell 2 28,.tmp 3,.tmp 4] rfl [_,_,_] ⟨by simp only[go_sem,sideIs],by simp only[go_sem,sideIs,List.map_nil],by simp only[go_sem,sideIs,List.map_nil],trivial⟩ ⟨_,_,rfl,rfl,rfl,rfl,rfl⟩
 .have d1:(AkC x js != 0)=true:=by simpa using hj0
  simp only[if_neg hj0];refine zqB hg (hjr) ?_;simp only[go_sem,d1]
  by_cases hf0:AfM x fs=0
  .have d2:(AfM x fs != 0)=false:=by simpa using hf0
   simp only[if_pos hf0];refine zqB hg (hfr) ?_;simp only[go_sem,d2];refine ARet.shift (Shift.nilfz 3 4 rfl) ?_;exact AcH [.cell 2 28,.tmp 3,.tmp 4] rfl [_,_,_] ⟨by simp only[go_sem,sideIs],by simp only[go_sem,sideIs,List.map_nil],by simp only[go_sem,sideIs,List.map_nil],trivial⟩ ⟨_,_,rfl,rfl,rfl,rfl,rfl⟩
  .have d2:(AfM x fs != 0)=true:=by simpa using hf0
   simp only[if_neg hf0];refine zqB hg (hfr) ?_;simp only[go_sem,d2];refine ARet.shift (Shift.nilfz 3 4 rfl) ?_;refine ARet.shift (Shift.nilfz 4 5 rfl) ?_;exact AcH [.cell 2 28,.tmp 3,.tmp 4] rfl [_,_,_] ⟨by simp only[go_sem,sideIs],by simp only[go_sem,sideIs,List.map_nil],by simp only[go_sem,sideIs,List.map_nil],trivial⟩ ⟨_,_,rfl,rfl,rfl,rfl,rfl⟩
theorem A1O(n:Nat):∀ l:List Lk,(l.map lookA).map (shC n)=l.map lookA
 | []=>rfl
 | a::l=>by
  rw[List.map_cons,List.map_cons,A1O n l];rfl
theorem A3S{S:Std}(hS:LibOk S)(x:Sr)(hx:StoryOk x)(js:List Jm)(hj:JumpsOk x js)(fs:List Fa)(hf:FactsOk x fs)(n:Nat)(hn:n<x.scenes.length)(s:List Blk) :
  CtH prog S 21 [srA x,.fz 4 (js.map jmA),.fz 5 (fs.map faA),.str x.scenes[n].no] s (fun r s'=>∃ l,AdZ (looksAt x js fs n) l/\r=.tup [.sl s.length 0 l.length l.length,.int .i64 0]/\s'=s++[.arr 4 (l.map lookA)]) :=
 CtH.imp ((BaK hS x hx js hj fs hf n hn).liftN rfl (by rintro _ _ ⟨l,_,_,rfl⟩; rfl) s) (by
  rintro _ _ ⟨_,_,⟨l,hl,rfl,rfl⟩,rfl,rfl⟩;refine⟨l,hl,?_,?_⟩
  .show AV.tup [.sl (0+s.length) 0 l.length l.length,.int .i64 0]=_
   rw[Nat.zero_add]
  .show s++[Blk.arr 4 ((l.map lookA).map (shC s.length))]=_
   rw[A1O])
def BfX(x:Sr)(js:List Jm)(fs:List Fa)(k:Nat):List Lk:=AiO (looksAt x js fs k)
theorem AkI(x:Sr)(js:List Jm)(fs:List Fa)(k:Nat):AbX (looksAt x js fs k):=AmV _
theorem A3T{x:Sr}(hx:StoryOk x){js:List Jm}(hj:JumpsOk x js){fs:List Fa}(hf:FactsOk x fs)(k:Nat):(BfX x js fs k).length<=8:=by
 have h1:=AvI (AkI x js fs k);have h2:=A1N (kfN x) fs (ordL x js) ((AnP hx hj).symm.nodup List.nodup_range) ((ordL x js).idxOf k+1);have h3:=hf.len;unfold looksAt at h1;unfold BfX looksAt;omega
end Go.Proofs.YtnfkjpihaficbaaGreatDoor
set_option linter.unusedSectionVars false
namespace Go.Av
open Go Go.RowKit Go.Shelf Go.Proofs
variable [Tr]
end Go.Av
namespace Go.Proofs
open Go.Shelf
end Go.Proofs
namespace Go.Proofs.YtnfkjpihaficbaaGreatDoor
open Go Go.Av Go.RowKit _root_.Go.Proofs.Tryz
theorem BaM(ds:List (Int×Int×Int))(ht:∀ d∈ds,1<=d.2.1/\d.2.1<=4)(hl:ds.length<=5):Ct prog 84 [.fz 3 (ds.map sdA)] [] (fun r s=>r=.sl 0 0 ds.length ds.length/\s=[.arr 1 ((orderD ds).map inA)]):=by
 have hr:=AnN (.pin 1 [.fz 3 (ds.map sdA)] 0 0) rfl (cmpD ds) ds.length (AjE ds ht) (List.range ds.length) (by simp) (by simp; omega);rw[List.length_range]at hr;refine zcIB func84 rfl fun h ρ w=>?_
 simp only[go_sem,List.length_map]
 repeat refine aj ?_
 refine AaC (ι:=Nat) (fun y=>ds.length-y) (fun y=>[(10,.int .i64 y),(9,.int .i64 ds.length),(3,.sl 0 0 ds.length ds.length),(1,.pin 1 [.fz 3 (ds.map sdA)] 0 0)])
  (fun y=>[.arr 1 (((List.range y)++List.replicate (ds.length-y) 0).map inA)]) (fun y=>y<=ds.length) 0 (by simp) ?_ ?_
 .refine Shift.weakS ?_ ?_
  .simp only [go_sem,List.length_map]
  .simp [inA]
 intro i g1 J hJ
 by_cases gi:i<ds.length
 .have di:decide ((i:Int)<(ds.length:Int))=true:=by simp; omega
  have hfin:=hJ (i+1) (by omega) (by omega);have hs:((List.range i++List.replicate (ds.length-i) 0).map inA).set i (.int .i64 (i:Int))=(List.range (i+1)++List.replicate (ds.length-(i+1)) 0).map inA:=by
   rw[AhK]
   congr 1
   obtain⟨m,hm⟩:∃ m,ds.length-i=m+1:=⟨ds.length-i-1,by omega⟩;rw[hm,show ds.length-(i+1)=m by omega,List.range_succ,List.set_append_right _ _ (by simp)]
   simp[List.replicate_succ]
  have hlen:((List.range i++List.replicate (ds.length-i) 0).map inA).length=ds.length:=by simp; omega
  obtain⟨v,hgt⟩:∃ v:Nat,((List.range i++List.replicate (ds.length-i) 0).map inA).getD i .any=.int .i64 v:=⟨_,AdP _ i (by simp; omega)⟩;generalize (List.range i++List.replicate (ds.length-i) 0).map inA=T at *;refine zgB ?_;simp only[go_sem,di,hs,hlen,hgt]
  repeat refine aj ?_
  rw[ic i];refine ainv hfin (Shift.weakS ?_ (by first|rfl|rw[List.range_succ]));simp only[go_sem]
 .have di:decide ((i:Int)<(ds.length:Int))=false:=by simp; omega
  have hi:i=ds.length:=by omega
  subst hi;rw[Nat.sub_self,List.replicate_zero,List.append_nil];refine zgB ?_;simp only[go_sem,di];refine za (hr) ?_;rintro _ _ ⟨rfl,rfl⟩;refine zgB ?_;simp only[go_sem];exact zt [2]
theorem BkJ{x:Sr}(hx:StoryOk x){l:List Jm}(hl:JumpsOk x l):Ct prog 84 [.fz 3 ((AkK x l).map sdA)] [] (fun r s=>r=.sl 0 0 x.scenes.length x.scenes.length/\s=[.arr 1 ((ordL x l).map inA)]):=by
 have h:=BaM (AkK x l) (A1C hx hl) (by rw[AnQ hx hl]; exact hx.len);rw[AuU hx hl,AnQ hx hl]at h;exact h
theorem A3U{S:Std}(hS:LibOk S)(x:Sr)(hx:StoryOk x)(js:List Jm)(hj:JumpsOk x js):CtH prog S 30 [srA x,.fz 4 (js.map jmA)] [] (fun r s=>r=.tup [.sl 0 0 x.scenes.length x.scenes.length,.int .i64 0]/\s=[.arr 1 ((ordL x js).map inA)]):=by
 have h1:=AgW hS x hx js hj;have h3:=A0Y hS x hx js hj;have h5:=BkJ hx hj;simp only[srA]at h1 h3 |-;refine zdIB func30 rfl fun h ρ w hg=>?_
 simp only[go_sem]
 repeat refine ak ?_
 refine zqB hg (h1) ?_;simp only[go_sem];refine zqB hg (h3) ?_;simp only[go_sem];refine za (h5) ?_;rintro _ _ ⟨rfl,rfl⟩;refine zgB ?_;simp only[go_sem];exact zt [4,5]
theorem AyK(ps:List Pa)(hl:ps.length<1000000):Pc prog 89 [.fz 2 (ps.map paA),.fz 2 (ps.map paA)] (· = .bool true):=by
 have d0:((ps.length:Int) != (ps.length:Int))=false:=by simp
 refine zpIN func89 rfl fun h ρ w=>?_
 simp only[go_sem,d0,List.length_map];refine AaC (ι:=Nat) (fun i=>ps.length-i) (fun i=>[(13,.int .i64 i),(12,.int .i64 ps.length),(1,.fz 2 (ps.map paA)),(0,.fz 2 (ps.map paA))]) (fun _=>[]) (fun i=>i<=ps.length) 0 (by simp) ?_ ?_
 .refine Shift.weak ?_
  simp only[go_sem]
 .intro i g1 J hJ
  by_cases gi:i<ps.length
  .have di:decide ((i:Int)<(ps.length:Int))=true:=by simp; omega
   have hg':List.getD (List.map paA ps) i .any=.agg [.int .i64 ps[i].kind,.str ps[i].text]:=by simp[List.getD,gi,paA]
   refine zgN ?_;simp only[go_sem,di,hg'];refine zr [] mixed ?_;simp only[go_sem,hg',List.length_map]
   repeat refine And.intro (by first|omega|simpa using gi|rfl) ?_
   refine⟨by kernel_rfl,?_⟩;refine zgN ?_;simp only[go_sem];refine⟨by omega,by omega,?_⟩;rw[ic i];refine ainv (hJ (i+1) (by omega) (by omega)) (Shift.weak ?_);simp only[go_sem]
  .have di:decide ((i:Int)<(ps.length:Int))=false:=by simp; omega
   refine zgN ?_;simp only[go_sem,di];exact zt [4]
theorem AsD(x:Sc)(hl:x.paras.length<1000000):Pc prog 88 [scA x,scA x] (· = .bool true):=by
 have e1:(x.no==x.no)=true:=by simp
 have e2:(x.place==x.place)=true:=by simp
 have e3:(x.set==x.set)=true:=by simp
 have e4:(x.time==x.time)=true:=by simp
 simp only[scA];refine zpIN func88 rfl fun h ρ w=>?_
 simp only[go_sem,e1,e2,e3,e4];refine zpN (AyK x.paras hl) ?_;simp only[go_sem,e1,e2,e3,e4];exact zt [4]
theorem AvJ(b:Blk)(hb:lowB 2 b=true)(xs:List Sc)(hl:xs.length<1000000)(hp:∀ x∈xs,x.paras.length<1000000) :
  Ct prog 87 [.fz 5 (xs.map scA),.fz 5 (xs.map scA),.fn (.func 88) []] [b,b] (fun r s=>r=.bool true/\s=[b,b]):=by
 have d0:((xs.length:Int) != (xs.length:Int))=false:=by simp
 refine zcIN func87 rfl fun h ρ w=>?_
 simp only[go_sem,d0,List.length_map];refine AaC (ι:=Nat) (fun i=>xs.length-i) (fun i=>[(17,.int .i64 i),(16,.int .i64 xs.length),(15,.fz 5 (xs.map scA)),(2,.fn (.func 88) []),(1,.fz 5 (xs.map scA))]) (fun _=>[b,b]) (fun i=>i<=xs.length) 0 (by simp) ?_ ?_
 .refine Shift.weak ?_
  simp only[go_sem]
 .intro i g1 J hJ
  by_cases gi:i<xs.length
  .have di:decide ((i:Int)<(xs.length:Int))=true:=by simp; omega
   have hg':List.getD (List.map scA xs) i .any=.agg [.str xs[i].no,.int .i64 xs[i].place,.str xs[i].set,.int .i64 xs[i].time,.fz 2 (xs[i].paras.map paA)]:=by simp[List.getD,gi,scA]
   have hc:=AsD xs[i] (hp _ (List.getElem_mem gi));simp only[scA]at hc;refine zgN ?_;simp only[go_sem,di,hg',List.length_map]
   repeat refine And.intro (by first|omega|simpa using gi|rfl) ?_
   refine zpN (hc) ?_;simp only[go_sem]
   repeat refine And.intro (by first|omega|simpa using gi|rfl) ?_
   rw[ic i];refine ainv (hJ (i+1) (by omega) (by omega)) (Shift.low 2 (by simp) (by simp) ?_ ?_)
   .simp only [List.take_succ_cons,List.take_zero,List.all_cons,List.all_nil,hb,Bool.and_self]
   .simp only [go_sem]
  .have di:decide ((i:Int)<(xs.length:Int))=false:=by simp; omega
   refine zgN ?_;simp only[go_sem,di];exact zt [6]
theorem BkK(x:Sr)(hl:x.scenes.length<1000000)(hp:∀ y∈x.scenes,y.paras.length<1000000):Pc prog 37 [srA x,srA x] (· = .bool true):=by
 have e1:(x.title==x.title)=true:=by simp
 simp only[srA];refine zpIN func37 rfl fun h ρ w=>?_
 simp only[go_sem,e1];refine za (AvJ _ rfl x.scenes hl hp) ?_;rintro _ _ ⟨rfl,rfl⟩;refine zgN ?_;simp only[go_sem,e1];exact zt [4]
theorem BkL(a:List Jm)(ha:a.length<100000):Pc prog 38 [.fz 4 (a.map jmA),.fz 4 (a.map jmA)] (· = .bool true):=by
 have d0:((a.length:Int) != (a.length:Int))=false:=by simp
 refine zpIB func38 rfl fun h ρ w=>?_
 simp only[go_sem,d0,List.length_map];refine AaC (ι:=Nat) (fun i=>a.length-i) (fun i=>[(13,.int .i64 i),(12,.int .i64 a.length),(1,.fz 4 (a.map jmA)),(0,.fz 4 (a.map jmA))]) (fun _=>[]) (fun i=>i<=a.length) 0 (by simp) ?_ ?_
 .refine Shift.weak ?_
  simp only[go_sem]
 intro i g1 J hJ
 by_cases gi:i<a.length
 .have di:decide ((i:Int)<(a.length:Int))=true:=by simp; omega
  have h1:=ArH a i gi;have hfin:=hJ (i+1) (by omega) (by omega);generalize a[i]=e at *;simp only[jmA]at h1;refine zgB ?_;simp only[go_sem,di];refine zr [] mixed ?_;simp only[go_sem,h1,beq_self_eq_true,Bool.and_self,Bool.not_true,List.length_map]
  repeat refine ak ?_
  refine zgB ?_;simp only[go_sem]
  repeat refine aqc ?_
  rw[ic i];refine ainv hfin (Shift.weak ?_);simp only[go_sem]
 .have di:decide ((i:Int)<(a.length:Int))=false:=by simp; omega
  refine zgB ?_;simp only[go_sem,di];exact zt [4]
theorem BkM(a:List Fa)(ha:a.length<100000):Pc prog 39 [.fz 5 (a.map faA),.fz 5 (a.map faA)] (· = .bool true):=by
 have d0:((a.length:Int) != (a.length:Int))=false:=by simp
 refine zpIB func39 rfl fun h ρ w=>?_
 simp only[go_sem,d0,List.length_map];refine AaC (ι:=Nat) (fun i=>a.length-i) (fun i=>[(13,.int .i64 i),(12,.int .i64 a.length),(1,.fz 5 (a.map faA)),(0,.fz 5 (a.map faA))]) (fun _=>[]) (fun i=>i<=a.length) 0 (by simp) ?_ ?_
 .refine Shift.weak ?_
  simp only[go_sem]
 intro i g1 J hJ
 by_cases gi:i<a.length
 .have di:decide ((i:Int)<(a.length:Int))=true:=by simp; omega
  have h1:=AiZ a i gi;have hfin:=hJ (i+1) (by omega) (by omega);generalize a[i]=e at *;refine zgB ?_;simp only[go_sem,di];refine zr [] mixed ?_;simp only[go_sem,h1,beq_self_eq_true,Bool.and_self,Bool.not_true,List.length_map]
  repeat refine ak ?_
  refine zgB ?_;simp only[go_sem]
  repeat refine aqc ?_
  rw[ic i];refine ainv hfin (Shift.weak ?_);simp only[go_sem]
 .have di:decide ((i:Int)<(a.length:Int))=false:=by simp; omega
  refine zgB ?_;simp only[go_sem,di];exact zt [4]
theorem AsE(l:List Int)(i:Nat)(h:i<l.length):(l.map (AV.int .i64)).getD i .any=.int .i64 l[i]:=by simp[List.getD,h]
theorem BkN(a:List Int)(ha:a.length<100000):Pc prog 36 [.fz 1 (a.map (.int .i64)),.fz 1 (a.map (.int .i64))] (· = .bool true):=by
 have d0:((a.length:Int) != (a.length:Int))=false:=by simp
 refine zpIB func36 rfl fun h ρ w=>?_
 simp only[go_sem,d0,List.length_map];refine AaC (ι:=Nat) (fun i=>a.length-i) (fun i=>[(13,.int .i64 i),(12,.int .i64 a.length),(1,.fz 1 (a.map (.int .i64))),(0,.fz 1 (a.map (.int .i64)))]) (fun _=>[]) (fun i=>i<=a.length) 0 (by simp) ?_ ?_
 .refine Shift.weak ?_
  simp only[go_sem]
 intro i g1 J hJ
 by_cases gi:i<a.length
 .have di:decide ((i:Int)<(a.length:Int))=true:=by simp; omega
  have h1:=AsE a i gi;have hfin:=hJ (i+1) (by omega) (by omega);generalize a[i]=e at *;refine zgB ?_;simp only[go_sem,di];refine zr [] mixed ?_;simp only[go_sem,h1,beq_self_eq_true,bne_self_eq_false,Bool.and_self,Bool.not_true,List.length_map]
  repeat refine ak ?_
  refine zgB ?_;simp only[go_sem]
  repeat refine aqc ?_
  rw[ic i];refine ainv hfin (Shift.weak ?_);simp only[go_sem]
 .have di:decide ((i:Int)<(a.length:Int))=false:=by simp; omega
  refine zgB ?_;simp only[go_sem,di];exact zt [4]
theorem BeS:Pc prog 36 [.raw (.slice none 0 0),.raw (.slice none 0 0)] (· = .bool true):=by
 refine zpIB func36 rfl fun h ρ w=>?_
 simp only[go_sem];refine AcY (around ?_);refine zgB ?_;simp only[go_sem];exact zt [4]
theorem BeT(r:Ru)(h:∀ l,r.inn=some l->l.length<100000):Pc prog 35 [ruA r,ruA r] (· = .bool true):=by
 obtain⟨⟨ek,en⟩,pt,inn,st⟩:=r;simp only at h;have b1:(ek==ek)=true:=by simp
 have b2:(en==en)=true:=by simp
 have b3:(pt==pt)=true:=by simp
 have b4:(st==st)=true:=by simp
 cases inn with
 | none =>
  have he:=BeS;simp only[ruA,inO];refine zpIB func35 rfl fun h ρ w=>?_
  simp only[go_sem,b1,b2,b3,b4,Bool.and_self]
  repeat refine ak ?_
  refine zpB (he) ?_;simp only[go_sem,b1,b2,b3,b4,Bool.and_self]
  repeat refine ak ?_
  exact zt [4]
 | some l =>
  have he:=BkN l (h l rfl);simp only[ruA,inO];refine zpIB func35 rfl fun h ρ w=>?_
  simp only[go_sem,b1,b2,b3,b4,Bool.and_self]
  repeat refine ak ?_
  refine zpB (he) ?_;simp only[go_sem,b1,b2,b3,b4,Bool.and_self]
  repeat refine ak ?_
  exact zt [4]
theorem BeU(a:List Ru)(ha:a.length<100000)(hin:∀ r∈a,∀ l,r.inn=some l->l.length<100000):Pc prog 34 [.fz 5 (a.map ruA),.fz 5 (a.map ruA),.fn (.func 35) []] (· = .bool true):=by
 have d0:((a.length:Int) != (a.length:Int))=false:=by simp
 refine zpIB func34 rfl fun h ρ w=>?_
 simp only[go_sem,d0,List.length_map];refine AaC (ι:=Nat) (fun i=>a.length-i) (fun i=>[(17,.int .i64 i),(16,.int .i64 a.length),(15,.fz 5 (a.map ruA)),(2,.fn (.func 35) []),(1,.fz 5 (a.map ruA))]) (fun _=>[]) (fun i=>i<=a.length) 0 (by simp) ?_ ?_
 .refine Shift.weak ?_
  simp only[go_sem,List.length_map]
 intro i g1 J hJ
 by_cases gi:i<a.length
 .have di:decide ((i:Int)<(a.length:Int))=true:=by simp; omega
  have h1:(a.map ruA).getD i .any=ruA a[i]:=by simp[List.getD,gi]
  have he:=BeT a[i] (hin _ (List.getElem_mem gi));have hfin:=hJ (i+1) (by omega) (by omega);generalize a[i]=e at *;obtain⟨el,pt,inn,st⟩:=e
  cases inn with
  | none =>
   simp only[ruA,inO]at h1 he;refine zgB ?_;simp only[go_sem,di,h1,List.length_map]
   repeat refine ak ?_
   refine zpB (he) ?_;simp only[go_sem]
   repeat refine aqc ?_
   rw[ic i];refine ainv hfin (Shift.low 0 (by simp) (by simp) rfl ?_);simp only[go_sem]
  | some il =>
   simp only[ruA,inO]at h1 he;refine zgB ?_;simp only[go_sem,di,h1,List.length_map]
   repeat refine ak ?_
   refine zpB (he) ?_;simp only[go_sem]
   repeat refine aqc ?_
   rw[ic i];refine ainv hfin (Shift.low 0 (by simp) (by simp) rfl ?_);simp only[go_sem]
 .have di:decide ((i:Int)<(a.length:Int))=false:=by simp; omega
  refine zgB ?_;simp only[go_sem,di];exact zt [6]
theorem AsF{S:Std}(hS:LibOk S):PcH prog S 12 [] (· = .bool true):=BdK (by
 have h:=ArN hS [35,32,103,117,110,42] (by decide);have e:patT [35,32,103,117,110,42]=(some [⟨false,true,false,none⟩,⟨false,false,true,some [[103,117,110]]⟩],true):=by kernel_rfl
 rw[e]at h;exact h)
