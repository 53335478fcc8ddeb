/- The pages of some entries of a draft. -/
import Derived.Test.YtlldmgboedknfaaGreatDoorC31
set_option maxRecDepth 100000
set_option maxHeartbeats 4000000
set_option linter.unusedSimpArgs false
set_option linter.unusedVariables false
namespace Go.Proofs.YtlldmgboedknfaaGreatDoor
open Go Go.Av Go.RowKit _root_.Go.Proofs.Tryz
def sM(l:List (List UInt8×AV)):List (AV×AV):=l.map fun p=>(.str p.1,p.2)
def iM(l:List (Int×AV)):List (AV×AV):=l.map fun p=>(.int .i64 p.1,p.2)
theorem AkZ(k:List UInt8):∀ (l:List (List UInt8×AV))(n:Nat),(∃ i v,l.find? (fun p=>p.1==k)=some (k,v)/\mfind .string (.str k) (sM l) n=some (some (i,v)))\/(l.find? (fun p=>p.1==k)=none/\mfind .string (.str k) (sM l) n=some none)
 | [],n=>.inr ⟨rfl,rfl⟩
 | (a,v)::l,n=>by
  by_cases h:a=k
  .subst h
   exact .inl ⟨n,v,by simp,by simp[sM,mfind,keyEq]⟩
  .have h1:(a==k)=false:=by simpa using h
   have h2:(k==a)=false:=by simpa using fun e=>h e.symm
   have:=AkZ k l (n+1)
   simpa only [List.find?_cons,h1,sM,List.map_cons,mfind,keyEq,h2]using this
theorem A2C(k:Int):∀ (l:List (Int×AV))(n:Nat),(∃ i v,l.find? (fun p=>p.1==k)=some (k,v)/\mfind (.int .i64) (.int .i64 k) (iM l) n=some (some (i,v)))\/(l.find? (fun p=>p.1==k)=none/\mfind (.int .i64) (.int .i64 k) (iM l) n=some none)
 | [],n=>.inr ⟨rfl,rfl⟩
 | (a,v)::l,n=>by
  by_cases h:a=k
  .subst h
   exact .inl ⟨n,v,by simp,by simp[iM,mfind,keyEq]⟩
  .have h1:(a==k)=false:=by simpa using h
   have h2:(k==a)=false:=by simpa using fun e=>h e.symm
   have:=A2C k l (n+1)
   simpa only [List.find?_cons,h1,iM,List.map_cons,mfind,keyEq,h2,decide_true,cond_true]using this
theorem AgN{n:Nat}{l:List (List UInt8×AV)}(h:∀ p∈l,lowV n p.2=true):lowB n (.mp (sM l))=true:=by
 show(sM l).all _=true
 rw[List.all_eq_true];intro x hx;obtain⟨p,hp,rfl⟩:=List.mem_map.1 hx;exact h p hp
theorem A5G{n:Nat}{l:List (Int×AV)}(h:∀ p∈l,lowV n p.2=true):lowB n (.mp (iM l))=true:=by
 show(iM l).all _=true
 rw[List.all_eq_true];intro x hx;obtain⟨p,hp,rfl⟩:=List.mem_map.1 hx;exact h p hp
structure SceneD(x:Sc):Prop where
 no:x.no=[]\/numberL x.no=true
 place:1<=x.place/\x.place<=3
 set:x.set∈SetL
 time:1<=x.time/\x.time<=5
 run:∃ e,runL 0 x.paras=some e/\e≠2/\e≠3
 len:x.paras.length<=60
 all:∀ p∈x.paras,DrawnP p
 wt:wtL x.paras<=143
theorem AlV{a:List UInt8}(h:a=[]\/numberL a=true):a.length<1000:=by
 rcases h with rfl|h
 .simp
 .exact (AaG h).2.1
theorem SceneD.sc{x:Sc}(h:SceneD x):SceneOk x:=by
 have:=List.all_eq_true.1 BdV x.set h.set;simp only[Bool.and_eq_true,decide_eq_true_eq]at this;exact⟨this.1,this.2,by have:=h.len; omega,h.run⟩
theorem SceneD.line{x:Sc}(h:SceneD x):LineOk x:=⟨h.sc,h.place,h.time,by have:=AlV h.no; omega,by have:=h.len; omega⟩
theorem SceneD.bl{x:Sc}(h:SceneD x):∀ b∈blocksL x,BlOk b:=BeC fun p hp=>by
 have:=h.all p hp;exact⟨this.name,this.turn,this.kind.1,this.kind.2⟩
def goneT(no:List UInt8):List UInt8:=no++A8C
def AiQ(no:List UInt8):Bl:=⟨0,AbH 60 (goneT no),[],[]⟩
def atNo(xs:List Sc)(no:List UInt8):Option Sc:=xs.find? fun x=>x.no==no
def entB(xs:List Sc)(no:List UInt8):List Bl:=match atNo xs no with
 | some x=>blocksL x
 | none=>[AiQ no]
def entsB(xs:List Sc)(nos:List (List UInt8)):List Bl:=nos.flatMap (entB xs)
def hdL(xs:List Sc)(nos:List (List UInt8))(i:Nat):List (Int×AV):=(List.range i).map fun k=>(((entsB xs (nos.take k)).length:Int),.str (nos.getD k []))
def AdJ(xs:List Sc)(nos:List (List UInt8))(k:Int):List UInt8:=match(List.range nos.length).find? (fun j=>((entsB xs (nos.take j)).length:Int)==k)with
 | some j=>nos.getD j []
 | none=>[]
def firstsI(xs:List Sc)(nos:List (List UInt8)):List (List UInt8):=(layL (entsB xs nos)).firsts.map (AdJ xs nos)
structure MdOk(xs:List Sc)(nos:List (List UInt8)):Prop where
 sc:∀ x∈xs,SceneD x
 nod:(nosL xs).Nodup
 few:xs.length<=300
 fewN:nos.length<=300
 num:∀ n∈nos,numberL n=true
theorem AhM{xs:List Sc}{no:List UInt8}{x:Sc}(h:atNo xs no=some x):x∈xs/\x.no=no:=⟨List.mem_of_find?_eq_some h,by simpa using List.find?_some h⟩
theorem ApB{no:List UInt8}(h:numberL no=true):(goneT no).length<2000:=by
 have:=(AaG h).2.1
 simp[goneT,A8C]; omega
theorem A5H(no:List UInt8):BlOk (AiQ no):=⟨fun l hl=>BdZ (AoW (by omega) _ l hl),fun e=>by simp[AiQ]at e⟩
theorem BeG{no:List UInt8}(h:numberL no=true):(AiQ no).lines.length<=2002:=by
 have h1:=ApB h;have h2:=(AcC 60 (goneT no)).1;simp only[AiQ]; omega
theorem AfT{xs:List Sc}{no:List UInt8}(hx:∀ x∈xs,SceneD x)(hn:numberL no=true):(∀ b∈entB xs no,BlOk b/\BlFit b/\b.lines.length<=11000000/\sizB b)/\1<=(entB xs no).length/\(entB xs no).length<=61:=by
 unfold entB
 cases h:atNo xs no with
 | some x =>
  obtain⟨h1,h2⟩:=AhM h;have hd:=hx x h1;refine⟨fun b hb=>?_,by simp[blocksL],show(blocksL x).length<=61 by have:=BeE x; have:=hd.len; omega⟩;have hl:=hd.line;have hs:=A8G hl b hb;exact⟨hd.bl b hb,⟨(hd.bl b hb).kinds,by have:=hl.bound.1 b hb; omega,by have:=hs.1; omega⟩,hl.bound.1 b hb,hs⟩
 | none =>
  refine⟨fun b hb=>?_,by simp,by simp⟩;rw[List.mem_singleton.1 hb];have h1:=BeG hn;have h2:=(AcC 60 (goneT no)).2;have h3:=ApB hn;refine⟨A5H no,⟨(A5H no).kinds,by omega,by simp[AiQ]⟩,by omega,⟨by simp[AiQ],fun l hl=>?_⟩⟩;have:=h2 l hl;omega
theorem AlA{xs:List Sc}{nos:List (List UInt8)}{i:Nat}(h:i<nos.length):entsB xs (nos.take (i+1))=entsB xs (nos.take i)++entB xs nos[i]:=by
 unfold entsB;rw[List.take_succ_eq_append_getElem h,List.flatMap_append,List.flatMap_cons,List.flatMap_nil,List.append_nil]
theorem AjO{xs:List Sc}{nos:List (List UInt8)}(h:MdOk xs nos):∀ i,i<=nos.length->(entsB xs (nos.take i)).length<=61*i
 | 0,_=>by simp[entsB]
 | i+1,hi=>by
  have ih:=AjO h i (by omega);have h2:=(AfT h.sc (h.num _ (List.getElem_mem (show i<nos.length by omega)))).2.2;rw[AlA (by omega),List.length_append];omega
theorem A8H{xs:List Sc}{nos:List (List UInt8)}(h:MdOk xs nos){i j:Nat}(hij:i<j)(hj:j<=nos.length):(entsB xs (nos.take i)).length<(entsB xs (nos.take j)).length:=by
 induction j with
 | zero=>omega
 | succ j ih =>
  have h2:=(AfT h.sc (h.num _ (List.getElem_mem (show j<nos.length by omega)))).2.1;rw[AlA (by omega),List.length_append]
  by_cases e:i=j
  .subst e; omega
  .have:=ih (by omega) (by omega)
   omega
theorem hdL_step(xs:List Sc)(nos:List (List UInt8))(i:Nat):hdL xs nos (i+1)=hdL xs nos i++[(((entsB xs (nos.take i)).length:Int),.str (nos.getD i []))]:=by
 simp[hdL,List.range_succ]
theorem BqB{xs:List Sc}{nos:List (List UInt8)}(h:MdOk xs nos){i:Nat}(hi:i<=nos.length):mfind (.int .i64) (.int .i64 ((entsB xs (nos.take i)).length:Int)) (iM (hdL xs nos i)) 0=some none:=by
 rcases A2C ((entsB xs (nos.take i)).length:Int) (hdL xs nos i) 0 with⟨j,v,h1,_⟩|⟨_,h2⟩
 .have hm:=List.mem_of_find?_eq_some h1
  simp only[hdL,List.mem_map,List.mem_range,Prod.mk.injEq]at hm;obtain⟨k,hk,e,_⟩:=hm;have:=A8H h hk hi;omega
 .exact h2
theorem BtI(xs:List Sc)(nos:List (List UInt8))(k:Int):(∃ i,mfind (.int .i64) (.int .i64 k) (iM (hdL xs nos nos.length)) 0=some (some (i,.str (AdJ xs nos k))))\/(mfind (.int .i64) (.int .i64 k) (iM (hdL xs nos nos.length)) 0=some none/\AdJ xs nos k=[]):=by
 have hf:(hdL xs nos nos.length).find? (fun p=>p.1==k)=((List.range nos.length).find? fun j=>((entsB xs (nos.take j)).length:Int)==k).map fun j=>(((entsB xs (nos.take j)).length:Int),.str (nos.getD j [])):=by
  unfold hdL;rw[List.find?_map];rfl
 rcases A2C k (hdL xs nos nos.length) 0 with⟨i,v,h1,h2⟩|⟨h1,h2⟩
 .left
  rw[hf]at h1;unfold AdJ
  cases hq:(List.range nos.length).find? (fun j=>((entsB xs (nos.take j)).length:Int)==k)with
  | none=>rw[hq]at h1; simp at h1
  | some j =>
   rw[hq]at h1;simp only[Option.map_some,Option.some.injEq,Prod.mk.injEq]at h1;exact⟨i,by rw[h2,h1.2]⟩
 .right
  rw[hf]at h1;unfold AdJ
  cases hq:(List.range nos.length).find? (fun j=>((entsB xs (nos.take j)).length:Int)==k)with
  | none=>exact⟨h2,rfl⟩
  | some j=>rw[hq]at h1; simp at h1
def scPr(xs:List Sc):List (List UInt8×AV):=xs.map fun x=>(x.no,scA x)
theorem BkE{xs:List Sc}(h:(nosL xs).Nodup){i:Nat}(hi:i<xs.length):mfind .string (.str xs[i].no) (sM (scPr (xs.take i))) 0=some none:=by
 rcases AkZ xs[i].no (scPr (xs.take i)) 0 with⟨j,v,h1,_⟩|⟨_,h2⟩
 .have hm:=List.mem_of_find?_eq_some h1
  simp only[scPr,List.mem_map,Prod.mk.injEq]at hm;obtain⟨y,hy,e,_⟩:=hm;obtain⟨k,hk,rfl⟩:=List.getElem_of_mem hy;rw[List.length_take]at hk;rw[List.getElem_take]at e;have:=List.pairwise_iff_getElem.1 h k i (by simp[nosL]; omega) (by simpa[nosL]using hi) (by omega);exact absurd (by simpa[nosL]using e) this
 .exact h2
theorem BqC(xs:List Sc)(no:List UInt8):(∃ i x,atNo xs no=some x/\mfind .string (.str no) (sM (scPr xs)) 0=some (some (i,scA x)))\/(atNo xs no=none/\mfind .string (.str no) (sM (scPr xs)) 0=some none):=by
 have hf:(scPr xs).find? (fun p=>p.1==no)=(atNo xs no).map fun x=>(x.no,scA x):=by
  unfold scPr atNo;rw[List.find?_map];rfl
 rcases AkZ no (scPr xs) 0 with⟨i,v,h1,h2⟩|⟨h1,h2⟩
 .left
  rw[hf]at h1
  cases hq:atNo xs no with
  | none=>rw[hq]at h1; simp at h1
  | some x =>
   rw[hq]at h1;simp only[Option.map_some,Option.some.injEq,Prod.mk.injEq]at h1;exact⟨i,x,rfl,by rw[h2,h1.2]⟩
 .right
  rw[hf]at h1
  cases hq:atNo xs no with
  | none=>exact⟨rfl,h2⟩
  | some x=>rw[hq]at h1; simp at h1
theorem AeL{b:Bl}:∀ (f fr:Nat)(s:LS),s.firsts.length=s.pages.length->(placeB b f fr s).firsts.length=(placeB b f fr s).pages.length
 | 0,_,s,h=>h
 | f+1,fr,s,h=>by
  unfold placeB
  split
  .exact h
  .refine AeL f _ _ ?_
   simp[breakS,addS,flushS,h]
theorem AgO(bs:List Bl):∀ i,(layTo bs i).firsts.length=(layTo bs i).pages.length
 | 0=>rfl
 | i+1=>by
  have ih:=AgO bs i;simp only[layTo]
  split
  .refine AeL _ _ _ ?_
   unfold openS gapS firstS turnS
   split <;> split <;> simp[flushS,ih]
  .exact ih
theorem firsts_pages(bs:List Bl):(layL bs).firsts.length=(layL bs).pages.length:=by
 have:=AgO bs bs.length;unfold layL
 split
 .simp [flushS,this]
 .exact this
theorem AsA{xs:List Sc}{nos:List (List UInt8)}(hm:MdOk xs nos):(layL (entsB xs nos)).firsts.length<=1000000000000:=by
 have hfewN:=hm.fewN;have hlen:=AjO hm nos.length (Nat.le_refl _);rw[List.take_length]at hlen;have hbl:∀ b∈entsB xs nos,BlOk b/\BlFit b/\b.lines.length<=11000000/\sizB b:=fun b hb=>by
  obtain⟨n,hn,hb⟩:=List.mem_flatMap.1 hb;exact(AfT hm.sc (hm.num n hn)).1 b hb
 have hcost:=A2A (bs:=entsB xs nos) (fun b hb=>(hbl b hb).2.2.1) _ (Nat.le_refl _);have:=BkC (entsB xs nos) (fun b hb=>(hbl b hb).1.own);rw[firsts_pages];omega
theorem ApC{St:Std}(hS:LibOk St)(no:Int)(ti:List UInt8)(xs:List Sc)(nos:List (List UInt8))(hm:MdOk xs nos)(v5 v6:Value)(h5:v5.oneCell'=true)(h6:v6.oneCell'=true):PcH prog St 20 [.agg [.int .i64 no,.str ti,.fz 5 (xs.map scA),.raw v5,.raw v6],.fz 1 (nos.map .str)] (· = .tup [.fz 1 ((layL (entsB xs nos)).pages.map pgA),.fz 1 ((firstsI xs nos).map .str)]):=by
 have hfew:=hm.few;have hfewN:=hm.fewN;have hall:entsB xs nos=entsB xs (nos.take nos.length):=by rw[List.take_length]
 have hlen:=AjO hm nos.length (Nat.le_refl _);rw[<- hall]at hlen;have hbl:∀ b∈entsB xs nos,BlOk b/\BlFit b/\b.lines.length<=11000000/\sizB b:=fun b hb=>by
  obtain⟨n,hn,hb⟩:=List.mem_flatMap.1 hb;exact(AfT hm.sc (hm.num n hn)).1 b hb
 have hcost:=A2A (bs:=entsB xs nos) (fun b hb=>(hbl b hb).2.2.1) _ (Nat.le_refl _);have hlay:=BtD (entsB xs nos) (fun b hb=>(hbl b hb).2.1) (fun b hb=>(hbl b hb).1) (by omega) (by omega);refine zqIB func20 rfl fun h ρ w hg=>?_
 simp only[go_sem,List.length_map,h5,h6];refine AaI (ι:=Nat) (fun i=>xs.length-i)
  (fun i=>[(24,.int .i64 i),(23,.int .i64 xs.length),(22,.fz 5 (xs.map scA)),(6,.mp 0),(1,.fz 1 (nos.map .str))])
  (fun i=>[.mp (sM (scPr (xs.take i)))]) (fun i=>i<=xs.length) 0 (by simp) ?_ ?_
 .refine Shift.weakS ?_ (by simp[scPr,sM])
  simp only[go_sem]
 .intro i g1 J hJ
  by_cases gi:i<xs.length
  .have di:decide ((i:Int)<(xs.length:Int))=true:=by simp; omega
   have hg':List.getD (List.map scA xs) i .any=.agg [.str xs[i].no,.int .i64 xs[i].place,.str xs[i].set,.int .i64 xs[i].time,.fz 2 (xs[i].paras.map paA)]:=by simp[List.getD,gi,scA]
   have m1:=BkE hm.nod gi;have m2:sM (scPr (xs.take i))++[(.str xs[i].no,.agg [.str xs[i].no,.int .i64 xs[i].place,.str xs[i].set,.int .i64 xs[i].time,.fz 2 (xs[i].paras.map paA)])]=sM (scPr (xs.take (i+1))):=by
    have:scPr (xs.take (i+1))=scPr (xs.take i)++[(xs[i].no,scA xs[i])]:=by rw[List.take_succ_eq_append_getElem gi]; simp only[scPr,List.map_append,List.map_cons,List.map_nil]
    rw[this]; simp only[sM,List.map_append,List.map_cons,List.map_nil,scA]
   have hlw:∀ p∈scPr (xs.take (i+1)),lowV 1 p.2=true:=fun p hp=>by
    obtain⟨y,_,rfl⟩:=List.mem_map.1 hp;rfl
   have hfin:=hJ (i+1) (by omega) (by omega);refine zgB ?_;simp only[go_sem,di,hg',m1,m2,List.length_map]
   repeat refine aqa ?_
   rw[ic i];refine ainv hfin (Shift.low 1 (by simp) (by simp) ?_ ?_)
   .simp only [List.take_succ_cons,List.take_zero,List.all_cons,List.all_nil,↓AgN hlw,Bool.and_self]
   .simp only[go_sem]
  .have di:decide ((i:Int)<(xs.length:Int))=false:=by simp; omega
   have hi:i=xs.length:=by omega
   subst hi;rw[List.take_length];refine zgB ?_;simp only[go_sem,di,List.length_map];refine AaI (ι:=Nat) (fun i=>nos.length-i)
    (fun i=>[(36,.int .i64 i),(35,.int .i64 nos.length),(34,.fz 1 (nos.map .str)),(10,.mp 1),(9,.sl 2 0 (entsB xs (nos.take i)).length (entsB xs (nos.take i)).length),(6,.mp 0)])
    (fun i=>[.mp (sM (scPr xs)),.mp (iM (hdL xs nos i)),.arr 4 ((entsB xs (nos.take i)).map blA)]) (fun i=>i<=nos.length) 0 (by simp) ?_ ?_
   .refine Shift.trans (Shift.nilsl 9 4 rfl) (Shift.weakS ?_ (by simp[hdL,iM,entsB]))
    simp only[go_sem]
    simp[entsB]
   .clear hJ J
    intro i g1 J hJ
    by_cases gi:i<nos.length
    .have di:decide ((i:Int)<(nos.length:Int))=true:=by simp; omega
     have hgn:List.getD (nos.map AV.str) i .any=.str nos[i]:=by simp[List.getD,gi]
     have hgd:nos.getD i []=nos[i]:=by simp[List.getD,gi]
     have m1:=BqB hm g1;have m2:iM (hdL xs nos i)++[(.int .i64 ((entsB xs (nos.take i)).length:Int),.str nos[i])]=iM (hdL xs nos (i+1)):=by
      rw[hdL_step,hgd]; simp only[iM,List.map_append,List.map_cons,List.map_nil]
     have hl1:=AjO hm i g1;have hnl:=(AaG (hm.num _ (List.getElem_mem gi))).2.1;have hle:=(AfT hm.sc (hm.num _ (List.getElem_mem gi))).2.2;have hlw1:∀ p∈scPr xs,lowV 3 p.2=true:=fun p hp=>by
      obtain⟨y,_,rfl⟩:=List.mem_map.1 hp;rfl
     have hlw2:∀ p∈hdL xs nos (i+1),lowV 3 p.2=true:=fun p hp=>by
      obtain⟨y,_,rfl⟩:=List.mem_map.1 hp;rfl
     have hfin:=hJ (i+1) (by omega) (by omega);have hst:=AlA (xs:=xs) gi
     rcases BqC xs nos[i]with⟨j,x,ha,mf⟩|⟨ha,mf⟩
     .have hd:=hm.sc x (AhM ha).1
      have hlx:=hd.line;have hbk:=A8B hS x hlx.sc hlx.place hlx.time hlx.no (BdK hlx.sc) hlx.few;simp only[scA]at mf hbk;have he:entB xs nos[i]=blocksL x:=by simp only[entB,ha]
      rw[he]at hst hle;have hap:List.map blA (entsB xs (nos.take i))++List.map blA (blocksL x)=List.map blA (entsB xs (nos.take (i+1))):=by rw[hst,List.map_append]
      have hln:(entsB xs (nos.take i)).length+(blocksL x).length=(entsB xs (nos.take (i+1))).length:=by rw[hst,List.length_append]
      refine zgB ?_;simp only[go_sem,di,hgn,m1,m2,mf,List.length_map]
      repeat refine aqa ?_
      refine zqB hg (hbk) ?_;simp only[go_sem,List.length_map,hap,hln]
      repeat refine aqa ?_
      rw[ic i];refine ainv hfin (Shift.low 3 (by simp) (by simp) ?_ ?_)
      .simp only [List.take_succ_cons,List.take_zero,List.all_cons,List.all_nil,↓AgN hlw1,↓A5G hlw2,↓low_bls,Bool.and_self]
      .simp only[go_sem]
     .have he:entB xs nos[i]=[AiQ nos[i]]:=by simp only[entB,ha]
      have hnh:=AhV hS (goneT nos[i]) (by have:=ApB (hm.num _ (List.getElem_mem gi)); omega);rw[he]at hst hle;have hap:List.map blA (entsB xs (nos.take i))++[blA (AiQ nos[i])]=List.map blA (entsB xs (nos.take (i+1))):=by rw[hst,List.map_append]; rfl
      have hln:(entsB xs (nos.take i)).length+1=(entsB xs (nos.take (i+1))).length:=by rw[hst,List.length_append]; rfl
      have hg0:nos[i]++[32,79,77,73,84,84,69,68]=goneT nos[i]:=rfl;have hgb:(⟨0,AbH 60 (goneT nos[i]),[],[]⟩:Bl)=AiQ nos[i]:=rfl;rw[hgb]at hnh;simp only[blA]at hnh hap;refine zgB ?_;simp only[go_sem,di,hgn,m1,m2,mf,List.length_map,hg0]
      repeat refine aqa ?_
      refine zqB hg (hnh) ?_;simp only[go_sem,List.length_map,hap,hln]
      repeat refine aqa ?_
      rw[ic i];refine ainv hfin (Shift.low 3 (by simp) (by simp) ?_ ?_)
      .simp only [List.take_succ_cons,List.take_zero,List.all_cons,List.all_nil,↓AgN hlw1,↓A5G hlw2,↓low_bls,Bool.and_self]
      .simp only[go_sem]
    .have di:decide ((i:Int)<(nos.length:Int))=false:=by simp; omega
     have hi:i=nos.length:=by omega
     subst hi;rw[List.take_length];have hlw1:∀ p∈scPr xs,lowV 5 p.2=true:=fun p hp=>by
      obtain⟨y,_,rfl⟩:=List.mem_map.1 hp;rfl
     have hlw2:∀ p∈hdL xs nos nos.length,lowV 5 p.2=true:=fun p hp=>by
      obtain⟨y,_,rfl⟩:=List.mem_map.1 hp;rfl
     have hat:=BtI xs nos;refine AWp.shift (Shift.freeze 9 (id:=2) rfl rfl (by simp) (Nat.le_refl _) (AhJ _)) ?_;simp only[List.drop_zero,List.set_cons_succ,List.set_cons_zero,Av.put];have t1:List.take (entsB xs nos).length (List.map blA (entsB xs nos))=List.map blA (entsB xs nos):=List.take_of_length_le (by simp);rw[t1];refine zgB ?_;simp only[go_sem,di];refine zpB (hlay) ?_;simp only[go_sem,List.length_map];unfold firstsI;have hfl:(layL (entsB xs nos)).firsts.length<=1000000000000:=AsA hm;generalize hF:(layL (entsB xs nos)).firsts=F at hfl |-;generalize (layL (entsB xs nos)).pages=Pg at |-;generalize (layL (entsB xs nos)).starts=St at |-;generalize hdL xs nos nos.length=H at *;refine AaI (ι:=Nat) (fun i=>F.length-i)
      (fun i=>[(67,.int .i64 i),(66,.int .i64 F.length),(65,.fz 1 (F.map (.int .i64))),(16,.sl 4 0 i i),(15,.ptr 3 1 0 0),(10,.mp 1)])
      (fun i=>[.mp (sM (scPr xs)),.mp (iM H),.dead,.arr 3 [.agg [.fz 1 (Pg.map pgA),.fz 1 (F.map (.int .i64)),.fz 1 (St.map (.int .i64))]],.arr 1 (((F.take i).map (AdJ xs nos)).map .str)]) (fun i=>i<=F.length) 0 (by simp) ?_ ?_
     .refine Shift.trans (Shift.nilsl 16 1 rfl) (Shift.weakS ?_ (by simp))
      simp only[go_sem]
     .clear hJ J
      intro i g1 J hJ
      by_cases gi:i<F.length
      .have di:decide ((i:Int)<(F.length:Int))=true:=by simp; omega
       have hgn:List.getD (F.map (AV.int .i64)) i .any=.int .i64 F[i]:=by simp[List.getD,gi]
       have hap:List.map AV.str (List.map (AdJ xs nos) (F.take i))++[.str (AdJ xs nos F[i])]=List.map AV.str (List.map (AdJ xs nos) (F.take (i+1))):=by
        rw[List.take_succ_eq_append_getElem gi]; simp only[List.map_append,List.map_cons,List.map_nil]
       have hln:(List.map AV.str (List.map (AdJ xs nos) (F.take i))).length=i:=by simp; omega
       have hfin:=hJ (i+1) (by omega) (by omega)
       rcases hat F[i]with⟨j,mf⟩|⟨mf,hz⟩
       .refine zgB ?_
        simp only[go_sem,di,hgn,mf,hap,hln,List.length_map]
        repeat refine aqa ?_
        rw[ic i];refine ainv hfin (Shift.low 5 (by simp) (by simp) ?_ ?_)
        .simp only [List.take_succ_cons,List.take_zero,List.all_cons,List.all_nil,↓AgN hlw1,↓A5G hlw2,↓AbA,Bool.and_self]
         rfl
        .simp only[go_sem]
       .rw [hz]at hap
        refine zgB ?_;simp only[go_sem,di,hgn,mf,hap,hln,List.length_map]
        repeat refine aqa ?_
        rw[ic i];refine ainv hfin (Shift.low 5 (by simp) (by simp) ?_ ?_)
        .simp only [List.take_succ_cons,List.take_zero,List.all_cons,List.all_nil,↓AgN hlw1,↓A5G hlw2,↓AbA,Bool.and_self]
         rfl
        .simp only[go_sem]
      .have di:decide ((i:Int)<(F.length:Int))=false:=by simp; omega
       have hi:i=F.length:=by omega
       subst hi;rw[List.take_length];refine AWp.shift (Shift.freeze 16 (id:=4) rfl rfl (by simp) (Nat.le_refl _) (AaZ _)) ?_;simp only[List.drop_zero,List.set_cons_succ,List.set_cons_zero,Av.put];have t2:List.take F.length (List.map AV.str (List.map (AdJ xs nos) F))=List.map AV.str (List.map (AdJ xs nos) F):=List.take_of_length_le (by simp);rw[t2];refine zgB ?_;simp only[go_sem,di];exact zt [4,5]
theorem BkF{St:Std}(hS:LibOk St)(d:Dr)(nos:List (List UInt8))(hm:MdOk d.scenes nos):PcH prog St 20 [drA d,.fz 1 (nos.map .str)] (· = .tup [.fz 1 ((layL (entsB d.scenes nos)).pages.map pgA),.fz 1 ((firstsI d.scenes nos).map .str)]) :=
 PcH.last2 (cs:=[.int .i64 d.no,.str d.title,.fz 5 (d.scenes.map scA)]) rfl rfl fun v w h5 h6=>ApC hS d.no d.title d.scenes nos hm v w h5 h6
def idxP{α:Type}(p:α->Bool)(l:List α):Int:=match l.findIdx? p with|some i=>(i:Int)|none=>-1
theorem AyI{α:Type}{p:α->Bool}{l:List α}:(idxP p l=-1/\l.find? p=none)\/∃ i,∃ h:i<l.length,idxP p l=(i:Int)/\l.find? p=some l[i]:=by
 unfold idxP
 cases hq:l.findIdx? p with
 | none=>exact .inl ⟨rfl,List.find?_eq_none.2 fun x hx=>by simpa using List.findIdx?_eq_none_iff.1 hq x hx⟩
 | some i =>
  obtain⟨h1,h2,h3⟩:=List.findIdx?_eq_some_iff_getElem.1 hq;exact .inr ⟨i,h1,rfl,List.find?_eq_some_iff_getElem.2 ⟨h2,i,h1,rfl,fun j hj=>by simpa using h3 j hj⟩⟩
theorem AmR(l:List (List UInt8))(x:List UInt8)(hl:l.length<1000000):Pc prog 73 [.fz 1 (l.map .str),.str x] (· = .int .i64 (idxP (fun y=>x==y) l)):=by
 refine zpIB func73 rfl fun h ρ w=>?_
 simp only[go_sem];refine AaI (ι:=Nat) (fun i=>l.length-i) (fun i=>[(8,.int .i64 i),(7,.int .i64 l.length),(1,.str x),(0,.fz 1 (l.map .str))]) (fun _=>[]) (fun i=>i<=l.length/\∀ j<i,∀ h:j<l.length,(x==l[j])=false) 0 ⟨by simp,fun j h=>absurd h (by omega)⟩ ?_ ?_
 .refine Shift.weak ?_
  simp only[go_sem,List.length_map]
 rintro i ⟨g1,g2⟩ J hJ
 by_cases gi:i<l.length
 .have di:decide ((i:Int)<(l.length:Int))=true:=by simp; omega
  have hx:=AcB gi;refine zgB ?_
  cases he:x==l[i]with
  | true =>
   have hidx:idxP (fun y=>x==y) l=(i:Int):=by
    unfold idxP;rw[List.findIdx?_eq_some_iff_getElem.2 ⟨gi,he,fun j hj=>by simp[g2 j hj (by omega)]⟩]
   simp only[go_sem,di,hx,he,List.length_map]
   repeat refine aqd ?_
   exact aret [4] rfl ⟨by simp[resV,Av.get,Av.put,hidx],rfl⟩
  | false =>
   have hfin:=hJ (i+1) ⟨by omega,fun j hj h=>by
    rcases Nat.lt_or_ge j i with hh|hh
    .exact g2 j hh h
    .have:j=i:=by omega
     subst this; exact he⟩ (by omega)
   simp only[go_sem,di,hx,he,List.length_map]
   repeat refine aqd ?_
   rw[ic i];refine ainv hfin (Shift.weak ?_);simp only[go_sem]
 .have di:decide ((i:Int)<(l.length:Int))=false:=by simp; omega
  have hidx:idxP (fun y=>x==y) l=-1:=by
   unfold idxP;rw[List.findIdx?_eq_none_iff.2 fun y hy=>by
    obtain⟨j,hj,rfl⟩:=List.getElem_of_mem hy;exact g2 j (by omega) hj]
  refine zgB ?_;simp only[go_sem,di];exact aret [4] rfl ⟨by rw[hidx]; rfl,rfl⟩
theorem ApD(l:List (List UInt8))(x:List UInt8)(hl:l.length<1000000):Pc prog 68 [.fz 1 (l.map .str),.str x] (· = .bool (decide (x∈l))):=by
 have hi:=AmR l x hl;have hb:decide (idxP (fun y=>x==y) l>=0)=decide (x∈l):=by
  rcases AyI (p:=fun y=>x==y) (l:=l)with⟨h1,h2⟩|⟨i,hi,h1,h2⟩
  .rw [h1]
   have:x ∉ l:=fun hm=>by
    rw[List.find?_eq_none]at h2;have:=h2 x hm
    simp at this
   simp[this]
  .rw [h1]
   have h3:=List.find?_some h2;simp only[beq_iff_eq]at h3;have:x∈l:=by rw[h3]; exact List.getElem_mem hi
   simp[this]
 rw[<- hb];refine zpIB func68 rfl fun h ρ w=>?_
 simp only[go_sem];refine zpB (hi) ?_;simp only[go_sem];exact zt [4]
def endsL(s:List UInt8):List UInt8×List UInt8:=((Lib.cut s [45]).1,if(Lib.cut s [45]).2.2 then(Lib.cut s [45]).2.1 else(Lib.cut s [45]).1)
theorem AdR{St:Std}(hS:LibOk St)(s:List UInt8)(hl:s.length<1000000):PcH prog St 46 [.str s] (· = .tup [.str (endsL s).1,.str (endsL s).2]):=by
 have hc:=AtO hS s [45] (by omega);unfold endsL;generalize Lib.cut s [45]=c at hc |-;obtain⟨a,b,ok⟩:=c;simp only at hc |-;refine zqIB func46 rfl fun h ρ w hg=>?_
 simp only[go_sem];refine zqB hg (hc) ?_
 cases ok with
 | true =>
  simp only[go_sem];exact zt [2,3]
 | false =>
  simp only[go_sem];exact zt [2,3]
def rnA(r:Nat×Nat):AV:=.agg [.int .i64 (r.1:Int),.int .i64 (r.2:Int)]
def runStep(rs:List (Nat×Nat))(i:Nat)(f:Le'):List (Nat×Nat) :=
 if f.first≠[] then rs++[(i,i+1)] else if rs=[] then[] else rs.set (rs.length-1) ((rs.getD (rs.length-1) (0,0)).1,i+1)
def runsTo(l:List Le'):Nat->List (Nat×Nat)
 | 0=>[]
 | i+1=>match l[i]? with
  | some f=>runStep (runsTo l i) i f
  | none=>runsTo l i
def runsL(l:List Le'):List (Nat×Nat):=runsTo l l.length
theorem AhN(l:List Le'):∀ i,(runsTo l i).length<=i
 | 0=>by simp[runsTo]
 | i+1=>by
  have ih:=AhN l i;simp only[runsTo]
  split
  .unfold runStep
   split
   .simp; omega
   .split
    .simp
    .simp; omega
  .omega
theorem AlB(l:List (Nat×Nat)):(flat (l.map rnA)).all Av.frozen=true:=by
 induction l with
 | nil=>rfl
 | cons y l ih=>simpa[flat,cellsOf,rnA,Av.frozen]using ih
theorem AbQ{l:List Le'}{i:Nat}(h:i<l.length):List.getD (l.map leA) i .any=.agg [.str l[i].name,.int .i64 l[i].draft,.str l[i].first,.fz 1 (l[i].lines.map .str)]:=by simp[List.getD,h,leA]
theorem BeH(l:List Le')(hl:l.length<=100000):Pc prog 72 [.fz 4 (l.map leA)] (· = .fz 2 ((runsL l).map rnA)):=by
 refine zpIB func72 rfl fun h ρ w=>?_
 simp only[go_sem,List.length_map];refine AaI (ι:=Nat) (fun i=>l.length-i)
  (fun i=>[(8,.int .i64 i),(7,.int .i64 l.length),(6,.fz 4 (l.map leA)),(3,.sl 0 0 (runsTo l i).length (runsTo l i).length)])
  (fun i=>[.arr 2 ((runsTo l i).map rnA)]) (fun i=>i<=l.length) 0 (by simp) ?_ ?_
 .refine Shift.trans (Shift.nilsl 3 2 rfl) (Shift.weakS ?_ rfl)
  simp only[go_sem];rfl
 .intro i g1 J hJ
  by_cases gi:i<l.length
  .have di:decide ((i:Int)<(l.length:Int))=true:=by simp; omega
   have hg':=AbQ gi;have hrl:=AhN l i;have hst:runsTo l (i+1)=runStep (runsTo l i) i l[i]:=by simp only[runsTo,List.getElem?_eq_getElem gi]
   have hfin:=hJ (i+1) (by omega) (by omega);rw[hst]at hfin;generalize l[i]=f at *;generalize runsTo l i=rs at *
   by_cases hf:f.first=[]
   .have q0:(f.first != [])=false:=by simp[hf]
    by_cases hr:rs=[]
    .subst hr
     simp only[runStep,hf,ne_eq,not_true_eq_false,if_false,if_true]at hfin;have q1:decide (((0:Nat):Int)>0)=false:=by decide
     refine zgB ?_;simp only[go_sem,di,hg',q0,List.length_map,q1]
     repeat refine aqa ?_
     rw[ic i];refine ainv hfin (Shift.low 1 (by simp) (by simp) ?_ ?_)
     .rfl
     .simp only[go_sem]
    .have hpos:0<rs.length:=List.length_pos_iff.2 hr
     have q1:decide ((rs.length:Int)>0)=true:=by simp; omega
     simp only[runStep,hf,ne_eq,not_true_eq_false,if_false,hr]at hfin;have e1:((rs.length:Int)-1).toNat=rs.length-1:=by omega
     have hgl:List.getD (rs.map rnA) (rs.length-1) .any=.agg [.int .i64 ((rs.getD (rs.length-1) (0,0)).1:Int),.int .i64 ((rs.getD (rs.length-1) (0,0)).2:Int)]:=by
      have:rs.length-1<rs.length:=by omega
      simp[List.getD,rnA,this]
     have hset:(rs.map rnA).set (rs.length-1) (.agg [.int .i64 ((rs.getD (rs.length-1) (0,0)).1:Int),.int .i64 ((i:Int)+1)])=(rs.set (rs.length-1) ((rs.getD (rs.length-1) (0,0)).1,i+1)).map rnA:=by
      rw[List.map_set]; simp[rnA]
     refine zgB ?_;simp only[go_sem,di,hg',q0,List.length_map,q1,e1,hgl,hset]
     repeat refine aqa ?_
     rw[ic i];refine ainv hfin ?_;rw[List.length_set];refine Shift.low 1 (by simp) (by simp) ?_ ?_
     .simp only [List.take_succ_cons,List.take_zero,List.all_cons,List.all_nil,Bool.and_true]
      exact AbL (AlB _)
     .simp only[go_sem]
   .have q0:(f.first != [])=true:=by simp[hf]
    simp only[runStep,hf,ne_eq,not_false_eq_true,if_true]at hfin;have hap:rs.map rnA++[.agg [.int .i64 (i:Int),.int .i64 ((i:Int)+1)]]=(rs++[(i,i+1)]).map rnA:=by simp[rnA]
    rw[List.length_append]at hfin;refine zgB ?_;simp only[go_sem,di,hg',q0,List.length_map,hap]
    repeat refine aqa ?_
    rw[ic i];refine ainv hfin (Shift.low 1 (by simp) (by simp) ?_ ?_)
    .simp only [List.take_succ_cons,List.take_zero,List.all_cons,List.all_nil,Bool.and_true]
     exact AbL (AlB _)
    .simp only[go_sem]
  .have di:decide ((i:Int)<(l.length:Int))=false:=by simp; omega
   have hi:i=l.length:=by omega
   subst hi
   show AWp _ _ _ [.arr 2 ((runsL l).map rnA)]
   have e:runsTo l l.length=runsL l:=rfl;rw[e];refine AWp.shift (Shift.freeze 3 (id:=0) rfl rfl (by simp) (Nat.le_refl _) (AlB _)) ?_;simp only[List.drop_zero,List.set_cons_succ,List.set_cons_zero,Av.put];have t1:List.take (runsL l).length (List.map rnA (runsL l))=List.map rnA (runsL l):=List.take_of_length_le (by simp);rw[t1];refine zgB ?_;simp only[go_sem,di];exact zt [2]
theorem ApE(all:List (List UInt8))(l:List Le')(r:Nat×Nat)(fr tz:Nat)(ha:all.length<=1000)(hl:l.length<=100000)(h1:r.1<l.length)(h2:r.2<=l.length)
  (hfr:idxP (fun y=>l[r.1].first==y) all=(fr:Int)) (htz:(if h:r.2<l.length then idxP (fun y=>l[r.2].first==y) all else(all.length:Int))=(tz:Int)) (h3:fr<=tz) (h4:tz<=all.length) :
  Pc prog 102 [.fz 1 (all.map .str),.fz 4 (l.map leA),rnA r] (· = .fz 1 (((all.take tz).drop fr).map .str)):=by
 have hx:=AmR all l[r.1].first (by omega);rw[hfr]at hx;have hg:=AbQ h1;have d1:decide ((fr:Int)<0)=false:=by simp
 have hres:List.drop fr (List.take tz (List.map AV.str all))=((all.take tz).drop fr).map .str:=by rw[List.map_drop,List.map_take]
 simp only[rnA]
 by_cases h5:r.2<l.length
 .rw [dif_pos h5]at htz
  have hy:=AmR all l[r.2].first (by omega);rw[htz]at hy;have hg2:=AbQ h5;have d2:decide ((r.2:Int)<(l.length:Int))=true:=by simp; omega
  refine zpIB func102 rfl fun h ρ w=>?_
  simp only[go_sem,hg]
  repeat refine aqa ?_
  refine zpB (hx) ?_;simp only[go_sem,d2,hg2,List.length_map]
  repeat refine aqa ?_
  refine zpB (hy) ?_;simp only[go_sem,List.length_map,hres]
  repeat refine aqa ?_
  exact zt [6]
 .rw [dif_neg h5]at htz
  have e:tz=all.length:=by omega
  subst e;have d2:decide ((r.2:Int)<(l.length:Int))=false:=by simp; omega
  refine zpIB func102 rfl fun h ρ w=>?_
  simp only[go_sem,hg]
  repeat refine aqa ?_
  refine zpB (hx) ?_;simp only[go_sem,d2,List.length_map,hres]
  repeat refine aqa ?_
  exact zt [6]
theorem A2D(p:List Ln)(f:Le')(hp:p.length<1000000)(hf:f.lines.length<1000000):Pc prog 104 [pgA p,leA f] (· = .bool (p==f.lines)):=by
 have he:=AhI p f.lines (by omega) (by omega);simp only[pgA,leA];refine zpIB func104 rfl fun h ρ w=>?_
 simp only[go_sem];refine zpB (he) ?_;simp only[go_sem];exact zt [4]
theorem A2E{l:List (List Ln)}{i:Nat}(h:i<l.length):List.getD (l.map pgA) i .any=.fz 1 (l[i].map .str):=by simp[List.getD,h,pgA]
theorem A8I(ps:List (List Ln))(fs:List Le')(h1:∀ p∈ps,p.length<1000000)(h2:∀ f∈fs,f.lines.length<1000000)(h3:ps.length<100000000000000)(h4:fs.length<1000000) :
  Pc prog 103 [.fz 1 (ps.map pgA),.fz 4 (fs.map leA),.fn (.func 104) []] (· = .bool (decide (ps=fs.map (·.lines)))):=by
 by_cases hl:ps.length=fs.length
 .have d0:((ps.length:Int) != (fs.length:Int))=false:=by simp[hl]
  refine zpIB func103 rfl fun h ρ w=>?_
  simp only[go_sem,d0,List.length_map];refine AaI (ι:=Nat) (fun i=>ps.length-i) (fun i=>[(17,.int .i64 i),(16,.int .i64 ps.length),(15,.fz 1 (ps.map pgA)),(2,.fn (.func 104) []),(1,.fz 4 (fs.map leA)),(0,.fz 1 (ps.map pgA))]) (fun _=>[]) (fun i=>i<=ps.length/\ps.take i=(fs.map (·.lines)).take i) 0 (by simp) ?_ ?_
  .refine Shift.weak ?_
   simp only[go_sem]
  .rintro i ⟨g1,g2⟩ J hJ
   by_cases gi:i<ps.length
   .have di:decide ((i:Int)<(ps.length:Int))=true:=by simp; omega
    have gb:i<fs.length:=by omega
    have e1:=A2E gi;have e2:=AbQ gb;have hc:=A2D ps[i] fs[i] (h1 _ (List.getElem_mem gi)) (h2 _ (List.getElem_mem gb));simp only[pgA,leA]at hc
    by_cases he:ps[i]=fs[i].lines
    .have de:(ps[i]==fs[i].lines)=true:=by simp[he]
     have hfin:=hJ (i+1) ⟨by omega,by rw[List.take_succ_eq_append_getElem gi,List.take_succ_eq_append_getElem (by simpa using gb),g2,he,List.getElem_map]⟩ (by omega);rw[de]at hc;refine zgB ?_;simp only[go_sem,di,e1,e2,List.length_map]
     repeat refine aqa ?_
     refine zpB (hc) ?_;simp only[go_sem]
     repeat refine aqa ?_
     rw[ic i];refine ainv hfin (Shift.low 0 (by simp) (by simp) rfl ?_);simp only[go_sem]
    .have de:(ps[i]==fs[i].lines)=false:=by simp[he]
     have hab:decide (ps=fs.map (·.lines))=false:=by
      rw[decide_eq_false_iff_not];intro e;apply he;have:ps[i]? = (fs.map (·.lines))[i]?:=by rw[<- e]
      simpa[gi,gb]using this
     rw[de]at hc;refine zgB ?_;simp only[go_sem,di,e1,e2,List.length_map]
     repeat refine aqa ?_
     refine zpB (hc) ?_;simp only[go_sem];exact aret [6] rfl ⟨by rw[hab]; rfl,rfl⟩
   .have di:decide ((i:Int)<(ps.length:Int))=false:=by simp; omega
    have hi:i=ps.length:=by omega
    subst hi;have hab:decide (ps=fs.map (·.lines))=true:=by
     rw[decide_eq_true_eq];rw[List.take_length,List.take_of_length_le (by simp; omega)]at g2;exact g2
    refine zgB ?_;simp only[go_sem,di];exact aret [6] rfl ⟨by rw[hab]; rfl,rfl⟩
 .have d0:((ps.length:Int) != (fs.length:Int))=true:=by simp; omega
  have hab:decide (ps=fs.map (·.lines))=false:=by
   rw[decide_eq_false_iff_not];intro e;exact hl (by rw[e]; simp)
  refine zpIB func103 rfl fun h ρ w=>?_
  simp only[go_sem,d0,List.length_map];exact aret [6] rfl ⟨by rw[hab]; rfl,rfl⟩
