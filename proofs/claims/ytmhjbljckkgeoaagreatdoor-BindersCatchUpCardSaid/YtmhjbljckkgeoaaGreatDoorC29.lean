/- The pages of some entries of a draft. -/
import Derived.Test.YtmhjbljckkgeoaaGreatDoorC28
set_option maxRecDepth 100000
set_option maxHeartbeats 4000000
set_option linter.all false
namespace Go.Proofs.YtmhjbljckkgeoaaGreatDoor
open Av RowKit Proofs.Tryz
def sM(l:List (LU×AV)):List (AV×AV):=l.map fun p=>(.str p.1,p.2)
def iM(l:List (Int×AV)):List (AV×AV):=l.map fun p=>(.int .i64 p.1,p.2)
theorem AoE(k:LU):∀ (l:List (LU×AV))(n:Nat),(∃ i v,l.find? (fun p=>p.1==k)=some (k,v)/\mfind .string (.str k) (sM l) n=some (some (i,v)))\/(l.find? (fun p=>p.1==k)=none/\mfind .string (.str k) (sM l) n=some none)
 | [],n=>.inr ⟨rfl,rfl⟩
 | (a,v)::l,n=>by
  by_cases h:a=k
  .subst h
   exact .inl ⟨n,v,by simp,by simp[sM,mfind,keyEq]⟩
  .have h1:(a==k)=false:=by simpa using h
   have h2:(k==a)=false:=by simpa using fun e=>h e.symm
   have:=AoE k l (n+1)
   simpa only [List.find?_cons,h1,sM,lak,mfind,keyEq,h2]using this
theorem iM_find(k:Int):∀ (l:List (Int×AV))(n:Nat),(∃ i v,l.find? (fun p=>p.1==k)=some (k,v)/\mfind (.int .i64) (.int .i64 k) (iM l) n=some (some (i,v)))\/(l.find? (fun p=>p.1==k)=none/\mfind (.int .i64) (.int .i64 k) (iM l) n=some none)
 | [],n=>.inr ⟨rfl,rfl⟩
 | (a,v)::l,n=>by
  by_cases h:a=k
  .subst h
   exact .inl ⟨n,v,by simp,by simp[iM,mfind,keyEq]⟩
  .have h1:(a==k)=false:=by simpa using h
   have h2:(k==a)=false:=by simpa using fun e=>h e.symm
   have:=iM_find k l (n+1)
   simpa only [List.find?_cons,h1,iM,lak,mfind,keyEq,h2,decide_true,cond_true]using this
theorem AoF{n:Nat}{l:List (LU×AV)}(h:∀ p∈l,lowV n p.2=true):lowB n (.mp (sM l))=true:=by
 show(sM l).all _=true
 rw[List.all_eq_true];intro x hx;obtain⟨p,hp,rfl⟩:=List.mem_map.1 hx
 grind
theorem A5I{n:Nat}{l:List (Int×AV)}(h:∀ p∈l,lowV n p.2=true):lowB n (.mp (iM l))=true:=by
 show(iM l).all _=true
 rw[List.all_eq_true];intro x hx;obtain⟨p,hp,rfl⟩:=List.mem_map.1 hx
 grind
structure SceneD(x:Sc):Prop where
 no:x.no=[]\/numberL x.no=true
 place:1<=x.place/\x.place<=3
 set:x.set∈SetL
 time:1<=x.time/\x.time<=5
 run:∃ e,runL 0 x.Ld=some e/\e≠2/\e≠3
 len:x.Ld.length<=60
 all:∀ p∈x.Ld,DrawnP p
 wt:wtL x.Ld<=143
theorem AgE{a:LU}(h:a=[]\/numberL a=true):a.length<1000:=by
 rcases h with rfl|h
 all_goals simp_all[number_okA]
theorem SceneD.sc{x:Sc}(h:SceneD x):SceneOk x:=by
 have:=List.all_eq_true.1 BdQ x.set h.set
 simp at this
 exact⟨this.1,this.2,by have:=h.len; omega,h.run⟩
theorem SceneD.line{x:Sc}(h:SceneD x):LineOk x:=⟨h.sc,h.place,h.time,by have:=AgE h.no; omega,by have:=h.len; omega⟩
theorem SceneD.bl{x:Sc}(h:SceneD x):∀ b∈blocksL x,BlOk b:=BdX fun p hp=>by
 have:=h.all p hp;exact⟨this.name,this.turn,this.kind.1,this.kind.2⟩
def goneT(no:LU):LU:=no++BdI
def goneB(no:LU):Bl:=⟨0,wrapL 60 (goneT no),[],[]⟩
def atNo(xs:List Sc)(no:LU):Option Sc:=xs.find? fun x=>x.no==no
def entB(xs:List Sc)(no:LU):List Bl:=match atNo xs no with
 | some x=>blocksL x
 | none=>[goneB no]
def entsB(xs:List Sc)(nos:List LU):List Bl:=nos.flatMap (entB xs)
def hdL(xs:List Sc)(nos:List LU)(i:Nat):List (Int×AV):=(List.range i).map fun k=>(((entsB xs (nos.take k)).length:Int),.str (nos.getD k []))
def AdH(xs:List Sc)(nos:List LU)(k:Int):LU:=match(List.range nos.length).find? (fun j=>((entsB xs (nos.take j)).length:Int)==k)with
 | some j=>nos.getD j []
 | none=>[]
def firstsI(xs:List Sc)(nos:List LU):List LU:=(layL (entsB xs nos)).Lg.map (AdH xs nos)
structure MdOk(xs:List Sc)(nos:List LU):Prop where
 sc:∀ x∈xs,SceneD x
 nod:(nosL xs).Nodup
 few:xs.length<=300
 fewN:nos.length<=300
 num:∀ n∈nos,numberL n=true
theorem AeP{xs:List Sc}{no:LU}{x:Sc}(h:atNo xs no=some x):x∈xs/\x.no=no:=⟨List.mem_of_find?_eq_some h,by simpa using List.find?_some h⟩
theorem goneT_len{no:LU}(h:numberL no=true):(goneT no).length<2000:=by
 have:=(number_okA h).2.1
 simp[goneT,BdI]; omega
theorem A5J(no:LU):BlOk (goneB no):=⟨fun l hl=>BdV (AoC (by omega) _ l hl),fun e=>by grind[goneB]⟩
theorem BeA{no:LU}(h:numberL no=true):(goneB no).Lb.length<=2002:=by
 grind[goneT_len,wrapL_le,goneB]
theorem AdA{xs:List Sc}{no:LU}(hx:∀ x∈xs,SceneD x)(hn:numberL no=true):(∀ b∈entB xs no,BlOk b/\BlFit b/\b.Lb.length<=11000000/\sizB b)/\1<=(entB xs no).length/\(entB xs no).length<=61:=by
 unfold entB
 cases h:atNo xs no with
 | some x =>
  obtain⟨h1,h2⟩:=AeP h;have hd:=hx x h1;refine⟨fun b hb=>?_,by simp[blocksL],show(blocksL x).length<=61 by have:=BdY x; have:=hd.len; omega⟩;have hl:=hd.line;have hs:=A8B hl b hb;exact⟨hd.bl b hb,⟨(hd.bl b hb).kinds,by have:=hl.bound.1 b hb; omega,by have:=hs.1; omega⟩,hl.bound.1 b hb,hs⟩
 | none =>
  refine⟨fun b hb=>?_,by simp,by simp⟩;rw[List.mem_singleton.1 hb];have h1:=BeA hn;have h2:=(wrapL_le 60 (goneT no)).2;have h3:=goneT_len hn;refine⟨A5J no,⟨(A5J no).kinds,by omega,by simp[goneB]⟩,by omega,⟨by simp[goneB],fun l hl=>?_⟩⟩<;>grind[goneB]
theorem AkO{xs:List Sc}{nos:List LU}{i:Nat}(h:i<nos.length):entsB xs (nos.take (i+1))=entsB xs (nos.take i)++entB xs nos[i]:=by
 grind[entsB,lad]
theorem AjD{xs:List Sc}{nos:List LU}(h:MdOk xs nos):∀ i,i<=nos.length->(entsB xs (nos.take i)).length<=61*i
 | 0,_=>by simp[entsB]
 | i+1,hi=>by
  have ih:=AjD h i (by omega);have h2:=(AdA h.sc (h.num _ (lac (show i<nos.length by omega)))).2.2;rw[AkO (by omega),lah];omega
theorem AkP{xs:List Sc}{nos:List LU}(h:MdOk xs nos){i j:Nat}(hij:i<j)(hj:j<=nos.length):(entsB xs (nos.take i)).length<(entsB xs (nos.take j)).length:=by
 induction j with
 | zero=>omega
 | succ j ih =>
  have h2:=(AdA h.sc (h.num _ (lac (show j<nos.length by omega)))).2.1
  grind[AkO]
theorem hdL_step(xs:List Sc)(nos:List LU)(i:Nat):hdL xs nos (i+1)=hdL xs nos i++[(((entsB xs (nos.take i)).length:Int),.str (nos.getD i []))]:=by
 grind[hdL,List.range_succ]
theorem BsO{xs:List Sc}{nos:List LU}(h:MdOk xs nos){i:Nat}(hi:i<=nos.length):mfind (.int .i64) (.int .i64 ((entsB xs (nos.take i)).length:Int)) (iM (hdL xs nos i)) 0=some none:=by
 rcases iM_find ((entsB xs (nos.take i)).length) (hdL xs nos i) 0 with⟨j,v,h1,_⟩|⟨_,h2⟩
 .have hm:=List.mem_of_find?_eq_some h1
  simp only[hdL,List.mem_map,List.mem_range,Prod.mk.injEq]at hm;obtain⟨k,hk,e,_⟩:=hm;have:=AkP h hk hi;omega
 omega
theorem BwO(xs:List Sc)(nos:List LU)(k:Int):(∃ i,mfind (.int .i64) (.int .i64 k) (iM (hdL xs nos nos.length)) 0=some (some (i,.str (AdH xs nos k))))\/(mfind (.int .i64) (.int .i64 k) (iM (hdL xs nos nos.length)) 0=some none/\AdH xs nos k=[]):=by
 have hf:(hdL xs nos nos.length).find? (fun p=>p.1==k)=((List.range nos.length).find? fun j=>((entsB xs (nos.take j)).length)==k).map fun j=>(((entsB xs (nos.take j)).length:Int),.str (nos.getD j [])):=by
  unfold hdL;rw[List.find?_map];rfl
 grind[iM_find,AdH]
def scPr(xs:List Sc):List (LU×AV):=xs.map fun x=>(x.no,scA x)
theorem BlV{xs:List Sc}(h:(nosL xs).Nodup){i:Nat}(hi:i<xs.length):mfind .string (.str xs[i].no) (sM (scPr (xs.take i))) 0=some none:=by
 rcases AoE xs[i].no (scPr (xs.take i)) 0 with⟨j,v,h1,_⟩|⟨_,h2⟩<;>grind[scPr,List.getElem_of_mem,lbj,nosL]
theorem BsP(xs:List Sc)(no:LU):(∃ i x,atNo xs no=some x/\mfind .string (.str no) (sM (scPr xs)) 0=some (some (i,scA x)))\/(atNo xs no=none/\mfind .string (.str no) (sM (scPr xs)) 0=some none):=by
 have hf:(scPr xs).find? (fun p=>p.1==no)=(atNo xs no).map fun x=>(x.no,scA x):=by
  unfold scPr atNo;rw[List.find?_map];rfl
 rcases AoE no (scPr xs) 0 with⟨i,v,h1,h2⟩|⟨h1,h2⟩
 .cases hq:atNo xs no<;>grind
 .rw [hf]at h1
  simp_all
theorem AeQ{b:Bl}:∀ (f fr:Nat)(s:LS),s.Lg.length=s.Lh.length->(placeB b f fr s).Lg.length=(placeB b f fr s).Lh.length
 | 0,_,s,h=>h
 | f+1,fr,s,h=>by
  unfold placeB
  split
  .exact h
  .refine AeQ f _ _ ?_
   simp[breakS,addS,flushS,h]
theorem firsts_pages_to(bs:List Bl):∀ i,(layTo bs i).Lg.length=(layTo bs i).Lh.length
 | 0=>rfl
 | i+1=>by
  have ih:=firsts_pages_to bs i;simp only[layTo]
  split
  .refine AeQ _ _ _ ?_
   unfold openS gapS firstS turnS
   split <;> split <;> simp[flushS,ih]
  .exact ih
theorem firsts_pages(bs:List Bl):(layL bs).Lg.length=(layL bs).Lh.length:=by
 grind[firsts_pages_to,layL,flushS]
theorem ArC{xs:List Sc}{nos:List LU}(hm:MdOk xs nos):(layL (entsB xs nos)).Lg.length<=1000000000000:=by
 have hfewN:=hm.fewN;have hlen:=AjD hm nos.length (lab _);have hbl:∀ b∈entsB xs nos,BlOk b/\BlFit b/\b.Lb.length<=11000000/\sizB b:=fun b hb=>by
  obtain⟨n,hn,hb⟩:=List.mem_flatMap.1 hb;exact(AdA hm.sc (hm.num n hn)).1 b hb
 have hcost:=A1P (fun b hb=>(hbl b hb).2.2.1) _ (lab _);have:=BlU (entsB xs nos) (fun b hb=>(hbl b hb).1.own)
 grind[firsts_pages]
theorem BeB{St:Std}(hS:LibOk St)(no:Int)(ti:LU)(xs:List Sc)(nos:List LU)(hm:MdOk xs nos)(v5 v6:Value)(h5:v5.oneCell'=true)(h6:v6.oneCell'=true):PcH prog St 70 [.agg [.int .i64 no,.str ti,.fz 5 (xs.map scA),.raw v5,.raw v6],.fz 1 (nos.map .str)] (· = .tup [.fz 1 ((layL (entsB xs nos)).Lh.map pgA),.fz 1 ((firstsI xs nos).map .str)]):=by
 have hfew:=hm.few;have hfewN:=hm.fewN;have hall:entsB xs nos=entsB xs (nos.take nos.length):=by rw[lap]
 have hlen:=AjD hm nos.length (lab _);rw[<- hall]at hlen;have hbl:∀ b∈entsB xs nos,BlOk b/\BlFit b/\b.Lb.length<=11000000/\sizB b:=fun b hb=>by
  obtain⟨n,hn,hb⟩:=List.mem_flatMap.1 hb;exact(AdA hm.sc (hm.num n hn)).1 b hb
 have hcost:=A1P (bs:=entsB xs nos) (fun b hb=>(hbl b hb).2.2.1) _ (lab _);have hlay:=BwK (entsB xs nos) (fun b hb=>(hbl b hb).2.1) (fun b hb=>(hbl b hb).1) (by omega) (by omega);refine zqIB func70 rfl fun h ρ w hg=>?_
 simp only[go_sem,laa,h5,h6];refine AaC (ι:=Nat) (fun i=>xs.length-i)
  (fun i=>[(24,.int .i64 i),(23,.int .i64 xs.length),(22,.fz 5 (xs.map scA)),(6,.mp 0),(1,.fz 1 (nos.map .str))])
  (fun i=>[.mp (sM (scPr (xs.take i)))]) (fun i=>i<=xs.length) 0 (by simp) ?_ ?_
 .refine Lu ?_ (by simp[scPr,sM])
  simp only[go_sem]
 .intro i g1 J hJ
  by_cases gi:i<xs.length
  .have di:decide ((i:Int)<(xs.length:Int))=true:=by simp; omega
   have hg':List.getD (List.map scA xs) i .any=.agg [.str xs[i].no,.int .i64 xs[i].place,.str xs[i].set,.int .i64 xs[i].time,.fz 2 (xs[i].Ld.map paA)]:=by simp[List.getD,gi,scA]
   have m1:=BlV hm.nod gi;have m2:sM (scPr (xs.take i))++[(.str xs[i].no,.agg [.str xs[i].no,.int .i64 xs[i].place,.str xs[i].set,.int .i64 xs[i].time,.fz 2 (xs[i].Ld.map paA)])]=sM (scPr (xs.take (i+1))):=by
    have:scPr (xs.take (i+1))=scPr (xs.take i)++[(xs[i].no,scA xs[i])]:=by rw[lad gi]; simp only[scPr,laf,lak,lao]
    rw[this]; simp only[sM,laf,lak,lao,scA]
   have hlw:∀ p∈scPr (xs.take (i+1)),lowV 1 p.2=true:=fun p hp=>by
    obtain⟨y,_,rfl⟩:=List.mem_map.1 hp;rfl
   have hfin:=hJ (i+1) (by omega) (by omega);apply zgB;simp only[go_sem,di,hg',m1,m2,laa]
   repeat refine aqb ?_
   rw[ic i];refine ainv hfin (Shift.low 1 (by simp) (by simp) ?_ ?_)
   .simp only [lbk,lcc,las,lba,↓AoF hlw,lbh]
   .simp only[go_sem]
  .have di:decide ((i:Int)<(xs.length:Int))=false:=by simp; omega
   have hi:i=xs.length:=by omega
   subst hi;rw[lap];apply zgB;simp only[go_sem,di,laa];refine AaC (ι:=Nat) (fun i=>nos.length-i)
    (fun i=>[(36,.int .i64 i),(35,.int .i64 nos.length),(34,.fz 1 (nos.map .str)),(10,.mp 1),(9,.sl 2 0 (entsB xs (nos.take i)).length (entsB xs (nos.take i)).length),(6,.mp 0)])
    (fun i=>[.mp (sM (scPr xs)),.mp (iM (hdL xs nos i)),.arr 4 ((entsB xs (nos.take i)).map blA)]) (fun i=>i<=nos.length) 0 (by simp) ?_ ?_
   .refine Shift.trans (Lv 9 4 rfl) (Lu ?_ (by simp[hdL,iM,entsB]))
    simp only[go_sem]
    simp[entsB]
   .clear hJ J
    intro i g1 J hJ
    by_cases gi:i<nos.length
    .have di:decide ((i:Int)<(nos.length:Int))=true:=by simp; omega
     have hgn:List.getD (nos.map AV.str) i .any=.str nos[i]:=by simp[List.getD,gi]
     have hgd:nos.getD i []=nos[i]:=by simp[List.getD,gi]
     have m1:=BsO hm g1;have m2:iM (hdL xs nos i)++[(.int .i64 ((entsB xs (nos.take i)).length:Int),.str nos[i])]=iM (hdL xs nos (i+1)):=by
      rw[hdL_step,hgd]; simp only[iM,laf,lak,lao]
     have hl1:=AjD hm i g1;have hnl:=(number_okA (hm.num _ (lac gi))).2.1;have hle:=(AdA hm.sc (hm.num _ (lac gi))).2.2;have hlw1:∀ p∈scPr xs,lowV 3 p.2=true:=fun p hp=>by
      obtain⟨y,_,rfl⟩:=List.mem_map.1 hp;rfl
     have hlw2:∀ p∈hdL xs nos (i+1),lowV 3 p.2=true:=fun p hp=>by
      obtain⟨y,_,rfl⟩:=List.mem_map.1 hp;rfl
     have hfin:=hJ (i+1) (by omega) (by omega);have hst:=AkO (xs:=xs) gi
     rcases BsP xs nos[i]with⟨j,x,ha,mf⟩|⟨ha,mf⟩
     .have hd:=hm.sc x (AeP ha).1
      have hlx:=hd.line;have hbk:=A7Y hS x hlx.sc hlx.place hlx.time hlx.no (A1L hlx.sc) hlx.few;simp only[scA]at mf hbk;have he:entB xs nos[i]=blocksL x:=by simp only[entB,ha]
      rw[he]at hst hle;have hap:List.map blA (entsB xs (nos.take i))++List.map blA (blocksL x)=List.map blA (entsB xs (nos.take (i+1))):=by rw[hst,laf]
      have hln:(entsB xs (nos.take i)).length+(blocksL x).length=(entsB xs (nos.take (i+1))).length:=by rw[hst,lah]
      apply zgB;simp only[go_sem,di,hgn,m1,m2,mf,laa]
      repeat refine aqb ?_
      refine zqB hg (hbk) ?_;simp only[go_sem,laa,hap,hln]
      repeat refine aqb ?_
      rw[ic i];refine ainv hfin (Shift.low 3 (by simp) (by simp) ?_ ?_)
      .simp only [lbk,lcc,las,lba,↓AoF hlw1,↓A5I hlw2,↓low_bls,lbh]
      .simp only[go_sem]
     .have he:entB xs nos[i]=[goneB nos[i]]:=by simp only[entB,ha]
      have hnh:=AhM hS (goneT nos[i]) (by have:=goneT_len (hm.num _ (lac gi)); omega);rw[he]at hst hle;have hap:List.map blA (entsB xs (nos.take i))++[blA (goneB nos[i])]=List.map blA (entsB xs (nos.take (i+1))):=by rw[hst,laf]; rfl
      have hln:(entsB xs (nos.take i)).length+1=(entsB xs (nos.take (i+1))).length:=by rw[hst,lah]; rfl
      have hg0:nos[i]++[32,79,77,73,84,84,69,68]=goneT nos[i]:=rfl;have hgb:(⟨0,wrapL 60 (goneT nos[i]),[],[]⟩:Bl)=goneB nos[i]:=rfl;rw[hgb]at hnh;simp only[blA]at hnh hap;apply zgB;simp only[go_sem,di,hgn,m1,m2,mf,laa,hg0]
      repeat refine aqb ?_
      refine zqB hg (hnh) ?_;simp only[go_sem,laa,hap,hln]
      repeat refine aqb ?_
      rw[ic i];refine ainv hfin (Shift.low 3 (by simp) (by simp) ?_ ?_)
      .simp only [lbk,lcc,las,lba,↓AoF hlw1,↓A5I hlw2,↓low_bls,lbh]
      .simp only[go_sem]
    .have di:decide ((i:Int)<(nos.length:Int))=false:=by simp; omega
     have hi:i=nos.length:=by omega
     subst hi;rw[lap];have hlw1:∀ p∈scPr xs,lowV 5 p.2=true:=fun p hp=>by
      obtain⟨y,_,rfl⟩:=List.mem_map.1 hp;rfl
     have hlw2:∀ p∈hdL xs nos nos.length,lowV 5 p.2=true:=fun p hp=>by
      obtain⟨y,_,rfl⟩:=List.mem_map.1 hp;rfl
     have hat:=BwO xs nos;refine AWp.shift (Shift.freeze 9 (id:=2) rfl rfl (by simp) (lab _) (AhB _)) ?_;simp only[lbu,List.set_cons_succ,lby,Av.put];have t1:List.take (entsB xs nos).length (List.map blA (entsB xs nos))=List.map blA (entsB xs nos):=lae (by simp);rw[t1];apply zgB;simp only[go_sem,di];refine zpB (hlay) ?_;simp only[go_sem,laa];unfold firstsI;have hfl:(layL (entsB xs nos)).Lg.length<=1000000000000:=ArC hm;generalize hF:(layL (entsB xs nos)).Lg=F at hfl |-;generalize (layL (entsB xs nos)).Lh=Pg at |-;generalize (layL (entsB xs nos)).Ll=St at |-;generalize hdL xs nos nos.length=H at *;refine AaC (ι:=Nat) (fun i=>F.length-i)
      (fun i=>[(67,.int .i64 i),(66,.int .i64 F.length),(65,.fz 1 (F.map (.int .i64))),(16,.sl 4 0 i i),(15,.ptr 3 1 0 0),(10,.mp 1)])
      (fun i=>[.mp (sM (scPr xs)),.mp (iM H),.dead,.arr 3 [.agg [.fz 1 (Pg.map pgA),.fz 1 (F.map (.int .i64)),.fz 1 (St.map (.int .i64))]],.arr 1 (((F.take i).map (AdH xs nos)).map .str)]) (fun i=>i<=F.length) 0 (by simp) ?_ ?_
     .refine Shift.trans (Lv 16 1 rfl) (Lu ?_ (by simp))
      simp only[go_sem]
     .clear hJ J
      intro i g1 J hJ
      by_cases gi:i<F.length
      .have di:decide ((i:Int)<(F.length:Int))=true:=by simp; omega
       have hgn:List.getD (F.map (AV.int .i64)) i .any=.int .i64 F[i]:=by simp[List.getD,gi]
       have hap:List.map AV.str (List.map (AdH xs nos) (F.take i))++[.str (AdH xs nos F[i])]=List.map AV.str (List.map (AdH xs nos) (F.take (i+1))):=by
        rw[lad gi]; simp only[laf,lak,lao]
       have hln:(List.map AV.str (List.map (AdH xs nos) (F.take i))).length=i:=by simp; omega
       have hfin:=hJ (i+1) (by omega) (by omega)
       rcases hat F[i]with⟨j,mf⟩|⟨mf,hz⟩
       .apply zgB
        simp only[go_sem,di,hgn,mf,hap,hln,laa]
        repeat refine aqb ?_
        rw[ic i];refine ainv hfin (Shift.low 5 (by simp) (by simp) ?_ ?_)
        .simp only [lbk,lcc,las,lba,↓AoF hlw1,↓A5I hlw2,↓AfP,lbh]
         rfl
        .simp only[go_sem]
       .rw [hz]at hap
        apply zgB;simp only[go_sem,di,hgn,mf,hap,hln,laa]
        repeat refine aqb ?_
        rw[ic i];refine ainv hfin (Shift.low 5 (by simp) (by simp) ?_ ?_)
        .simp only [lbk,lcc,las,lba,↓AoF hlw1,↓A5I hlw2,↓AfP,lbh]
         rfl
        .simp only[go_sem]
      .have di:decide ((i:Int)<(F.length:Int))=false:=by simp; omega
       have hi:i=F.length:=by omega
       subst hi;rw[lap];refine AWp.shift (Shift.freeze 16 (id:=4) rfl rfl (by simp) (lab _) (AcY _)) ?_;simp only[lbu,List.set_cons_succ,lby,Av.put];have t2:List.take F.length (List.map AV.str (List.map (AdH xs nos) F))=List.map AV.str (List.map (AdH xs nos) F):=lae (by simp);rw[t2];apply zgB;simp only[go_sem,di];exact zt [4,5]
theorem BlW{St:Std}(hS:LibOk St)(d:Dr)(nos:List LU)(hm:MdOk d.Lc nos):PcH prog St 70 [drA d,.fz 1 (nos.map .str)] (· = .tup [.fz 1 ((layL (entsB d.Lc nos)).Lh.map pgA),.fz 1 ((firstsI d.Lc nos).map .str)]) :=
 PcH.last2 (cs:=[.int .i64 d.no,.str d.Lk,.fz 5 (d.Lc.map scA)]) rfl rfl fun v w h5 h6=>BeB hS d.no d.Lk d.Lc nos hm v w h5 h6
def idxP{α:Type}(p:α->Bool)(l:List α):Int:=match l.findIdx? p with|some i=>(i:Int)|none=>-1
theorem BeC{α:Type}{p:α->Bool}{l:List α}:(idxP p l=-1/\l.find? p=none)\/∃ i,∃ h:i<l.length,idxP p l=(i:Int)/\l.find? p=some l[i]:=by
 grind[idxP,List.findIdx?_eq_some_iff_getElem,List.find?_eq_some_iff_getElem]
theorem AtR(l:List LU)(x:LU)(hl:l.length<1000000):Pc prog 99 [.fz 1 (l.map .str),.str x] (· = .int .i64 (idxP (fun y=>x==y) l)):=by
 refine zpIB func99 rfl fun h ρ w=>?_
 simp only[go_sem];refine AaC (ι:=Nat) (fun i=>l.length-i) (fun i=>[(8,.int .i64 i),(7,.int .i64 l.length),(1,.str x),(0,.fz 1 (l.map .str))]) (fun _=>[]) (fun i=>i<=l.length/\∀ j<i,∀ h:j<l.length,(x==l[j])=false) 0 ⟨by simp,fun j h=>absurd h (by omega)⟩ ?_ ?_
 .refine Ls ?_
  simp only[go_sem,laa]
 rintro i ⟨g1,g2⟩ J hJ
 by_cases gi:i<l.length
 .have di:decide ((i:Int)<(l.length:Int))=true:=by simp; omega
  have hx:=AiZ gi;apply zgB
  cases he:x==l[i]with
  | true =>
   have hidx:idxP (fun y=>x==y) l=(i:Int):=by
    unfold idxP;rw[List.findIdx?_eq_some_iff_getElem.2 ⟨gi,he,fun j hj=>by simp[g2 j hj (by omega)]⟩]
   simp only[go_sem,di,hx,he,laa]
   repeat refine aqe ?_
   exact aret [4] rfl ⟨by simp[resV,Av.get,Av.put,hidx],rfl⟩
  | false =>
   have hfin:=hJ (i+1) ⟨by omega,fun j hj h=>by
    rcases Nat.lt_or_ge j i with hh|hh
    .exact g2 j hh h
    .have:j=i:=by omega
     subst this; exact he⟩ (by omega)
   simp only[go_sem,di,hx,he,laa]
   repeat refine aqe ?_
   rw[ic i];refine ainv hfin (Ls ?_);simp only[go_sem]
 .have di:decide ((i:Int)<(l.length:Int))=false:=by simp; omega
  have hidx:idxP (fun y=>x==y) l=-1:=by
   unfold idxP;rw[List.findIdx?_eq_none_iff.2 fun y hy=>by
    obtain⟨j,hj,rfl⟩:=List.getElem_of_mem hy;exact g2 j (by omega) hj]
  apply zgB;simp only[go_sem,di];exact aret [4] rfl ⟨by rw[hidx]; rfl,rfl⟩
theorem AiH(l:List LU)(x:LU)(hl:l.length<1000000):Pc prog 68 [.fz 1 (l.map .str),.str x] (· = .bool (decide (x∈l))):=by
 have hi:=AtR l x hl;have hb:decide (idxP (fun y=>x==y) l>=0)=decide (x∈l):=by
  rcases BeC (p:=fun y=>x==y) (l:=l)with⟨h1,h2⟩|⟨i,hi,h1,h2⟩
  .rw [h1]
   have:x ∉ l:=fun hm=>by
    rw[List.find?_eq_none]at h2;have:=h2 x hm
    simp at this
   simp[this]
  .rw [h1]
   have h3:=List.find?_some h2;simp only[beq_iff_eq]at h3;have:x∈l:=by rw[h3]; exact lac hi
   simp[this]
 rw[<- hb];refine zpIB func68 rfl fun h ρ w=>?_
 simp only[go_sem];refine zpB (hi) ?_;simp only[go_sem];exact zt [4]
def endsL(s:LU):LU×LU:=((Lib.cut s [45]).1,if(Lib.cut s [45]).2.2 then(Lib.cut s [45]).2.1 else(Lib.cut s [45]).1)
theorem AtS{St:Std}(hS:LibOk St)(s:LU)(hl:s.length<1000000):PcH prog St 39 [.str s] (· = .tup [.str (endsL s).1,.str (endsL s).2]):=by
 have hc:=AnA hS s [45] (by omega);unfold endsL;generalize Lib.cut s [45]=c at hc |-;obtain⟨a,b,ok⟩:=c;simp only at hc |-;refine zqIB func39 rfl fun h ρ w hg=>?_
 simp only[go_sem];refine zqB hg (hc) ?_
 cases ok with
 | true =>
  simp only[go_sem];exact zt [2,3]
 | false =>
  simp only[go_sem];exact zt [2,3]
def rnA(r:Nat×Nat):AV:=.agg [.int .i64 (r.1:Int),.int .i64 (r.2:Int)]
def runStep(rs:List (Nat×Nat))(i:Nat)(f:Le'):List (Nat×Nat) :=
 if f.first≠[] then rs++[(i,i+1)] else if rs=[] then[] else rs.set (rs.length-1) ((rs.getD (rs.length-1) (0,0)).1,i+1)
def runsTo(l:List Le'):Nat->List (Nat×Nat)
 | 0=>[]
 | i+1=>match l[i]? with
  | some f=>runStep (runsTo l i) i f
  | none=>runsTo l i
def runsL(l:List Le'):List (Nat×Nat):=runsTo l l.length
theorem AcC(l:List Le'):∀ i,(runsTo l i).length<=i
 | 0=>by simp[runsTo]
 | i+1=>by
  have ih:=AcC l i;simp only[runsTo]
  split
  .unfold runStep
   split
   .simp; omega
   .split
    .simp
    .simp; omega
  .omega
theorem AkQ(l:List (Nat×Nat)):(flat (l.map rnA)).all Av.frozen=true:=by
 induction l<;>grind[flat,cellsOf,rnA,Av.frozen]
theorem AaY{l:List Le'}{i:Nat}(h:i<l.length):List.getD (l.map leA) i .any=.agg [.str l[i].name,.int .i64 l[i].Lj,.str l[i].first,.fz 1 (l[i].Lb.map .str)]:=by grind[leA]
theorem BsQ(l:List Le')(hl:l.length<=100000):Pc prog 69 [.fz 4 (l.map leA)] (· = .fz 2 ((runsL l).map rnA)):=by
 refine zpIB func69 rfl fun h ρ w=>?_
 simp only[go_sem,laa];refine AaC (ι:=Nat) (fun i=>l.length-i)
  (fun i=>[(8,.int .i64 i),(7,.int .i64 l.length),(6,.fz 4 (l.map leA)),(3,.sl 0 0 (runsTo l i).length (runsTo l i).length)])
  (fun i=>[.arr 2 ((runsTo l i).map rnA)]) (fun i=>i<=l.length) 0 (by simp) ?_ ?_
 .refine Shift.trans (Lv 3 2 rfl) (Lu ?_ rfl)
  simp only[go_sem];rfl
 .intro i g1 J hJ
  by_cases gi:i<l.length
  .have di:decide ((i:Int)<(l.length:Int))=true:=by simp; omega
   have hg':=AaY gi;have hrl:=AcC l i;have hst:runsTo l (i+1)=runStep (runsTo l i) i l[i]:=by simp only[runsTo,lam gi]
   have hfin:=hJ (i+1) (by omega) (by omega);rw[hst]at hfin;generalize l[i]=f at *;generalize runsTo l i=rs at *
   by_cases hf:f.first=[]
   .have q0:(f.first != [])=false:=by simp[hf]
    by_cases hr:rs=[]
    .subst hr
     simp only[runStep,hf,ne_eq,not_true_eq_false,if_false,if_true]at hfin;have q1:decide (((0:Nat):Int)>0)=false:=by decide
     apply zgB;simp only[go_sem,di,hg',q0,laa,q1]
     repeat refine aqb ?_
     rw[ic i];refine ainv hfin (Shift.low 1 (by simp) (by simp) ?_ ?_)
     .rfl
     .simp only[go_sem]
    .have hpos:0<rs.length:=List.length_pos_iff.2 hr
     have q1:decide ((rs.length:Int)>0)=true:=by simp; omega
     simp only[runStep,hf,ne_eq,not_true_eq_false,if_false,hr]at hfin;have e1:((rs.length:Int)-1).toNat=rs.length-1:=by omega
     have hgl:List.getD (rs.map rnA) (rs.length-1) .any=.agg [.int .i64 ((rs.getD (rs.length-1) (0,0)).1:Int),.int .i64 ((rs.getD (rs.length-1) (0,0)).2:Int)]:=by
      have:rs.length-1<rs.length:=by omega
      simp[List.getD,rnA,this]
     have hset:(rs.map rnA).set (rs.length-1) (.agg [.int .i64 ((rs.getD (rs.length-1) (0,0)).1:Int),.int .i64 ((i:Int)+1)])=(rs.set (rs.length-1) ((rs.getD (rs.length-1) (0,0)).1,i+1)).map rnA:=by
      rw[List.map_set]; simp[rnA]
     apply zgB;simp only[go_sem,di,hg',q0,laa,q1,e1,hgl,hset]
     repeat refine aqb ?_
     rw[ic i];refine ainv hfin ?_;rw[List.length_set];refine Shift.low 1 (by simp) (by simp) ?_ ?_
     .simp only [lbk,lcc,las,lba,lau]
      exact AaH (AkQ _)
     .simp only[go_sem]
   .have q0:(f.first != [])=true:=by simp[hf]
    simp only[runStep,hf,ne_eq,not_false_eq_true,if_true]at hfin;have hap:rs.map rnA++[.agg [.int .i64 (i:Int),.int .i64 ((i:Int)+1)]]=(rs++[(i,i+1)]).map rnA:=by simp[rnA]
    rw[lah]at hfin;apply zgB;simp only[go_sem,di,hg',q0,laa,hap]
    repeat refine aqb ?_
    rw[ic i];refine ainv hfin (Shift.low 1 (by simp) (by simp) ?_ ?_)
    .simp only [lbk,lcc,las,lba,lau]
     exact AaH (AkQ _)
    .simp only[go_sem]
  .have di:decide ((i:Int)<(l.length:Int))=false:=by simp; omega
   have hi:i=l.length:=by omega
   subst hi
   show AWp _ _ _ [.arr 2 ((runsL l).map rnA)]
   have e:runsTo l l.length=runsL l:=rfl;rw[e];refine AWp.shift (Shift.freeze 3 (id:=0) rfl rfl (by simp) (lab _) (AkQ _)) ?_;simp only[lbu,List.set_cons_succ,lby,Av.put];have t1:List.take (runsL l).length (List.map rnA (runsL l))=List.map rnA (runsL l):=lae (by simp);rw[t1];apply zgB;simp only[go_sem,di];exact zt [2]
theorem AoG(all:List LU)(l:List Le')(r:Nat×Nat)(fr tz:Nat)(ha:all.length<=1000)(hl:l.length<=100000)(h1:r.1<l.length)(h2:r.2<=l.length)
  (hfr:idxP (fun y=>l[r.1].first==y) all=(fr:Int)) (htz:(if h:r.2<l.length then idxP (fun y=>l[r.2].first==y) all else(all.length:Int))=(tz:Int)) (h3:fr<=tz) (h4:tz<=all.length) :
  Pc prog 71 [.fz 1 (all.map .str),.fz 4 (l.map leA),rnA r] (· = .fz 1 (((all.take tz).drop fr).map .str)):=by
 have hx:=AtR all l[r.1].first (by omega);rw[hfr]at hx;have hg:=AaY h1;have d1:decide ((fr:Int)<0)=false:=by simp
 have hres:List.drop fr (List.take tz (List.map AV.str all))=((all.take tz).drop fr).map .str:=by rw[List.map_drop,List.map_take]
 simp only[rnA]
 by_cases h5:r.2<l.length
 .rw [dif_pos h5]at htz
  have hy:=AtR all l[r.2].first (by omega);rw[htz]at hy;have hg2:=AaY h5;have d2:decide ((r.2:Int)<(l.length:Int))=true:=by simp; omega
  refine zpIB func71 rfl fun h ρ w=>?_
  simp only[go_sem,hg]
  repeat refine aqb ?_
  refine zpB (hx) ?_;simp only[go_sem,d2,hg2,laa]
  repeat refine aqb ?_
  refine zpB (hy) ?_;simp only[go_sem,laa,hres]
  repeat refine aqb ?_
  exact zt [6]
 .rw [dif_neg h5]at htz
  have e:tz=all.length:=by omega
  subst e;have d2:decide ((r.2:Int)<(l.length:Int))=false:=by simp; omega
  refine zpIB func71 rfl fun h ρ w=>?_
  simp only[go_sem,hg]
  repeat refine aqb ?_
  refine zpB (hx) ?_;simp only[go_sem,d2,laa,hres]
  repeat refine aqb ?_
  exact zt [6]
theorem A1Q(p:List Ln)(f:Le')(hp:p.length<1000000)(hf:f.Lb.length<1000000):Pc prog 73 [pgA p,leA f] (· = .bool (p==f.Lb)):=by
 have he:=AfD p f.Lb (by omega) (by omega);simp only[pgA,leA];refine zpIB func73 rfl fun h ρ w=>?_
 simp only[go_sem];refine zpB (he) ?_;simp only[go_sem];exact zt [4]
theorem BsR{l:List (List Ln)}{i:Nat}(h:i<l.length):List.getD (l.map pgA) i .any=.fz 1 (l[i].map .str):=by simp[List.getD,h,pgA]
theorem A8C(ps:List (List Ln))(fs:List Le')(h1:∀ p∈ps,p.length<1000000)(h2:∀ f∈fs,f.Lb.length<1000000)(h3:ps.length<100000000000000)(h4:fs.length<1000000) :
  Pc prog 72 [.fz 1 (ps.map pgA),.fz 4 (fs.map leA),.fn (.func 73) []] (· = .bool (decide (ps=fs.map (·.Lb)))):=by
 by_cases hl:ps.length=fs.length
 .have d0:((ps.length:Int) != (fs.length:Int))=false:=by simp[hl]
  refine zpIB func72 rfl fun h ρ w=>?_
  simp only[go_sem,d0,laa];refine AaC (ι:=Nat) (fun i=>ps.length-i) (fun i=>[(17,.int .i64 i),(16,.int .i64 ps.length),(15,.fz 1 (ps.map pgA)),(2,.fn (.func 73) []),(1,.fz 4 (fs.map leA)),(0,.fz 1 (ps.map pgA))]) (fun _=>[]) (fun i=>i<=ps.length/\ps.take i=(fs.map (·.Lb)).take i) 0 (by simp) ?_ ?_
  .refine Ls ?_
   simp only[go_sem]
  .rintro i ⟨g1,g2⟩ J hJ
   by_cases gi:i<ps.length
   .have di:decide ((i:Int)<(ps.length:Int))=true:=by simp; omega
    have gb:i<fs.length:=by omega
    have e1:=BsR gi;have e2:=AaY gb;have hc:=A1Q ps[i] fs[i] (h1 _ (lac gi)) (h2 _ (lac gb));simp only[pgA,leA]at hc
    by_cases he:ps[i]=fs[i].Lb
    .have de:(ps[i]==fs[i].Lb)=true:=by simp[he]
     have hfin:=hJ (i+1) ⟨by omega,by rw[lad gi,lad (by simpa using gb),g2,he,List.getElem_map]⟩ (by omega);rw[de]at hc;apply zgB;simp only[go_sem,di,e1,e2,laa]
     repeat refine aqb ?_
     refine zpB (hc) ?_;simp only[go_sem]
     repeat refine aqb ?_
     rw[ic i];refine ainv hfin (Shift.low 0 (by simp) (by simp) rfl ?_);simp only[go_sem]
    .have de:(ps[i]==fs[i].Lb)=false:=by simp[he]
     have hab:decide (ps=fs.map (·.Lb))=false:=by
      rw[lai];intro e;apply he;have:ps[i]? = (fs.map (·.Lb))[i]?:=by rw[<- e]
      simpa[gi,gb]using this
     rw[de]at hc;apply zgB;simp only[go_sem,di,e1,e2,laa]
     repeat refine aqb ?_
     refine zpB (hc) ?_;simp only[go_sem];exact aret [6] rfl ⟨by rw[hab]; rfl,rfl⟩
   .have di:decide ((i:Int)<(ps.length:Int))=false:=by simp; omega
    have hi:i=ps.length:=by omega
    subst hi;have hab:decide (ps=fs.map (·.Lb))=true:=by
     rw[laj];rw[lap,lae (by simp; omega)]at g2;exact g2
    apply zgB;simp only[go_sem,di];exact aret [6] rfl ⟨by rw[hab]; rfl,rfl⟩
 .have d0:((ps.length:Int) != (fs.length:Int))=true:=by simp; omega
  have hab:decide (ps=fs.map (·.Lb))=false:=by
   rw[lai];intro e;exact hl (by rw[e]; simp)
  refine zpIB func72 rfl fun h ρ w=>?_
  simp only[go_sem,d0,laa];exact aret [6] rfl ⟨by rw[hab]; rfl,rfl⟩
