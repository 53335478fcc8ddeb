/- Scenes get numbers, as the reference gives them: renumbered. -/
import Derived.Test.YtgenkcmfeeakoaaGreatDoorX46
set_option maxRecDepth 100000
set_option maxHeartbeats 8000000
set_option linter.all false
namespace Go.Proofs.YtgenkcmfeeakoaaGreatDoor
open Av RowKit Proofs.Tryz
def srZ:AV:=.agg [.str [],.raw (.slice none 0 0)]
theorem BsA{E:List LU}(hE:∀ e∈E,numberL e=true)(last:LU){j:Nat}(hj:j<E.length) :
  upF (E.take (j+1)) last=if upF (E.take j) last≠[] then upF (E.take j) last else if aboveP last E[j] then E[j] else[]:=by
 grind[upF,laf,num_ne]
def RenQ(E:List LU)(ti:LU)(xs:List Sc)(r:AV)(s:LB):Prop:=(∃ e:Int,e≠0/\r=.tup [srZ,.int .i64 e]) \/
 (((xs=[]/\r=.tup [.agg [.str ti,.fz 5 []],.int .i64 0])\/(r=.tup [.agg [.str ti,.sl 1 0 xs.length xs.length],.int .i64 0]/\s.getD 1 .dead=.arr 5 ((ysTo E xs xs.length).map scA)))/\RunS xs E xs.length/\RenI E xs xs.length)
def RenQ2(E:List LU)(ti:LU)(xs:List Sc)(r:AV):Prop:=(∃ e:Int,e≠0/\r=.tup [srZ,.int .i64 e]) \/
 (r=.tup [srA ⟨ti,ysTo E xs xs.length⟩,.int .i64 0]/\RunS xs E xs.length/\RenI E xs xs.length)
theorem BlC{St:Std}(hS:LibR St){d:Dr}{E:List LU}(hE:EntOf d E)(hm:MdOk d.Lc E)(hg1:d.Lp.length<=1000)(ti:LU)(xs:List Sc)(hxl:xs.length<=300)(hsc:∀ y∈xs,SceneD y) :
  CtH prog St 31 [drA d,srA ⟨ti,xs⟩] [] (RenQ E ti xs):=by
 have hno:∀ y∈xs,y.no=[]\/numberL y.no=true:=fun y hy=>(hsc y hy).no
 have hen:=AmJ hS hE hm hg1;have hEl:=hm.fewN;have hsno:∀ i,(h:i<xs.length)->xs.getD i sc0=xs[i]:=fun i h=>by simp[List.getD,h]
 unfold RenQ srZ;simp only[srA,drA]at hen |-;refine zdIB func31 rfl fun h ρ w hg=>?_
 simp only[go_sem];refine zqB hg (hen) ?_;simp only[go_sem,laa];refine AaE (ι:=Nat) (fun i=>xs.length-i)
  (fun i=>[(23,.int .i64 i),(22,.int .i64 xs.length),(21,.fz 5 (xs.map scA)),(7,.str (AcC xs i)),(6,.fz 1 (E.map .str)),(5,.int .i64 0),(4,.ptr 0 1 0 0),(3,.pin 2 [.agg [.str ti,.fz 5 (xs.map scA)]] 0 0)])
  (fun i=>[.arr 2 [.agg [.str [],.raw (.slice none 0 0)]]])
  (fun i=>i<=xs.length/\RunS xs E i) 0 ⟨by simp,fun j hj=>absurd hj (by omega)⟩ ?_ ?_
 .refine Lt ?_ rfl
  simp only[go_sem,AcC]
 .rintro i ⟨g1,g2⟩ J hJ
  by_cases gi:i<xs.length
  .have di:decide ((i:Int)<(xs.length:Int))=true:=by rw[lag]; omega
   have hg':List.getD (List.map scA xs) i .any=.agg [.str xs[i].no,.int .i64 xs[i].place,.str xs[i].set,.int .i64 xs[i].time,.fz 2 (xs[i].Ld.map paA)]:=by simp[List.getD,gi,scA]
   have hsi:=hsno i gi
   by_cases h0:xs[i].no=[]
   .have q0:(xs[i].no==[])=true:=by simpa using h0
    have e1:AcC xs (i+1)=AcC xs i:=by simp only[AcC]; rw[hsi,if_pos h0]
    have hfin:=hJ (i+1) ⟨by omega,BiG g2 (by rw[hsi]; exact h0)⟩ (by omega);rw[e1]at hfin;apply zgB;simp only[go_sem,di,hg',q0,laa]
    repeat refine aqg ?_
    rw[ic i];refine ainv hfin (Shift.low 1 (by simp) (by simp) rfl ?_);simp only[go_sem]
   .have q0:(xs[i].no==[])=false:=by simpa using h0
    have e1:AcC xs (i+1)=xs[i].no:=by simp only[AcC]; rw[hsi,if_neg h0]
    have hcn:=ApR E xs[i].no (by omega);have hnum:=(hno _ (lac gi)).resolve_left h0
    by_cases hmE:xs[i].no∈E
    .rw [decide_eq_true hmE]at hcn
     by_cases hl0:AcC xs i=[]
     .have ql:(AcC xs i != [])=false:=by simp[hl0]
      have hfin:=hJ (i+1) ⟨by omega,A8H g2 (by rw[hsi]; exact hmE) (.inl hl0)⟩ (by omega);rw[e1]at hfin;apply zgB;simp only[go_sem,di,hg',q0,laa]
      repeat refine aqg ?_
      refine zpB (hcn) ?_;simp only[go_sem,ql]
      repeat refine aqg ?_
      rw[ic i];refine ainv hfin (Shift.low 1 (by simp) (by simp) rfl ?_);simp only[go_sem]
     .have ql:(AcC xs i != [])=true:=by simpa using hl0
      have hlnum:=(AzL hE.num g2).resolve_left hl0;have hc:=AeK (AcC xs i) xs[i].no hlnum hnum
      by_cases hge:compareN (AcC xs i) xs[i].no>=0
      .have dg:decide (compareN (AcC xs i) xs[i].no>=0)=true:=by simpa using hge
       apply zgB;simp only[go_sem,di,hg',q0,laa]
       repeat refine aqg ?_
       refine zpB (hcn) ?_;simp only[go_sem,ql]
       repeat refine aqg ?_
       refine zpB (hc) ?_;simp only[go_sem,dg];refine AcA [.cell 4 28,.tmp 5] rfl [.agg [.str [],.raw (.slice none 0 0)],.int .i64 7] ⟨?_,rfl,trivial⟩ (.inl ⟨7,by decide,rfl⟩);simp only[go_sem,sideIs]
      .have dg:decide (compareN (AcC xs i) xs[i].no>=0)=false:=by simpa using hge
       have hlt:nLt (AcC xs i) xs[i].no:=compareN_lt.1 (by omega);have hfin:=hJ (i+1) ⟨by omega,A8H g2 (by rw[hsi]; exact hmE) (.inr (by rw[hsi]; exact hlt))⟩ (by omega);rw[e1]at hfin;apply zgB;simp only[go_sem,di,hg',q0,laa]
       repeat refine aqg ?_
       refine zpB (hcn) ?_;simp only[go_sem,ql]
       repeat refine aqg ?_
       refine zpB (hc) ?_;simp only[go_sem,dg]
       repeat refine aqg ?_
       rw[ic i];refine ainv hfin (Shift.low 1 (by simp) (by simp) rfl ?_);simp only[go_sem]
    .rw [decide_eq_false hmE]at hcn
     apply zgB;simp only[go_sem,di,hg',q0,laa]
     repeat refine aqg ?_
     refine zpB (hcn) ?_;simp only[go_sem];refine AcA [.cell 4 28,.tmp 5] rfl [.agg [.str [],.raw (.slice none 0 0)],.int .i64 8] ⟨?_,rfl,trivial⟩ (.inl ⟨8,by decide,rfl⟩);simp only[go_sem,sideIs]
  .have di:decide ((i:Int)<(xs.length:Int))=false:=by rw[lai]; omega
   have hi:i=xs.length:=by omega
   subst hi;clear hJ
   cases hxs:xs with
   | nil =>
    subst hxs;simp only[las,lap]at di |-;have d0:decide (((0:Nat):Int)<((0:Nat):Int))=false:=by decide
    apply zgB;simp only[go_sem];refine AeB [] 99 [.fz 5 []] AaI (by decide) rfl rfl 100 ?_;simp only[go_sem];refine⟨clone0_pc.at,rfl,?_⟩;apply zgB;simp only[go_sem];refine AdZ (AcM ?_);apply zgB;simp only[go_sem];refine AcA [.cell 4 28,.tmp 5] rfl [.agg [.str ti,.fz 5 []],.int .i64 0] ⟨?_,rfl,trivial⟩ (.inr ⟨.inl rfl,g2,ren_start⟩);simp only[go_sem,sideIs]
   | cons x0 r0 =>
    rw[<- hxs];have hfro:(flat (xs.map scA)).all Av.frozen=true:=AaF xs;have hcl:=AmW x0 r0 (by rw[hxs]at hxl; simp at hxl |-; omega);rw[<- hxs]at hcl;have hpos:0<xs.length:=by rw[hxs]; simp
    refine AWp.shift (Shift.reserve 5) ?_;apply zgB;simp only[go_sem,di];refine AeB [4] 1 [] AaI (by decide) rfl rfl 100 ?_;simp only[go_sem];refine AoG hcl hpos (by simp) rfl hfro rfl ?_;simp only[go_sem];apply zgB;simp only[go_sem,laa]
    repeat refine aqg ?_
    refine AaE (ι:=Nat) (fun i=>xs.length-i)
     (fun i=>[(58,.int .i64 i),(57,.int .i64 xs.length),(56,.sl 1 0 xs.length xs.length),(7,.str (lastY (ysTo E xs i))),(6,.fz 1 (E.map .str)),(5,.int .i64 0),(4,.ptr 0 1 0 0),(10,.ptr 2 1 0 0)])
     (fun i=>[.arr 2 [.agg [.str [],.raw (.slice none 0 0)]],.arr 5 ((ysTo E xs i++xs.drop i).map scA),.arr 2 [.agg [.str ti,.sl 1 0 xs.length xs.length]]])
     (fun i=>i<=xs.length/\RenI E xs i) 0 ⟨by omega,ren_start⟩ ?_ ?_
    .refine Lt ?_ (by simp[ysTo])
     simp only[go_sem,ysTo,lastY]
    .rintro i ⟨g3,g4⟩ J hJ
     have hYl:=AiG E xs i;have hdl:((ysTo E xs i++xs.drop i).map scA).length=xs.length:=by simp[hYl]; omega
     by_cases gi:i<xs.length
     .have di:decide ((i:Int)<(xs.length:Int))=true:=by rw[lag]; omega
      have hdr:xs.drop i=xs[i]::xs.drop (i+1):=lbc gi;have hsi:=hsno i gi;have hgm:=BiJ (ysTo E xs i) xs[i] (xs.drop (i+1));rw[hYl,<- hdr]at hgm;have hln:=AzK g4.num;have hup:=BxN (E:=E) hE.num (lastY (ysTo E xs i));have hstep:ysTo E xs (i+1)=ysTo E xs i++[{ xs[i]with no:=AqZ E (lastY (ysTo E xs i)) xs[i] }]:=by rw[ysTo,hsi]
      have hrs:AqZ E (lastY (ysTo E xs i)) xs[i]≠[]->RenI E xs (i+1):=fun h=>BqL hE.sorted hE.num (fun j hj hn=>g2 j (by omega) hn) g4 (by rw[hsi]; exact h)
      have hfin:=fun h=>hJ (i+1) ⟨by omega,hrs h⟩ (by omega)
      have hlow:∀ X:List Sc,[Blk.arr 2 [.agg [.str [],.raw (.slice none 0 0)]],.arr 5 (X.map scA),.arr 2 [.agg [.str ti,.sl 1 0 xs.length xs.length]]].all (lowB 3)=true:=fun X=>by
       have:=BxP 3 X;simp only[lat,lbn,this,lax,lbt];rfl
      by_cases h0:xs[i].no=[]
      .have q0:(xs[i].no==[])=true:=by simpa using h0
       have hnn:AqZ E (lastY (ysTo E xs i)) xs[i]=AaS (lastY (ysTo E xs i)) (upF E (lastY (ysTo E xs i))):=if_pos h0;have hsm:=BxO (ysTo E xs i) xs[i] (xs.drop (i+1)) (AaS (lastY (ysTo E xs i)) (upF E (lastY (ysTo E xs i))));have hgm2:=BqM (ysTo E xs i) { xs[i]with no:=AaS (lastY (ysTo E xs i)) (upF E (lastY (ysTo E xs i))) } (xs.drop (i+1));rw[hYl,<- hdr]at hsm;rw[hYl]at hgm2;have hbt:=AhO hS.ok (lastY (ysTo E xs i)) (upF E (lastY (ysTo E xs i))) hln hup;have hl2:((ysTo E xs i++[{ xs[i]with no:=AaS (lastY (ysTo E xs i)) (upF E (lastY (ysTo E xs i))) }]++xs.drop (i+1)).map scA).length=xs.length:=by simp[hYl]; omega
       rw[hstep,hnn,AlS]at hfin;apply zgB;simp only[go_sem,di,hgm,q0,hdl]
       repeat refine aqg ?_
       refine AaE (ι:=Nat) (fun j=>E.length-j)
        (fun j=>[(68,.int .i64 j),(67,.int .i64 E.length),(66,.fz 1 (E.map .str)),(13,.str (upF (E.take j) (lastY (ysTo E xs i)))),(11,.int .i64 i),(58,.int .i64 i),(57,.int .i64 xs.length),(56,.sl 1 0 xs.length xs.length),(7,.str (lastY (ysTo E xs i))),(6,.fz 1 (E.map .str)),(5,.int .i64 0),(4,.ptr 0 1 0 0),(10,.ptr 2 1 0 0)])
        (fun _=>[.arr 2 [.agg [.str [],.raw (.slice none 0 0)]],.arr 5 ((ysTo E xs i++xs.drop i).map scA),.arr 2 [.agg [.str ti,.sl 1 0 xs.length xs.length]]])
        (fun j=>j<=E.length) 0 (by omega) ?_ ?_
       .refine Shift.trans (Shift.low 3 (e':=[(68,.int .i64 ((0:Nat):Int)),(67,.int .i64 E.length),(66,.fz 1 (E.map .str)),(13,.str []),(11,.int .i64 i),(58,.int .i64 i),(57,.int .i64 xs.length),(56,.sl 1 0 xs.length xs.length),(7,.str (lastY (ysTo E xs i))),(6,.fz 1 (E.map .str)),(5,.int .i64 0),(4,.ptr 0 1 0 0),(10,.ptr 2 1 0 0)]) (by simp) (by simp) (hlow _) ?_) (Lt ?_ rfl)
        .simp only[go_sem,laa]
        .simp only [go_sem]
         rfl
       .intro j k1 K hK
        by_cases gj:j<E.length
        .have dj:decide ((j:Int)<(E.length:Int))=true:=by rw[lag]; omega
         have hgj:List.getD (E.map AV.str) j .any=.str E[j]:=by simp[List.getD,gj]
         have hut:=BsA (E:=E) hE.num (lastY (ysTo E xs i)) gj;have hK2:=hK (j+1) (by omega) (by omega);rw[hut]at hK2;have hEj:=hE.num _ (lac gj)
         by_cases hu:upF (E.take j) (lastY (ysTo E xs i))=[]
         .have du:(upF (E.take j) (lastY (ysTo E xs i))==[])=true:=by simp[hu]
          rw[if_neg (by simp[hu])]at hK2
          by_cases hl0:lastY (ysTo E xs i)=[]
          .have dl:(lastY (ysTo E xs i)==[])=true:=by simp[hl0]
           have ha:aboveP (lastY (ysTo E xs i)) E[j]=true:=by unfold aboveP; rw[dl]; rfl
           rw[if_pos ha]at hK2;apply zgB;simp only[go_sem,dj,hgj,du,dl,laa]
           repeat refine aqg ?_
           rw[ic j];refine ainv hK2 (Lr ?_);simp only[go_sem]
          .have dl:(lastY (ysTo E xs i)==[])=false:=by simp[hl0]
           have hc:=AeK E[j] (lastY (ysTo E xs i)) hEj (hln.resolve_left hl0);have ha:aboveP (lastY (ysTo E xs i)) E[j]=decide (compareN E[j] (lastY (ysTo E xs i))>0):=by unfold aboveP; rw[dl]; rfl
           rw[ha]at hK2
           cases dd0:decide (compareN E[j] (lastY (ysTo E xs i))>0)with
           | true =>
            rw[dd0,if_pos rfl]at hK2;apply zgB;simp only[go_sem,dj,hgj,du,dl,laa]
            repeat refine aqg ?_
            refine zpB (hc) ?_;simp only[go_sem,dd0]
            repeat refine aqg ?_
            rw[ic j];refine ainv hK2 (Lr ?_);simp only[go_sem]
           | false =>
            rw[dd0,if_neg (by simp)]at hK2;apply zgB;simp only[go_sem,dj,hgj,du,dl,laa]
            repeat refine aqg ?_
            refine zpB (hc) ?_;simp only[go_sem,dd0]
            repeat refine aqg ?_
            rw[ic j];refine ainv hK2 (Lr ?_);simp only[go_sem,hu]
         .have du:(upF (E.take j) (lastY (ysTo E xs i))==[])=false:=by simp[hu]
          rw[if_pos hu]at hK2;apply zgB;simp only[go_sem,dj,hgj,du,laa]
          repeat refine aqg ?_
          rw[ic j];refine ainv hK2 (Lr ?_);simp only[go_sem]
        .have dj:decide ((j:Int)<(E.length:Int))=false:=by rw[lai]; omega
         have hj:j=E.length:=by omega
         subst hj;rw[laz]
         by_cases hbe:AaS (lastY (ysTo E xs i)) (upF E (lastY (ysTo E xs i)))=[]
         .have db:(AaS (lastY (ysTo E xs i)) (upF E (lastY (ysTo E xs i))) != [])=false:=by simp[hbe]
          apply zgB;simp only[go_sem,dj];refine zqB hg (hbt) ?_;simp only[go_sem,db];refine AcA [.cell 4 28,.tmp 5] rfl [.agg [.str [],.raw (.slice none 0 0)],.int .i64 11] ⟨?_,rfl,trivial⟩ (.inl ⟨11,by decide,rfl⟩);simp only[go_sem,sideIs]
         .have db:(AaS (lastY (ysTo E xs i)) (upF E (lastY (ysTo E xs i))) != [])=true:=by simp[hbe]
          have hfin:=hfin hbe;apply zgB;simp only[go_sem,dj];refine zqB hg (hbt) ?_;simp only[go_sem,db,hgm,hsm,hgm2,hdl,hl2]
          repeat refine aqg ?_
          rw[ic i];refine ainv hfin (Lr ?_);simp only[go_sem]
      .have q0:(xs[i].no==[])=false:=by simpa using h0
       have hnn:AqZ E (lastY (ysTo E xs i)) xs[i]=xs[i].no:=if_neg h0;rw[hstep,hnn,AlS]at hfin;have hfin:=hfin h0;apply zgB;simp only[go_sem,di,hgm,q0,hdl]
       repeat refine aqg ?_
       rw[ic i];refine ainv hfin (Shift.trans (Shift.low 3 (e':=[(58,.int .i64 ((i+1:Nat):Int)),(57,.int .i64 xs.length),(56,.sl 1 0 xs.length xs.length),(7,.str xs[i].no),(6,.fz 1 (E.map .str)),(5,.int .i64 0),(4,.ptr 0 1 0 0),(10,.ptr 2 1 0 0)]) (by simp) (by simp) (hlow _) ?_) (Lt ?_ ?_))
       .simp only[go_sem]
       .simp only [go_sem]
       .rw [hdr,lbu]; rfl
     .have di:decide ((i:Int)<(xs.length:Int))=false:=by rw[lai]; omega
      have hi:i=xs.length:=by omega
      subst hi;rw[List.drop_length,lca];apply zgB;simp only[go_sem,di];refine AcA [.cell 4 28,.tmp 5] rfl [.agg [.str ti,.sl 1 0 xs.length xs.length],.int .i64 0] ⟨?_,rfl,trivial⟩ (.inr ⟨.inr ⟨rfl,rfl⟩,g2,g4⟩);simp only[go_sem,sideIs]
theorem BcB{St:Std}(hS:LibR St){d:Dr}{E:List LU}(hE:EntOf d E)(hm:MdOk d.Lc E)(hg1:d.Lp.length<=1000)(ti:LU)(xs:List Sc)(hxl:xs.length<=300)(hsc:∀ y∈xs,SceneD y) :
  PcH prog St 31 [drA d,srA ⟨ti,xs⟩] (RenQ2 E ti xs):=by
 refine PcH.mono (PcH.ofOwn 1 (BlC hS hE hm hg1 ti xs hxl hsc)) ?_;rintro _ ⟨_,s,(⟨e,he,rfl⟩|⟨⟨rfl,rfl⟩|⟨rfl,hs⟩,h1,h2⟩),rfl⟩
 .exact .inl ⟨e,he,rfl⟩
 .exact .inr ⟨rfl,h1,h2⟩
 .refine .inr ⟨?_,h1,h2⟩
  have e:bor 1 s (.sl 1 0 xs.length xs.length)=.fz 5 ((ysTo E xs xs.length).map scA):=by
   rw[AcR hs (by simp[AiG]),AhN fun _=>rfl]
  simp only[borV,borC,lal,las,e,srA];rfl
theorem A1B(l:List Le'){i:Nat}:∀ n,i<=n->n<=l.length->∃ t,ancs l n=ancs l i++t:=by
 intro n hn
 induction hn with
 | refl=>simp_all
 | @step m hm ih =>
  grind[AhQ]
theorem anc_rat{l:List Le'}{i k:Nat}(hk:k<(runsTo l i).length):(ancs l i)[k]? = some (rat (runsTo l i) k).1:=by
 grind[ancs,rat]
theorem anc_at{l:List Le'}{i:Nat}(hi:i<l.length)(h0:fst l i≠[]):(runsTo l i).length<(AaC l).length/\(rat (AaC l) (runsTo l i).length).1=i:=by
 obtain⟨t,ht⟩:=A1B l l.length (show i+1<=l.length by omega) (lad _);rw[AhQ l hi,if_neg h0,lbu]at ht;have hlen:(runsTo l i).length<(AaC l).length:=by
  grind[ancs_len,AaC]
 refine⟨hlen,?_⟩;have h1:(ancs l l.length)[(runsTo l i).length]? = some i:=by
  grind[ancs_len]
 have h2:=anc_rat hlen;rw[h1]at h2;exact(lcm h2).symm
theorem BsB{l:List Le'}{i k:Nat}(hi:i<=l.length)(hk:k<(runsTo l i).length):k<(AaC l).length/\(rat (AaC l) k).1=(rat (runsTo l i) k).1:=by
 obtain⟨t,ht⟩:=A1B l l.length hi (lad _);have hlen:(runsTo l i).length<=(AaC l).length:=by
  grind[ancs_len,AaC]
 have h1:(ancs l l.length)[k]? = (ancs l i)[k]?:=by
  grind[ancs_len]
 grind[anc_rat,AaC]
def stN(l:List Le')(i:Nat):Nat:=(rat (runsTo l i) ((runsTo l i).length-1)).1
def nmT(l:List Le')(i:Nat):List LU:=((l.take i).drop (stN l i)).map (·.name)
theorem BlD{l:List Le'}{i:Nat}(hi:i<l.length)(h0:fst l i=[])(hj:0<(runsTo l i).length):(runsTo l (i+1)).length=(runsTo l i).length/\stN l (i+1)=stN l i/\nmT l (i+1)=nmT l i++[l[i].name]:=by
 have h1:=AhQ l hi;have hl:(runsTo l (i+1)).length=(runsTo l i).length:=by grind[ancs_len]
 have hs:stN l (i+1)=stN l i:=by
  unfold stN;have a:=anc_rat (l:=l) (i:=i+1) (k:=(runsTo l (i+1)).length-1) (by omega)
  grind[anc_rat]
 have hle:stN l i<=i:=by
  have:=(AlR l i (by omega)).one ((runsTo l i).length-1) (by omega)
  grind[stN]
 grind[nmT,laf]
theorem BsC{l:List Le'}{i:Nat}(hi:i<l.length)(h0:fst l i≠[]):(runsTo l (i+1)).length=(runsTo l i).length+1/\nmT l (i+1)=[l[i].name]:=by
 have h1:=AhQ l hi;have hl:(runsTo l (i+1)).length=(runsTo l i).length+1:=by grind[ancs_len]
 have hs:stN l (i+1)=i:=by
  unfold stN;have a:=anc_rat (l:=l) (i:=i+1) (k:=(runsTo l (i+1)).length-1) (by omega)
  grind[ancs_len]
 grind[nmT,laf]
theorem B1S{l:List Le'}{i:Nat}(hi:i<l.length)(h0:fst l i≠[])(hj:0<(runsTo l i).length):nmI l (runsTo l i).length=nmT l i:=by
 obtain⟨h1,h2⟩:=anc_at hi h0;obtain⟨h3,h4⟩:=BsB (l:=l) (i:=i) (k:=(runsTo l i).length-1) (by omega) (by omega);have h5:=(AcQ l).adj ((runsTo l i).length-1) (by omega)
 grind[nmI,nmT,stN]
theorem BzC{l:List Le'}(hj:0<(AaC l).length):nmI l (AaC l).length=nmT l l.length:=by
 have h5:=(AcQ l).last hj;unfold nmI nmT stN;rw[if_neg (by omega),h5];rfl
theorem B1T{l:List Le'}{i:Nat}(hi:i<l.length)(h0:fst l i≠[]):upI l (runsTo l i).length=(endsL l[i].name).1:=by
 grind[anc_at,upI]
theorem B1U{E:List LU}{l:List Le'}{i:Nat}(hi:i<l.length)(h0:fst l i≠[]):stI E l ((runsTo l i).length+1)=ixN E (fst l i):=by
 grind[anc_at,stI]
theorem BsD{E:List LU}(hE:E.Pairwise nLt){x:LU}(hx:x∈E){m:Nat}(hm:m<=ixN E x):x∈E.drop m/\ixN (E.drop m) x+m=ixN E x:=by
 obtain⟨h1,h2,_⟩:=AiP hx;have hmem:x∈E.drop m:=by
  refine List.mem_iff_getElem?.2 ⟨ixN E x-m,?_⟩<;>grind
 obtain⟨g1,g2,_⟩:=AiP hmem;have hd:=hE.imp (S:=(·≠·)) fun hlt e=>by grind[nLt_irrefl]
 grind[List.getElem_inj]
theorem BsE(E:List LU)(a b:Nat)(h:a<=b):(E.drop a).take (b-a)=(E.take b).drop a:=by
 rw[List.drop_take]
def rowK(ys:List Sc)(E:List LU)(lv:List Le')(k:Nat):AV:=.agg [.fz 2 ((entL ys (sgI E lv k)).map enA),.fz 1 ((nmI lv k).map .str),.str (upI lv k)]
def b1(E:List LU)(lv:List Le'):Nat:=if stI E lv 1=0 then 1 else 0
def rowsD(ys:List Sc)(E:List LU)(lv:List Le')(j:Nat):LA:=(List.range' (b1 E lv) (j-b1 E lv)).map (rowK ys E lv)
theorem BcC(ys:List Sc)(E:List LU)(lv:List Le'){j:Nat}(h:b1 E lv<=j):rowsD ys E lv (j+1)=rowsD ys E lv j++[rowK ys E lv j]:=by
 unfold rowsD;rw[show j+1-b1 E lv=(j-b1 E lv)+1 by omega,List.range'_1_concat,lak,lal,las,show b1 E lv+(j-b1 E lv)=j by omega]
theorem AhR(ys:List Sc)(E:List LU)(lv:List Le')(j:Nat):(rowsD ys E lv j).length=j-b1 E lv:=by simp[rowsD]
theorem AmK(ys:List Sc)(E:List LU)(lv:List Le')(j:Nat):(flat (rowsD ys E lv j)).all Av.frozen=true:=AbY (fun _=>rfl) _
theorem A1C(ys:List Sc)(E:List LU)(lv:List Le')(j id es:Nat)(l:LA):(rowsD ys E lv j).map (frzC id es l)=rowsD ys E lv j:=by
 unfold rowsD;rw[lbi];exact lbg fun _ _=>rfl
theorem BlE(ys:List Sc)(E:List LU)(lv:List Le')(j:Nat)(σ:List Nat):(rowsD ys E lv j).map (renC σ)=rowsD ys E lv j:=by
 unfold rowsD;rw[lbi];exact lbg fun _ _=>rfl
