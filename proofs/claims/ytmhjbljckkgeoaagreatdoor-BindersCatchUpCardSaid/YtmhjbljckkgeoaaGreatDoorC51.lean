/- The leaves of the next draft, as the reference tells them: nextLeaves. -/
import Derived.Test.YtmhjbljckkgeoaaGreatDoorC50
set_option maxRecDepth 100000
set_option maxHeartbeats 8000000
set_option linter.all false
namespace Go.Proofs.YtmhjbljckkgeoaaGreatDoor
open Av RowKit Proofs.Tryz
theorem A9O(g:List LU)(x la:LU):lastN (g++[x]) la=(endsL x).2:=by
 simp_all[lastN]
theorem step_leaf{had:List LU}{many i:Nat}{up la:LU}(hh:∀ n∈had,leafNameL n=true)(hla:la=[]\/numberL la=true)(hup:up=[]\/numberL up=true)(hr:AeC had)(hn:nmStep had many up i la≠[]):leafNameL (nmStep had many up i la)=true:=by
 unfold nmStep at hn |-
 split
 .rename_i h
  have i1:many-1<had.length:=by omega
  have i2:had.length-1<had.length:=by omega
  unfold joinN;simp only[lcf,lam i1,lam i2,Option.getD_some];have e1:=ends_num (hh _ (lac i1));have e2:=ends_num (hh _ (lac i2));refine AlO e1.1 e2.2.1 ?_;have hlt:=List.pairwise_iff_getElem.1 hr _ _ i1 i2 (by omega)
  grind[nLt_trans]
 grind[leafName_one,AdI]
theorem BoG{had:List LU}{many i:Nat}{up la:LU}(hh:∀ n∈had,leafNameL n=true/\n.length<500000)(hla:la=[]\/numberL la=true)(hn:nmStep had many up i la≠[]):(nmStep had many up i la).length<1000000:=by
 unfold nmStep at hn |-
 grind[joinN,number_len,ends_num,AdI]
theorem BhX{St:Std}(hS:LibR St)(d:Dr){no:Int}{ti:LU}{ys:List Sc}{gn E:List LU}(hE:EntOf ⟨no,ti,ys,gn,[]⟩ E)(hg1:gn.length<=1000)(hr:RelOk ys E d.La)(h0:d.La≠[]->fst d.La 0≠[])(hnm:∀ f∈d.La,f.name.length<500000) :
  CtH prog St 114 [drA d,drA ⟨no,ti,ys,gn,[]⟩] [] (fun r s=>(∃ e:Int,e≠0/\r=.tup [.raw (.slice none 0 0),.int .i64 e])\/∃ la l,relTo ys E d.La no ((runsL d.La).length+1)=some (la,l)/\l.length<=1500/\r=.tup [.sl 0 0 l.length l.length,.int .i64 0]/\s.getD 0 .dead=.arr 4 ((l.map (fixL d.La)).map leA)):=by
 have hrn:=A9N hS d hE hg1 hr h0 (fun f hf=>by grind);have hAl:=AzU ys E d.La;have hfw:=hr.few;have hRl:(runsL d.La).length<=d.La.length:=AcC _ _;have hnod:=AoV (l:=d.La.map (·.name)) (fun n hn=>by
  obtain⟨f,hf,rfl⟩:=List.mem_map.1 hn;exact hr.names f hf) hr.riseN
 simp only[drA,lao]at hrn |-;refine zdIB func114 rfl fun h ρ w hg=>?_
 simp only[go_sem];refine zqB hg (hrn) ?_;simp only[go_sem,laa];refine AaC (ι:=Nat×LU×List Le') (fun y=>(runsA ys E d.La).length-y.1)
  (fun y=>[(26,.int .i64 (y.1:Int)),(25,.int .i64 (runsA ys E d.La).length),(24,.fz 3 (runsA ys E d.La)),(7,.str y.2.1),(6,.sl 0 0 y.2.2.length y.2.2.length),(3,.pin 5 [.agg [.int .i64 no,.str ti,.fz 5 (ys.map scA),.fz 1 (gn.map .str),.fz 4 []]] 0 0),(2,.pin 5 [.agg [.int .i64 d.no,.str d.Lk,.fz 5 (d.Lc.map scA),.fz 1 (d.Lp.map .str),.fz 4 (d.La.map leA)]] 0 0)])
  (fun y=>[.arr 4 ((y.2.2.map (fixL d.La)).map leA)])
  (fun y=>y.1<=(runsA ys E d.La).length/\relTo ys E d.La no (bS E d.La+y.1)=some y.2/\(y.2.1=[]\/numberL y.2.1=true)/\y.2.2.length<=50000*y.1) (0,[],[]) ⟨by omega,BhW _ _ _ _,.inl rfl,by simp⟩ ?_ ?_
 .refine Shift.trans (Lv 6 4 rfl) (Lu ?_ (by rfl))
  simp only[go_sem]
 .rintro ⟨t,la,l⟩ ⟨g1,g2,g3,g4⟩ J hJ
  simp only at g1 g2 g3 g4 hJ |-
  by_cases gt:t<(runsA ys E d.La).length
  .have dt:decide ((t:Int)<((runsA ys E d.La).length:Int))=true:=by grind
   have hget:=BhV ys E d.La gt;have hk2:bS E d.La+t<=(runsL d.La).length:=by omega
   have hst:=st_lt hr (k:=bS E d.La+t) (by omega) hk2;have hmd:MdOk ys (sgI E d.La (bS E d.La+t)):=AoJ hr.md _ _;have hpgs:=AhI hmd;have hfew:=BsZ hmd;have hbd:=(AfF hmd).2;have hhad:∀ n∈nmI d.La (bS E d.La+t),leafNameL n=true/\n.length<500000:=fun n hn=>by
    unfold nmI at hn
    split at hn
    .grind
    .obtain ⟨f,hf,rfl⟩:=List.mem_map.1 hn
     have hm:=lat (lav hf);exact⟨hr.names f hm,hnm f hm⟩
   have hhr:AeC (nmI d.La (bS E d.La+t)):=by
    unfold nmI
    split
    .exact List.Pairwise.nil
    .have hs:(((d.La.take (rat (runsL d.La) (bS E d.La+t-1)).2).drop (rat (runsL d.La) (bS E d.La+t-1)).1).map (·.name)).Sublist (d.La.map (·.name)):=((List.drop_sublist _ _).trans (List.take_sublist _ _)).map _
     exact hr.riseN.sublist hs
   have hhl:(nmI d.La (bS E d.La+t)).length<=100000:=by
    grind[nmI]
   have hup:upI d.La (bS E d.La+t)=[]\/numberL (upI d.La (bS E d.La+t))=true:=by
    unfold upI
    split
    .rename_i h
     right
     have hlt:(rat (runsL d.La) (bS E d.La+t)).1<d.La.length:=by
      have:=(AcI d.La).one _ h;omega
     have:=hr.names (d.La.getD (rat (runsL d.La) (bS E d.La+t)).1 le0) (by grind)
     grind[ends_num]
    grind
   have hstep:∀ g,gTo (nmI d.La (bS E d.La+t)) (layL (entsB ys (sgI E d.La (bS E d.La+t)))).Lh.length la (upI d.La (bS E d.La+t)) (layL (entsB ys (sgI E d.La (bS E d.La+t)))).Lh.length=some g ->
     relTo ys E d.La no (bS E d.La+(t+1))=some (lastN g la,l++mkLv no g (firstsI ys (sgI E d.La (bS E d.La+t))) (layL (entsB ys (sgI E d.La (bS E d.La+t)))).Lh (layL (entsB ys (sgI E d.La (bS E d.La+t)))).Lh.length):=fun g hg=>by
    rw[show bS E d.La+(t+1)=(bS E d.La+t)+1 by omega];simp only[relTo,g2,A8H]
    rcases hst with hlt|⟨hE0,hR0,hk0,heq⟩
    .rw [if_neg (by omega)]
     have hne:sgI E d.La (bS E d.La+t)≠[]:=fun e=>by
      have:=congrArg List.length e
      grind[stI_le,sgI]
     have hone:=A1X hmd hne;rw[AzS (fun n hn=>by have:=(hhad n hn).1; intro e; subst e; exact absurd this (by decide)) hone]at hg;unfold pgI';rw[hg];have hgl:g.length=(layL (entsB ys (sgI E d.La (bS E d.La+t)))).Lh.length:=by
      rw[<- AzS (fun n hn=>by have:=(hhad n hn).1; intro e; subst e; exact absurd this (by decide)) hone]at hg
      grind[A3E]
     grind[lastN]
    .rw [if_pos heq]
     have hsg:sgI E d.La (bS E d.La+t)=[]:=by grind[sgI]
     rw[hsg]at hg |-;have hp0:(layL (entsB ys [])).Lh=[]:=rfl
     grind[gTo,lastN,mkLv]
   have hJ2:=fun g hg (hl:lastN g la=[]\/numberL (lastN g la)=true)=>hJ (t+1,lastN g la,l++mkLv no g (firstsI ys (sgI E d.La (bS E d.La+t))) (layL (entsB ys (sgI E d.La (bS E d.La+t)))).Lh (layL (entsB ys (sgI E d.La (bS E d.La+t)))).Lh.length) ⟨by omega,hstep g hg,hl,by grind[AtY]⟩ (by omega)
   clear hJ hstep hst;unfold rowK at hget;generalize hpg:(layL (entsB ys (sgI E d.La (bS E d.La+t)))).Lh=pg at *;generalize hfi:firstsI ys (sgI E d.La (bS E d.La+t))=fi at *;generalize hhd:nmI d.La (bS E d.La+t)=had at *;generalize huu:upI d.La (bS E d.La+t)=up at *;generalize sgI E d.La (bS E d.La+t)=sg at *;have hrl:=AfJ fi pg;apply zgB;simp only[go_sem,dt,hget,laa]
   repeat refine ao ?_
   refine zpB (hpgs) ?_;simp only[go_sem,hrl];refine AaC (ι:=Nat×List LU) (fun y=>pg.length-y.1)
    (fun y=>[(35,.int .i64 (y.1:Int)),(34,.int .i64 pg.length),(33,.fz 2 (AdL fi pg)),(10,.fz 2 (AdL fi pg)),(9,.ptr 1 1 0 0),(7,.str (lastN y.2 la)),(6,.sl 0 0 (l.length+y.1) (l.length+y.1)),(26,.int .i64 (t:Int)),(25,.int .i64 (runsA ys E d.La).length),(24,.fz 3 (runsA ys E d.La)),(3,.pin 5 [.agg [.int .i64 no,.str ti,.fz 5 (ys.map scA),.fz 1 (gn.map .str),.fz 4 []]] 0 0),(2,.pin 5 [.agg [.int .i64 d.no,.str d.Lk,.fz 5 (d.Lc.map scA),.fz 1 (d.Lp.map .str),.fz 4 (d.La.map leA)]] 0 0)])
    (fun y=>[.arr 4 (((l++mkLv no y.2 fi pg y.1).map (fixL d.La)).map leA),.arr 3 [.agg [.fz 2 ((entL ys sg).map enA),.fz 1 (had.map .str),.str up]]])
    (fun y=>y.1<=pg.length/\gTo had pg.length la up y.1=some y.2/\∀ n∈y.2,leafNameL n=true) (0,[]) ⟨by omega,rfl,by simp⟩ ?_ ?_
   .refine Lu ?_ (by simp[mkLv])
    simp only[go_sem,lastN]
   .rintro ⟨i,g⟩ ⟨k1,k2,k3⟩ K hK
    simp only at k1 k2 k3 hK |-;have hgl:=A3E k2;have hln:=AoT k3 g3;have hll:((l++mkLv no g fi pg i).map (fixL d.La)).length=l.length+i:=by simp[AtY]
    by_cases gi:i<pg.length
    .have di:decide ((i:Int)<(pg.length:Int))=true:=by grind
     have hrow:=AjU fi pg gi;have hpl:(pg.getD i []).length<1000000:=by
      grind
     obtain⟨x,hx⟩:∃ x,x=nmStep had pg.length up i (lastN g la):=⟨_,rfl⟩;have hgn:x≠[]->gTo had pg.length la up (i+1)=some (g++[x]):=fun h=>by
      grind[gTo]
     have hxn:x≠[]->leafNameL x=true/\x.length<1000000:=fun h=>by
      grind[step_leaf,BoG]
     obtain⟨f,hf⟩:∃ f:Le',f=⟨x,no,fi.getD i [],pg.getD i []⟩:=⟨_,rfl⟩;have hmk:x≠[]->(l++mkLv no (g++[x]) fi pg (i+1)).map (fixL d.La)=(l++mkLv no g fi pg i).map (fixL d.La)++[fixL d.La f]:=fun _=>by
      rw[BeP];have e1:mkLv no (g++[x]) fi pg i=mkLv no g fi pg i:=by
       grind[mkLv,lbe]
      have e2:(g++[x]).getD i []=x:=by grind
      grind
     have hK2:=fun h=>hK (i+1,g++[x]) ⟨by omega,hgn h,fun n hn=>by
      grind⟩ (by omega)
     simp only[A9O]at hK2;clear hK;have hne:∀ n∈had,n≠[]:=fun n hn e=>by
      have:=(hhad n hn).1;subst e;exact absurd this (by decide)
     by_cases hx0:x=[]
     .have hA:¬ (i+1=pg.length/\i+1<had.length):=fun h=>by
       grind[nmStep,A6O]
      have hB:¬ i<had.length:=fun h=>by
       grind[nmStep]
      rw[nmStep,if_neg hA,if_neg hB]at hx;have d63:decide ((i:Int)<(had.length:Int))=false:=by grind
      have hbt:=AgN hS.ok (lastN g la) up hln hup;rw[<- hx,hx0]at hbt;apply zgB;simp only[go_sem,di,hrow,hrl,d63,laa]
      repeat refine ao ?_
      refine zqB hg (hbt) ?_;simp only[go_sem];exact aret [4,5] rfl (.inl ⟨11,by decide,rfl⟩)
     .have hK3:=hK2 hx0
      have hmk2:=hmk hx0;obtain⟨hxl,hxl2⟩:=hxn hx0;have hendx:=AgO hS.ok x hxl2;have hcs:(i+1=pg.length/\i+1<had.length)\/((i<had.length/\i+1≠pg.length)\/((i<had.length/\i+1=pg.length/\¬ i+1<had.length)\/¬ i<had.length)):=by omega
      refine hcs.elim (fun hA=>?_) (fun hcs=>hcs.elim (fun hB=>?_) (fun hcs=>hcs.elim (fun hB=>?_) (fun hB=>?_)));have i1:i<had.length:=by omega
      have i2:had.length-1<had.length:=by omega
      have d63:decide ((i:Int)<(had.length:Int))=true:=by grind
      have d69:((i:Int)+1==(pg.length:Int))=true:=by grind
      have d77:decide ((i:Int)+1<(had.length:Int))=true:=by grind
      have e2:((had.length:Int)-1).toNat=had.length-1:=by omega
      have hg1:List.getD (had.map AV.str) i .any=.str had[i]:=by grind
      have hg2:List.getD (had.map AV.str) (had.length-1) .any=.str had[had.length-1]:=by grind
      have he1:=AgO hS.ok had[i] (by grind);have he2:=AgO hS.ok had[had.length-1] (by grind);have hl1:=number_len (ends_num (hhad _ (lac i1)).1).1;have hl2:=number_len (ends_num (hhad _ (lac i2)).1).2.1;have hxA:(endsL had[i]).1++[45]++(endsL had[had.length-1]).2=x:=by
       grind[nmStep,joinN]
      apply zgB;simp only[go_sem,di,hrow,hrl,d63,d69,d77,hg1,laa]
      repeat refine ao ?_
      refine zqB hg (he1) ?_;simp only[go_sem,e2,hg2,laa]
      repeat refine ao ?_
      refine zqB hg (he2) ?_;simp only[go_sem,hxA]
      repeat refine ao ?_
      rotate_left
      have d63:decide ((i:Int)<(had.length:Int))=true:=by grind
      have d69:((i:Int)+1==(pg.length:Int))=false:=by grind
      have hg1:List.getD (had.map AV.str) i .any=.str x:=by
       grind[nmStep]
      apply zgB;simp only[go_sem,di,hrow,hrl,d63,d69,hg1,laa]
      repeat refine ao ?_
      rotate_left
      have d63:decide ((i:Int)<(had.length:Int))=true:=by grind
      have d69:((i:Int)+1==(pg.length:Int))=true:=by grind
      have d77:decide ((i:Int)+1<(had.length:Int))=false:=by grind
      have hg1:List.getD (had.map AV.str) i .any=.str x:=by
       grind[nmStep]
      apply zgB;simp only[go_sem,di,hrow,hrl,d63,d69,d77,hg1,laa]
      repeat refine ao ?_
      rotate_left
      have d63:decide ((i:Int)<(had.length:Int))=false:=by grind
      have hbt:=AgN hS.ok (lastN g la) up hln hup;have hxC:AaQ (lastN g la) up=x:=by grind[nmStep]
      rw[hxC,show(x != [])=true by grind]at hbt;apply zgB;simp only[go_sem,di,hrow,hrl,d63,laa]
      repeat refine ao ?_
      refine zqB hg (hbt) ?_;simp only[go_sem]
      repeat refine ao ?_
      all_goals
       have hdr0:drT d.La f 0=no:=by
        rw[hf]; rfl
       refine zqB hg (hendx) ?_;simp only[go_sem,laa];refine AaC (ι:=Nat) (fun m=>d.La.length-m) (fun m=>[(126,.int .i64 (m:Int)),(125,.int .i64 d.La.length),(124,.fz 4 (d.La.map leA)),(13,.ptr 3 1 0 0),(7,.str (endsL x).2),(6,.sl 0 0 (l.length+i) (l.length+i)),(35,.int .i64 (i:Int)),(34,.int .i64 pg.length),(33,.fz 2 (AdL fi pg)),(10,.fz 2 (AdL fi pg)),(9,.ptr 1 1 0 0),(26,.int .i64 (t:Int)),(25,.int .i64 (runsA ys E d.La).length),(24,.fz 3 (runsA ys E d.La)),(3,.pin 5 [.agg [.int .i64 no,.str ti,.fz 5 (ys.map scA),.fz 1 (gn.map .str),.fz 4 []]] 0 0),(2,.pin 5 [.agg [.int .i64 d.no,.str d.Lk,.fz 5 (d.Lc.map scA),.fz 1 (d.Lp.map .str),.fz 4 (d.La.map leA)]] 0 0)]) (fun m=>[.arr 4 (((l++mkLv no g fi pg i).map (fixL d.La)).map leA),.arr 3 [.agg [.fz 2 ((entL ys sg).map enA),.fz 1 (had.map .str),.str up]],.arr 2 [.agg [.str (fi.getD i []),.fz 1 ((pg.getD i []).map .str)]],.arr 4 [.agg [.str x,.int .i64 (drT d.La f m),.str (fi.getD i []),.fz 1 ((pg.getD i []).map .str)]]]) (fun m=>m<=d.La.length) 0 (by omega) ?_ ?_
       .rw [hdr0]
        refine Lu ?_ rfl;simp only[go_sem]
       .intro m km M hM
        by_cases gm:m<d.La.length
        .have dm:decide ((m:Int)<(d.La.length:Int))=true:=by grind
         have hgy:=AaY gm;have hyl:=hr.Lb _ (lac gm);have hM2:=hM (m+1) (by omega) (by omega);clear hM;rw[BoF d.La f gm]at hM2;have hsp:AqE f d.La[m]=(d.La[m].name==x&&(d.La[m].first==fi.getD i []&&d.La[m].Lb==pg.getD i [])):=by rw[hf]; rfl
         rw[hsp]at hM2;have heq:=AfD d.La[m].Lb (pg.getD i []) (by omega) (by omega);have hlow4:∀ q:Int,([.arr 4 (((l++mkLv no g fi pg i).map (fixL d.La)).map leA),.arr 3 [.agg [.fz 2 ((entL ys sg).map enA),.fz 1 (had.map .str),.str up]],.arr 2 [.agg [.str (fi.getD i []),.fz 1 ((pg.getD i []).map .str)]],.arr 4 [.agg [.str x,.int .i64 q,.str (fi.getD i []),.fz 1 ((pg.getD i []).map .str)]]]).all (lowB 4)=true:=fun q=>by
          have h1:=AcK 4 ((l++mkLv no g fi pg i).map (fixL d.La));simp only[las,lba,h1,lau,laz];rfl
         generalize d.La[m]=y at *
         cases q1:y.name==x with
         | false =>
          rw[q1]at hM2;simp only[lce,lan,if_false]at hM2;apply zgB;simp only[go_sem,dm,hgy,q1,laa]
          repeat refine ao ?_
          rw[ic m];refine ainv hM2 (Shift.low 4 (by simp) (by simp) (hlow4 _) ?_);simp only[go_sem]
         | true =>
          cases q2:y.first==fi.getD i []with
          | false =>
           rw[q1,q2]at hM2;simp only[lce,laz,lan,if_false]at hM2;apply zgB;simp only[go_sem,dm,hgy,q1,q2,laa]
           repeat refine ao ?_
           rw[ic m];refine ainv hM2 (Shift.low 4 (by simp) (by simp) (hlow4 _) ?_);simp only[go_sem]
          | true =>
           cases q3:y.Lb==pg.getD i []with
           | false =>
            rw[q1,q2,q3]at hM2;rw[q3]at heq;simp only[laz,lan,if_false]at hM2;apply zgB;simp only[go_sem,dm,hgy,q1,q2,laa]
            repeat refine ao ?_
            refine zpB (heq) ?_;simp only[go_sem]
            repeat refine ao ?_
            rw[ic m];refine ainv hM2 (Shift.low 4 (by simp) (by simp) (hlow4 _) ?_);simp only[go_sem]
           | true =>
            rw[q1,q2,q3]at hM2;rw[q3]at heq;simp only[laz,if_true]at hM2;apply zgB;simp only[go_sem,dm,hgy,q1,q2,laa]
            repeat refine ao ?_
            refine zpB (heq) ?_;simp only[go_sem]
            repeat refine ao ?_
            rw[ic m];refine ainv hM2 (Shift.low 4 (by simp) (by simp) (hlow4 _) ?_);simp only[go_sem]
        .have dm:decide ((m:Int)<(d.La.length:Int))=false:=by grind
         have hme:m=d.La.length:=by omega
         subst hme;have hlast:AV.agg [.str x,.int .i64 (drT d.La f d.La.length),.str (fi.getD i []),.fz 1 ((pg.getD i []).map .str)]=leA (fixL d.La f):=by
          subst hf;rw[<- BuX hnod];rfl
         rw[hmk2]at hK3;apply zgB;simp only[go_sem,dm,hll,laa]
         repeat refine And.intro (by grind) ?_
         rw[hlast,show(i:Int)+1=((i+1:Nat):Int) by omega];refine ainv hK3 (Shift.trans (Shift.low 2 (e':=[(35,.int .i64 ((i+1:Nat):Int)),(34,.int .i64 pg.length),(33,.fz 2 (AdL fi pg)),(10,.fz 2 (AdL fi pg)),(9,.ptr 1 1 0 0),(7,.str (endsL x).2),(6,.sl 0 0 (l.length+(i+1)) (l.length+(i+1))),(26,.int .i64 (t:Int)),(25,.int .i64 (runsA ys E d.La).length),(24,.fz 3 (runsA ys E d.La)),(3,.pin 5 [.agg [.int .i64 no,.str ti,.fz 5 (ys.map scA),.fz 1 (gn.map .str),.fz 4 []]] 0 0),(2,.pin 5 [.agg [.int .i64 d.no,.str d.Lk,.fz 5 (d.Lc.map scA),.fz 1 (d.Lp.map .str),.fz 4 (d.La.map leA)]] 0 0)]) (by simp) (by simp) ?_ ?_) (Lu ?_ ?_))
         .have h1:=AcK 2 ((l++mkLv no g fi pg i).map (fixL d.La)++[fixL d.La f])
          rw[laf]at h1
          show(lowB 2 (.arr 4 _)&&(_&&true))=true
          rw[lau,lag];exact⟨h1,rfl⟩
         .simp only[Nat.add_assoc,go_sem]
         .simp only [go_sem]
         grind
    .have di:decide ((i:Int)<(pg.length:Int))=false:=by grind
     have hi:i=pg.length:=by omega
     subst hi;have hfin:=hJ2 g k2 hln;rw[lah,AtY]at hfin;apply zgB;simp only[go_sem,di]
     repeat refine ao ?_
     rw[ic t];refine ainv hfin (Shift.trans (Shift.low 1 (e':=[(26,.int .i64 ((t+1:Nat):Int)),(25,.int .i64 (runsA ys E d.La).length),(24,.fz 3 (runsA ys E d.La)),(7,.str (lastN g la)),(6,.sl 0 0 (l.length+pg.length) (l.length+pg.length)),(3,.pin 5 [.agg [.int .i64 no,.str ti,.fz 5 (ys.map scA),.fz 1 (gn.map .str),.fz 4 []]] 0 0),(2,.pin 5 [.agg [.int .i64 d.no,.str d.Lk,.fz 5 (d.Lc.map scA),.fz 1 (d.Lp.map .str),.fz 4 (d.La.map leA)]] 0 0)]) (by simp) (by simp) ?_ ?_) (Lu ?_ rfl))
     .grind[AcK]
     .simp only[go_sem]
     .simp only [go_sem]
  .have dt:decide ((t:Int)<((runsA ys E d.La).length:Int))=false:=by grind
   have ht:bS E d.La+t=(runsL d.La).length+1:=by omega
   rw[ht]at g2
   by_cases h15:l.length>1500
   .have d15:decide ((l.length:Int)>1500)=true:=by grind
    apply zgB;simp only[go_sem,dt,d15,laa];exact aret [4,5] rfl (.inl ⟨2,by decide,rfl⟩)
   .have d15:decide ((l.length:Int)>1500)=false:=by grind
    apply zgB;simp only[go_sem,dt,d15,laa];exact aret [4,5] rfl (.inr ⟨la,l,g2,by omega,rfl,rfl⟩)
theorem A3G{St:Std}(hS:LibR St)(d:Dr){no:Int}{ti:LU}{ys:List Sc}{gn E:List LU}(hE:EntOf ⟨no,ti,ys,gn,[]⟩ E)(hg1:gn.length<=1000)(hr:RelOk ys E d.La)(h0:d.La≠[]->fst d.La 0≠[])(hnm:∀ f∈d.La,f.name.length<500000) :
  PcH prog St 114 [drA d,drA ⟨no,ti,ys,gn,[]⟩] (fun r=>(∃ e:Int,e≠0/\r=.tup [.raw (.slice none 0 0),.int .i64 e])\/∃ la l,relTo ys E d.La no ((runsL d.La).length+1)=some (la,l)/\l.length<=1500/\r=.tup [.fz 4 ((l.map (fixL d.La)).map leA),.int .i64 0]):=by
 refine PcH.mono (PcH.ofOwn 1 (BhX hS d hE hg1 hr h0 hnm)) ?_;rintro _ ⟨_,s,(⟨e,he,rfl⟩|⟨la,l,h1,h2,rfl,hs⟩),rfl⟩
 .exact .inl ⟨e,he,rfl⟩
 .refine .inr ⟨la,l,h1,h2,?_⟩
  have e:bor 1 s (.sl 0 0 l.length l.length)=.fz 4 ((l.map (fixL d.La)).map leA):=by
   rw[AcR hs (by simp),AgM fun _=>rfl]
  simp only[borV,borC_sl,lak,lao,e];rfl
theorem A3H(x:Sc)(no:LU):Pc prog 113 [scA x,.pin 1 [.str no] 0 0] (· = .bool (x.no==no)):=by
 simp only[scA];refine zpIB func113 rfl fun h ρ w=>?_
 simp only[go_sem];exact zt [3]
theorem BuY(ys:List Sc)(no:LU):(ys.any fun y=>y.no==no)=decide (no∈nosL ys):=by
 grind[nosL]
theorem A3I{St:Std}(hS:LibR St){d:Dr}(hd:DrIn d)(ho:DraftOk d)(hp:plainR d.Lk=true)(hnm:∀ f∈d.La,f.name.length<500000){ti:LU}{xs:List Sc}(hx:SkR ti xs) :
  PcH prog St 61 [drA d,srA ⟨ti,xs⟩] (BwS d ⟨ti,xs⟩):=by
 have hdf:=A9K hS hd ho hp;have hsf:=AeS hS hx;have hdno:=ho.no;obtain⟨E,hE,hm⟩:=BeE hd ho.nums;have hren:=A9L hS hE hm hd.Lm ti xs hx.len hx.sc;have hen:=AlT hS hE hm hd.Lm;have hEl:=hm.fewN;have hxl:=hx.len;have hlv0:d.La≠[]->fst d.La 0≠[]:=fun h=>by
  have hv:=ho.lv E hE;have hne:E≠[]:=fun e=>h (hv.empt.1 e)
  have hEp:=List.length_pos_iff.2 hne;have:=hv.head hne;rw[this]
  simpa[List.getD,hEp]using num_ne (hE.num _ (lac hEp))
 unfold BwS;have d2:((0:Int) != 0)=false:=by decide
 have hlvs:AV.fz 4 (d.La.map leA)=.fz 4 (d.La.map leA):=rfl
 by_cases h30:d.no=30
 .have d30:(d.no==30)=true:=by simpa using h30
  simp only[drA,srA]at hdf hsf |-;refine zqIF func61 rfl fun h ρ w hg=>?_
  simp only[go_sem];refine zqF hg (hdf) ?_;simp only[go_sem,d2];refine zqF hg (hsf) ?_;simp only[go_sem,d2,d30];exact AbF [.cell 4 33,.tmp 5] rfl [_,_] ⟨by simp only[go_sem,sideIs,drZ],rfl,trivial⟩ ⟨.inl ⟨11,by decide,rfl⟩,rfl⟩
 .have d30:(d.no==30)=false:=by simpa using h30
  simp only[drA,srA]at hdf hsf hren hen |-;refine zqIF func61 rfl fun h ρ w hg=>?_
  simp only[go_sem];refine zqF hg (hdf) ?_;simp only[go_sem,d2];refine zqF hg (hsf) ?_;simp only[go_sem,d2,d30];refine AeK hg hren rfl rfl rfl ?_;rintro _ (⟨e,he,rfl⟩|⟨rfl,hr1,hr2⟩)
  .have de:(e != 0)=true:=by simpa using he
   simp only[srZ];apply zgF;simp only[go_sem,de];exact AbF [.cell 4 33,.tmp 5] rfl [_,_] ⟨by simp only[go_sem,sideIs,drZ],rfl,trivial⟩ ⟨.inl ⟨e,he,rfl⟩,rfl⟩
  .have hyl:=AhF E xs xs.length
   have hents:=fun hf=>BeZ hd ho hE (x:=⟨ti,xs⟩) hx.sc hr2 hf
   have hG:∀ la l E',EntOf ⟨d.no+1,ti,ysTo E xs xs.length,Lm E (ysTo E xs xs.length),[]⟩ E'->RelOk (ysTo E xs xs.length) E' d.La->(Lm E (ysTo E xs xs.length)).length+xs.length<=300 ->
     relTo (ysTo E xs xs.length) E' d.La (d.no+1) ((runsL d.La).length+1)=some (la,l)->l.length<=1500->NextG d ⟨ti,xs⟩ E E' la l :=
    fun la l E' h1 h2 h3 h4 h5=>⟨ho,h30,hE,hr1,hr2,h3,h1,h2,h4,h5⟩
   simp only[srA];have hnD:∀ l:List Le',drA (nextD d ⟨ti,xs⟩ E l)=.agg [.int .i64 (d.no+1),.str ti,.fz 5 ((ysTo E xs xs.length).map scA),.fz 1 ((Lm E (ysTo E xs xs.length)).map .str),.fz 4 ((l.map (fixL d.La)).map leA)]:=fun l=>rfl
   generalize ysTo E xs xs.length=zs at *;apply zgF;simp only[go_sem,d2]
   repeat refine aqb ?_
   refine zqF hg (hen) ?_;simp only[go_sem,laa];have hgnl:∀ i,(Lm (E.take i) zs).length<=300:=fun i=>by
    have:=BeM (E.take i) zs;simp only[List.length_take]at this;omega
   refine AaC (ι:=Nat) (fun i=>E.length-i) (fun i=>[(46,.int .i64 (i:Int)),(45,.int .i64 E.length),(44,.fz 1 (E.map .str)),(9,.ptr 3 1 0 0),(5,.int .i64 0),(4,.ptr 2 1 0 0),(3,.ptr 1 1 0 0),(2,.ptr 0 1 0 0)]) (fun i=>[.arr 5 [.agg [.int .i64 d.no,.str d.Lk,.fz 5 (d.Lc.map scA),.fz 1 (d.Lp.map .str),.fz 4 (d.La.map leA)]],.arr 2 [.agg [.str ti,.fz 5 (zs.map scA)]],.arr 5 [.agg [.int .i64 0,.str [],.raw (.slice none 0 0),.raw (.slice none 0 0),.raw (.slice none 0 0)]],.arr 5 [.agg [.int .i64 (d.no+1),.str ti,.fz 5 (zs.map scA),.sl 4 0 (Lm (E.take i) zs).length (Lm (E.take i) zs).length,.fz 4 []]],.arr 1 ((Lm (E.take i) zs).map .str)]) (fun i=>i<=E.length) 0 (by omega) ?_ ?_
   .refine Shift.trans (Shift.cells 3 1 [.agg [.int .i64 (d.no+1),.str ti,.fz 5 (zs.map scA),.sl 4 0 0 0,.fz 4 []]] rfl rfl (by simp[cellsOf]) ⟨.refl,.refl,.refl,.sl,.fz,trivial⟩) (Lu ?_ (by rfl))
    simp only[go_sem]
   .intro i g1 J hJ
    by_cases gi:i<E.length
    .have di:decide ((i:Int)<(E.length:Int))=true:=by rw[laj]; omega
     have hgE:List.getD (E.map AV.str) i .any=.str E[i]:=by simp[List.getD,gi]
     have hany:=A6L 113 [.pin 1 [.str E[i]] 0 0] rfl (fun y=>y.no==E[i]) zs (by omega) (fun y _=>A3H y E[i]);rw[BuY]at hany;have hbor:=Ct.borrowF (P:=prog) (f:=112) (args:=[.fz 5 (zs.map scA),.fn (.func 113) [.ptr 5 1 0 0]]) 1 [.arr 5 [.agg [.int .i64 d.no,.str d.Lk,.fz 5 (d.Lc.map scA),.fz 1 (d.Lp.map .str),.fz 4 (d.La.map leA)]],.arr 2 [.agg [.str ti,.fz 5 (zs.map scA)]],.arr 5 [.agg [.int .i64 0,.str [],.raw (.slice none 0 0),.raw (.slice none 0 0),.raw (.slice none 0 0)]],.arr 5 [.agg [.int .i64 (d.no+1),.str ti,.fz 5 (zs.map scA),.sl 4 0 (Lm (E.take i) zs).length (Lm (E.take i) zs).length,.fz 4 []]],.arr 1 ((Lm (E.take i) zs).map .str),.arr 1 [.str E[i]]] (post:=(· = .bool (decide (E[i]∈nosL zs)))) hany (by rintro r rfl; rfl);have hfin:=hJ (i+1) (by omega) (by omega);have hgs:=A8G E zs i gi;have hgli:=hgnl i;have hlow5:∀ (X:List LU) (n:Nat),([.arr 5 [.agg [.int .i64 d.no,.str d.Lk,.fz 5 (d.Lc.map scA),.fz 1 (d.Lp.map .str),.fz 4 (d.La.map leA)]],.arr 2 [.agg [.str ti,.fz 5 (zs.map scA)]],.arr 5 [.agg [.int .i64 0,.str [],.raw (.slice none 0 0),.raw (.slice none 0 0),.raw (.slice none 0 0)]],.arr 5 [.agg [.int .i64 (d.no+1),.str ti,.fz 5 (zs.map scA),.sl 4 0 n n,.fz 4 []]],.arr 1 (X.map .str)]).all (lowB 5)=true:=fun X n=>by
      have h1:=AaH (n:=5) (AaD X);simp only[las,lba,lau]
      show(_&&(_&&(_&&(_&&_))))=true
      simp only[lowB]at h1 |-;rw[h1]
      simp[flat,cellsOf,lowC,Av.frozen]
     by_cases hmz:E[i]∈nosL zs
     .have dm:decide (E[i]∈nosL zs)=true:=by simpa using hmz
      rw[dm]at hbor;rw[hgs,if_pos hmz]at hfin;apply zgF;simp only[go_sem,di,hgE,laa]
      repeat refine aqb ?_
      refine za (hbor) ?_;rintro _ _ ⟨rfl,rfl⟩;apply zgF;simp only[go_sem]
      repeat refine aqb ?_
      rw[ic i];refine ainv hfin (Shift.low 5 (by simp) (by simp) (hlow5 _ _) ?_);simp only[go_sem]
     .have dm:decide (E[i]∈nosL zs)=false:=by simpa using hmz
      rw[dm]at hbor;rw[hgs,if_neg hmz,lah,lal,laq]at hfin;apply zgF;simp only[go_sem,di,hgE,laa]
      repeat refine aqb ?_
      refine za (hbor) ?_;rintro _ _ ⟨rfl,rfl⟩;apply zgF;simp only[go_sem,laa]
      repeat refine aqb ?_
      have e1:List.map AV.str (Lm (E.take i) zs)++[.str E[i]]=(Lm (E.take i) zs++[E[i]]).map .str:=by simp
      rw[e1,show(i:Int)+1=((i+1:Nat):Int) by omega];refine ainv hfin (Shift.low 5 (by simp) (by simp) (hlow5 _ _) ?_);simp only[go_sem]
    .have di:decide ((i:Int)<(E.length:Int))=false:=by rw[lai]; omega
     have hi:i=E.length:=by omega
     subst hi;clear hJ;have hgE:=hgnl E.length;rw[lap]at hgE |-;have ht:List.take (Lm E zs).length ((Lm E zs).map AV.str)=(Lm E zs).map .str:=lae (by simp);refine AWp.shift (Shift.trans (Shift.frz 4 (es:=1) (l:=(Lm E zs).map .str) rfl (AaD _)) (Lu (e':=[(46,.int .i64 (E.length:Int)),(45,.int .i64 E.length),(44,.fz 1 (E.map .str)),(9,.ptr 3 1 0 0),(5,.int .i64 0),(4,.ptr 2 1 0 0),(3,.ptr 1 1 0 0),(2,.ptr 0 1 0 0)]) (s':=[.arr 5 [.agg [.int .i64 d.no,.str d.Lk,.fz 5 (d.Lc.map scA),.fz 1 (d.Lp.map .str),.fz 4 (d.La.map leA)]],.arr 2 [.agg [.str ti,.fz 5 (zs.map scA)]],.arr 5 [.agg [.int .i64 0,.str [],.raw (.slice none 0 0),.raw (.slice none 0 0),.raw (.slice none 0 0)]],.arr 5 [.agg [.int .i64 (d.no+1),.str ti,.fz 5 (zs.map scA),.fz 1 ((Lm E zs).map .str),.fz 4 []]],.dead]) ?_ ?_)) ?_
     .simp only[frzE,frz,frz1,go_sem]
     .simp only[go_sem,frzB,frzC,frz1,laa,ht,lab]
     by_cases h300:(Lm E zs).length+xs.length<=300
     .have d69:decide ((zs.length:Int)+((Lm E zs).length:Int)>300)=false:=by rw[lai]; omega
      obtain⟨E',hE',hR⟩:=hents h300;have hnl:=A3G hS d hE' (by omega) hR hlv0 hnm;simp only[drA,lao]at hnl;apply zgF;simp only[go_sem,di,d69,laa]
      repeat refine aqb ?_
      refine AeK hg hnl rfl rfl rfl ?_;rintro _ (⟨e,he,rfl⟩|⟨la,l,hl1,hl2,rfl⟩)
      .have de:(e != 0)=true:=by simpa using he
       apply zgF;simp only[go_sem,de]
       repeat refine aqb ?_
       exact AbF [.cell 4 33,.tmp 5] rfl [_,_] ⟨by simp only[go_sem,sideIs,drZ],rfl,trivial⟩ ⟨.inl ⟨e,he,rfl⟩,rfl⟩
      .apply zgF
       simp only[go_sem,d2]
       repeat refine aqb ?_
       exact AbF [.cell 4 33,.tmp 5] rfl [_,_] ⟨by simp only[go_sem,sideIs,drZ],rfl,trivial⟩ ⟨.inr ⟨E,E',la,l,hG la l E' hE' hR h300 hl1 hl2,congrArg (fun z=>AV.tup [z,.int .i64 0]) (hnD l).symm⟩,rfl⟩
     .have d69:decide ((zs.length:Int)+((Lm E zs).length:Int)>300)=true:=by rw[laj]; omega
      apply zgF;simp only[go_sem,di,d69,laa]
      repeat refine aqb ?_
      exact AbF [.cell 4 33,.tmp 5] rfl [_,_] ⟨by simp only[go_sem,sideIs,drZ],rfl,trivial⟩ ⟨.inl ⟨2,by decide,rfl⟩,rfl⟩
