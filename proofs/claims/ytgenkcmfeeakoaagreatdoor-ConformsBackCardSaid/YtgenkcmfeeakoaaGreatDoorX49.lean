/- The leaves of the next draft, as the reference tells them: nextLeaves. -/
import Derived.Test.YtgenkcmfeeakoaaGreatDoorX48
set_option maxRecDepth 100000
set_option maxHeartbeats 8000000
set_option linter.all false
namespace Go.Proofs.YtgenkcmfeeakoaaGreatDoor
open Av RowKit Proofs.Tryz
theorem BcE(g:List LU)(x la:LU):lastN (g++[x]) la=(endsL x).2:=by
 simp_all[lastN]
theorem BlJ{had:List LU}{many i:Nat}{up la:LU}(hh:∀ n∈had,leafNameL n=true)(hla:la=[]\/numberL la=true)(hup:up=[]\/numberL up=true)(hr:AeP had)(hn:nmStep had many up i la≠[]):leafNameL (nmStep had many up i la)=true:=by
 unfold nmStep at hn |-
 split
 .rename_i h
  have i1:many-1<had.length:=by omega
  have i2:had.length-1<had.length:=by omega
  unfold joinN;simp only[lay,lab i1,lab i2,lcn];have e1:=ends_num (hh _ (lac i1));have e2:=ends_num (hh _ (lac i2));refine AmE e1.1 e2.2.1 ?_;have hlt:=List.pairwise_iff_getElem.1 hr _ _ i1 i2 (by omega)
  grind[nLt_trans]
 grind[leafName_one,AdD]
theorem BsH{had:List LU}{many i:Nat}{up la:LU}(hh:∀ n∈had,leafNameL n=true/\n.length<500000)(hla:la=[]\/numberL la=true)(hn:nmStep had many up i la≠[]):(nmStep had many up i la).length<1000000:=by
 unfold nmStep at hn |-
 grind[joinN,number_len,ends_num,AdD]
theorem BlK{St:Std}(hS:LibR St)(d:Dr){no:Int}{ti:LU}{ys:List Sc}{gn E:List LU}(hE:EntOf ⟨no,ti,ys,gn,[]⟩ E)(hg1:gn.length<=1000)(hr:RelOk ys E d.La)(h0:d.La≠[]->fst d.La 0≠[])(hnm:∀ f∈d.La,f.name.length<500000) :
  CtH prog St 35 [drA d,drA ⟨no,ti,ys,gn,[]⟩] [] (fun r s=>(∃ e:Int,e≠0/\r=.tup [.raw (.slice none 0 0),.int .i64 e])\/∃ la l,relTo ys E d.La no ((AaC d.La).length+1)=some (la,l)/\l.length<=1500/\r=.tup [.sl 0 0 l.length l.length,.int .i64 0]/\s.getD 0 .dead=.arr 4 ((l.map (fixL d.La)).map leA)):=by
 have hrn:=BcD hS d hE hg1 hr h0 (fun f hf=>by have:=hnm f hf; omega);have hAl:=A1G ys E d.La;have hfw:=hr.few;have hRl:(AaC d.La).length<=d.La.length:=AcU _ _;have hnod:=AqC (l:=d.La.map (·.name)) (fun n hn=>by
  obtain⟨f,hf,rfl⟩:=List.mem_map.1 hn;exact hr.names f hf) hr.riseN
 simp only[drA,las]at hrn |-;refine zdIB func35 rfl fun h ρ w hg=>?_
 simp only[go_sem];refine zqB hg (hrn) ?_;simp only[go_sem,laa];refine AaE (ι:=Nat×LU×List Le') (fun y=>(runsA ys E d.La).length-y.1)
  (fun y=>[(26,.int .i64 (y.1:Int)),(25,.int .i64 (runsA ys E d.La).length),(24,.fz 3 (runsA ys E d.La)),(7,.str y.2.1),(6,.sl 0 0 y.2.2.length y.2.2.length),(3,.pin 5 [.agg [.int .i64 no,.str ti,.fz 5 (ys.map scA),.fz 1 (gn.map .str),.fz 4 []]] 0 0),(2,.pin 5 [.agg [.int .i64 d.no,.str d.Lk,.fz 5 (d.Lc.map scA),.fz 1 (d.Lp.map .str),.fz 4 (d.La.map leA)]] 0 0)])
  (fun y=>[.arr 4 ((y.2.2.map (fixL d.La)).map leA)])
  (fun y=>y.1<=(runsA ys E d.La).length/\relTo ys E d.La no (bS E d.La+y.1)=some y.2/\(y.2.1=[]\/numberL y.2.1=true)/\y.2.2.length<=50000*y.1) (0,[],[]) ⟨by omega,BlI _ _ _ _,.inl rfl,by simp⟩ ?_ ?_
 .refine Shift.trans (Ls 6 4 rfl) (Lt ?_ (by rfl))
  simp only[go_sem]
 .rintro ⟨t,la,l⟩ ⟨g1,g2,g3,g4⟩ J hJ
  simp only at g1 g2 g3 g4 hJ |-
  by_cases gt:t<(runsA ys E d.La).length
  .have dt:decide ((t:Int)<((runsA ys E d.La).length:Int))=true:=by rw[lag]; omega
   have hget:=BlH ys E d.La gt;have hk2:bS E d.La+t<=(AaC d.La).length:=by omega
   have hst:=st_lt hr (k:=bS E d.La+t) (by omega) hk2;have hmd:MdOk ys (sgI E d.La (bS E d.La+t)):=AsX hr.md _ _;have hpgs:=AiJ hmd;have hfew:=BxQ hmd;have hbd:=(AiE hmd).2;have hhad:∀ n∈nmI d.La (bS E d.La+t),leafNameL n=true/\n.length<500000:=fun n hn=>by
    unfold nmI at hn
    split at hn
    .simp at hn
    .obtain ⟨f,hf,rfl⟩:=List.mem_map.1 hn
     have hm:=lau (lba hf);exact⟨hr.names f hm,hnm f hm⟩
   have hhr:AeP (nmI d.La (bS E d.La+t)):=by
    unfold nmI
    split
    .exact List.Pairwise.nil
    .have hs:(((d.La.take (rat (AaC d.La) (bS E d.La+t-1)).2).drop (rat (AaC d.La) (bS E d.La+t-1)).1).map (·.name)).Sublist (d.La.map (·.name)):=((List.drop_sublist _ _).trans (List.take_sublist _ _)).map _
     exact hr.riseN.sublist hs
   have hhl:(nmI d.La (bS E d.La+t)).length<=100000:=by
    unfold nmI
    split
    .simp
    .simp; omega
   have hup:upI d.La (bS E d.La+t)=[]\/numberL (upI d.La (bS E d.La+t))=true:=by
    unfold upI
    split
    .rename_i h
     right
     have hlt:(rat (AaC d.La) (bS E d.La+t)).1<d.La.length:=by
      have:=(AcQ d.La).one _ h;omega
     have:=hr.names (d.La.getD (rat (AaC d.La) (bS E d.La+t)).1 le0) (by simp[List.getD,hlt]);exact(ends_num this).1
    .exact .inl rfl
   have hstep:∀ g,gTo (nmI d.La (bS E d.La+t)) (layL (entsB ys (sgI E d.La (bS E d.La+t)))).Lh.length la (upI d.La (bS E d.La+t)) (layL (entsB ys (sgI E d.La (bS E d.La+t)))).Lh.length=some g ->
     relTo ys E d.La no (bS E d.La+(t+1))=some (lastN g la,l++mkLv no g (firstsI ys (sgI E d.La (bS E d.La+t))) (layL (entsB ys (sgI E d.La (bS E d.La+t)))).Lh (layL (entsB ys (sgI E d.La (bS E d.La+t)))).Lh.length):=fun g hg=>by
    rw[show bS E d.La+(t+1)=(bS E d.La+t)+1 by omega];simp only[relTo,g2,BbC]
    rcases hst with hlt|⟨hE0,hR0,hk0,heq⟩
    .rw [if_neg (by omega)]
     have hne:sgI E d.La (bS E d.La+t)≠[]:=fun e=>by
      have:=congrArg List.length e;have hs2:=(A8I hr (k:=bS E d.La+t)).2;unfold sgI at this
      simp at this
      omega
     have hone:=A4A hmd hne;rw[A1E (fun n hn=>by have:=(hhad n hn).1; intro e; subst e; exact absurd this (by decide)) hone]at hg;unfold pgI';rw[hg];have hgl:g.length=(layL (entsB ys (sgI E d.La (bS E d.La+t)))).Lh.length:=by
      rw[<- A1E (fun n hn=>by have:=(hhad n hn).1; intro e; subst e; exact absurd this (by decide)) hone]at hg;exact A5B hg
     have hgn:g≠[]:=fun e=>by rw[e]at hgl; simp at hgl; omega
     simp only[lastN,if_neg hgn]
    .rw [if_pos heq]
     have hsg:sgI E d.La (bS E d.La+t)=[]:=by unfold sgI; rw[hE0]; simp
     rw[hsg]at hg |-;have hp0:(layL (entsB ys [])).Lh=[]:=rfl;rw[hp0]at hg |-;simp only[lap,gTo,lao]at hg;subst hg
     simp[lastN,mkLv]
   have hJ2:=fun g hg (hl:lastN g la=[]\/numberL (lastN g la)=true)=>hJ (t+1,lastN g la,l++mkLv no g (firstsI ys (sgI E d.La (bS E d.La+t))) (layL (entsB ys (sgI E d.La (bS E d.La+t)))).Lh (layL (entsB ys (sgI E d.La (bS E d.La+t)))).Lh.length) ⟨by simp only; omega,hstep g hg,hl,by simp only[lah,AvU]; omega⟩ (by simp only; omega)
   clear hJ hstep hst;unfold rowK at hget;generalize hpg:(layL (entsB ys (sgI E d.La (bS E d.La+t)))).Lh=pg at *;generalize hfi:firstsI ys (sgI E d.La (bS E d.La+t))=fi at *;generalize hhd:nmI d.La (bS E d.La+t)=had at *;generalize huu:upI d.La (bS E d.La+t)=up at *;generalize sgI E d.La (bS E d.La+t)=sg at *;have hrl:=AfV fi pg;apply zgB;simp only[go_sem,dt,hget,laa]
   repeat refine aqg ?_
   refine zpB (hpgs) ?_;simp only[go_sem,hrl];refine AaE (ι:=Nat×List LU) (fun y=>pg.length-y.1)
    (fun y=>[(35,.int .i64 (y.1:Int)),(34,.int .i64 pg.length),(33,.fz 2 (AdF fi pg)),(10,.fz 2 (AdF fi pg)),(9,.ptr 1 1 0 0),(7,.str (lastN y.2 la)),(6,.sl 0 0 (l.length+y.1) (l.length+y.1)),(26,.int .i64 (t:Int)),(25,.int .i64 (runsA ys E d.La).length),(24,.fz 3 (runsA ys E d.La)),(3,.pin 5 [.agg [.int .i64 no,.str ti,.fz 5 (ys.map scA),.fz 1 (gn.map .str),.fz 4 []]] 0 0),(2,.pin 5 [.agg [.int .i64 d.no,.str d.Lk,.fz 5 (d.Lc.map scA),.fz 1 (d.Lp.map .str),.fz 4 (d.La.map leA)]] 0 0)])
    (fun y=>[.arr 4 (((l++mkLv no y.2 fi pg y.1).map (fixL d.La)).map leA),.arr 3 [.agg [.fz 2 ((entL ys sg).map enA),.fz 1 (had.map .str),.str up]]])
    (fun y=>y.1<=pg.length/\gTo had pg.length la up y.1=some y.2/\∀ n∈y.2,leafNameL n=true) (0,[]) ⟨by omega,rfl,by simp⟩ ?_ ?_
   .refine Lt ?_ (by simp[mkLv])
    simp only[go_sem,lastN]
   .rintro ⟨i,g⟩ ⟨k1,k2,k3⟩ K hK
    simp only at k1 k2 k3 hK |-;have hgl:=A5B k2;have hln:=AqA k3 g3;have hll:((l++mkLv no g fi pg i).map (fixL d.La)).length=l.length+i:=by simp[AvU]
    by_cases gi:i<pg.length
    .have di:decide ((i:Int)<(pg.length:Int))=true:=by rw[lag]; omega
     have hrow:=AkQ fi pg gi;have hpl:(pg.getD i []).length<1000000:=by
      have:pg.getD i []∈pg:=by simp[List.getD,gi]
      have:=hbd _ this;omega
     obtain⟨x,hx⟩:∃ x,x=nmStep had pg.length up i (lastN g la):=⟨_,rfl⟩;have hgn:x≠[]->gTo had pg.length la up (i+1)=some (g++[x]):=fun h=>by
      simp only[gTo,k2,<- hx];rw[if_neg h]
     have hxn:x≠[]->leafNameL x=true/\x.length<1000000:=fun h=>by
      rw[hx]at h |-;exact⟨BlJ (fun n hn=>(hhad n hn).1) hln hup hhr h,BsH hhad hln h⟩
     obtain⟨f,hf⟩:∃ f:Le',f=⟨x,no,fi.getD i [],pg.getD i []⟩:=⟨_,rfl⟩;have hmk:x≠[]->(l++mkLv no (g++[x]) fi pg (i+1)).map (fixL d.La)=(l++mkLv no g fi pg i).map (fixL d.La)++[fixL d.La f]:=fun _=>by
      rw[BiL];have e1:mkLv no (g++[x]) fi pg i=mkLv no g fi pg i:=by
       unfold mkLv;refine lbg fun k hk=>?_
       have hk:=List.mem_range.1 hk
       simp[List.getD,lbf (show k<g.length by omega)]
      have e2:(g++[x]).getD i []=x:=by rw[<- hgl]; simp[List.getD]
      rw[e1,e2,<- lbu,lak,hf];rfl
     have hK2:=fun h=>hK (i+1,g++[x]) ⟨by simp only; omega,hgn h,fun n hn=>by
      rcases List.mem_append.1 hn with hn|hn
      .exact k3 n hn
      .rw [List.mem_singleton.1 hn]; exact(hxn h).1⟩ (by simp only; omega)
     simp only[BcE]at hK2;clear hK;have hne:∀ n∈had,n≠[]:=fun n hn e=>by
      have:=(hhad n hn).1;subst e;exact absurd this (by decide)
     by_cases hx0:x=[]
     .have hA:¬ (i+1=pg.length/\i+1<had.length):=fun h=>by
       rw[nmStep,if_pos h]at hx;exact A8V _ _ (hx.symm.trans hx0)
      have hB:¬ i<had.length:=fun h=>by
       rw[nmStep,if_neg hA,if_pos h]at hx;exact hne _ (AdS h) (hx.symm.trans hx0)
      rw[nmStep,if_neg hA,if_neg hB]at hx;have d63:decide ((i:Int)<(had.length:Int))=false:=by rw[lai]; omega
      have hbt:=AhO hS.ok (lastN g la) up hln hup;rw[<- hx,hx0]at hbt;apply zgB;simp only[go_sem,di,hrow,hrl,d63,laa]
      repeat refine aqg ?_
      refine zqB hg (hbt) ?_;simp only[go_sem];exact aret [4,5] rfl (.inl ⟨11,by decide,rfl⟩)
     .have hK3:=hK2 hx0
      have hmk2:=hmk hx0;obtain⟨hxl,hxl2⟩:=hxn hx0;have hendx:=AhP hS.ok x hxl2;have hcs:(i+1=pg.length/\i+1<had.length)\/((i<had.length/\i+1≠pg.length)\/((i<had.length/\i+1=pg.length/\¬ i+1<had.length)\/¬ i<had.length)):=by omega
      refine hcs.elim (fun hA=>?_) (fun hcs=>hcs.elim (fun hB=>?_) (fun hcs=>hcs.elim (fun hB=>?_) (fun hB=>?_)));have i1:i<had.length:=by omega
      have i2:had.length-1<had.length:=by omega
      have d63:decide ((i:Int)<(had.length:Int))=true:=by rw[lag]; omega
      have d69:((i:Int)+1==(pg.length:Int))=true:=by rw[lbr]; omega
      have d77:decide ((i:Int)+1<(had.length:Int))=true:=by rw[lag]; omega
      have e2:((had.length:Int)-1).toNat=had.length-1:=by omega
      have hg1:List.getD (had.map AV.str) i .any=.str had[i]:=by simp[List.getD,i1]
      have hg2:List.getD (had.map AV.str) (had.length-1) .any=.str had[had.length-1]:=by simp[List.getD,i2]
      have he1:=AhP hS.ok had[i] (by have:=(hhad _ (lac i1)).2; omega);have he2:=AhP hS.ok had[had.length-1] (by have:=(hhad _ (lac i2)).2; omega);have hl1:=number_len (ends_num (hhad _ (lac i1)).1).1;have hl2:=number_len (ends_num (hhad _ (lac i2)).1).2.1;have hxA:(endsL had[i]).1++[45]++(endsL had[had.length-1]).2=x:=by
       rw[hx,nmStep,if_pos hA,joinN];have ei:pg.length-1=i:=by omega
       simp only[ei,lay,lab i1,lab i2,lcn,lbu,lbb,lbx]
      apply zgB;simp only[go_sem,di,hrow,hrl,d63,d69,d77,hg1,laa]
      repeat refine aqg ?_
      refine zqB hg (he1) ?_;simp only[go_sem,e2,hg2,laa]
      repeat refine aqg ?_
      refine zqB hg (he2) ?_;simp only[go_sem,hxA]
      repeat refine aqg ?_
      rotate_left
      have d63:decide ((i:Int)<(had.length:Int))=true:=by rw[lag]; omega
      have d69:((i:Int)+1==(pg.length:Int))=false:=by rw[lbe]; omega
      have hg1:List.getD (had.map AV.str) i .any=.str x:=by
       rw[hx,nmStep,if_neg (by omega),if_pos hB.1]
       simp[List.getD,hB.1]
      apply zgB;simp only[go_sem,di,hrow,hrl,d63,d69,hg1,laa]
      repeat refine aqg ?_
      rotate_left
      have d63:decide ((i:Int)<(had.length:Int))=true:=by rw[lag]; omega
      have d69:((i:Int)+1==(pg.length:Int))=true:=by rw[lbr]; omega
      have d77:decide ((i:Int)+1<(had.length:Int))=false:=by rw[lai]; omega
      have hg1:List.getD (had.map AV.str) i .any=.str x:=by
       rw[hx,nmStep,if_neg (by omega),if_pos hB.1]
       simp[List.getD,hB.1]
      apply zgB;simp only[go_sem,di,hrow,hrl,d63,d69,d77,hg1,laa]
      repeat refine aqg ?_
      rotate_left
      have d63:decide ((i:Int)<(had.length:Int))=false:=by rw[lai]; omega
      have hbt:=AhO hS.ok (lastN g la) up hln hup;have hxC:AaS (lastN g la) up=x:=by rw[hx,nmStep,if_neg (by omega),if_neg hB]
      rw[hxC,show(x != [])=true by simpa using hx0]at hbt;apply zgB;simp only[go_sem,di,hrow,hrl,d63,laa]
      repeat refine aqg ?_
      refine zqB hg (hbt) ?_;simp only[go_sem]
      repeat refine aqg ?_
      all_goals
       have hdr0:drT d.La f 0=no:=by
        rw[hf]; rfl
       refine zqB hg (hendx) ?_;simp only[go_sem,laa];refine AaE (ι:=Nat) (fun m=>d.La.length-m) (fun m=>[(126,.int .i64 (m:Int)),(125,.int .i64 d.La.length),(124,.fz 4 (d.La.map leA)),(13,.ptr 3 1 0 0),(7,.str (endsL x).2),(6,.sl 0 0 (l.length+i) (l.length+i)),(35,.int .i64 (i:Int)),(34,.int .i64 pg.length),(33,.fz 2 (AdF fi pg)),(10,.fz 2 (AdF fi pg)),(9,.ptr 1 1 0 0),(26,.int .i64 (t:Int)),(25,.int .i64 (runsA ys E d.La).length),(24,.fz 3 (runsA ys E d.La)),(3,.pin 5 [.agg [.int .i64 no,.str ti,.fz 5 (ys.map scA),.fz 1 (gn.map .str),.fz 4 []]] 0 0),(2,.pin 5 [.agg [.int .i64 d.no,.str d.Lk,.fz 5 (d.Lc.map scA),.fz 1 (d.Lp.map .str),.fz 4 (d.La.map leA)]] 0 0)]) (fun m=>[.arr 4 (((l++mkLv no g fi pg i).map (fixL d.La)).map leA),.arr 3 [.agg [.fz 2 ((entL ys sg).map enA),.fz 1 (had.map .str),.str up]],.arr 2 [.agg [.str (fi.getD i []),.fz 1 ((pg.getD i []).map .str)]],.arr 4 [.agg [.str x,.int .i64 (drT d.La f m),.str (fi.getD i []),.fz 1 ((pg.getD i []).map .str)]]]) (fun m=>m<=d.La.length) 0 (by omega) ?_ ?_
       .rw [hdr0]
        refine Lt ?_ rfl;simp only[go_sem]
       .intro m km M hM
        by_cases gm:m<d.La.length
        .have dm:decide ((m:Int)<(d.La.length:Int))=true:=by rw[lag]; omega
         have hgy:=AgN gm;have hyl:=hr.Lb _ (lac gm);have hM2:=hM (m+1) (by omega) (by omega);clear hM;rw[BsG d.La f gm]at hM2;have hsp:ArA f d.La[m]=(d.La[m].name==x&&(d.La[m].first==fi.getD i []&&d.La[m].Lb==pg.getD i [])):=by rw[hf]; rfl
         rw[hsp]at hM2;have heq:=AsQ d.La[m].Lb (pg.getD i []) (by omega) (by omega);have hlow4:∀ q:Int,([.arr 4 (((l++mkLv no g fi pg i).map (fixL d.La)).map leA),.arr 3 [.agg [.fz 2 ((entL ys sg).map enA),.fz 1 (had.map .str),.str up]],.arr 2 [.agg [.str (fi.getD i []),.fz 1 ((pg.getD i []).map .str)]],.arr 4 [.agg [.str x,.int .i64 q,.str (fi.getD i []),.fz 1 ((pg.getD i []).map .str)]]]).all (lowB 4)=true:=fun q=>by
          have h1:=A3Y 4 ((l++mkLv no g fi pg i).map (fixL d.La));simp only[lat,lbn,h1,lax,lbt];rfl
         generalize d.La[m]=y at *
         cases q1:y.name==x with
         | false =>
          rw[q1]at hM2;simp only[Bool.false_and,lan,if_false]at hM2;apply zgB;simp only[go_sem,dm,hgy,q1,laa]
          repeat refine aqg ?_
          rw[ic m];refine ainv hM2 (Shift.low 4 (by simp) (by simp) (hlow4 _) ?_);simp only[go_sem]
         | true =>
          cases q2:y.first==fi.getD i []with
          | false =>
           rw[q1,q2]at hM2;simp only[Bool.false_and,lbt,lan,if_false]at hM2;apply zgB;simp only[go_sem,dm,hgy,q1,q2,laa]
           repeat refine aqg ?_
           rw[ic m];refine ainv hM2 (Shift.low 4 (by simp) (by simp) (hlow4 _) ?_);simp only[go_sem]
          | true =>
           cases q3:y.Lb==pg.getD i []with
           | false =>
            rw[q1,q2,q3]at hM2;rw[q3]at heq;simp only[lbt,lan,if_false]at hM2;apply zgB;simp only[go_sem,dm,hgy,q1,q2,laa]
            repeat refine aqg ?_
            refine zpB (heq) ?_;simp only[go_sem]
            repeat refine aqg ?_
            rw[ic m];refine ainv hM2 (Shift.low 4 (by simp) (by simp) (hlow4 _) ?_);simp only[go_sem]
           | true =>
            rw[q1,q2,q3]at hM2;rw[q3]at heq;simp only[lbt,if_true]at hM2;apply zgB;simp only[go_sem,dm,hgy,q1,q2,laa]
            repeat refine aqg ?_
            refine zpB (heq) ?_;simp only[go_sem]
            repeat refine aqg ?_
            rw[ic m];refine ainv hM2 (Shift.low 4 (by simp) (by simp) (hlow4 _) ?_);simp only[go_sem]
        .have dm:decide ((m:Int)<(d.La.length:Int))=false:=by rw[lai]; omega
         have hme:m=d.La.length:=by omega
         subst hme;have hlast:AV.agg [.str x,.int .i64 (drT d.La f d.La.length),.str (fi.getD i []),.fz 1 ((pg.getD i []).map .str)]=leA (fixL d.La f):=by
          subst hf;rw[<- BzD hnod];rfl
         rw[hmk2]at hK3;apply zgB;simp only[go_sem,dm,hll,laa]
         repeat refine aqg ?_
         rw[hlast,show(i:Int)+1=((i+1:Nat):Int) by omega];refine ainv hK3 (Shift.trans (Shift.low 2 (e':=[(35,.int .i64 ((i+1:Nat):Int)),(34,.int .i64 pg.length),(33,.fz 2 (AdF fi pg)),(10,.fz 2 (AdF fi pg)),(9,.ptr 1 1 0 0),(7,.str (endsL x).2),(6,.sl 0 0 (l.length+(i+1)) (l.length+(i+1))),(26,.int .i64 (t:Int)),(25,.int .i64 (runsA ys E d.La).length),(24,.fz 3 (runsA ys E d.La)),(3,.pin 5 [.agg [.int .i64 no,.str ti,.fz 5 (ys.map scA),.fz 1 (gn.map .str),.fz 4 []]] 0 0),(2,.pin 5 [.agg [.int .i64 d.no,.str d.Lk,.fz 5 (d.Lc.map scA),.fz 1 (d.Lp.map .str),.fz 4 (d.La.map leA)]] 0 0)]) (by simp) (by simp) ?_ ?_) (Lt ?_ ?_))
         .have h1:=A3Y 2 ((l++mkLv no g fi pg i).map (fixL d.La)++[fixL d.La f])
          rw[lak]at h1
          show(lowB 2 (.arr 4 _)&&(_&&true))=true
          rw[lax,lae];exact⟨h1,rfl⟩
         .simp only[Nat.add_assoc,go_sem]
         .simp only [go_sem]
         .rw [lak (f:=leA)]
          rfl
    .have di:decide ((i:Int)<(pg.length:Int))=false:=by rw[lai]; omega
     have hi:i=pg.length:=by omega
     subst hi;have hfin:=hJ2 g k2 hln;rw[lah,AvU]at hfin;apply zgB;simp only[go_sem,di]
     repeat refine aqg ?_
     rw[ic t];refine ainv hfin (Shift.trans (Shift.low 1 (e':=[(26,.int .i64 ((t+1:Nat):Int)),(25,.int .i64 (runsA ys E d.La).length),(24,.fz 3 (runsA ys E d.La)),(7,.str (lastN g la)),(6,.sl 0 0 (l.length+pg.length) (l.length+pg.length)),(3,.pin 5 [.agg [.int .i64 no,.str ti,.fz 5 (ys.map scA),.fz 1 (gn.map .str),.fz 4 []]] 0 0),(2,.pin 5 [.agg [.int .i64 d.no,.str d.Lk,.fz 5 (d.Lc.map scA),.fz 1 (d.Lp.map .str),.fz 4 (d.La.map leA)]] 0 0)]) (by simp) (by simp) ?_ ?_) (Lt ?_ rfl))
     .show (lowB 1 (.arr 4 _)&&true)=true
      rw[lax];exact A3Y 1 _
     .simp only[go_sem]
     .simp only [go_sem]
  .have dt:decide ((t:Int)<((runsA ys E d.La).length:Int))=false:=by rw[lai]; omega
   have ht:bS E d.La+t=(AaC d.La).length+1:=by omega
   rw[ht]at g2
   by_cases h15:l.length>1500
   .have d15:decide ((l.length:Int)>1500)=true:=by rw[lag]; omega
    apply zgB;simp only[go_sem,dt,d15,laa];exact aret [4,5] rfl (.inl ⟨2,by decide,rfl⟩)
   .have d15:decide ((l.length:Int)>1500)=false:=by rw[lai]; omega
    apply zgB;simp only[go_sem,dt,d15,laa];exact aret [4,5] rfl (.inr ⟨la,l,g2,by omega,rfl,rfl⟩)
theorem A5D{St:Std}(hS:LibR St)(d:Dr){no:Int}{ti:LU}{ys:List Sc}{gn E:List LU}(hE:EntOf ⟨no,ti,ys,gn,[]⟩ E)(hg1:gn.length<=1000)(hr:RelOk ys E d.La)(h0:d.La≠[]->fst d.La 0≠[])(hnm:∀ f∈d.La,f.name.length<500000) :
  PcH prog St 35 [drA d,drA ⟨no,ti,ys,gn,[]⟩] (fun r=>(∃ e:Int,e≠0/\r=.tup [.raw (.slice none 0 0),.int .i64 e])\/∃ la l,relTo ys E d.La no ((AaC d.La).length+1)=some (la,l)/\l.length<=1500/\r=.tup [.fz 4 ((l.map (fixL d.La)).map leA),.int .i64 0]):=by
 refine PcH.mono (PcH.ofOwn 1 (BlK hS d hE hg1 hr h0 hnm)) ?_;rintro _ ⟨_,s,(⟨e,he,rfl⟩|⟨la,l,h1,h2,rfl,hs⟩),rfl⟩
 .exact .inl ⟨e,he,rfl⟩
 .refine .inr ⟨la,l,h1,h2,?_⟩
  have e:bor 1 s (.sl 0 0 l.length l.length)=.fz 4 ((l.map (fixL d.La)).map leA):=by
   rw[AcR hs (by simp),AhN fun _=>rfl]
  simp only[borV,borC_sl,lal,las,e];rfl
theorem A5E(x:Sc)(no:LU):Pc prog 34 [scA x,.pin 1 [.str no] 0 0] (· = .bool (x.no==no)):=by
 simp only[scA];refine zpIB func34 rfl fun h ρ w=>?_
 simp only[go_sem];exact zt [3]
theorem BzE(ys:List Sc)(no:LU):(ys.any fun y=>y.no==no)=decide (no∈nosL ys):=by
 grind[nosL]
theorem A5F{St:Std}(hS:LibR St){d:Dr}(hd:DrIn d)(ho:DraftOk d)(hp:plainR d.Lk=true)(hnm:∀ f∈d.La,f.name.length<500000){ti:LU}{xs:List Sc}(hx:SkR ti xs) :
  PcH prog St 7 [drA d,srA ⟨ti,xs⟩] (B1C d ⟨ti,xs⟩):=by
 have hdf:=BcA hS hd ho hp;have hsf:=AeZ hS hx;have hdno:=ho.no;obtain⟨E,hE,hm⟩:=BtO hd ho.nums;have hren:=BcB hS hE hm hd.Lm ti xs hx.len hx.sc;have hen:=AmJ hS hE hm hd.Lm;have hEl:=hm.fewN;have hxl:=hx.len;have hlv0:d.La≠[]->fst d.La 0≠[]:=fun h=>by
  have hv:=ho.lv E hE;have hne:E≠[]:=fun e=>h (hv.empt.1 e)
  have hEp:=List.length_pos_iff.2 hne;have:=hv.head hne;rw[this]
  simpa[List.getD,hEp]using num_ne (hE.num _ (lac hEp))
 unfold B1C;have d2:((0:Int) != 0)=false:=by decide
 have hlvs:AV.fz 4 (d.La.map leA)=.fz 4 (d.La.map leA):=rfl
 by_cases h30:d.no=30
 .have d30:(d.no==30)=true:=by simpa using h30
  simp only[drA,srA]at hdf hsf |-;refine zqIF func7 rfl fun h ρ w hg=>?_
  simp only[go_sem];refine zqF hg (hdf) ?_;simp only[go_sem,d2];refine zqF hg (hsf) ?_;simp only[go_sem,d2,d30];exact AcA [.cell 4 37,.tmp 5] rfl [_,_] ⟨by simp only[go_sem,sideIs,drZ],rfl,trivial⟩ ⟨.inl ⟨11,by decide,rfl⟩,rfl⟩
 .have d30:(d.no==30)=false:=by simpa using h30
  simp only[drA,srA]at hdf hsf hren hen |-;refine zqIF func7 rfl fun h ρ w hg=>?_
  simp only[go_sem];refine zqF hg (hdf) ?_;simp only[go_sem,d2];refine zqF hg (hsf) ?_;simp only[go_sem,d2,d30];refine AxJ hg hren rfl rfl rfl ?_;rintro _ (⟨e,he,rfl⟩|⟨rfl,hr1,hr2⟩)
  .have de:(e != 0)=true:=by simpa using he
   simp only[srZ];apply zgF;simp only[go_sem,de];exact AcA [.cell 4 37,.tmp 5] rfl [_,_] ⟨by simp only[go_sem,sideIs,drZ],rfl,trivial⟩ ⟨.inl ⟨e,he,rfl⟩,rfl⟩
  .have hyl:=AiG E xs xs.length
   have hents:=fun hf=>BiV hd ho hE (x:=⟨ti,xs⟩) hx.sc hr2 hf
   have hG:∀ la l E',EntOf ⟨d.no+1,ti,ysTo E xs xs.length,Lm E (ysTo E xs xs.length),[]⟩ E'->RelOk (ysTo E xs xs.length) E' d.La->(Lm E (ysTo E xs xs.length)).length+xs.length<=300 ->
     relTo (ysTo E xs xs.length) E' d.La (d.no+1) ((AaC d.La).length+1)=some (la,l)->l.length<=1500->NextG d ⟨ti,xs⟩ E E' la l :=
    fun la l E' h1 h2 h3 h4 h5=>⟨ho,h30,hE,hr1,hr2,h3,h1,h2,h4,h5⟩
   simp only[srA];have hnD:∀ l:List Le',drA (nextD d ⟨ti,xs⟩ E l)=.agg [.int .i64 (d.no+1),.str ti,.fz 5 ((ysTo E xs xs.length).map scA),.fz 1 ((Lm E (ysTo E xs xs.length)).map .str),.fz 4 ((l.map (fixL d.La)).map leA)]:=fun l=>rfl
   generalize ysTo E xs xs.length=zs at *;apply zgF;simp only[go_sem,d2]
   repeat refine aqg ?_
   refine zqF hg (hen) ?_;simp only[go_sem,laa];have hgnl:∀ i,(Lm (E.take i) zs).length<=300:=fun i=>by
    have:=BiI (E.take i) zs;simp only[lci]at this;omega
   refine AaE (ι:=Nat) (fun i=>E.length-i) (fun i=>[(46,.int .i64 (i:Int)),(45,.int .i64 E.length),(44,.fz 1 (E.map .str)),(9,.ptr 3 1 0 0),(5,.int .i64 0),(4,.ptr 2 1 0 0),(3,.ptr 1 1 0 0),(2,.ptr 0 1 0 0)]) (fun i=>[.arr 5 [.agg [.int .i64 d.no,.str d.Lk,.fz 5 (d.Lc.map scA),.fz 1 (d.Lp.map .str),.fz 4 (d.La.map leA)]],.arr 2 [.agg [.str ti,.fz 5 (zs.map scA)]],.arr 5 [.agg [.int .i64 0,.str [],.raw (.slice none 0 0),.raw (.slice none 0 0),.raw (.slice none 0 0)]],.arr 5 [.agg [.int .i64 (d.no+1),.str ti,.fz 5 (zs.map scA),.sl 4 0 (Lm (E.take i) zs).length (Lm (E.take i) zs).length,.fz 4 []]],.arr 1 ((Lm (E.take i) zs).map .str)]) (fun i=>i<=E.length) 0 (by omega) ?_ ?_
   .refine Shift.trans (Shift.cells 3 1 [.agg [.int .i64 (d.no+1),.str ti,.fz 5 (zs.map scA),.sl 4 0 0 0,.fz 4 []]] rfl rfl (by simp[cellsOf]) ⟨.refl,.refl,.refl,.sl,.fz,trivial⟩) (Lt ?_ (by rfl))
    simp only[go_sem]
   .intro i g1 J hJ
    by_cases gi:i<E.length
    .have di:decide ((i:Int)<(E.length:Int))=true:=by rw[lag]; omega
     have hgE:List.getD (E.map AV.str) i .any=.str E[i]:=by simp[List.getD,gi]
     have hany:=A0W 34 [.pin 1 [.str E[i]] 0 0] rfl (fun y=>y.no==E[i]) zs (by omega) (fun y _=>A5E y E[i]);rw[BzE]at hany;have hbor:=Ct.borrowF (P:=prog) (f:=33) (args:=[.fz 5 (zs.map scA),.fn (.func 34) [.ptr 5 1 0 0]]) 1 [.arr 5 [.agg [.int .i64 d.no,.str d.Lk,.fz 5 (d.Lc.map scA),.fz 1 (d.Lp.map .str),.fz 4 (d.La.map leA)]],.arr 2 [.agg [.str ti,.fz 5 (zs.map scA)]],.arr 5 [.agg [.int .i64 0,.str [],.raw (.slice none 0 0),.raw (.slice none 0 0),.raw (.slice none 0 0)]],.arr 5 [.agg [.int .i64 (d.no+1),.str ti,.fz 5 (zs.map scA),.sl 4 0 (Lm (E.take i) zs).length (Lm (E.take i) zs).length,.fz 4 []]],.arr 1 ((Lm (E.take i) zs).map .str),.arr 1 [.str E[i]]] (post:=(· = .bool (decide (E[i]∈nosL zs)))) hany (by rintro r rfl; rfl);have hfin:=hJ (i+1) (by omega) (by omega);have hgs:=BbB E zs i gi;have hgli:=hgnl i;have hlow5:∀ (X:List LU) (n:Nat),([.arr 5 [.agg [.int .i64 d.no,.str d.Lk,.fz 5 (d.Lc.map scA),.fz 1 (d.Lp.map .str),.fz 4 (d.La.map leA)]],.arr 2 [.agg [.str ti,.fz 5 (zs.map scA)]],.arr 5 [.agg [.int .i64 0,.str [],.raw (.slice none 0 0),.raw (.slice none 0 0),.raw (.slice none 0 0)]],.arr 5 [.agg [.int .i64 (d.no+1),.str ti,.fz 5 (zs.map scA),.sl 4 0 n n,.fz 4 []]],.arr 1 (X.map .str)]).all (lowB 5)=true:=fun X n=>by
      have h1:=AaD (n:=5) (AaH X);simp only[lat,lbn,lax]
      show(_&&(_&&(_&&(_&&_))))=true
      simp only[lowB]at h1 |-;rw[h1]
      simp[flat,cellsOf,lowC,Av.frozen]
     by_cases hmz:E[i]∈nosL zs
     .have dm:decide (E[i]∈nosL zs)=true:=by simpa using hmz
      rw[dm]at hbor;rw[hgs,if_pos hmz]at hfin;apply zgF;simp only[go_sem,di,hgE,laa]
      repeat refine aqg ?_
      refine za (hbor) ?_;rintro _ _ ⟨rfl,rfl⟩;apply zgF;simp only[go_sem]
      repeat refine aqg ?_
      rw[ic i];refine ainv hfin (Shift.low 5 (by simp) (by simp) (hlow5 _ _) ?_);simp only[go_sem]
     .have dm:decide (E[i]∈nosL zs)=false:=by simpa using hmz
      rw[dm]at hbor;rw[hgs,if_neg hmz,lah,lam,lap]at hfin;apply zgF;simp only[go_sem,di,hgE,laa]
      repeat refine aqg ?_
      refine za (hbor) ?_;rintro _ _ ⟨rfl,rfl⟩;apply zgF;simp only[go_sem,laa]
      repeat refine aqg ?_
      have e1:List.map AV.str (Lm (E.take i) zs)++[.str E[i]]=(Lm (E.take i) zs++[E[i]]).map .str:=by simp
      rw[e1,show(i:Int)+1=((i+1:Nat):Int) by omega];refine ainv hfin (Shift.low 5 (by simp) (by simp) (hlow5 _ _) ?_);simp only[go_sem]
    .have di:decide ((i:Int)<(E.length:Int))=false:=by rw[lai]; omega
     have hi:i=E.length:=by omega
     subst hi;clear hJ;have hgE:=hgnl E.length;rw[laz]at hgE |-;have ht:List.take (Lm E zs).length ((Lm E zs).map AV.str)=(Lm E zs).map .str:=laj (by simp);refine AWp.shift (Shift.trans (Shift.frz 4 (es:=1) (l:=(Lm E zs).map .str) rfl (AaH _)) (Lt (e':=[(46,.int .i64 (E.length:Int)),(45,.int .i64 E.length),(44,.fz 1 (E.map .str)),(9,.ptr 3 1 0 0),(5,.int .i64 0),(4,.ptr 2 1 0 0),(3,.ptr 1 1 0 0),(2,.ptr 0 1 0 0)]) (s':=[.arr 5 [.agg [.int .i64 d.no,.str d.Lk,.fz 5 (d.Lc.map scA),.fz 1 (d.Lp.map .str),.fz 4 (d.La.map leA)]],.arr 2 [.agg [.str ti,.fz 5 (zs.map scA)]],.arr 5 [.agg [.int .i64 0,.str [],.raw (.slice none 0 0),.raw (.slice none 0 0),.raw (.slice none 0 0)]],.arr 5 [.agg [.int .i64 (d.no+1),.str ti,.fz 5 (zs.map scA),.fz 1 ((Lm E zs).map .str),.fz 4 []]],.dead]) ?_ ?_)) ?_
     .simp only[frzE,frz,frz1,go_sem]
     .simp only[go_sem,frzB,frzC,frz1,laa,ht,lad]
     by_cases h300:(Lm E zs).length+xs.length<=300
     .have d69:decide ((zs.length:Int)+((Lm E zs).length:Int)>300)=false:=by rw[lai]; omega
      obtain⟨E',hE',hR⟩:=hents h300;have hnl:=A5D hS d hE' (by omega) hR hlv0 hnm;simp only[drA,las]at hnl;apply zgF;simp only[go_sem,di,d69,laa]
      repeat refine aqg ?_
      refine AxJ hg hnl rfl rfl rfl ?_;rintro _ (⟨e,he,rfl⟩|⟨la,l,hl1,hl2,rfl⟩)
      .have de:(e != 0)=true:=by simpa using he
       apply zgF;simp only[go_sem,de]
       repeat refine aqg ?_
       exact AcA [.cell 4 37,.tmp 5] rfl [_,_] ⟨by simp only[go_sem,sideIs,drZ],rfl,trivial⟩ ⟨.inl ⟨e,he,rfl⟩,rfl⟩
      .apply zgF
       simp only[go_sem,d2]
       repeat refine aqg ?_
       exact AcA [.cell 4 37,.tmp 5] rfl [_,_] ⟨by simp only[go_sem,sideIs,drZ],rfl,trivial⟩ ⟨.inr ⟨E,E',la,l,hG la l E' hE' hR h300 hl1 hl2,congrArg (fun z=>AV.tup [z,.int .i64 0]) (hnD l).symm⟩,rfl⟩
     .have d69:decide ((zs.length:Int)+((Lm E zs).length:Int)>300)=true:=by rw[lag]; omega
      apply zgF;simp only[go_sem,di,d69,laa]
      repeat refine aqg ?_
      exact AcA [.cell 4 37,.tmp 5] rfl [_,_] ⟨by simp only[go_sem,sideIs,drZ],rfl,trivial⟩ ⟨.inl ⟨2,by decide,rfl⟩,rfl⟩
