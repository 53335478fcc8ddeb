/- Lay, walked. -/
import Derived.Test.YtlldmgboedknfaaGreatDoorC30
set_option maxRecDepth 100000
set_option maxHeartbeats 8000000
set_option linter.unusedSimpArgs false
set_option linter.unusedVariables false
namespace Go.Proofs.YtlldmgboedknfaaGreatDoor
open Go Go.Av Go.RowKit _root_.Go.Proofs.Tryz
theorem BtD(bs:List Bl)(hb:∀ b∈bs,BlFit b)(hk:∀ b∈bs,BlOk b)(hc:costTo bs bs.length<=1000000000000)(hl:bs.length<=1000000) :
  Pc prog 59 [.fz 4 (bs.map blA)] (· = .agg [.fz 1 ((layL bs).pages.map pgA),.fz 1 ((layL bs).firsts.map (.int .i64)),.fz 1 ((layL bs).starts.map (.int .i64))]):=by
 have hlay:=AuL (bs:=bs) (fun b h=>(hk b h).own);refine zpIF func59 rfl fun h ρ w=>?_
 simp only[go_sem,List.length_map];refine AaI (ι:=Nat) (fun i=>bs.length-i)
  (fun i=>[(15,.int .i64 i),(14,.int .i64 bs.length),(13,.fz 4 (bs.map blA)),(6,.fn (.func 120) [.ptr 1 1 0 0,.ptr 2 1 0 0,.ptr 3 1 0 0]),(5,.ptr 3 1 0 0),(4,.ptr 2 1 0 0),(3,.ptr 1 1 0 0),(2,.ptr 0 1 0 0),(0,.fz 4 (bs.map blA))])
  (fun i=>layS (layTo bs i) []) (fun i=>i<=bs.length/\(layTo bs i).pages.length<=costTo bs i/\(layTo bs i).firsts.length=(layTo bs i).pages.length/\(layTo bs i).starts.length=i) 0 ⟨by omega,by simp[layTo],rfl,rfl⟩ ?_ ?_
 .refine Shift.trans (Shift.cells 1 1 [.agg [.sl 4 0 0 0,.raw (.slice none 0 0),.raw (.slice none 0 0)]] rfl rfl (by simp[cellsOf]) ⟨.sl,.refl,.refl,trivial⟩) ?_
  refine Shift.trans (Shift.cells 1 1 [.agg [.sl 4 0 0 0,.sl 5 0 0 0,.raw (.slice none 0 0)]] rfl rfl (by simp[cellsOf]) ⟨.refl,.sl,.refl,trivial⟩) ?_;refine Shift.trans (Shift.cells 1 1 [.agg [.sl 4 0 0 0,.sl 5 0 0 0,.sl 6 0 0 0]] rfl rfl (by simp[cellsOf]) ⟨.refl,.refl,.sl,trivial⟩) ?_;refine Shift.trans (Shift.cells 2 1 [.sl 7 0 0 0] rfl rfl (by simp[cellsOf]) ⟨.sl,trivial⟩) ?_;refine Shift.weakS ?_ rfl;simp only[go_sem]
 .rintro i ⟨g1,g2,g3,g4⟩ J hJ
  obtain⟨w0,hP,_⟩:=hlay i g1
  by_cases gi:i<bs.length
  .have di:decide ((i:Int)<(bs.length:Int))=true:=by simp; omega
   have hg':List.getD (List.map blA bs) i .any=.agg [.int .i64 bs[i].kind,.fz 1 (bs[i].lines.map .str),.fz 1 (bs[i].kinds.map (.int .i64)),.str bs[i].name]:=by simp[List.getD,gi,blA]
   have hbi:=hb _ (List.getElem_mem gi);have hgap:=BtB bs[i];have hhead:=BpY bs i gi hb (by omega);simp only[blA]at hgap;have hgn:(if bs[i].kind==0 then(2:Int) else 1)=((gapN bs[i]:Nat):Int):=by unfold gapN; split <;> rfl
   rw[hgn]at hgap;have hcm:=AiP bs g1;have hpl:=hP.len;generalize hs:layTo bs i=s at g2 g3 g4 hP hpl |-;simp only[layS,layT];refine zgF ?_;simp only[go_sem,di,hg',List.length_map]
   repeat refine aqa ?_
   refine AcS (hgap) rfl rfl rfl (goF rfl 4 ?_);simp only[go_sem];have hbA:Blk.arr 4 [AV.agg [.int .i64 bs[i].kind,.fz 1 (bs[i].lines.map .str),.fz 1 (bs[i].kinds.map (.int .i64)),.str bs[i].name]]=.arr 4 [blA bs[i]]:=rfl;refine acut (ι:=Unit)
    (fun _=>[(9,.int .i64 (gapN bs[i]:Nat)),(7,.int .i64 i),(8,.ptr 8 1 0 0),(15,.int .i64 i),(14,.int .i64 bs.length),(13,.fz 4 (bs.map blA)),(6,.fn (.func 120) [.ptr 1 1 0 0,.ptr 2 1 0 0,.ptr 3 1 0 0]),(5,.ptr 3 1 0 0),(4,.ptr 2 1 0 0),(3,.ptr 1 1 0 0),(2,.ptr 0 1 0 0),(0,.fz 4 (bs.map blA))])
    (fun _=>layS (turnS bs i bs[i] s) [.arr 4 [blA bs[i]]]) (fun _=>True) ?_ ?_
   .intro Jc hJc
    have fc:=hJc () trivial
    by_cases p0:s.page=[]
    .have dp:decide ((s.page.length:Int)>0)=false:=by rw[p0]; rfl
     have ht:turnS bs i bs[i] s=s:=by unfold turnS; rw[if_neg (fun h=>h.1 p0)]
     rw[ht]at fc;refine zgF ?_;simp only[go_sem];refine zr [] mixed ?_;simp only[go_sem,dp]
     repeat refine aqa ?_
     refine zgF ?_;simp only[go_sem];refine ainv fc (Shift.weakS ?_ rfl);simp only[go_sem]
    .have hp1:0<s.page.length:=by
      cases hq:s.page with
      | nil=>exact(p0 hq).elim
      | cons a r=>simp
     have dp:decide ((s.page.length:Int)>0)=true:=by simp; omega
     have hle:AhX bs[i]<=bs[i].lines.length+2:=AjN _;have hfit:=hbi.len;have hhd:=BjW (bs:=bs) (i:=i) (b:=bs[i]) (M:=50000000) (fun d hd=>(hb d hd).len);have hgl:gapN bs[i]<=2:=by unfold gapN; split <;> omega
     by_cases hov:s.page.length+gapN bs[i]+AdQ bs i bs[i]>54
     .have dov:decide ((s.page.length:Int)+(gapN bs[i]:Nat)+(AdQ bs i bs[i]:Nat)>54)=true:=by simp; omega
      have ht:turnS bs i bs[i] s=flushS s:=by unfold turnS; rw[if_pos ⟨p0,hov⟩]
      rw[ht]at fc;refine zgF ?_;simp only[go_sem];refine zr [.int .i64 ((AdQ bs i bs[i]:Nat):Int)] mixed ?_;simp only[go_sem,dp]
      repeat refine And.intro (by first|omega|exact hhead.at|exact .inl trivial|rfl|(simp; done)|(simp; omega)) ?_
      refine zgF ?_;simp only[go_sem,dov];refine za (AuQ s [.arr 4 [blA bs[i]]] (fun _=>rfl) (by omega) (by omega)) ?_;rintro _ _ ⟨rfl,rfl⟩;refine zgF ?_;simp only[go_sem];refine ainv fc (AlU rfl (flushS s) bs[i] rfl ?_);simp only[renE,renV,ren1,idx,go_sem]
     .have dov:decide ((s.page.length:Int)+(gapN bs[i]:Nat)+(AdQ bs i bs[i]:Nat)>54)=false:=by simp; omega
      have ht:turnS bs i bs[i] s=s:=by unfold turnS; rw[if_neg (fun h=>hov h.2)]
      rw[ht]at fc;refine zgF ?_;simp only[go_sem];refine zr [.int .i64 ((AdQ bs i bs[i]:Nat):Int)] mixed ?_;simp only[go_sem,dp]
      repeat refine And.intro (by first|omega|exact hhead.at|exact .inl trivial|rfl|(simp; done)|(simp; omega)) ?_
      refine zgF ?_;simp only[go_sem,dov];refine ainv fc (Shift.weakS ?_ rfl);simp only[go_sem]
   .rintro ⟨⟩ _
    obtain⟨hP1,hfit1⟩:=BjX (bs:=bs) (i:=i) (b:=bs[i]) hP;obtain⟨hm1,hm2,hm3⟩:=AyG bs i bs[i] s;have hm2:=hm2.2 g3;have htarget:layTo bs (i+1)=placeB bs[i] (bs[i].lines.length+1) 0 (gapS bs[i] (firstS i (turnS bs i bs[i] s))):=by
     simp only[layTo,List.getElem?_eq_getElem gi,hs,openS]
    obtain⟨g0,_,hPo,hRo⟩:=AuK (bs:=bs) (i:=i) (b:=bs[i]) hP;rw[openS]at hPo hRo;generalize turnS bs i bs[i] s=s1 at hP1 hfit1 hm1 hm2 hm3 htarget hPo hRo |-;have hgl:gapN bs[i]<=2:=by unfold gapN; split <;> omega
    simp only[layS,layT];refine goF rfl 1 ?_;simp only[go_sem];refine acut (ι:=Unit)
     (fun _=>[(9,.int .i64 (gapN bs[i]:Nat)),(7,.int .i64 i),(8,.ptr 8 1 0 0),(15,.int .i64 i),(14,.int .i64 bs.length),(13,.fz 4 (bs.map blA)),(6,.fn (.func 120) [.ptr 1 1 0 0,.ptr 2 1 0 0,.ptr 3 1 0 0]),(5,.ptr 3 1 0 0),(4,.ptr 2 1 0 0),(3,.ptr 1 1 0 0),(2,.ptr 0 1 0 0),(0,.fz 4 (bs.map blA))])
     (fun _=>layS (firstS i s1) [.arr 4 [blA bs[i]]]) (fun _=>True) ?_ ?_
    .intro Jc hJc
     have fc:=hJc () trivial
     by_cases p1:s1.page=[]
     .have hf1:firstS i s1=⟨s1.pages,s1.firsts,s1.starts,s1.page,i⟩:=by unfold firstS; rw[if_pos p1]
      have dp:((s1.page.length:Int)==0)=true:=by rw[p1]; rfl
      rw[hf1]at fc;refine zgF ?_;simp only[go_sem,dp]
      repeat refine aqa ?_
      refine ainv fc (Shift.weakS ?_ rfl);simp only[go_sem]
     .have hf1:firstS i s1=s1:=by unfold firstS; rw[if_neg p1]
      have dp:((s1.page.length:Int)==0)=false:=by
       rw[beq_eq_false_iff_ne];intro e;exact p1 (List.eq_nil_of_length_eq_zero (by omega))
      rw[hf1]at fc;refine zgF ?_;simp only[go_sem,dp]
      repeat refine aqa ?_
      refine ainv fc (Shift.weakS ?_ rfl);simp only[go_sem]
    .rintro ⟨⟩ _
     have hfp:(firstS i s1).page=s1.page/\(firstS i s1).pages=s1.pages/\(firstS i s1).firsts=s1.firsts/\(firstS i s1).starts=s1.starts:=by unfold firstS; split <;> exact⟨rfl,rfl,rfl,rfl⟩
     have hl1:=hP1.len;generalize firstS i s1=s2 at hfp htarget hPo hRo |-;have q1:s2.page.length<=54:=by rw[hfp.1]; exact hl1
     have q2:s2.pages.length<=costTo bs i+1:=by rw[hfp.2.1]; omega
     have q3:s2.firsts.length=s2.pages.length:=by rw[hfp.2.1,hfp.2.2.1]; exact hm2
     have q4:s2.starts.length=i:=by rw[hfp.2.2.2,hm3]; exact g4
     have hmul:(gapN bs[i]:Int)*(if(1:Int)<(s2.page.length:Int) then 1 else(s2.page.length:Int))=((gapN bs[i]*min s2.page.length 1:Nat):Int):=by
      rw[Int.natCast_mul]
      congr 1
      split <;> omega
     generalize hGG:gapN bs[i]*min s2.page.length 1=G at hmul;have hG2:G<=2:=by
      rw[<- hGG];have:min s2.page.length 1<=1:=Nat.min_le_right _ _
      calc gapN bs[i]*min s2.page.length 1<=gapN bs[i]*1:=Nat.mul_le_mul_left _ this
       _<=2:=by omega
     simp only[layS,layT];refine zgF ?_;simp only[go_sem,hmul]
     repeat refine aqa ?_
     refine AaI (ι:=Nat) (fun j=>G-j) (fun j=>[(47,.int .i64 j),(46,.int .i64 G),(7,.int .i64 i),(8,.ptr 8 1 0 0),(15,.int .i64 i),(14,.int .i64 bs.length),(13,.fz 4 (bs.map blA)),(6,.fn (.func 120) [.ptr 1 1 0 0,.ptr 2 1 0 0,.ptr 3 1 0 0]),(5,.ptr 3 1 0 0),(4,.ptr 2 1 0 0),(3,.ptr 1 1 0 0),(2,.ptr 0 1 0 0),(0,.fz 4 (bs.map blA))])
      (fun j=>layT s2 (.sl 7 0 (s2.page.length+j) (s2.page.length+j)) (.arr 1 ((s2.page++List.replicate j []).map .str)) [.arr 4 [blA bs[i]]]) (fun j=>j<=G) 0 (by omega) ?_ ?_
     .refine Shift.weakS ?_ (by simp[layT])
      simp only[go_sem]
     .intro j gj1 J2 hJ2
      by_cases gj:j<G
      .have dj:decide ((j:Int)<(G:Int))=true:=by simp; omega
       simp only[layT];refine zgF ?_;simp only[go_sem,dj,List.length_map,List.length_replicate]
       repeat refine aqa ?_
       first|done|rw[ic j]|trace_state
       refine ainv (hJ2 (j+1) (by omega) (by omega)) ?_;refine Shift.weakS ?_ (by simp[layT,List.replicate_succ',Nat.add_assoc]);simp only[go_sem]
      .have dj:decide ((j:Int)<(G:Int))=false:=by simp; omega
       have hj:j=G:=by omega
       subst hj;have hcs:=AiO gi;have hcm2:=AiP bs (show i+1<=bs.length from gi);simp only[layT];refine zgF ?_;simp only[go_sem,dj,List.length_map,List.length_replicate]
       repeat refine aqa ?_
       refine AaI (ι:=Nat×LS) (fun y=>bs[i].lines.length-y.1) (fun y=>[(10,.int .i64 y.1),(7,.int .i64 i),(8,.ptr 8 1 0 0),(15,.int .i64 i),(14,.int .i64 bs.length),(13,.fz 4 (bs.map blA)),(6,.fn (.func 120) [.ptr 1 1 0 0,.ptr 2 1 0 0,.ptr 3 1 0 0]),(5,.ptr 3 1 0 0),(4,.ptr 2 1 0 0),(3,.ptr 1 1 0 0),(2,.ptr 0 1 0 0),(0,.fz 4 (bs.map blA))])
        (fun y=>layS y.2 [.arr 4 [blA bs[i]]])
        (fun y=>y.1<=bs[i].lines.length/\(∃ w,PInv y.2 w)/\AhY bs[i] y.1 (54-y.2.page.length)/\y.2.firsts.length=y.2.pages.length/\y.2.starts.length=i+1/\y.2.pages.length+(bs[i].lines.length-y.1)<=costTo bs i+1+bs[i].lines.length/\∃ f,bs[i].lines.length-y.1<f/\placeB bs[i] f y.1 y.2=layTo bs (i+1))
        (0,gapS bs[i] s2) ⟨by simp only; omega,⟨_,hPo⟩,hRo,q3,by simp only[gapS,List.length_append,List.length_cons,List.length_nil,q4],by simp only[gapS]; omega,_,by simp only; omega,htarget.symm⟩ ?_ ?_
       .refine Shift.weakS ?_ (by simp[layS,layT,gapS,hGG])
        simp only[go_sem]
       .rintro ⟨fr,st⟩ ⟨r1,⟨wst,r2⟩,r3,r4,r5,r6,f,r7,r8⟩ J3 hJ3
        simp only at r1 r2 r3 r4 r5 r6 r7 r8 hJ3 |-;have rl:=r2.len;have hroom:(54:Int)-(st.page.length:Int)=((54-st.page.length:Nat):Int):=by omega
        have hstop:=BpZ bs[i] hbi fr (54-st.page.length) r1 r3 (by omega);have hspec:=AoT r3 r1;have hps:=ArY (hk _ (List.getElem_mem gi)).own r2 r1 r3;have hnl:=hbi.len
        cases f with
        | zero=>omega
        | succ f =>
         simp only[placeB]at r8;generalize hz:stopL bs[i] fr (54-st.page.length)=tz at hstop hspec hps r8;have hzl:fr<=tz/\tz<=bs[i].lines.length:=by omega
         have hpart:List.drop fr (List.take tz (bs[i].lines.map AV.str))=(partL' bs[i] fr tz).map AV.str:=by
          rw[partL',List.map_drop,List.map_take]
         have hpln:(partL' bs[i] fr tz).length=tz-fr:=AhK _ hzl.2;simp only[blA]at hstop;simp only[layS,layT,blA];refine zgF ?_;simp only[go_sem,hroom,List.length_map]
         repeat refine aqa ?_
         refine zpF (hstop) ?_;simp only[go_sem,List.length_map];refine zr [] mixed ?_;simp only[go_sem,hpart,hpln,List.length_map]
         repeat refine aqa ?_
         have el:(st.page++partL' bs[i] fr tz).length=st.page.length+(tz-fr):=by rw[List.length_append,hpln]
         rw[<- el,<- List.map_append];refine AWp.shift (e':=[(11,.int .i64 tz),(10,.int .i64 fr),(7,.int .i64 i),(8,.ptr 8 1 0 0),(15,.int .i64 i),(14,.int .i64 bs.length),(13,.fz 4 (bs.map blA)),(6,.fn (.func 120) [.ptr 1 1 0 0,.ptr 2 1 0 0,.ptr 3 1 0 0]),(5,.ptr 3 1 0 0),(4,.ptr 2 1 0 0),(3,.ptr 1 1 0 0),(2,.ptr 0 1 0 0),(0,.fz 4 (bs.map blA))]) (s':=layS (addS st (partL' bs[i] fr tz)) [.arr 4 [blA bs[i]]]) (Shift.weakS ?_ rfl) ?_
         .simp only [go_sem]
         have hsp:(addS st (partL' bs[i] fr tz)).pages=st.pages/\(addS st (partL' bs[i] fr tz)).firsts=st.firsts/\(addS st (partL' bs[i] fr tz)).starts=st.starts/\(addS st (partL' bs[i] fr tz)).page.length<=54+bs[i].lines.length:=⟨rfl,rfl,rfl,by simp only[addS]; rw[el]; omega⟩;generalize addS st (partL' bs[i] fr tz)=st1 at r8 hps hsp |-
         by_cases hzn:tz=bs[i].lines.length
         .have dz:((tz:Int)==(bs[i].lines.length:Int))=true:=by rw[hzn]; simp
          rw[if_pos hzn]at r8;have fin:=hJ (i+1) ⟨gi,by rw[<- r8,hsp.1]; omega,by rw[<- r8,hsp.1,hsp.2.1]; exact r4,by rw[<- r8,hsp.2.2.1]; exact r5⟩ (by omega);rw[<- r8]at fin;simp only[layS,layT,blA]at fin |-;refine zgF ?_;simp only[go_sem,dz,List.length_map]
          repeat refine aqa ?_
          rw[ic i];refine ainv fin ?_;refine A8E rfl st1 (.arr 4 [blA bs[i]]) ?_;simp only[go_sem]
          first|done|trace_state
         .have dz:((tz:Int)==(bs[i].lines.length:Int))=false:=by rw[beq_eq_false_iff_ne]; omega
          rw[if_neg hzn]at r8;obtain⟨z1,z2,z3,z4⟩:=hps hzn;simp only[layS,layT,blA];refine goF rfl 18 ?_;simp only[go_sem,dz,List.length_map]
          repeat refine aqa ?_
          have hgo:=BdQ bs[i] (by have:=hbi.name; omega);simp only[blA]at hgo;refine acut (ι:=Unit) (fun _=>[(11,.int .i64 tz),(10,.int .i64 fr),(7,.int .i64 i),(8,.ptr 8 1 0 0),(15,.int .i64 i),(14,.int .i64 bs.length),(13,.fz 4 (bs.map blA)),(6,.fn (.func 120) [.ptr 1 1 0 0,.ptr 2 1 0 0,.ptr 3 1 0 0]),(5,.ptr 3 1 0 0),(4,.ptr 2 1 0 0),(3,.ptr 1 1 0 0),(2,.ptr 0 1 0 0),(0,.fz 4 (bs.map blA))])
           (fun _=>layS (addS st1 (if bs[i].kind==3 then[AcD] else[])) [.arr 4 [blA bs[i]]]) (fun _=>True) ?_ ?_
          .intro Jc hJc
           have fc:=hJc () trivial
           cases k3:bs[i].kind==3 with
           | true =>
            simp only[k3,if_true]at fc;refine zgF ?_;simp only[go_sem,k3];refine zr [.str AcD] mixed ?_;simp only[go_sem]
            repeat refine And.intro (by first|omega|exact more_pc.at|exact .inl trivial|rfl|(simp; done)|(simp; omega)) ?_
            refine zgF ?_;simp only[go_sem];refine ainv fc ?_;refine Shift.weakS ?_ (by simp[layS,layT,addS,blA]);simp only[go_sem]
           | false =>
            have hn:addS st1 []=st1:=by simp[addS]
            simp only[k3,Bool.false_eq_true,if_false,hn]at fc;refine zgF ?_;simp only[go_sem,k3];refine ainv fc (Shift.weakS ?_ rfl);simp only[go_sem]
          .rintro ⟨⟩ _
           have hJ4:=hJ3 (tz,breakS bs[i] st1);have hbr:breakS bs[i] st1=addS (flushS (addS st1 (if bs[i].kind==3 then[AcD] else[]))) (if bs[i].kind==3 then[goesLn bs[i]] else[]):=rfl;have hst2:(addS st1 (if bs[i].kind==3 then[AcD] else[])).pages=st1.pages/\(addS st1 (if bs[i].kind==3 then[AcD] else[])).firsts=st1.firsts/\(addS st1 (if bs[i].kind==3 then[AcD] else[])).starts=st1.starts:=⟨rfl,rfl,rfl⟩;generalize addS st1 (if bs[i].kind==3 then[AcD] else[])=st2 at hbr hst2 |-;have fin:=hJ4 ⟨by simp only; omega,z3,z4,by rw[hbr]; simp only[addS,flushS,List.length_append,List.length_cons,List.length_nil,hst2.1,hst2.2.1,hsp.1,hsp.2.1,r4],by rw[hbr]; simp only[addS,flushS,hst2.2.2,hsp.2.2.1,r5],by rw[hbr]; simp only[addS,flushS,List.length_append,List.length_cons,List.length_nil,hst2.1,hsp.1]; omega,f,by simp only; omega,r8⟩ (by simp only; omega);rw[hbr]at fin;simp only[layS,layT];refine zgF ?_;simp only[go_sem];refine za (AuQ st2 [.arr 4 [blA bs[i]]] (fun _=>rfl) (by rw[hst2.1,hsp.1]; omega) (by rw[hst2.2.1,hsp.2.1]; omega)) ?_;rintro _ _ ⟨rfl,rfl⟩;refine AWp.shift (AlU rfl (flushS st2) bs[i] rfl (e':=[(11,.int .i64 tz),(10,.int .i64 fr),(7,.int .i64 i),(8,.ptr 8 1 0 0),(15,.int .i64 i),(14,.int .i64 bs.length),(13,.fz 4 (bs.map blA)),(6,.fn (.func 120) [.ptr 1 1 0 0,.ptr 2 1 0 0,.ptr 3 1 0 0]),(5,.ptr 3 1 0 0),(4,.ptr 2 1 0 0),(3,.ptr 1 1 0 0),(2,.ptr 0 1 0 0),(0,.fz 4 (bs.map blA))]) ?_) ?_
           .simp only[renE,renV,ren1,idx,go_sem]
           cases k3:bs[i].kind==3 with
           | true =>
            simp only[k3,if_true]at fin;simp only[layS,layT,blA];refine zgF ?_;simp only[go_sem,k3];have hfz:(flushS st2).page=[]:=rfl;refine zr [.str (goesLn bs[i])] mixed ?_;simp only[go_sem,hfz]
            repeat refine And.intro (by first|omega|exact hgo.at|exact .inl trivial|rfl|(simp; done)|(simp; omega)) ?_
            refine zgF ?_;simp only[go_sem];refine ainv fin ?_;refine Shift.weakS ?_ (by simp[layS,layT,addS,blA,hfz]);simp only[go_sem]
           | false =>
            have hn:∀ s:LS,addS s []=s:=fun s=>by simp[addS]
            simp only[k3,Bool.false_eq_true,if_false,hn]at fin;simp only[layS,layT,blA];refine zgF ?_;simp only[go_sem,k3];refine ainv fin (Shift.weakS ?_ rfl);simp only[go_sem]
  .have di:decide ((i:Int)<(bs.length:Int))=false:=by simp; omega
   have hi:i=bs.length:=by omega
   subst hi;have hLL:layL bs=(if(layTo bs bs.length).page≠[] then flushS (layTo bs bs.length) else layTo bs bs.length):=rfl;have hcm:=AiP bs (Nat.le_refl bs.length);rw[hLL];generalize layTo bs bs.length=s at g2 g3 g4 |-
   by_cases p0:s.page=[]
   .have dp:decide ((s.page.length:Int)>0)=false:=by rw[p0]; rfl
    rw[if_neg (by simpa using p0)];unfold layS;refine AWp.shift (AyH s (e':=[(15,.int .i64 (bs.length:Nat)),(14,.int .i64 bs.length),(13,.fz 4 (bs.map blA)),(6,.fn (.func 120) [.ptr 1 1 0 0,.ptr 2 1 0 0,.ptr 3 1 0 0]),(5,.ptr 3 1 0 0),(4,.ptr 2 1 0 0),(3,.ptr 1 1 0 0),(2,.ptr 0 1 0 0)]) (fun id l h=>?_) (fun id l h=>?_) ?_) ?_
    .have:(7==id)=false:=by rw[beq_eq_false_iff_ne]; omega
     simp[frzC,frz,frz1,this]
    .simp only [frzB]
     rw[AoX (fun _=>rfl)]
    .simp only[frzE,frzC,frz,frz1,go_sem]
    simp only[layF];refine zgF ?_;simp only[go_sem,di,dp,List.length_map]
    repeat refine aqa ?_
    exact AbB [.cell 2 110] rfl [_] ⟨by simp only[go_sem,sideIs],trivial⟩ ⟨rfl,rfl⟩
   .have hp1:0<s.page.length:=by
     cases hq:s.page with
     | nil=>exact(p0 hq).elim
     | cons a r=>simp
    have dp:decide ((s.page.length:Int)>0)=true:=by simp; omega
    rw[if_pos (by simpa using p0)];simp only[layS,layT];refine zgF ?_;simp only[go_sem,di,dp,List.length_map]
    repeat refine aqa ?_
    refine za (AuQ s [] (fun _=>rfl) (by omega) (by omega)) ?_;rintro _ _ ⟨rfl,rfl⟩;refine AWp.shift (AyH (flushS s) (e':=[(15,.int .i64 (bs.length:Nat)),(14,.int .i64 bs.length),(13,.fz 4 (bs.map blA)),(6,.fn (.func 120) [.ptr 1 1 0 0,.ptr 2 1 0 0,.ptr 3 1 0 0]),(5,.ptr 3 1 0 0),(4,.ptr 2 1 0 0),(3,.ptr 1 1 0 0),(2,.ptr 0 1 0 0)]) (fun id l h=>rfl) (fun id l h=>rfl) ?_) ?_
    .simp only[frzE,frzC,frz,frz1,go_sem]
    simp only[layF];refine zgF ?_;simp only[go_sem]
    repeat refine aqa ?_
    exact AbB [.cell 2 110] rfl [_] ⟨by simp only[go_sem,sideIs],trivial⟩ ⟨rfl,rfl⟩
def sizB(b:Bl):Prop:=b.name.length<=2000/\∀ l∈b.lines,l.length<=3000000
theorem AhL(n:Nat)(l:List UInt8):(indent n l).length=n+l.length:=by
 rw[indent,List.length_append,blanks_len]
theorem BkB{p:Pa}(h:p.text.length<=2000):sizB (newB p):=by
 unfold newB
 split
 .exact ⟨by simp,fun l hl=>by have:=(AcC 60 p.text).2 l hl; omega⟩
 .split
  .refine ⟨by simp,fun l hl=>?_⟩
   rw[List.mem_singleton.1 hl,turnLine,List.length_append,blanks_len,List.length_append]
   simp; omega
  .refine ⟨h,fun l hl=>?_⟩
   rw[List.mem_singleton.1 hl,AhL]; omega
theorem BeD{b:Bl}{p:Pa}(hb:sizB b)(h:p.text.length<=2000):sizB (moreB b p):=by
 have key:∀ (kd:Int) (n:Nat) (ls:List (List UInt8)),n<=20->(∀ l∈ls,l.length<=2010)->sizB (addB b kd n ls):=fun kd n ls hn hl=>by
  refine⟨hb.1,fun l hq=>?_⟩;simp only[addB]at hq
  rcases List.mem_append.1 hq with hq|hq
  .exact hb.2 l hq
  .obtain ⟨m,hm,rfl⟩:=List.mem_map.1 hq
   rw[AhL];have:=hl m hm;omega
 unfold moreB
 split
 .refine key _ _ _ (by omega) fun l hl=>?_
  have:=(AcC 30 (asideT p.text)).2 l hl
  simp[asideT]at this; omega
 .refine key _ _ _ (by omega) fun l hl=>?_
  have:=(AcC 35 p.text).2 l hl;omega
theorem A8G{x:Sc}(h:LineOk x):∀ b∈blocksL x,sizB b:=by
 obtain⟨e,hr,_,_⟩:=h.sc.run;have ht:∀ p∈x.paras,p.text.length<=2000:=fun p hp=>AuF (A1T _ _ _ hr p hp)
 have hh:=h.head;have h0:sizB ⟨0,AbH 60 (headL x),[],[]⟩:=⟨by simp,fun l hl=>by have:=(AcC 60 (headL x)).2 l hl; omega⟩;have hi:(∀ b∈(blocksS x).1,sizB b)/\sizB (blocksS x).2:=AjM (P:=fun(s:List Bl×Bl)=>(∀ b∈s.1,sizB b)/\sizB s.2) (Q:=fun(p:Pa)=>p.text.length<=2000) (fun s p h1 h2=>by
  unfold bstep
  split
  .exact ⟨h1.1,BeD h1.2 h2⟩
  .refine ⟨fun b hb=>?_,BkB h2⟩
   rcases List.mem_append.1 hb with hb|hb
   .exact h1.1 b hb
   .rw [List.mem_singleton.1 hb]; exact h1.2) _ _ ⟨by simp,h0⟩ ht
 intro b hb;unfold blocksL at hb
 rcases List.mem_append.1 hb with hb|hb
 .exact hi.1 b hb
 .rw [List.mem_singleton.1 hb]; exact hi.2
theorem A2A{bs:List Bl}(h:∀ b∈bs,b.lines.length<=11000000):∀ i,i<=bs.length->costTo bs i<=11000001*i
 | 0,_=>by simp[costTo]
 | i+1,hi=>by
  have ih:=A2A h i (by omega);have h2:=h _ (List.getElem_mem (show i<bs.length by omega));rw[AiO (by omega)];omega
theorem ArZ{b:Bl}(ho:∀ x∈b.lines,OwnLn x):∀ (f fr:Nat)(s:LS)(w:List Ln),PInv s w->b.lines.length-fr<f->fr<=b.lines.length->AhY b fr (54-s.page.length)->(placeB b f fr s).pages.length<=s.pages.length+(b.lines.length-fr)
 | 0,fr,s,w,_,h,_,_=>by omega
 | f+1,fr,s,w,h,hf,hfr,hr=>by
  unfold placeB
  by_cases hne:stopL b fr (54-s.page.length)=b.lines.length
  .rw [if_pos hne]
   simp only[addS]; omega
  .rw [if_neg hne]
   obtain⟨h1,h2,⟨w',h3⟩,h4⟩:=ArY ho h hfr hr hne;generalize stopL b fr (54-s.page.length)=tz at h1 h2 h3 h4 |-;have:=ArZ ho f tz _ _ h3 (by omega) (by omega) h4;have e:(breakS b (addS s (partL' b fr tz))).pages.length=s.pages.length+1:=by simp[breakS,addS,flushS]
   omega
theorem AoZ{bs:List Bl}(ho:∀ b∈bs,∀ x∈b.lines,OwnLn x):∀ i,i<=bs.length->(layTo bs i).pages.length<=costTo bs i
 | 0,_=>by simp[layTo]
 | i+1,hi=>by
  have ih:=AoZ ho i (by omega);have hl:i<bs.length:=by omega
  obtain⟨w,h1,_⟩:=AuL ho i (by omega);obtain⟨g,_,h2,h3⟩:=AuK (bs:=bs) (i:=i) (b:=bs[i]) h1;have h4:=ArZ (ho _ (List.getElem_mem hl)) (bs[i].lines.length+1) 0 _ _ h2 (by omega) (by omega) h3;have h5:=(AyG bs i bs[i] (layTo bs i)).1;have h6:(openS bs i bs[i] (layTo bs i)).pages.length=(turnS bs i bs[i] (layTo bs i)).pages.length:=by
   simp only[openS,gapS,firstS]
   split <;> rfl
  simp only[layTo,List.getElem?_eq_getElem hl];rw[AiO hl];omega
theorem BkC(bs:List Bl)(ho:∀ b∈bs,∀ x∈b.lines,OwnLn x):(layL bs).pages.length<=costTo bs bs.length+1:=by
 have:=AoZ ho bs.length (Nat.le_refl _);unfold layL
 split
 .simp [flushS]; omega
 .omega
theorem ApA:∀ (ps:List Pa)(s:List Bl×Bl),(ps.foldl bstep s).1.length<=s.1.length+ps.length
 | [],s=>by simp
 | p::r,s=>by
  have ih:=ApA r (bstep s p);have:(bstep s p).1.length<=s.1.length+1:=by
   unfold bstep
   split
   .simp
   .simp
  simp only[List.foldl_cons,List.length_cons];omega
theorem BeE(x:Sc):(blocksL x).length<=x.paras.length+1:=by
 have:=ApA x.paras ([],⟨0,AbH 60 (headL x),[],[]⟩);simp only[List.length_nil,Nat.zero_add]at this;unfold blocksL blocksS;simp only[List.length_append,List.length_cons,List.length_nil];omega
def qL(l:Ln):Prop:=l.length<=3000100
def qS(s:LS):Prop:=(∀ p∈s.pages,∀ l∈p,qL l)/\∀ l∈s.page,qL l
theorem A2B{s:LS}(h:qS s):qS (flushS s):=by
 refine⟨fun p hp=>?_,by simp[flushS]⟩;simp only[flushS,List.mem_append,List.mem_singleton]at hp
 rcases hp with hp|rfl
 .exact h.1 p hp
 .exact h.2
theorem BkD{s:LS}(h:qS s){l:List Ln}(hl:∀ x∈l,qL x):qS (addS s l):=by
 refine⟨h.1,fun x hx=>?_⟩;simp only[addS,List.mem_append]at hx
 rcases hx with hx|hx
 .exact h.2 x hx
 .exact hl x hx
theorem BtE:qL AcD:=by unfold qL; decide
theorem BtF{b:Bl}(h:b.name.length<=2000):qL (goesLn b):=by
 unfold qL goesLn;rw[List.length_append,AhL]
 simp[A1W]; omega
theorem BqA{b:Bl}(hn:b.name.length<=2000){s:LS}(h:qS s):qS (breakS b s):=by
 unfold breakS;refine BkD (A2B (BkD h fun x hx=>?_)) fun x hx=>?_
 .split at hx
  .rw [List.mem_singleton.1 hx]; exact BtE
  .simp at hx
 .split at hx
  .rw [List.mem_singleton.1 hx]; exact BtF hn
  .simp at hx
theorem BeF{b:Bl}(hb:sizB b):∀ (f fr:Nat)(s:LS),qS s->qS (placeB b f fr s)
 | 0,_,s,h=>h
 | f+1,fr,s,h=>by
  have hp:∀ tz,∀ x∈partL' b fr tz,qL x:=fun tz x hx=>by
   have:=hb.2 x (List.mem_of_mem_take (List.mem_of_mem_drop hx));unfold qL; omega
  unfold placeB
  split
  .exact BkD h (hp _)
  .exact BeF hb f _ _ (BqA hb.1 (BkD h (hp _)))
theorem BtG{bs:List Bl}{i:Nat}{b:Bl}{s:LS}(h:qS s):qS (openS bs i b s):=by
 have h1:qS (turnS bs i b s):=by unfold turnS; split; exact A2B h; exact h
 have h2:qS (firstS i (turnS bs i b s)):=by unfold firstS; split; exact⟨h1.1,h1.2⟩; exact h1
 unfold openS gapS;refine⟨h2.1,fun x hx=>?_⟩;simp only[List.mem_append]at hx
 rcases hx with hx|hx
 .exact h2.2 x hx
 .rw [List.eq_of_mem_replicate hx]; unfold qL; simp
theorem BtH{bs:List Bl}(hb:∀ b∈bs,sizB b):∀ i,i<=bs.length->qS (layTo bs i)
 | 0,_=>⟨by simp[layTo],by simp[layTo]⟩
 | i+1,hi=>by
  have hl:i<bs.length:=by omega
  simp only[layTo,List.getElem?_eq_getElem hl];exact BeF (hb _ (List.getElem_mem hl)) _ _ _ (BtG (BtH hb i (by omega)))
