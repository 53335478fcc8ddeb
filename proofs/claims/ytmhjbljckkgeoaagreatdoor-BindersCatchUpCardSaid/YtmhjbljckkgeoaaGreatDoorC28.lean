/- Lay: the table at the end. -/
import Derived.Test.YtmhjbljckkgeoaaGreatDoorC27
set_option maxRecDepth 100000
set_option maxHeartbeats 8000000
set_option linter.all false
namespace Go.Proofs.YtmhjbljckkgeoaaGreatDoor
open Av RowKit Proofs.Tryz
def layF(s:LS)(pg:AV)(b7:Blk):LB :=
 .arr 3 [.agg [.raw (.slice none 0 0),.raw (.slice none 0 0),.raw (.slice none 0 0)]]::.arr 3 [.agg [.fz 1 (s.Lh.map pgA),.fz 1 (s.Lg.map (.int .i64)),.fz 1 (s.Ll.map (.int .i64))]]::.arr 1 [pg]::.arr 1 [.int .i64 s.first]::.dead::.dead::.dead::[b7]
def isF(x:AV):Prop:=∀ id l,id<7->frzC id 1 l x=x
theorem BlR(a b c:Nat)(P:LY)(h:a=P.length):frzC 4 1 P (.agg [.sl 4 0 a a,.sl 5 0 b b,.sl 6 0 c c])=.agg [.fz 1 P,.sl 5 0 b b,.sl 6 0 c c]:=by
 grind[frzC,frz1]
theorem BlS(b c:Nat)(A P:LY)(h:b=P.length):frzC 5 1 P (.agg [.fz 1 A,.sl 5 0 b b,.sl 6 0 c c])=.agg [.fz 1 A,.fz 1 P,.sl 6 0 c c]:=by
 simp_all[frzC,frz1]
theorem frz_out6(c:Nat)(A B P:LY)(h:c=P.length):frzC 6 1 P (.agg [.fz 1 A,.fz 1 B,.sl 6 0 c c])=.agg [.fz 1 A,.fz 1 B,.fz 1 P]:=by
 simp_all[frzC,frz1]
theorem AhD(l:List (List Ln)):(flat (l.map pgA)).all Av.frozen=true:=by
 induction l<;>grind[flat,cellsOf,pgA,Av.frozen]
theorem AoD(l:List Int):(flat (l.map (AV.int .i64))).all Av.frozen=true:=by
 induction l<;>grind[flat,cellsOf,Av.frozen]
theorem AxP{c:Cx}{e e':Env}(s:LS){pg:AV}{b7:Blk}(hp:isF pg)(hb:∀ id l,id<7->frzB id 1 l b7=b7)
  (hw:wk (frzE 6 1 (s.Ll.map (.int .i64)) (frzE 5 1 (s.Lg.map (.int .i64)) (frzE 4 1 (s.Lh.map pgA) e))) e'):Shift c e (layT s pg b7 []) e' (layF s pg b7):=by
 have hz:∀ id l,frzB id 1 l (.arr 3 [.agg [.raw (.slice none 0 0),.raw (.slice none 0 0),.raw (.slice none 0 0)]])=.arr 3 [.agg [.raw (.slice none 0 0),.raw (.slice none 0 0),.raw (.slice none 0 0)]]:=fun _ _=>rfl
 have hi:∀ id l (n:Int),frzB id 1 l (.arr 1 [.int .i64 n])=.arr 1 [.int .i64 n]:=fun _ _ _=>rfl
 have hg:∀ id l,id<7->frzB id 1 l (.arr 1 [pg])=.arr 1 [pg]:=fun id l h=>by simp only[frzB,lak,lao,hp id l h]
 have hn:∀ id l (xs:List Int),frzB id 1 l (.arr 1 (xs.map (.int .i64)))=.arr 1 (xs.map (.int .i64)):=fun id l xs=>by simp only[frzB]; rw[AcZ (fun _=>rfl)]
 refine Shift.trans (Shift.frz 4 rfl (AhD _)) ?_;have t1:(List.set (layT s pg b7 []) 4 .dead).map (frzB 4 1 (s.Lh.map pgA))=.arr 3 [.agg [.raw (.slice none 0 0),.raw (.slice none 0 0),.raw (.slice none 0 0)]]::.arr 3 [.agg [.fz 1 (s.Lh.map pgA),.sl 5 0 s.Lg.length s.Lg.length,.sl 6 0 s.Ll.length s.Ll.length]]::.arr 1 [pg]::.arr 1 [.int .i64 s.first]::.dead::.arr 1 (s.Lg.map (.int .i64))::.arr 1 (s.Ll.map (.int .i64))::[b7]:=by
  show frzB 4 1 _ _::frzB 4 1 _ (.arr 3 [_])::frzB 4 1 _ _::frzB 4 1 _ _::frzB 4 1 _ _::frzB 4 1 _ _::frzB 4 1 _ _::[frzB 4 1 _ _]=_
  grind[frzB,BlR]
 rw[t1];refine Shift.trans (Shift.frz 5 rfl (AoD _)) ?_;have t2:(List.set (Blk.arr 3 [.agg [.raw (.slice none 0 0),.raw (.slice none 0 0),.raw (.slice none 0 0)]]::.arr 3 [.agg [.fz 1 (s.Lh.map pgA),.sl 5 0 s.Lg.length s.Lg.length,.sl 6 0 s.Ll.length s.Ll.length]]::.arr 1 [pg]::.arr 1 [.int .i64 s.first]::.dead::.arr 1 (s.Lg.map (.int .i64))::.arr 1 (s.Ll.map (.int .i64))::[b7]) 5 .dead).map (frzB 5 1 (s.Lg.map (.int .i64))) =
   .arr 3 [.agg [.raw (.slice none 0 0),.raw (.slice none 0 0),.raw (.slice none 0 0)]]::.arr 3 [.agg [.fz 1 (s.Lh.map pgA),.fz 1 (s.Lg.map (.int .i64)),.sl 6 0 s.Ll.length s.Ll.length]]::.arr 1 [pg]::.arr 1 [.int .i64 s.first]::.dead::.dead::.arr 1 (s.Ll.map (.int .i64))::[b7]:=by
  simp_all[frzB,BlS]
 rw[t2];refine Shift.trans (Shift.frz 6 rfl (AoD _)) ?_
 simp_all[frzB,layF,frz_out6,Ls]
theorem BwK(bs:List Bl)(hb:∀ b∈bs,BlFit b)(hk:∀ b∈bs,BlOk b)(hc:costTo bs bs.length<=1000000000000)(hl:bs.length<=1000000) :
  Pc prog 125 [.fz 4 (bs.map blA)] (· = .agg [.fz 1 ((layL bs).Lh.map pgA),.fz 1 ((layL bs).Lg.map (.int .i64)),.fz 1 ((layL bs).Ll.map (.int .i64))]):=by
 have hlay:=AnZ (bs:=bs) (fun b h=>(hk b h).own);refine zpIF func125 rfl fun h ρ w=>?_
 simp only[go_sem,laa];refine AaC (ι:=Nat) (fun i=>bs.length-i)
  (fun i=>[(15,.int .i64 i),(14,.int .i64 bs.length),(13,.fz 4 (bs.map blA)),(6,.fn (.func 176) [.ptr 1 1 0 0,.ptr 2 1 0 0,.ptr 3 1 0 0]),(5,.ptr 3 1 0 0),(4,.ptr 2 1 0 0),(3,.ptr 1 1 0 0),(2,.ptr 0 1 0 0),(0,.fz 4 (bs.map blA))])
  (fun i=>layS (layTo bs i) []) (fun i=>i<=bs.length/\(layTo bs i).Lh.length<=costTo bs i/\(layTo bs i).Lg.length=(layTo bs i).Lh.length/\(layTo bs i).Ll.length=i) 0 ⟨by omega,by simp[layTo],rfl,rfl⟩ ?_ ?_
 .refine Shift.trans (Shift.cells 1 1 [.agg [.sl 4 0 0 0,.raw (.slice none 0 0),.raw (.slice none 0 0)]] rfl rfl (by simp[cellsOf]) ⟨.sl,.refl,.refl,trivial⟩) ?_
  refine Shift.trans (Shift.cells 1 1 [.agg [.sl 4 0 0 0,.sl 5 0 0 0,.raw (.slice none 0 0)]] rfl rfl (by simp[cellsOf]) ⟨.refl,.sl,.refl,trivial⟩) ?_;refine Shift.trans (Shift.cells 1 1 [.agg [.sl 4 0 0 0,.sl 5 0 0 0,.sl 6 0 0 0]] rfl rfl (by simp[cellsOf]) ⟨.refl,.refl,.sl,trivial⟩) ?_;refine Shift.trans (Shift.cells 2 1 [.sl 7 0 0 0] rfl rfl (by simp[cellsOf]) ⟨.sl,trivial⟩) ?_;refine Lu ?_ rfl;simp only[go_sem]
 .rintro i ⟨g1,g2,g3,g4⟩ J hJ
  obtain⟨w0,hP,_⟩:=hlay i g1
  by_cases gi:i<bs.length
  .have di:decide ((i:Int)<(bs.length:Int))=true:=by simp; omega
   have hg':List.getD (List.map blA bs) i .any=.agg [.int .i64 bs[i].kind,.fz 1 (bs[i].Lb.map .str),.fz 1 (bs[i].kinds.map (.int .i64)),.str bs[i].name]:=by simp[List.getD,gi,blA]
   have hbi:=hb _ (lac gi);have hgap:=BwI bs[i];have hhead:=BsL bs i gi hb (by omega);simp only[blA]at hgap;have hgn:(if bs[i].kind==0 then(2:Int) else 1)=((gapN bs[i]:Nat):Int):=by unfold gapN; split <;> rfl
   rw[hgn]at hgap;have hcm:=AiG bs g1;have hpl:=hP.len;generalize hs:layTo bs i=s at g2 g3 g4 hP hpl |-;simp only[layS,layT];apply zgF;simp only[go_sem,di,hg',laa]
   repeat refine aqb ?_
   refine AaL (hgap) rfl rfl rfl (goF rfl 4 ?_);simp only[go_sem];have hbA:Blk.arr 4 [AV.agg [.int .i64 bs[i].kind,.fz 1 (bs[i].Lb.map .str),.fz 1 (bs[i].kinds.map (.int .i64)),.str bs[i].name]]=.arr 4 [blA bs[i]]:=rfl;refine acut (ι:=Unit)
    (fun _=>[(9,.int .i64 (gapN bs[i]:Nat)),(7,.int .i64 i),(8,.ptr 8 1 0 0),(15,.int .i64 i),(14,.int .i64 bs.length),(13,.fz 4 (bs.map blA)),(6,.fn (.func 176) [.ptr 1 1 0 0,.ptr 2 1 0 0,.ptr 3 1 0 0]),(5,.ptr 3 1 0 0),(4,.ptr 2 1 0 0),(3,.ptr 1 1 0 0),(2,.ptr 0 1 0 0),(0,.fz 4 (bs.map blA))])
    (fun _=>layS (turnS bs i bs[i] s) [.arr 4 [blA bs[i]]]) (fun _=>True) ?_ ?_
   .intro Jc hJc
    have fc:=hJc () trivial
    by_cases p0:s.Li=[]
    .have dp:decide ((s.Li.length:Int)>0)=false:=by rw[p0]; rfl
     have ht:turnS bs i bs[i] s=s:=by unfold turnS; rw[if_neg (fun h=>h.1 p0)]
     rw[ht]at fc;apply zgF;simp only[go_sem];refine zr [] AaF ?_;simp only[go_sem,dp]
     repeat refine aqb ?_
     apply zgF;simp only[go_sem];refine ainv fc (Lu ?_ rfl);simp only[go_sem]
    .have hp1:0<s.Li.length:=by
      cases hq:s.Li with
      | nil=>exact(p0 hq).elim
      | cons a r=>simp
     have dp:decide ((s.Li.length:Int)>0)=true:=by simp; omega
     have hle:AaN bs[i]<=bs[i].Lb.length+2:=least_le _;have hfit:=hbi.len;have hhd:=BlP (bs:=bs) (i:=i) (b:=bs[i]) (M:=50000000) (fun d hd=>(hb d hd).len);have hgl:gapN bs[i]<=2:=by unfold gapN; split <;> omega
     by_cases hov:s.Li.length+gapN bs[i]+AbU bs i bs[i]>54
     .have dov:decide ((s.Li.length:Int)+(gapN bs[i]:Nat)+(AbU bs i bs[i]:Nat)>54)=true:=by simp; omega
      have ht:turnS bs i bs[i] s=flushS s:=by unfold turnS; rw[if_pos ⟨p0,hov⟩]
      rw[ht]at fc;apply zgF;simp only[go_sem];refine zr [.int .i64 ((AbU bs i bs[i]:Nat):Int)] AaF ?_;simp only[go_sem,dp]
      repeat refine And.intro (by first|omega|exact hhead.at|exact .inl trivial|rfl|(simp; done)|(simp; omega)) ?_
      apply zgF;simp only[go_sem,dov];refine za (AtQ s [.arr 4 [blA bs[i]]] (fun _=>rfl) (by omega) (by omega)) ?_;rintro _ _ ⟨rfl,rfl⟩;apply zgF;simp only[go_sem];refine ainv fc (AlN rfl (flushS s) bs[i] rfl ?_);simp only[renE,renV,ren1,idx,go_sem]
     .have dov:decide ((s.Li.length:Int)+(gapN bs[i]:Nat)+(AbU bs i bs[i]:Nat)>54)=false:=by simp; omega
      have ht:turnS bs i bs[i] s=s:=by unfold turnS; rw[if_neg (fun h=>hov h.2)]
      rw[ht]at fc;apply zgF;simp only[go_sem];refine zr [.int .i64 ((AbU bs i bs[i]:Nat):Int)] AaF ?_;simp only[go_sem,dp]
      repeat refine And.intro (by first|omega|exact hhead.at|exact .inl trivial|rfl|(simp; done)|(simp; omega)) ?_
      apply zgF;simp only[go_sem,dov];refine ainv fc (Lu ?_ rfl);simp only[go_sem]
   .rintro ⟨⟩ _
    obtain⟨hP1,hfit1⟩:=BlQ (bs:=bs) (i:=i) (b:=bs[i]) hP;obtain⟨hm1,hm2,hm3⟩:=turn_many bs i bs[i] s;have hm2:=hm2.2 g3;have htarget:layTo bs (i+1)=placeB bs[i] (bs[i].Lb.length+1) 0 (gapS bs[i] (firstS i (turnS bs i bs[i] s))):=by
     simp only[layTo,lam gi,hs,openS]
    obtain⟨g0,_,hPo,hRo⟩:=AtN (bs:=bs) (i:=i) (b:=bs[i]) hP;rw[openS]at hPo hRo;generalize turnS bs i bs[i] s=s1 at hP1 hfit1 hm1 hm2 hm3 htarget hPo hRo |-;have hgl:gapN bs[i]<=2:=by unfold gapN; split <;> omega
    simp only[layS,layT];refine goF rfl 1 ?_;simp only[go_sem];refine acut (ι:=Unit)
     (fun _=>[(9,.int .i64 (gapN bs[i]:Nat)),(7,.int .i64 i),(8,.ptr 8 1 0 0),(15,.int .i64 i),(14,.int .i64 bs.length),(13,.fz 4 (bs.map blA)),(6,.fn (.func 176) [.ptr 1 1 0 0,.ptr 2 1 0 0,.ptr 3 1 0 0]),(5,.ptr 3 1 0 0),(4,.ptr 2 1 0 0),(3,.ptr 1 1 0 0),(2,.ptr 0 1 0 0),(0,.fz 4 (bs.map blA))])
     (fun _=>layS (firstS i s1) [.arr 4 [blA bs[i]]]) (fun _=>True) ?_ ?_
    .intro Jc hJc
     have fc:=hJc () trivial
     by_cases p1:s1.Li=[]
     .have hf1:firstS i s1=⟨s1.Lh,s1.Lg,s1.Ll,s1.Li,i⟩:=by unfold firstS; rw[if_pos p1]
      have dp:((s1.Li.length:Int)==0)=true:=by rw[p1]; rfl
      rw[hf1]at fc;apply zgF;simp only[go_sem,dp]
      repeat refine aqb ?_
      refine ainv fc (Lu ?_ rfl);simp only[go_sem]
     .have hf1:firstS i s1=s1:=by unfold firstS; rw[if_neg p1]
      have dp:((s1.Li.length:Int)==0)=false:=by
       rw[lax];intro e;exact p1 (lbn (by omega))
      rw[hf1]at fc;apply zgF;simp only[go_sem,dp]
      repeat refine aqb ?_
      refine ainv fc (Lu ?_ rfl);simp only[go_sem]
    .rintro ⟨⟩ _
     have hfp:(firstS i s1).Li=s1.Li/\(firstS i s1).Lh=s1.Lh/\(firstS i s1).Lg=s1.Lg/\(firstS i s1).Ll=s1.Ll:=by unfold firstS; split <;> exact⟨rfl,rfl,rfl,rfl⟩
     have hl1:=hP1.len;generalize firstS i s1=s2 at hfp htarget hPo hRo |-;have q1:s2.Li.length<=54:=by rw[hfp.1]; exact hl1
     have q2:s2.Lh.length<=costTo bs i+1:=by rw[hfp.2.1]; omega
     have q3:s2.Lg.length=s2.Lh.length:=by rw[hfp.2.1,hfp.2.2.1]; exact hm2
     have q4:s2.Ll.length=i:=by rw[hfp.2.2.2,hm3]; exact g4
     have hmul:(gapN bs[i]:Int)*(if(1:Int)<(s2.Li.length:Int) then 1 else(s2.Li.length:Int))=((gapN bs[i]*min s2.Li.length 1:Nat):Int):=by
      rw[Int.natCast_mul]
      congr 1
      split <;> omega
     generalize hGG:gapN bs[i]*min s2.Li.length 1=G at hmul;have hG2:G<=2:=by
      rw[<- hGG];have:min s2.Li.length 1<=1:=Nat.min_le_right _ _
      calc gapN bs[i]*min s2.Li.length 1<=gapN bs[i]*1:=Nat.mul_le_mul_left _ this
       _<=2:=by omega
     simp only[layS,layT];apply zgF;simp only[go_sem,hmul]
     repeat refine aqb ?_
     refine AaC (ι:=Nat) (fun j=>G-j) (fun j=>[(47,.int .i64 j),(46,.int .i64 G),(7,.int .i64 i),(8,.ptr 8 1 0 0),(15,.int .i64 i),(14,.int .i64 bs.length),(13,.fz 4 (bs.map blA)),(6,.fn (.func 176) [.ptr 1 1 0 0,.ptr 2 1 0 0,.ptr 3 1 0 0]),(5,.ptr 3 1 0 0),(4,.ptr 2 1 0 0),(3,.ptr 1 1 0 0),(2,.ptr 0 1 0 0),(0,.fz 4 (bs.map blA))])
      (fun j=>layT s2 (.sl 7 0 (s2.Li.length+j) (s2.Li.length+j)) (.arr 1 ((s2.Li++List.replicate j []).map .str)) [.arr 4 [blA bs[i]]]) (fun j=>j<=G) 0 (by omega) ?_ ?_
     .refine Lu ?_ (by simp[layT])
      simp only[go_sem]
     .intro j gj1 J2 hJ2
      by_cases gj:j<G
      .have dj:decide ((j:Int)<(G:Int))=true:=by simp; omega
       simp only[layT];apply zgF;simp only[go_sem,dj,laa,lbx]
       repeat refine aqb ?_
       first|done|rw[ic j]|trace_state
       refine ainv (hJ2 (j+1) (by omega) (by omega)) ?_;refine Lu ?_ (by simp[layT,List.replicate_succ',Nat.add_assoc]);simp only[go_sem]
      .have dj:decide ((j:Int)<(G:Int))=false:=by simp; omega
       have hj:j=G:=by omega
       subst hj;have hcs:=AiF gi;have hcm2:=AiG bs (show i+1<=bs.length from gi);simp only[layT];apply zgF;simp only[go_sem,dj,laa,lbx]
       repeat refine aqb ?_
       refine AaC (ι:=Nat×LS) (fun y=>bs[i].Lb.length-y.1) (fun y=>[(10,.int .i64 y.1),(7,.int .i64 i),(8,.ptr 8 1 0 0),(15,.int .i64 i),(14,.int .i64 bs.length),(13,.fz 4 (bs.map blA)),(6,.fn (.func 176) [.ptr 1 1 0 0,.ptr 2 1 0 0,.ptr 3 1 0 0]),(5,.ptr 3 1 0 0),(4,.ptr 2 1 0 0),(3,.ptr 1 1 0 0),(2,.ptr 0 1 0 0),(0,.fz 4 (bs.map blA))])
        (fun y=>layS y.2 [.arr 4 [blA bs[i]]])
        (fun y=>y.1<=bs[i].Lb.length/\(∃ w,PInv y.2 w)/\AhN bs[i] y.1 (54-y.2.Li.length)/\y.2.Lg.length=y.2.Lh.length/\y.2.Ll.length=i+1/\y.2.Lh.length+(bs[i].Lb.length-y.1)<=costTo bs i+1+bs[i].Lb.length/\∃ f,bs[i].Lb.length-y.1<f/\placeB bs[i] f y.1 y.2=layTo bs (i+1))
        (0,gapS bs[i] s2) ⟨by simp only; omega,⟨_,hPo⟩,hRo,q3,by simp only[gapS,lah,lal,laq,q4],by simp only[gapS]; omega,_,by simp only; omega,htarget.symm⟩ ?_ ?_
       .refine Lu ?_ (by simp[layS,layT,gapS,hGG])
        simp only[go_sem]
       .rintro ⟨fr,st⟩ ⟨r1,⟨wst,r2⟩,r3,r4,r5,r6,f,r7,r8⟩ J3 hJ3
        simp only at r1 r2 r3 r4 r5 r6 r7 r8 hJ3 |-;have rl:=r2.len;have hroom:(54:Int)-(st.Li.length:Int)=((54-st.Li.length:Nat):Int):=by omega
        have hstop:=BsM bs[i] hbi fr (54-st.Li.length) r1 r3 (by omega);have hspec:=AnY r3 r1;have hps:=ArB (hk _ (lac gi)).own r2 r1 r3;have hnl:=hbi.len
        cases f with
        | zero=>omega
        | succ f =>
         simp only[placeB]at r8;generalize hz:stopL bs[i] fr (54-st.Li.length)=tz at hstop hspec hps r8;have hzl:fr<=tz/\tz<=bs[i].Lb.length:=by omega
         have hpart:List.drop fr (List.take tz (bs[i].Lb.map AV.str))=(partL' bs[i] fr tz).map AV.str:=by
          rw[partL',List.map_drop,List.map_take]
         have hpln:(partL' bs[i] fr tz).length=tz-fr:=AhC _ hzl.2;simp only[blA]at hstop;simp only[layS,layT,blA];apply zgF;simp only[go_sem,hroom,laa]
         repeat refine aqb ?_
         refine zpF (hstop) ?_;simp only[go_sem,laa];refine zr [] AaF ?_;simp only[go_sem,hpart,hpln,laa]
         repeat refine aqb ?_
         have el:(st.Li++partL' bs[i] fr tz).length=st.Li.length+(tz-fr):=by rw[lah,hpln]
         rw[<- el,<- laf];refine AWp.shift (e':=[(11,.int .i64 tz),(10,.int .i64 fr),(7,.int .i64 i),(8,.ptr 8 1 0 0),(15,.int .i64 i),(14,.int .i64 bs.length),(13,.fz 4 (bs.map blA)),(6,.fn (.func 176) [.ptr 1 1 0 0,.ptr 2 1 0 0,.ptr 3 1 0 0]),(5,.ptr 3 1 0 0),(4,.ptr 2 1 0 0),(3,.ptr 1 1 0 0),(2,.ptr 0 1 0 0),(0,.fz 4 (bs.map blA))]) (s':=layS (addS st (partL' bs[i] fr tz)) [.arr 4 [blA bs[i]]]) (Lu ?_ rfl) ?_
         .simp only [go_sem]
         have hsp:(addS st (partL' bs[i] fr tz)).Lh=st.Lh/\(addS st (partL' bs[i] fr tz)).Lg=st.Lg/\(addS st (partL' bs[i] fr tz)).Ll=st.Ll/\(addS st (partL' bs[i] fr tz)).Li.length<=54+bs[i].Lb.length:=⟨rfl,rfl,rfl,by simp only[addS]; rw[el]; omega⟩;generalize addS st (partL' bs[i] fr tz)=st1 at r8 hps hsp |-
         by_cases hzn:tz=bs[i].Lb.length
         .have dz:((tz:Int)==(bs[i].Lb.length:Int))=true:=by rw[hzn]; simp
          rw[if_pos hzn]at r8;have fin:=hJ (i+1) ⟨gi,by rw[<- r8,hsp.1]; omega,by rw[<- r8,hsp.1,hsp.2.1]; exact r4,by rw[<- r8,hsp.2.2.1]; exact r5⟩ (by omega);rw[<- r8]at fin;simp only[layS,layT,blA]at fin |-;apply zgF;simp only[go_sem,dz,laa]
          repeat refine aqb ?_
          rw[ic i];refine ainv fin ?_;refine A8A rfl st1 (.arr 4 [blA bs[i]]) ?_;simp only[go_sem]
          first|done|trace_state
         .have dz:((tz:Int)==(bs[i].Lb.length:Int))=false:=by rw[lax]; omega
          rw[if_neg hzn]at r8;obtain⟨z1,z2,z3,z4⟩:=hps hzn;simp only[layS,layT,blA];refine goF rfl 18 ?_;simp only[go_sem,dz,laa]
          repeat refine aqb ?_
          have hgo:=BdN bs[i] (by have:=hbi.name; omega);simp only[blA]at hgo;refine acut (ι:=Unit) (fun _=>[(11,.int .i64 tz),(10,.int .i64 fr),(7,.int .i64 i),(8,.ptr 8 1 0 0),(15,.int .i64 i),(14,.int .i64 bs.length),(13,.fz 4 (bs.map blA)),(6,.fn (.func 176) [.ptr 1 1 0 0,.ptr 2 1 0 0,.ptr 3 1 0 0]),(5,.ptr 3 1 0 0),(4,.ptr 2 1 0 0),(3,.ptr 1 1 0 0),(2,.ptr 0 1 0 0),(0,.fz 4 (bs.map blA))])
           (fun _=>layS (addS st1 (if bs[i].kind==3 then[AbH] else[])) [.arr 4 [blA bs[i]]]) (fun _=>True) ?_ ?_
          .intro Jc hJc
           have fc:=hJc () trivial
           cases k3:bs[i].kind==3 with
           | true =>
            simp only[k3,if_true]at fc;apply zgF;simp only[go_sem,k3];refine zr [.str AbH] AaF ?_;simp only[go_sem]
            repeat refine And.intro (by first|omega|exact more_pc.at|exact .inl trivial|rfl|(simp; done)|(simp; omega)) ?_
            apply zgF;simp only[go_sem];refine ainv fc ?_;refine Lu ?_ (by simp[layS,layT,addS,blA]);simp only[go_sem]
           | false =>
            have hn:addS st1 []=st1:=by simp[addS]
            simp only[k3,lan,if_false,hn]at fc;apply zgF;simp only[go_sem,k3];refine ainv fc (Lu ?_ rfl);simp only[go_sem]
          .rintro ⟨⟩ _
           have hJ4:=hJ3 (tz,breakS bs[i] st1);have hbr:breakS bs[i] st1=addS (flushS (addS st1 (if bs[i].kind==3 then[AbH] else[]))) (if bs[i].kind==3 then[goesLn bs[i]] else[]):=rfl;have hst2:(addS st1 (if bs[i].kind==3 then[AbH] else[])).Lh=st1.Lh/\(addS st1 (if bs[i].kind==3 then[AbH] else[])).Lg=st1.Lg/\(addS st1 (if bs[i].kind==3 then[AbH] else[])).Ll=st1.Ll:=⟨rfl,rfl,rfl⟩;generalize addS st1 (if bs[i].kind==3 then[AbH] else[])=st2 at hbr hst2 |-;have fin:=hJ4 ⟨by simp only; omega,z3,z4,by rw[hbr]; simp only[addS,flushS,lah,lal,laq,hst2.1,hst2.2.1,hsp.1,hsp.2.1,r4],by rw[hbr]; simp only[addS,flushS,hst2.2.2,hsp.2.2.1,r5],by rw[hbr]; simp only[addS,flushS,lah,lal,laq,hst2.1,hsp.1]; omega,f,by simp only; omega,r8⟩ (by simp only; omega);rw[hbr]at fin;simp only[layS,layT];apply zgF;simp only[go_sem];refine za (AtQ st2 [.arr 4 [blA bs[i]]] (fun _=>rfl) (by rw[hst2.1,hsp.1]; omega) (by rw[hst2.2.1,hsp.2.1]; omega)) ?_;rintro _ _ ⟨rfl,rfl⟩;refine AWp.shift (AlN rfl (flushS st2) bs[i] rfl (e':=[(11,.int .i64 tz),(10,.int .i64 fr),(7,.int .i64 i),(8,.ptr 8 1 0 0),(15,.int .i64 i),(14,.int .i64 bs.length),(13,.fz 4 (bs.map blA)),(6,.fn (.func 176) [.ptr 1 1 0 0,.ptr 2 1 0 0,.ptr 3 1 0 0]),(5,.ptr 3 1 0 0),(4,.ptr 2 1 0 0),(3,.ptr 1 1 0 0),(2,.ptr 0 1 0 0),(0,.fz 4 (bs.map blA))]) ?_) ?_
           .simp only[renE,renV,ren1,idx,go_sem]
           cases k3:bs[i].kind==3 with
           | true =>
            simp only[k3,if_true]at fin;simp only[layS,layT,blA];apply zgF;simp only[go_sem,k3];have hfz:(flushS st2).Li=[]:=rfl;refine zr [.str (goesLn bs[i])] AaF ?_;simp only[go_sem,hfz]
            repeat refine And.intro (by first|omega|exact hgo.at|exact .inl trivial|rfl|(simp; done)|(simp; omega)) ?_
            apply zgF;simp only[go_sem];refine ainv fin ?_;refine Lu ?_ (by simp[layS,layT,addS,blA,hfz]);simp only[go_sem]
           | false =>
            have hn:∀ s:LS,addS s []=s:=fun s=>by simp[addS]
            simp only[k3,lan,if_false,hn]at fin;simp only[layS,layT,blA];apply zgF;simp only[go_sem,k3];refine ainv fin (Lu ?_ rfl);simp only[go_sem]
  .have di:decide ((i:Int)<(bs.length:Int))=false:=by simp; omega
   have hi:i=bs.length:=by omega
   subst hi;have hLL:layL bs=(if(layTo bs bs.length).Li≠[] then flushS (layTo bs bs.length) else layTo bs bs.length):=rfl;have hcm:=AiG bs (lab bs.length);rw[hLL];generalize layTo bs bs.length=s at g2 g3 g4 |-
   by_cases p0:s.Li=[]
   .have dp:decide ((s.Li.length:Int)>0)=false:=by rw[p0]; rfl
    rw[if_neg (by simpa using p0)];unfold layS;refine AWp.shift (AxP s (e':=[(15,.int .i64 (bs.length:Nat)),(14,.int .i64 bs.length),(13,.fz 4 (bs.map blA)),(6,.fn (.func 176) [.ptr 1 1 0 0,.ptr 2 1 0 0,.ptr 3 1 0 0]),(5,.ptr 3 1 0 0),(4,.ptr 2 1 0 0),(3,.ptr 1 1 0 0),(2,.ptr 0 1 0 0)]) (fun id l h=>?_) (fun id l h=>?_) ?_) ?_
    .have:(7==id)=false:=by rw[lax]; omega
     simp[frzC,frz,frz1,this]
    .simp only [frzB]
     rw[AcZ (fun _=>rfl)]
    .simp only[frzE,frzC,frz,frz1,go_sem]
    simp only[layF];apply zgF;simp only[go_sem,di,dp,laa]
    repeat refine aqb ?_
    exact AbF [.cell 2 170] rfl [_] ⟨by simp only[go_sem,sideIs],trivial⟩ ⟨rfl,rfl⟩
   .have hp1:0<s.Li.length:=by
     cases hq:s.Li with
     | nil=>exact(p0 hq).elim
     | cons a r=>simp
    have dp:decide ((s.Li.length:Int)>0)=true:=by simp; omega
    rw[if_pos (by simpa using p0)];simp only[layS,layT];apply zgF;simp only[go_sem,di,dp,laa]
    repeat refine aqb ?_
    refine za (AtQ s [] (fun _=>rfl) (by omega) (by omega)) ?_;rintro _ _ ⟨rfl,rfl⟩;refine AWp.shift (AxP (flushS s) (e':=[(15,.int .i64 (bs.length:Nat)),(14,.int .i64 bs.length),(13,.fz 4 (bs.map blA)),(6,.fn (.func 176) [.ptr 1 1 0 0,.ptr 2 1 0 0,.ptr 3 1 0 0]),(5,.ptr 3 1 0 0),(4,.ptr 2 1 0 0),(3,.ptr 1 1 0 0),(2,.ptr 0 1 0 0)]) (fun id l h=>rfl) (fun id l h=>rfl) ?_) ?_
    .simp only[frzE,frzC,frz,frz1,go_sem]
    simp only[layF];apply zgF;simp only[go_sem]
    repeat refine aqb ?_
    exact AbF [.cell 2 170] rfl [_] ⟨by simp only[go_sem,sideIs],trivial⟩ ⟨rfl,rfl⟩
def sizB(b:Bl):Prop:=b.name.length<=2000/\∀ l∈b.Lb,l.length<=3000000
theorem indent_len(n:Nat)(l:LU):(indent n l).length=n+l.length:=by
 grind[indent,AcB]
theorem BlT{p:Pa}(h:p.text.length<=2000):sizB (newB p):=by
 unfold newB
 split
 .exact ⟨by simp,fun l hl=>by grind[wrapL_le]⟩
 .split
  .refine ⟨by simp,fun l hl=>?_⟩<;>grind[turnLine,AcB]
  .refine ⟨h,fun l hl=>?_⟩<;>grind[indent_len]
theorem moreB_siz{b:Bl}{p:Pa}(hb:sizB b)(h:p.text.length<=2000):sizB (moreB b p):=by
 grind[sizB,addB,indent_len,moreB,wrapL_le,asideT]
theorem A8B{x:Sc}(h:LineOk x):∀ b∈blocksL x,sizB b:=by
 obtain⟨e,hr,_,_⟩:=h.sc.run;have ht:=fun p hp=>AmG (A1J _ _ _ hr p hp)
 have hh:=h.head;have h0:sizB ⟨0,wrapL 60 (headL x),[],[]⟩:=⟨by simp,fun l hl=>by grind[wrapL_le]⟩;have hi:(∀ b∈(AfR x).1,sizB b)/\sizB (AfR x).2:=AjC (P:=fun(s:List Bl×Bl)=>(∀ b∈s.1,sizB b)/\sizB s.2) (fun s p h1 h2=>by
  grind[bstep,moreB_siz,BlT]) _ _ ⟨by simp,h0⟩ ht
 grind[blocksL]
theorem A1P{bs:List Bl}(h:∀ b∈bs,b.Lb.length<=11000000):∀ i,i<=bs.length->costTo bs i<=11000001*i
 | 0,_=>by simp[costTo]
 | i+1,hi=>by
  have ih:=A1P h i (by omega);have h2:=h _ (lac (show i<bs.length by omega));rw[AiF (by omega)];omega
theorem place_many{b:Bl}(ho:∀ x∈b.Lb,OwnLn x):∀ (f fr:Nat)(s:LS)(w:List Ln),PInv s w->b.Lb.length-fr<f->fr<=b.Lb.length->AhN b fr (54-s.Li.length)->(placeB b f fr s).Lh.length<=s.Lh.length+(b.Lb.length-fr)
 | 0,fr,s,w,_,h,_,_=>by omega
 | f+1,fr,s,w,h,hf,hfr,hr=>by
  unfold placeB
  by_cases hne:stopL b fr (54-s.Li.length)=b.Lb.length
  .rw [if_pos hne]
   simp only[addS]; omega
  .rw [if_neg hne]
   obtain⟨h1,h2,⟨w',h3⟩,h4⟩:=ArB ho h hfr hr hne;generalize stopL b fr (54-s.Li.length)=tz at h1 h2 h3 h4 |-;have:=place_many ho f tz _ _ h3 (by omega) (by omega) h4;have e:(breakS b (addS s (partL' b fr tz))).Lh.length=s.Lh.length+1:=by simp[breakS,addS,flushS]
   omega
theorem lay_many_to{bs:List Bl}(ho:∀ b∈bs,∀ x∈b.Lb,OwnLn x):∀ i,i<=bs.length->(layTo bs i).Lh.length<=costTo bs i
 | 0,_=>by simp[layTo]
 | i+1,hi=>by
  have ih:=lay_many_to ho i (by omega);obtain⟨w,h1,_⟩:=AnZ ho i (by omega);obtain⟨g,_,h2,h3⟩:=AtN (bs:=bs) (i:=i) (b:=bs[i]) h1
  grind[place_many,turn_many,layTo,openS,gapS,firstS,AiF]
theorem BlU(bs:List Bl)(ho:∀ b∈bs,∀ x∈b.Lb,OwnLn x):(layL bs).Lh.length<=costTo bs bs.length+1:=by
 grind[lay_many_to,layL,flushS]
theorem bfold_count:∀ (ps:List Pa)(s:List Bl×Bl),(ps.foldl bstep s).1.length<=s.1.length+ps.length
 | [],s=>by simp
 | p::r,s=>by
  have ih:=bfold_count r (bstep s p);have:(bstep s p).1.length<=s.1.length+1:=by
   unfold bstep
   split
   .simp
   .simp
  simp
  omega
theorem BdY(x:Sc):(blocksL x).length<=x.Ld.length+1:=by
 grind[bfold_count,blocksL,AfR]
def qL(l:Ln):Prop:=l.length<=3000100
def qS(s:LS):Prop:=(∀ p∈s.Lh,∀ l∈p,qL l)/\∀ l∈s.Li,qL l
theorem q_flush{s:LS}(h:qS s):qS (flushS s):=by
 refine⟨fun p hp=>?_,by simp[flushS]⟩;simp only[flushS,lbq,List.mem_singleton]at hp
 rcases hp with hp|rfl
 .exact h.1 p hp
 .exact h.2
theorem q_add{s:LS}(h:qS s){l:List Ln}(hl:∀ x∈l,qL x):qS (addS s l):=by
 refine⟨h.1,fun x hx=>?_⟩;simp only[addS,lbq]at hx
 rcases hx with hx|hx
 .exact h.2 x hx
 grind
theorem q_more:qL AbH:=by unfold qL; decide
theorem BwL{b:Bl}(h:b.name.length<=2000):qL (goesLn b):=by
 unfold qL goesLn;rw[lah,indent_len]
 simp[A1N]; omega
theorem BsN{b:Bl}(hn:b.name.length<=2000){s:LS}(h:qS s):qS (breakS b s):=by
 grind[breakS,q_add,q_flush,q_more,BwL]
theorem BdZ{b:Bl}(hb:sizB b):∀ (f fr:Nat)(s:LS),qS s->qS (placeB b f fr s)
 | 0,_,s,h=>h
 | f+1,fr,s,h=>by
  have hp:∀ tz,∀ x∈partL' b fr tz,qL x:=fun tz x hx=>by
   have:=hb.2 x (lat (lav hx));unfold qL; omega
  unfold placeB
  split
  .exact q_add h (hp _)
  .exact BdZ hb f _ _ (BsN hb.1 (q_add h (hp _)))
theorem BwM{bs:List Bl}{i:Nat}{b:Bl}{s:LS}(h:qS s):qS (openS bs i b s):=by
 grind[qS,turnS,q_flush,firstS,openS,gapS,qL]
theorem BwN{bs:List Bl}(hb:∀ b∈bs,sizB b):∀ i,i<=bs.length->qS (layTo bs i)
 | 0,_=>⟨by simp[layTo],by simp[layTo]⟩
 | i+1,hi=>by
  have hl:i<bs.length:=by omega
  simp only[layTo,lam hl];exact BdZ (hb _ (lac hl)) _ _ _ (BwM (BwN hb i (by omega)))
