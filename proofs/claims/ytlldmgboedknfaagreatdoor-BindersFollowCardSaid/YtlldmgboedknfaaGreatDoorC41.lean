/- releafed, walked. -/
import Derived.Test.YtlldmgboedknfaaGreatDoorC40
set_option maxRecDepth 100000
set_option maxHeartbeats 8000000
set_option linter.unusedSimpArgs false
set_option linter.unusedVariables false
namespace Go.Proofs.YtlldmgboedknfaaGreatDoor
open Go Go.Av Go.RowKit _root_.Go.Proofs.Tryz
def relT(d:Dr)(x:Sr)(b:Blk):List Blk:=[.arr 5 [drA d],.arr 2 [srA x],.arr 5 [drZ],b]
def nwA(no:Int)(ti:List UInt8)(ys:List Sc)(gone:List (List UInt8))(lv:AV):AV:=.agg [.int .i64 no,.str ti,.fz 5 (ys.map scA),.fz 1 (gone.map .str),lv]
def RelR(d:Dr)(x:Sr)(no:Int)(ti:List UInt8)(ys:List Sc)(gone:List (List UInt8))(E:List (List UInt8))(r:AV)(s:List Blk):Prop :=
 (∃ (e:Int) (D:Blk) (T:List Blk),e≠0/\r=.int .i64 e/\s=relT d x D++T) \/
 (∃ la l,relTo ys E d.leaves no ((runsL d.leaves).length+1)=some (la,l)/\l.length<=1500/\r=.int .i64 0/\s=relT d x (.arr 5 [nwA no ti ys gone (.fz 4 ((l.map (fixL d.leaves)).map leA))]))
def startsA(E:List (List UInt8))(lv:List Le')(i:Nat):List AV:=(List.range i).map fun k=>.int .i64 (stI E lv k:Int)
def namesA(lv:List Le')(i:Nat):List AV:=(List.range i).map fun k=>.fz 1 ((nmI lv k).map .str)
theorem AlX(E:List (List UInt8))(lv:List Le')(i:Nat):startsA E lv (i+1)=startsA E lv i++[.int .i64 (stI E lv i:Int)]:=by simp[startsA,List.range_succ]
theorem A2W(lv:List Le')(i:Nat):namesA lv (i+1)=namesA lv i++[.fz 1 ((nmI lv i).map .str)]:=by simp[namesA,List.range_succ]
theorem AiR(E:List (List UInt8))(lv:List Le')(i:Nat):(startsA E lv i).length=i:=by simp[startsA]
theorem namesA_len(lv:List Le')(i:Nat):(namesA lv i).length=i:=by simp[namesA]
theorem AqA{E:List (List UInt8)}{lv:List Le'}{i k:Nat}(h:k<i):List.getD (startsA E lv i) k .any=.int .i64 (stI E lv k:Int):=by simp[startsA,List.getD,h]
theorem A8S{lv:List Le'}{i k:Nat}(h:k<i):List.getD (namesA lv i) k .any=.fz 1 ((nmI lv k).map .str):=by simp[namesA,List.getD,h]
theorem AcZ(m:Nat)(E:List (List UInt8))(lv:List Le')(i:Nat):lowB m (.arr 1 (startsA E lv i))=true:=AbL (by
 unfold startsA;generalize List.range i=l
 induction l with
 | nil=>rfl
 | cons y l ih=>simpa[flat,cellsOf,Av.frozen]using ih)
theorem AeD(m:Nat)(lv:List Le')(i:Nat):lowB m (.arr 1 (namesA lv i))=true:=AbL (by
 unfold namesA;generalize List.range i=l
 induction l with
 | nil=>rfl
 | cons y l ih=>simpa[flat,cellsOf,Av.frozen]using ih)
theorem AqB(l:List Le'):(flat (l.map fun f=>AV.str f.name)).all Av.frozen=true:=by
 induction l with
 | nil=>rfl
 | cons y l ih=>simpa[flat,cellsOf,Av.frozen]using ih
theorem AfV(m:Nat)(l:List Le'):lowB m (.arr 1 (l.map fun f=>.str f.name))=true:=AbL (AqB l)
theorem AzF{St:Std}(hS:LibOk St)(d:Dr)(x:Sr)(no:Int)(ti:List UInt8)(ys:List Sc)(gone E:List (List UInt8))(hE:EntOf ⟨no,ti,ys,gone,[]⟩ E)(hR:RelOk ys E d.leaves)(hgl:gone.length<=1000) :
  CtH prog St 29 [drA d,.ptr 3 1 0 0] (relT d x (.arr 5 [nwA no ti ys gone (.raw (.slice none 0 0))])) (RelR d x no ti ys gone E):=by
 have hyl:=hR.md.few;have hEl:=hR.md.fewN;have hen:=AiL no ti ys gone E hE hgl (by omega) (.slice none 0 0) rfl;have hru:=BeH d.leaves hR.few;have hRl:=AhN d.leaves d.leaves.length;have hlf:=hR.few;have hstl:=@BfF ys E d.leaves hR;unfold RelR;obtain⟨dno,dti,dsc,dgo,lv⟩:=d;simp only at hR hru hRl hlf hstl hE;simp only[relT,nwA,drA,srA,drZ];refine zdIB func29 rfl fun h ρ w hg=>?_
 simp only[go_sem];refine zpB (hen) ?_;simp only[go_sem];refine zpW (hru) ?_;simp only[go_sem,List.length_map];have hn1:(runsL lv).length<=100000:=Nat.le_trans hRl hlf;generalize hRn:(runsL lv).length=n at *;refine AaI (ι:=Nat) (fun i=>n-i)
  (fun i=>[(43,.int .i64 i),(42,.int .i64 n),(41,.fz 2 ((runsL lv).map rnA)),(8,.sl 5 0 (i+1) (i+1)),(7,.sl 4 0 (i+1) (i+1)),(6,.fz 2 ((runsL lv).map rnA)),(5,.fz 1 (E.map .str)),(2,.pin 5 [.agg [.int .i64 dno,.str dti,.fz 5 (dsc.map scA),.fz 1 (dgo.map .str),.fz 4 (lv.map leA)]] 0 0),(1,.ptr 3 1 0 0)])
  (fun i=>[.arr 5 [.agg [.int .i64 dno,.str dti,.fz 5 (dsc.map scA),.fz 1 (dgo.map .str),.fz 4 (lv.map leA)]],.arr 2 [.agg [.str x.title,.fz 5 (x.scenes.map scA)]],.arr 5 [.agg [.int .i64 0,.str [],.raw (.slice none 0 0),.raw (.slice none 0 0),.raw (.slice none 0 0)]],.arr 5 [.agg [.int .i64 no,.str ti,.fz 5 (ys.map scA),.fz 1 (gone.map .str),.raw (.slice none 0 0)]],.arr 1 (startsA E lv (i+1)),.arr 1 (namesA lv (i+1)),.arr 4 []]) (fun i=>i<=n) 0 (by simp) ?_ ?_
 .refine Shift.trans (Shift.cells 5 4 [.fz 1 []] rfl rfl (by simp[cellsOf]) ⟨.fz,trivial⟩) (Shift.weakS ?_ (by simp[startsA,namesA,stI,nmI]))
  simp only[go_sem]
 .intro i g1 J hJ
  by_cases gi:i<n
  .have di:decide ((i:Int)<(n:Int))=true:=by rw[decide_eq_true_eq]; omega
   have gr:i<(runsL lv).length:=by omega
   have hrg:=A2G gr;have hri:=(AcQ lv).one i gr;have hst1:stI E lv (i+1)=ixN E (fst lv (rat (runsL lv) i).1):=by
    unfold stI;rw[if_neg (by omega),if_pos (by omega),Nat.add_sub_cancel]
   have hnm1:nmI lv (i+1)=((lv.take (rat (runsL lv) i).2).drop (rat (runsL lv) i).1).map (·.name):=by
    unfold nmI;rw[if_neg (by omega),Nat.add_sub_cancel]
   have hss:=AlX E lv (i+1);have hns:=A2W lv (i+1);rw[hst1]at hss;rw[hnm1]at hns;have hind:=AmR E (fst lv (rat (runsL lv) i).1) (by omega);rw[(ApG (hR.mem i gr)).choose_spec.2]at hind;obtain⟨nm,dr,ls,hle⟩:∃ nm dr ls,List.getD (lv.map leA) (rat (runsL lv) i).1 .any=.agg [.str nm,.int .i64 dr,.str (fst lv (rat (runsL lv) i).1),.fz 1 ls]:=by
    have h:(rat (runsL lv) i).1<lv.length:=by omega
    refine⟨lv[(rat (runsL lv) i).1].name,lv[(rat (runsL lv) i).1].draft,lv[(rat (runsL lv) i).1].lines.map .str,?_⟩;rw[AbQ h];simp only[fst,List.getD,List.getElem?_eq_getElem h,Option.getD_some]
   have hr1:=hri.1;have hr2:=hri.2.1;have hdt:List.drop (rat (runsL lv) i).1 (List.take (rat (runsL lv) i).2 (lv.map leA))=((lv.take (rat (runsL lv) i).2).drop (rat (runsL lv) i).1).map leA:=by rw[List.map_drop,List.map_take]
   clear hri hst1 hnm1;generalize fst lv (rat (runsL lv) i).1=fi at *;generalize rat (runsL lv) i=r at *;obtain⟨r1,r2⟩:=r;simp only at hr1 hr2 hrg hdt hns hle hss;generalize hLr:(lv.take r2).drop r1=Lr at *;have hLl:Lr.length=r2-r1:=by rw[<- hLr]; simp; omega
   generalize hix:ixN E fi=ix at *;have hsl:=AiR E lv (i+1);have hnl:=namesA_len lv (i+1);refine zgB ?_;simp only[go_sem,di,hrg,hle,List.length_map,hRn]
   repeat refine aqa ?_
   refine zpB (hind) ?_;simp only[go_sem,hdt,List.length_map]
   repeat refine aqa ?_
   refine AaI (ι:=Nat) (fun j=>Lr.length-j)
    (fun j=>[(64,.int .i64 j),(63,.int .i64 Lr.length),(62,.fz 4 (Lr.map leA)),(12,.sl 8 0 j j),(11,.int .i64 ix),(43,.int .i64 i),(42,.int .i64 n),(41,.fz 2 ((runsL lv).map rnA)),(8,.sl 5 0 (i+1) (i+1)),(7,.sl 4 0 (i+1) (i+1)),(6,.fz 2 ((runsL lv).map rnA)),(5,.fz 1 (E.map .str)),(2,.pin 5 [.agg [.int .i64 dno,.str dti,.fz 5 (dsc.map scA),.fz 1 (dgo.map .str),.fz 4 (lv.map leA)]] 0 0),(1,.ptr 3 1 0 0)])
    (fun j=>[.arr 5 [.agg [.int .i64 dno,.str dti,.fz 5 (dsc.map scA),.fz 1 (dgo.map .str),.fz 4 (lv.map leA)]],.arr 2 [.agg [.str x.title,.fz 5 (x.scenes.map scA)]],.arr 5 [.agg [.int .i64 0,.str [],.raw (.slice none 0 0),.raw (.slice none 0 0),.raw (.slice none 0 0)]],.arr 5 [.agg [.int .i64 no,.str ti,.fz 5 (ys.map scA),.fz 1 (gone.map .str),.raw (.slice none 0 0)]],.arr 1 (startsA E lv (i+1)),.arr 1 (namesA lv (i+1)),.arr 4 [],.arr 2 [.agg [.int .i64 r1,.int .i64 r2]],.arr 1 ((Lr.take j).map fun f=>.str f.name)]) (fun j=>j<=Lr.length) 0 (by simp) ?_ ?_
   .refine Shift.trans (Shift.nilsl 12 1 rfl) (Shift.weakS ?_ (by simp))
    simp only[go_sem]
   .intro j g2 J2 hJ2
    by_cases gj:j<Lr.length
    .have dj:decide ((j:Int)<(Lr.length:Int))=true:=by rw[decide_eq_true_eq]; omega
     have hlj:=AbQ gj;have hfin:=hJ2 (j+1) (by omega) (by omega);have htl:((Lr.take j).map fun f=>AV.str f.name).length=j:=by simp; omega
     have hap:((Lr.take j).map fun f=>AV.str f.name)++[.str Lr[j].name]=(Lr.take (j+1)).map fun f=>.str f.name:=by
      rw[List.take_succ_eq_append_getElem gj]; simp only[List.map_append,List.map_cons,List.map_nil]
     refine zgB ?_;simp only[go_sem,dj,hlj,hap,htl,List.length_map]
     repeat refine aqa ?_
     rw[ic j];refine ainv hfin (Shift.low 9 (by simp) (by simp) ?_ ?_)
     .simp only[go_sem,↓AbA,↓AcZ,↓AeD,↓AfV,lowB,flat]
     .simp only[go_sem]
    .have dj:decide ((j:Int)<(Lr.length:Int))=false:=by rw[decide_eq_false_iff_not]; omega
     have hj:j=Lr.length:=by omega
     subst hj;rw[List.take_length];have hfin:=hJ (i+1) (by omega) (by omega);refine AWp.shift (Shift.freeze 12 (id:=8) rfl rfl (by simp) (Nat.le_refl _) (AqB _)) ?_;have htk:List.take Lr.length (Lr.map fun f=>AV.str f.name)=(Lr.map (·.name)).map AV.str:=by
      rw[List.take_of_length_le (by simp),List.map_map]; rfl
     simp only[List.drop_zero,List.set_cons_succ,List.set_cons_zero,Av.put,htk];refine zgB ?_;simp only[go_sem,dj,hsl,hnl,<- hss,<- hns]
     repeat refine aqa ?_
     rw[ic i];refine ainv hfin (Shift.low 7 (by simp) (by simp) ?_ ?_)
     .simp only[go_sem,↓AbA,↓AcZ,↓AeD,↓AfV,↓AcE,lowB,flat]
     .simp only[go_sem]
  .have di:decide ((i:Int)<(n:Int))=false:=by rw[decide_eq_false_iff_not]; omega
   have hi:i=n:=by omega
   subst hi;have hsl:=AiR E lv (i+1);have hss:=AlX E lv (i+1);have hend:stI E lv ((runsL lv).length+1)=E.length:=by
    unfold stI;rw[if_neg (by omega),if_neg (by omega)]
   rw[hRn]at hend;rw[hend]at hss;generalize hin:i=n at *;refine zgB ?_;simp only[go_sem,di,hsl,namesA_len,<- hss,List.length_map]
   repeat refine aqa ?_
   refine AaI (ι:=Nat×List UInt8×List Le') (fun y=>n+1-y.1)
    (fun y=>[(90,.int .i64 y.1),(89,.int .i64 ((n+1:Nat):Int)),(88,.sl 5 0 (n+1) (n+1)),(15,.str y.2.1),(7,.sl 4 0 (n+2) (n+2)),(6,.fz 2 ((runsL lv).map rnA)),(5,.fz 1 (E.map .str)),(2,.pin 5 [.agg [.int .i64 dno,.str dti,.fz 5 (dsc.map scA),.fz 1 (dgo.map .str),.fz 4 (lv.map leA)]] 0 0),(1,.ptr 3 1 0 0)])
    (fun y=>[.arr 5 [.agg [.int .i64 dno,.str dti,.fz 5 (dsc.map scA),.fz 1 (dgo.map .str),.fz 4 (lv.map leA)]],.arr 2 [.agg [.str x.title,.fz 5 (x.scenes.map scA)]],.arr 5 [.agg [.int .i64 0,.str [],.raw (.slice none 0 0),.raw (.slice none 0 0),.raw (.slice none 0 0)]],.arr 5 [.agg [.int .i64 no,.str ti,.fz 5 (ys.map scA),.fz 1 (gone.map .str),.sl 6 0 y.2.2.length y.2.2.length]],.arr 1 (startsA E lv (n+2)),.arr 1 (namesA lv (n+1)),.arr 4 (y.2.2.map leA)])
    (fun y=>y.1<=n+1/\relTo ys E lv no y.1=some y.2/\RelI y.2/\y.2.2.length<=50000*y.1) (0,[],[]) ⟨by simp,rfl,⟨.inl rfl,by simp,by simp⟩,by simp⟩ ?_ ?_
   .refine Shift.trans (Shift.cellsAt 3 6 [.agg [.int .i64 no,.str ti,.fz 5 (ys.map scA),.fz 1 (gone.map .str),.sl 6 0 0 0]] rfl rfl rfl (by simp[cellsOf]) ⟨.refl,.refl,.refl,.refl,.sl,trivial⟩) (Shift.weakS ?_ (by simp))
    simp only[go_sem]
   clear hJ J;rintro⟨k,la,l⟩ ⟨g2,g3,g4,g5⟩ J hJ;simp only at g2 g3 g4 g5 hJ |-
   by_cases gk:k<n+1
   .have dk:decide ((k:Int)<((n+1:Nat):Int))=true:=by rw[decide_eq_true_eq]; omega
    have hng:=A8S (lv:=lv) gk;have hsg:=AqA (E:=E) (lv:=lv) (show k<n+2 by omega);have hsg1:=AqA (E:=E) (lv:=lv) (show k+1<n+2 by omega);have hnl:=namesA_len lv (n+1);have hsl2:=AiR E lv (n+2);have e1:((k:Int)+1).toNat=k+1:=by omega
    obtain⟨st1,st2⟩:=hstl (k:=k);have hrel:relTo ys E lv no (k+1)=stepR ys E lv no k (la,l):=by simp only[relTo,g3]
    by_cases hst:stI E lv k=stI E lv (k+1)
    .have ds:((stI E lv k:Int)==(stI E lv (k+1):Int))=true:=by rw[beq_iff_eq]; omega
     have hrel2:relTo ys E lv no (k+1)=some (la,l):=by rw[hrel,stepR,if_pos hst]
     have hfin:=hJ (k+1,la,l) ⟨by simp only; omega,hrel2,g4,by simp only; omega⟩ (by simp only; omega);refine zgB ?_;simp only[go_sem,dk,hng,hnl]
     repeat refine aqa ?_
     refine zr [] mixed ?_;simp only[go_sem,hsg,hsg1,hsl2,e1,ds]
     repeat refine aqa ?_
     refine zgB ?_;simp only[go_sem]
     repeat refine aqa ?_
     rw[ic k];refine ainv hfin (Shift.weakS ?_ rfl);simp only[go_sem]
    .have ds:((stI E lv k:Int)==(stI E lv (k+1):Int))=false:=by rw[beq_eq_false_iff_ne]; omega
     refine zgB ?_;simp only[go_sem,dk,hng,hnl]
     repeat refine aqa ?_
     refine zr [] mixed ?_;simp only[go_sem,hsg,hsg1,hsl2,e1,ds]
     repeat refine aqa ?_
     refine goB rfl 9 ?_;simp only[go_sem];have hupn:=BtP hR k;refine amid (κ:=Unit) (fun _=>[(18,.str (upI lv k)),(16,.int .i64 k),(17,.fz 1 ((nmI lv k).map .str)),(15,.str la),(90,.int .i64 k),(89,.int .i64 ((n+1:Nat):Int)),(88,.sl 5 0 (n+1) (n+1)),(7,.sl 4 0 (n+2) (n+2)),(6,.fz 2 ((runsL lv).map rnA)),(5,.fz 1 (E.map .str)),(2,.pin 5 [.agg [.int .i64 dno,.str dti,.fz 5 (dsc.map scA),.fz 1 (dgo.map .str),.fz 4 (lv.map leA)]] 0 0),(1,.ptr 3 1 0 0)])
      (fun _=>[.arr 5 [.agg [.int .i64 dno,.str dti,.fz 5 (dsc.map scA),.fz 1 (dgo.map .str),.fz 4 (lv.map leA)]],.arr 2 [.agg [.str x.title,.fz 5 (x.scenes.map scA)]],.arr 5 [.agg [.int .i64 0,.str [],.raw (.slice none 0 0),.raw (.slice none 0 0),.raw (.slice none 0 0)]],.arr 5 [.agg [.int .i64 no,.str ti,.fz 5 (ys.map scA),.fz 1 (gone.map .str),.sl 6 0 l.length l.length]],.arr 1 (startsA E lv (n+2)),.arr 1 (namesA lv (n+1)),.arr 4 (l.map leA)]) (fun _=>True) ?_ ?_
     .rintro _ _
      have hmdk:CtH prog St 20 [.agg [.int .i64 no,.str ti,.fz 5 (ys.map scA),.fz 1 (gone.map .str),.sl 6 0 l.length l.length],.fz 1 ((sgI E lv k).map .str)] [.arr 5 [.agg [.int .i64 dno,.str dti,.fz 5 (dsc.map scA),.fz 1 (dgo.map .str),.fz 4 (lv.map leA)]],.arr 2 [.agg [.str x.title,.fz 5 (x.scenes.map scA)]],.arr 5 [.agg [.int .i64 0,.str [],.raw (.slice none 0 0),.raw (.slice none 0 0),.raw (.slice none 0 0)]],.arr 5 [.agg [.int .i64 no,.str ti,.fz 5 (ys.map scA),.fz 1 (gone.map .str),.sl 6 0 l.length l.length]],.arr 1 (startsA E lv (n+2)),.arr 1 (namesA lv (n+1)),.arr 4 (l.map leA)]
        (fun r s=>r=.tup [.fz 1 ((pgI' ys E lv k).map pgA),.fz 1 ((firstsI ys (sgI E lv k)).map .str)]/\s=[.arr 5 [.agg [.int .i64 dno,.str dti,.fz 5 (dsc.map scA),.fz 1 (dgo.map .str),.fz 4 (lv.map leA)]],.arr 2 [.agg [.str x.title,.fz 5 (x.scenes.map scA)]],.arr 5 [.agg [.int .i64 0,.str [],.raw (.slice none 0 0),.raw (.slice none 0 0),.raw (.slice none 0 0)]],.arr 5 [.agg [.int .i64 no,.str ti,.fz 5 (ys.map scA),.fz 1 (gone.map .str),.sl 6 0 l.length l.length]],.arr 1 (startsA E lv (n+2)),.arr 1 (namesA lv (n+1)),.arr 4 (l.map leA)]) :=
       CtH.last2 (cs:=[.int .i64 no,.str ti,.fz 5 (ys.map scA)]) rfl rfl fun v w h5 h6=>CtH.impF ((ApC hS no ti ys (sgI E lv k) (ApU hR k) v w h5 h6).cth rfl _) fun r s' h=>⟨h.1,h.2⟩
      have hseg:List.drop (stI E lv k) (List.take (stI E lv (k+1)) (List.map AV.str E))=(sgI E lv k).map .str:=by rw[sgI,List.map_drop,List.map_take]
      have hsne:sgI E lv k≠[]:=fun e=>by
       have:=congrArg List.length e;simp only[sgI,List.length_drop,List.length_take,List.length_nil]at this;omega
      have hP1:=A2S (ApU hR k) hsne;have hP2:=BqM (ApU hR k);have hfl:(firstsI ys (sgI E lv k)).length=(pgI' ys E lv k).length:=by simp only[firstsI,pgI',List.length_map,firsts_pages]
      rw[stepR,if_neg hst]at hrel;have hpl:∀ p∈pgI' ys E lv k,p.length<=54:=fun p hp=>((AhO (ApU hR k)).2 p hp).2
      change 1<=(pgI' ys E lv k).length at hP1
      change (pgI' ys E lv k).length<=50000 at hP2
      have hnmk:=A6B hR k;have hnm:=BeX hS (nmI lv k) (pgI' ys E lv k).length la (upI lv k) hP1 (by omega) hnmk.2.2 hnmk.1 g4.last hupn;have hgo:=fun g=>ApT (g:=g) hP1 (fun n hn=>(hnmk.1 n hn).1) hnmk.2.1 g4.last (upper:=upI lv k)
      simp only at hrel;generalize firstsI ys (sgI E lv k)=fi at *;generalize pgI' ys E lv k=pg at *;refine zgB ?_;simp only[go_sem];refine BcY [14] 99 [] mixed (by decide) rfl rfl 100 ?_;simp only[go_sem,Go.Av.dxn,Go.Av.dxnc,↓Go.Av.AfF,↓Go.Av.AdT,Go.Av.dbrn,hsg,hsg1,hsl2,e1,hseg,List.length_map]
      repeat refine aqa ?_
      refine iccH hg hmdk ⟨_,_,rfl,rfl⟩ ?_;rintro _ _ ⟨rfl,rfl⟩;refine⟨Agr.rfl',?_⟩;simp only[go_sem,Go.Av.dxn,Go.Av.dxnc,↓Go.Av.AfF,↓Go.Av.AdT,Go.Av.dbrn]
      cases hg2:AgS (nmI lv k) pg.length la (upI lv k)with
      | none =>
       rw[hg2]at hnm;simp only[namedA]at hnm;refine zgB ?_;simp only[go_sem,List.length_map]
       repeat refine aqa ?_
       refine zqB hg (hnm) ?_;simp only[go_sem];exact aret [4] rfl (.inl ⟨11,_,_,by decide,rfl,rfl⟩)
      | some g =>
       rw[hg2]at hnm hrel;simp only[namedA]at hnm;simp only at hrel;obtain⟨hgl,hgn⟩:=hgo g hg2;have g0:g.length-1<g.length:=by omega
       have hglast:=AcB g0;have hgd:g.getD (g.length-1) []=g[g.length-1]:=by simp[List.getD,g0]
       rw[hgd]at hrel;have hlv:=hgn _ (List.getElem_mem g0);have hen2:=AdR hS g[g.length-1] (by have:=AbY hlv; omega);have hlast:=(AaJ hlv).2.1;have hfin:=hJ (k+1,(endsL g[g.length-1]).2,l++mkLv no g fi pg pg.length) ⟨by simp only; omega,hrel,⟨.inr hlast,fun f hf=>by
        rcases List.mem_append.1 hf with hf|hf
        .exact g4.names f hf
        .simp only [mkLv,List.mem_map,List.mem_range]at hf
         obtain⟨m,hm,rfl⟩:=hf;exact hgn _ (AcH (by omega)),fun f hf=>by
        rcases List.mem_append.1 hf with hf|hf
        .exact g4.lines f hf
        .simp only [mkLv,List.mem_map,List.mem_range]at hf
         obtain⟨m,hm,rfl⟩:=hf;exact hpl _ (by simp[List.getD,hm])⟩,by simp only[List.length_append,mkLv_len]; omega⟩ (by simp only; omega)
       simp only[List.length_append,mkLv_len]at hfin;have e2:((g.length:Int)-1).toNat=g.length-1:=by omega
       clear hgo hrel hmdk hseg;generalize hLN:g[g.length-1]=lnm at *;refine zgB ?_;simp only[go_sem,List.length_map]
       repeat refine aqa ?_
       refine zqB hg (hnm) ?_;simp only[go_sem,List.length_map]
       repeat refine aqa ?_
       refine AaI (ι:=Nat) (fun m=>pg.length-m)
        (fun m=>[(155,.int .i64 m),(154,.int .i64 pg.length),(153,.fz 1 (pg.map pgA)),(21,.fz 1 (g.map .str)),(20,.fz 1 (fi.map .str)),(90,.int .i64 k),(89,.int .i64 ((n+1:Nat):Int)),(88,.sl 5 0 (n+1) (n+1)),(7,.sl 4 0 (n+2) (n+2)),(6,.fz 2 ((runsL lv).map rnA)),(5,.fz 1 (E.map .str)),(2,.pin 5 [.agg [.int .i64 dno,.str dti,.fz 5 (dsc.map scA),.fz 1 (dgo.map .str),.fz 4 (lv.map leA)]] 0 0),(1,.ptr 3 1 0 0)])
        (fun m=>[.arr 5 [.agg [.int .i64 dno,.str dti,.fz 5 (dsc.map scA),.fz 1 (dgo.map .str),.fz 4 (lv.map leA)]],.arr 2 [.agg [.str x.title,.fz 5 (x.scenes.map scA)]],.arr 5 [.agg [.int .i64 0,.str [],.raw (.slice none 0 0),.raw (.slice none 0 0),.raw (.slice none 0 0)]],.arr 5 [.agg [.int .i64 no,.str ti,.fz 5 (ys.map scA),.fz 1 (gone.map .str),.sl 6 0 (l.length+m) (l.length+m)]],.arr 1 (startsA E lv (n+2)),.arr 1 (namesA lv (n+1)),.arr 4 ((l++mkLv no g fi pg m).map leA)]) (fun m=>m<=pg.length) 0 (by simp) ?_ ?_
       .refine Shift.weakS ?_ (by simp[mkLv])
        simp only[go_sem]
       .intro m g6 J2 hJ2
        by_cases gm:m<pg.length
        .have dm:decide ((m:Int)<(pg.length:Int))=true:=by rw[decide_eq_true_eq]; omega
         have gmg:m<g.length:=by omega
         have gmf:m<fi.length:=by omega
         have hp:=A2E gm;have h1:=AcB gmg;have h2:=AcB gmf;have hln:(List.map leA (l++mkLv no g fi pg m)).length=l.length+m:=by simp[mkLv_len]
         have hap:List.map leA (l++mkLv no g fi pg m)++[.agg [.str g[m],.int .i64 no,.str fi[m],.fz 1 (pg[m].map .str)]]=List.map leA (l++mkLv no g fi pg (m+1)):=by
          rw[mkLv_step,<- List.append_assoc,List.map_append (l₂:=[_])]; simp[leA,List.getD,gm,gmg,gmf]
         have hfm:=hJ2 (m+1) (by omega) (by omega);refine zgB ?_;simp only[go_sem,dm,hp,List.length_map]
         repeat refine aqa ?_
         refine zr [] mixed ?_;simp only[go_sem,h1,h2,hap,hln,List.length_map]
         repeat refine aqa ?_
         refine zgB ?_;simp only[go_sem]
         repeat refine aqa ?_
         rw[show(m:Int)+1=((m+1:Nat):Int) by omega,Nat.add_assoc];refine ainv hfm (Shift.weakS ?_ rfl);simp only[go_sem]
        .have dm:decide ((m:Int)<(pg.length:Int))=false:=by rw[decide_eq_false_iff_not]; omega
         have hm:m=pg.length:=by omega
         subst hm;refine zgB ?_;simp only[go_sem,dm,e2,hglast,List.length_map]
         repeat refine aqa ?_
         refine zqB hg (hen2) ?_;simp only[go_sem]
         repeat refine aqa ?_
         rw[ic k];refine ainv hfin (Shift.weakS ?_ rfl);simp only[go_sem]
     .intro Q hQ
      by_cases kn:k<n
      .have dkn:decide ((k:Int)<(n:Int))=true:=by rw[decide_eq_true_eq]; omega
       have gr:k<(runsL lv).length:=by omega
       have hrg:=A2G gr;have hri:=(AcQ lv).one k gr;have hlt:(rat (runsL lv) k).1<lv.length:=by omega
       have hle:=AbQ hlt;have hup:upI lv k=(endsL lv[(rat (runsL lv) k).1].name).1:=by
        unfold upI;rw[if_pos gr]; simp[List.getD,hlt]
       have hnv:=hR.names _ (List.getElem_mem hlt);have he:=AdR hS lv[(rat (runsL lv) k).1].name (by have:=AbY hnv; omega);have hQ':=hQ () trivial;rw[hup]at hQ';have hr1:=hri.1;have hr2:=hri.2.1;have er:((rat (runsL lv) k).1:Int).toNat=(rat (runsL lv) k).1:=by omega
       clear hri hnv hup;generalize lv[(rat (runsL lv) k).1]=f at *;generalize rat (runsL lv) k=r at *;refine zgB ?_;simp only[go_sem,dkn,hRn,List.length_map]
       repeat refine aqa ?_
       refine zr [.tup [.str (endsL f.name).1,.str (endsL f.name).2]] mixed ?_;simp only[go_sem,hrg,hle,er,hRn,List.length_map]
       repeat refine And.intro (by first|exact he.at hg|omega|exact .inl trivial|rfl|(simp; done)|(simp; omega)) ?_
       refine zgB ?_;simp only[go_sem];refine ainv hQ' (Shift.weakS ?_ rfl);simp only[go_sem]
      .have dkn:decide ((k:Int)<(n:Int))=false:=by rw[decide_eq_false_iff_not]; omega
       have hup:upI lv k=[]:=by
        unfold upI;rw[if_neg (by omega)]
       have hQ':=hQ () trivial;rw[hup]at hQ';refine zgB ?_;simp only[go_sem,dkn,hRn,List.length_map];refine ainv hQ' (Shift.weakS ?_ rfl);simp only[go_sem]
   .have dk:decide ((k:Int)<((n+1:Nat):Int))=false:=by rw[decide_eq_false_iff_not]; omega
    have hk:k=n+1:=by omega
    subst hk
    by_cases hbig:l.length>1500
    .have db:decide ((l.length:Int)>1500)=true:=by rw[decide_eq_true_eq]; omega
     refine zgB ?_;simp only[go_sem,dk,db]
     repeat refine aqa ?_
     exact aret [4] rfl (.inl ⟨2,_,_,by decide,rfl,rfl⟩)
    .have db:decide ((l.length:Int)>1500)=false:=by rw[decide_eq_false_iff_not]; omega
     have hnd:=ApW (fun n hn=>by obtain⟨f,hf,rfl⟩:=List.mem_map.1 hn; exact hR.names f hf) hR.riseN;have hlow:∀ q:List Le',lowB 8 (.mp (sM (lvE q)))=true:=fun q=>AgN (by intro p hp; simp only[lvE,List.mem_map]at hp; obtain⟨n,_,rfl⟩:=hp; rfl)
     refine zgB ?_;simp only[go_sem,dk,db,List.length_map]
     repeat refine aqa ?_
     refine AaI (ι:=Nat) (fun i=>lv.length-i)
      (fun i=>[(205,.int .i64 i),(204,.int .i64 lv.length),(203,.fz 4 (lv.map leA)),(25,.mp 7),(1,.ptr 3 1 0 0)])
      (fun i=>[.arr 5 [.agg [.int .i64 dno,.str dti,.fz 5 (dsc.map scA),.fz 1 (dgo.map .str),.fz 4 (lv.map leA)]],.arr 2 [.agg [.str x.title,.fz 5 (x.scenes.map scA)]],.arr 5 [.agg [.int .i64 0,.str [],.raw (.slice none 0 0),.raw (.slice none 0 0),.raw (.slice none 0 0)]],.arr 5 [.agg [.int .i64 no,.str ti,.fz 5 (ys.map scA),.fz 1 (gone.map .str),.sl 6 0 l.length l.length]],.arr 1 (startsA E lv (n+2)),.arr 1 (namesA lv (n+1)),.arr 4 (l.map leA),.mp (sM (lvE (lv.take i)))]) (fun i=>i<=lv.length) 0 (by simp) ?_ ?_
     .refine Shift.weakS ?_ (by simp[lvE,sM])
      simp only[go_sem,List.length_map]
     .clear hJ J
      intro i g6 J hJ
      by_cases gi:i<lv.length
      .have di:decide ((i:Int)<(lv.length:Int))=true:=by rw[decide_eq_true_eq]; omega
       have hle:=AbQ gi;have m1:=BfG hnd gi;have m2:=A6D (lv.take i) lv[i];rw[<- List.take_succ_eq_append_getElem gi]at m2;simp only[leA]at m2;have hfin:=hJ (i+1) (by omega) (by omega);refine zgB ?_;simp only[go_sem,di,hle,m1,m2,List.length_map]
       repeat refine aqa ?_
       rw[ic i];refine ainv hfin (Shift.low 8 (by simp) (by simp) ?_ ?_)
       .simp only[go_sem,↓hlow,↓AbA,↓AcZ,↓AeD,↓AfV,↓AcE,lowB,flat]
       .simp only[go_sem]
      .have di:decide ((i:Int)<(lv.length:Int))=false:=by rw[decide_eq_false_iff_not]; omega
       have hi:i=lv.length:=by omega
       subst hi;rw[List.take_length];have hll:∀ j,j<=l.length->(((l.take j).map (fixL lv)++l.drop j).map leA).length=l.length:=fun j hj=>by simp; omega
       refine zgB ?_;simp only[go_sem,di,List.length_map]
       repeat refine aqa ?_
       refine AaI (ι:=Nat) (fun i=>l.length-i) (fun i=>[(219,.int .i64 i),(218,.int .i64 l.length),(217,.sl 6 0 l.length l.length),(25,.mp 7),(1,.ptr 3 1 0 0)])
        (fun i=>[.arr 5 [.agg [.int .i64 dno,.str dti,.fz 5 (dsc.map scA),.fz 1 (dgo.map .str),.fz 4 (lv.map leA)]],.arr 2 [.agg [.str x.title,.fz 5 (x.scenes.map scA)]],.arr 5 [.agg [.int .i64 0,.str [],.raw (.slice none 0 0),.raw (.slice none 0 0),.raw (.slice none 0 0)]],.arr 5 [.agg [.int .i64 no,.str ti,.fz 5 (ys.map scA),.fz 1 (gone.map .str),.sl 6 0 l.length l.length]],.arr 1 (startsA E lv (n+2)),.arr 1 (namesA lv (n+1)),.arr 4 (((l.take i).map (fixL lv)++l.drop i).map leA),.mp (sM (lvE lv))]) (fun i=>i<=l.length) 0 (by simp) ?_ ?_
       .refine Shift.weakS ?_ (by simp)
        simp only[go_sem,List.length_map]
       .clear hJ J
        intro i g7 J hJ
        by_cases gi:i<l.length
        .have di:decide ((i:Int)<(l.length:Int))=true:=by rw[decide_eq_true_eq]; omega
         have hdr:l.drop i=l[i]::l.drop (i+1):=List.drop_eq_getElem_cons gi;have hyl:((l.take i).map (fixL lv)).length=i:=by simp; omega
         have hget:=BkZ ((l.take i).map (fixL lv)) l[i] (l.drop (i+1));rw[<- hdr,hyl]at hget;have hset:=fun q=>BlA ((l.take i).map (fixL lv)) l[i] (l.drop (i+1)) q
         simp only[<- hdr,hyl]at hset;have hstep:(l.take (i+1)).map (fixL lv)=(l.take i).map (fixL lv)++[fixL lv l[i]]:=by rw[List.take_succ_eq_append_getElem gi,List.map_append]; rfl
         have hfin:=hJ (i+1) (by omega) (by omega);rw[hstep]at hfin;have hfl:=g4.lines _ (List.getElem_mem gi);have hlli:=hll i g7;have hsame:(l.take i).map (fixL lv)++[l[i]]++l.drop (i+1)=(l.take i).map (fixL lv)++l.drop i:=by rw[hdr]; simp
         rcases ApX lv l[i].name with⟨j,y,hf,mf⟩|⟨hf,mf⟩
         .simp only [leA]at mf
          have hym:=hR.lines y (List.mem_of_find?_eq_some hf);have heq:=AhI y.lines l[i].lines (by omega) (by omega)
          by_cases hfq:y.first=l[i].first
          .have b1:(y.first==l[i].first)=true:=by simpa using hfq
           by_cases hls:y.lines=l[i].lines
           .have b2:(y.lines==l[i].lines)=true:=by simpa using hls
            rw[AzB hf ⟨hfq,hls⟩]at hfin;rw[b2]at heq;have hset:=hset y.draft;clear hstep hsame hdr;generalize (l.take i).map (fixL lv)=FL at *;refine zgB ?_;simp only[go_sem,di,hget,hlli,mf,b1,List.length_map]
            repeat refine aqa ?_
            refine zpB (heq) ?_;simp only[go_sem,di,hget,hlli,b1,List.length_map]
            repeat refine aqa ?_
            refine zr [] mixed ?_;simp only[go_sem,hget,hset,hlli,List.length_map]
            repeat refine aqa ?_
            refine zgB ?_;simp only[go_sem]
            repeat refine aqa ?_
            rw[ic i];refine ainv hfin (Shift.low 8 (by simp) (by simp) ?_ ?_)
            .simp only[go_sem,↓hlow,↓AbA,↓AcZ,↓AeD,↓AfV,↓AcE,lowB,flat]
            .simp only[go_sem]
           .have b2:(y.lines==l[i].lines)=false:=by simpa using hls
            rw[AlD hf (fun h=>hls h.2),hsame]at hfin;rw[b2]at heq;clear hstep hsame hset hdr;generalize (l.take i).map (fixL lv)=FL at *;refine zgB ?_;simp only[go_sem,di,hget,hlli,mf,b1,List.length_map]
            repeat refine aqa ?_
            refine zpB (heq) ?_;simp only[go_sem,di,hget,hlli,b1,List.length_map]
            repeat refine aqa ?_
            rw[ic i];refine ainv hfin (Shift.low 8 (by simp) (by simp) ?_ ?_)
            .simp only[go_sem,↓hlow,↓AbA,↓AcZ,↓AeD,↓AfV,↓AcE,lowB,flat]
            .simp only[go_sem]
          .have b1:(y.first==l[i].first)=false:=by simpa using hfq
           rw[AlD hf (fun h=>hfq h.1),hsame]at hfin;clear hstep hsame hset hdr;generalize (l.take i).map (fixL lv)=FL at *;refine zgB ?_;simp only[go_sem,di,hget,hlli,mf,b1,List.length_map]
           repeat refine aqa ?_
           rw[ic i];refine ainv hfin (Shift.low 8 (by simp) (by simp) ?_ ?_)
           .simp only[go_sem,↓hlow,↓AbA,↓AcZ,↓AeD,↓AfV,↓AcE,lowB,flat]
           .simp only[go_sem]
         .rw [AzA hf,hsame]at hfin
          clear hstep hsame hset hdr;generalize (l.take i).map (fixL lv)=FL at *;refine zgB ?_;simp only[go_sem,di,hget,hlli,mf,List.length_map]
          repeat refine aqa ?_
          rw[ic i];refine ainv hfin (Shift.low 8 (by simp) (by simp) ?_ ?_)
          .simp only[go_sem,↓hlow,↓AbA,↓AcZ,↓AeD,↓AfV,↓AcE,lowB,flat]
          .simp only[go_sem]
        .have di:decide ((i:Int)<(l.length:Int))=false:=by rw[decide_eq_false_iff_not]; omega
         have hi:i=l.length:=by omega
         subst hi;rw[List.take_length,List.drop_length,List.append_nil];refine AWp.shift (Shift.frz 6 rfl (AfH _)) ?_;have htk:List.take l.length (List.map leA (List.map (fixL lv) l))=List.map leA (List.map (fixL lv) l):=List.take_of_length_le (by simp);simp only[go_sem,frzE,frzC,frz,frz1,frzB,List.length_map,Nat.le_refl,htk];refine zgB ?_;simp only[go_sem,di];refine ARet.shift (Shift.low 4 (e':=[(4,.int .i64 0)]) (by simp) (by simp) ?_ ?_) (aret [4] rfl (.inr ⟨la,l,g3,by omega,rfl,rfl⟩))
         .simp only[go_sem,lowB,flat]
         .simp only[go_sem]
def hasNo(out:List Sc):List (List UInt8):=(nosL out).filter (· != [])
theorem hasNo_snoc(out:List Sc)(x:Sc):hasNo (out++[x])=if x.no=[] then hasNo out else hasNo out++[x.no]:=by
 unfold hasNo nosL;rw[List.map_append,List.filter_append]
 by_cases h:x.no=[] <;> simp[h]
theorem DrawnS.d{x:Sc}(h:DrawnS x):SceneD x:=⟨.inl h.no,h.place,h.set,h.time,h.run,h.len,h.all,h.wt⟩
theorem SceneD.renum{x:Sc}(h:SceneD x){n:List UInt8}(hn:n=[]\/numberL n=true):SceneD { x with no:=n }:=⟨hn,h.place,h.set,h.time,h.run,h.len,h.all,h.wt⟩
structure RevI(xs:List Sc)(i:Nat)(out:List Sc):Prop where
 sc:∀ x∈out,SceneD x
 sub:(hasNo out).Sublist (nosL (xs.take i))
 len:out.length<=2*i
theorem BqS{xs:List Sc}{i:Nat}{out:List Sc}(h:RevI xs i out){x:Sc}(hx:DrawnS x):(∀ y∈out++[x],SceneD y)/\(hasNo (out++[x])).Sublist (nosL (xs.take i)):=by
 refine⟨fun y hy=>?_,?_⟩
 .rcases List.mem_append.1 hy with hy|hy
  .exact h.sc y hy
  .rw [List.mem_singleton.1 hy]; exact hx.d
 .rw [hasNo_snoc,if_pos hx.no]; exact h.sub
theorem AzG{xs:List Sc}{i:Nat}(h:i<xs.length):nosL (xs.take (i+1))=nosL (xs.take i)++[xs[i].no]:=by
 unfold nosL; rw[List.take_succ_eq_append_getElem h,List.map_append]; rfl
theorem A6F{xs:List Sc}{i:Nat}(h:i<xs.length){l:List (List UInt8)}(hs:l.Sublist (nosL (xs.take i))):l.Sublist (nosL (xs.take (i+1))):=by
 rw[AzG h]; exact hs.trans (List.sublist_append_left _ _)
theorem BqT{xs:List Sc}{i:Nat}(h:i<xs.length){out:List Sc}(hs:(hasNo out).Sublist (nosL (xs.take i))){x:Sc}(hx:x.no=xs[i].no):(hasNo (out++[x])).Sublist (nosL (xs.take (i+1))):=by
 rw[hasNo_snoc]
 split
 .exact A6F h hs
 .rw [AzG h,hx]; exact hs.append (List.Sublist.refl _)
theorem BfN:∀ (l:List Sc)(acc:List (List UInt8))(first:Bool),(∀ y∈l,SceneD y)->(hasNo l).Nodup->(∀ n∈hasNo l,n ∉ acc)->(first=true->∀ y,l.head? = some y->y.time≠5)->ArQ acc first l
 | [],_,_,_,_,_,_=>trivial
 | x::r,acc,first,h,hd,ha,h5=>by
  have hx:=h x (by simp);have e:hasNo (x::r)=if x.no=[] then hasNo r else x.no::hasNo r:=by
   unfold hasNo nosL;rw[List.map_cons,List.filter_cons]
   by_cases h0:x.no=[] <;> simp[h0]
  rw[e]at hd ha;have hrest:(hasNo r).Nodup/\(∀ n∈hasNo r,n ∉ dd acc x.no):=by
   by_cases h0:x.no=[]
   .rw [if_pos h0]at hd ha
    refine⟨hd,fun n hn hm=>?_⟩;have hne:n≠[]:=by
     have:=List.mem_filter.1 hn
     simpa using this.2
    unfold dd at hm
    split at hm
    .exact ha n hn hm
    .rcases List.mem_append.1 hm with hm|hm
     .exact ha n hn hm
     .rw [List.mem_singleton.1 hm]at hne; exact hne h0
   .rw [if_neg h0]at hd ha
    obtain⟨d1,d2⟩:=List.nodup_cons.1 hd;refine⟨d2,fun n hn hm=>?_⟩;unfold dd at hm
    split at hm
    .exact ha n (by simp[hn]) hm
    .rcases List.mem_append.1 hm with hm|hm
     .exact ha n (by simp[hn]) hm
     .rw [List.mem_singleton.1 hm]at hn; exact d1 hn
  refine⟨?_,hx.place,hx.time,fun hf=>h5 hf x rfl,hx.sc,BfN r _ false (fun y hy=>h y (by simp[hy])) hrest.1 hrest.2 (by simp)⟩
  by_cases h0:x.no=[]
  .exact .inl h0
  .have hn:=hx.no.resolve_left h0
   refine .inr ⟨hn,by have:=(AaG hn).2.1; omega,?_⟩;rw[if_neg h0]at ha;exact ha _ (by simp)
theorem set_hall':([72,65,76,76]:List UInt8)∈SetL:=by decide
theorem drawn_some:DrawnS ⟨[],1,[72,65,76,76],1,[]⟩:=⟨rfl,by simp,set_hall',by simp,⟨0,rfl,by decide,by decide⟩,by simp,by simp,by simp[wtL]⟩
theorem A2X(out:List Sc)(y:Sc):List.map scA out++[AV.agg [.str y.no,.int .i64 y.place,.str y.set,.int .i64 y.time,.fz 2 (List.map paA y.paras)]]=List.map scA (out++[y]):=by simp[scA]
theorem AqC(n:Nat)(l:List Sc):lowB n (.arr 5 (l.map scA))=true:=AbL (AaD l)
