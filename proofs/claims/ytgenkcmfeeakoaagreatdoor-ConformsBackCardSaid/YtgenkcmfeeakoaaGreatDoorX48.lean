/- Parts of a binder with their entries, as the reference finds them: runsOf. -/
import Derived.Test.YtgenkcmfeeakoaaGreatDoorX47
set_option maxRecDepth 100000
set_option maxHeartbeats 8000000
set_option linter.all false
namespace Go.Proofs.YtgenkcmfeeakoaaGreatDoor
open Av RowKit Proofs.Tryz
theorem BsF(e:LU×List Bl)(f:Le'):Pc prog 142 [enA e,.pin 4 [leA f] 0 0] (· = .bool (e.1==f.first)):=by
 simp only[enA,leA];refine zpIB func142 rfl fun h ρ w=>?_
 simp only[go_sem];exact zt [3]
def runsA(ys:List Sc)(E:List LU)(lv:List Le'):LA:=if(AaC lv).length=0 then[rowK ys E lv 0] else rowsD ys E lv (AaC lv).length++[rowK ys E lv (AaC lv).length]
def rowsJ(ys:List Sc)(E:List LU)(lv:List Le')(i:Nat):LA :=
 if(runsTo lv i).length=0 then[] else rowsD ys E lv (runsTo lv i).length++[AV.agg [.raw (.slice none 0 0),.sl 1 0 (nmT lv i).length (nmT lv i).length,.str []]]
def tabJ(ys:List Sc)(E:List LU)(lv:List Le')(i:Nat):LB:=[.arr 3 (rowsJ ys E lv i),.arr 1 ((nmT lv i).map .str)]
theorem gdR_last(D:LA)(c d:AV):List.getD (D++[c]) D.length d=c:=by grind
theorem stR_last(D:LA)(c d:AV):(D++[c]).set D.length d=D++[d]:=by simp
section
variable {c:Cx}{e':Env}
theorem BlF(hc:c.sto.length=0){D:LA}(hD1:∀ id es l,D.map (frzC id es l)=D)(hD2:∀ σ,D.map (renC σ)=D)(L:LA)(nm:List LU)(u name:LU)(lf:AV)(lit:AV)(he:wk (renE [0,3] (frzE 1 1 (nm.map .str) e')) e') :
  Shift c e' [.arr 3 (D++[AV.agg [.fz 2 L,.sl 1 0 nm.length nm.length,.str u]]++[AV.agg [.raw (.slice none 0 0),.sl 3 0 1 1,.str []]]),.arr 1 (nm.map .str),.arr 4 [lf],.arr 1 [.str name],.arr 3 [lit]]
   e' [.arr 3 (D++[AV.agg [.fz 2 L,.fz 1 (nm.map .str),.str u]]++[AV.agg [.raw (.slice none 0 0),.sl 1 0 1 1,.str []]]),.arr 1 [.str name]]:=by
 have ht:List.take nm.length (nm.map AV.str)=nm.map .str:=laj (by simp);refine Shift.trans (Shift.frz 1 rfl (AaH _)) (Shift.trans (Shift.ren [0,3] ?_) (Lt he ?_))
 .rw [hc]; rfl
 .show [Blk.arr 3 (((D++[AV.agg [.fz 2 L,.sl 1 0 nm.length nm.length,.str u]]++[AV.agg [.raw (.slice none 0 0),.sl 3 0 1 1,.str []]]).map (frzC 1 1 (nm.map .str))).map (renC [0,3])),.arr 1 [.str name]]=_
  simp only[lak,hD1,hD2,lal,las,frzC,frz1,renC,ren1,idx,laa,ht,lcj,laq,decide_true,lad,lbh,lbl,lav,lbp,lax,Nat.reduceBEq,Bool.false_and]
end
theorem BlG{St:Std}(hS:LibR St)(d:Dr){no:Int}{ti:LU}{ys:List Sc}{gn E:List LU}(hE:EntOf ⟨no,ti,ys,gn,[]⟩ E)(hg1:gn.length<=1000)(hr:RelOk ys E d.La)(h0:d.La≠[]->fst d.La 0≠[])(hnm:∀ f∈d.La,f.name.length<1000000) :
  CtH prog St 75 [drA d,drA ⟨no,ti,ys,gn,[]⟩] [] (fun r s=>r=.sl 0 0 (runsA ys E d.La).length (runsA ys E d.La).length/\s.getD 0 .dead=.arr 3 (runsA ys E d.La)):=by
 have hen:=AdG hS (no:=no) (ti:=ti) (lv:=[]) (go:=gn) hE hr.md hg1;have hEl:=hr.md.fewN;have hfw:=hr.few;have hsorted:=hr.sorted;have hst:=fun k=>A8I hr (k:=k)
 simp only[drA,las]at hen |-;refine zdIB func75 rfl fun h ρ w hg=>?_
 simp only[go_sem];refine zqB hg (hen) ?_;simp only[go_sem,laa];refine AaE (ι:=Nat) (fun i=>d.La.length-i)
  (fun i=>[(20,.int .i64 i),(19,.int .i64 d.La.length),(18,.fz 4 (d.La.map leA)),(5,.fz 2 ((entL ys (E.drop (stI E d.La (runsTo d.La i).length))).map enA)),(6,.sl 0 0 (rowsJ ys E d.La i).length (rowsJ ys E d.La i).length)])
  (fun i=>tabJ ys E d.La i) (fun i=>i<=d.La.length/\(0<i->0<(runsTo d.La i).length)) 0 ⟨by omega,fun h=>by omega⟩ ?_ ?_
 .refine Shift.trans (Ls 6 3 rfl) (Shift.trans (Shift.reserve 1) (Lt ?_ rfl))
  simp only[go_sem,runsTo,stI,rowsJ]
 .rintro i ⟨g1,g2⟩ J hJ
  by_cases gi:i<d.La.length
  .have di:decide ((i:Int)<(d.La.length:Int))=true:=by rw[lag]; omega
   have hg':=AgN gi;have hfi:fst d.La i=d.La[i].first:=by simp[fst,List.getD,gi]
   by_cases hz:fst d.La i=[]
   .have hi0:0<i:=by
     refine Nat.pos_of_ne_zero fun e=>?_
     subst e;exact h0 (fun e=>by rw[e]at gi; simp at gi) hz
    have hj:=g2 hi0;obtain⟨r1,r2,r3⟩:=BlD gi hz hj;have q4:(d.La[i].first==[])=true:=by rw[<- hfi]; simp[hz]
    have hfin:=hJ (i+1) ⟨by omega,fun _=>by omega⟩ (by omega);have hrj:rowsJ ys E d.La i=rowsD ys E d.La (runsTo d.La i).length++[.agg [.raw (.slice none 0 0),.sl 1 0 (nmT d.La i).length (nmT d.La i).length,.str []]]:=if_neg (by omega);have hrj1:rowsJ ys E d.La (i+1)=rowsD ys E d.La (runsTo d.La i).length++[.agg [.raw (.slice none 0 0),.sl 1 0 ((nmT d.La i).length+1) ((nmT d.La i).length+1),.str []]]:=by
     unfold rowsJ;rw[if_neg (by omega),r1,r3,lah]; rfl
    unfold tabJ at hfin |-;rw[hrj1,r1,r3]at hfin;rw[hrj];have hfrz:=AmK ys E d.La (runsTo d.La i).length;have hnl:(nmT d.La i).length<=100000:=by unfold nmT; simp; omega
    have hDl:(rowsD ys E d.La (runsTo d.La i).length).length<=100000:=by rw[AhR]; have:=AcU d.La i; omega
    generalize rowsD ys E d.La (runsTo d.La i).length=D at *;have eD:(((D.length+1:Nat):Int)-1).toNat=D.length:=by omega
    simp only[lah,lam,lap,laq]at hfin |-;apply zgB;simp only[go_sem,di,hg',q4,laa]
    repeat refine aqg ?_
    refine A8Q (1) [] AaI (by decide) rfl rfl 100 ?_;simp only[go_sem,eD,gdR_last,stR_last,ckb,isApp,appOk,laa]
    repeat refine aqg ?_
    apply zgB;simp only[go_sem]
    repeat refine aqg ?_
    rw[ic i];refine ainv hfin (Shift.trans (Shift.low 2 (e':=[(20,.int .i64 ((i+1:Nat):Int)),(19,.int .i64 d.La.length),(18,.fz 4 (d.La.map leA)),(5,.fz 2 ((entL ys (E.drop (stI E d.La (runsTo d.La i).length))).map enA)),(6,.sl 0 0 (D.length+1) (D.length+1))]) (by simp) (by simp) ?_ ?_) (Lt ?_ ?_))
    .have:=AaH (nmT d.La i++[d.La[i].name])
     rw[lak]at this
     show(lowB 2 (.arr 3 _)&&(lowB 2 (.arr 1 _)&&true))=true
     rw[lax,lae];refine⟨?_,AaD this⟩;have hl:(flat D).all (lowC 2)=true:=AaD hfrz;simp only[lowB,flat_append,lbo];rw[hl]; rfl
    .simp only[go_sem]
    .simp only [go_sem]
    .rw [lak]
     rfl
   .have q4:(d.La[i].first==[])=false:=by rw[<- hfi]; simp[hz]
    obtain⟨a1,a2⟩:=anc_at gi hz;obtain⟨p1,p2⟩:=BsC gi hz;have hmE:=hr.mem _ a1;rw[a2]at hmE;have hst1:=B1U (E:=E) gi hz;obtain⟨st1,st2⟩:=hst (runsTo d.La i).length;have hup:=B1T gi hz;have hfin:=hJ (i+1) ⟨by omega,fun _=>by omega⟩ (by omega);obtain⟨dm,dx⟩:=BsD hsorted hmE (m:=stI E d.La (runsTo d.La i).length) (by omega);have hix:=AnC (xs:=ys) dm;obtain⟨q,hq⟩:∃ q,q=ixN (E.drop (stI E d.La (runsTo d.La i).length)) (fst d.La i):=⟨_,rfl⟩;rw[<- hq]at hix dx;have hql:q<=(E.drop (stI E d.La (runsTo d.La i).length)).length:=by rw[List.length_drop]; omega
    have hel:=AwL ys (E.drop (stI E d.La (runsTo d.La i).length));have hsg:(E.drop (stI E d.La (runsTo d.La i).length)).take q=sgI E d.La (runsTo d.La i).length:=by
     unfold sgI;rw[<- BsE _ _ _ st1]
     congr 1
     omega
    have hrs:(E.drop (stI E d.La (runsTo d.La i).length)).drop q=E.drop (stI E d.La ((runsTo d.La i).length+1)):=by
     rw[List.drop_drop]
     congr 1
     omega
    have hs1:List.take q ((entL ys (E.drop (stI E d.La (runsTo d.La i).length))).map enA)=(entL ys (sgI E d.La (runsTo d.La i).length)).map enA:=by
     rw[<- lco,<- hsg]
     congr 1
     simp[entL,lco]
    have hs2:List.drop q ((entL ys (E.drop (stI E d.La (runsTo d.La i).length))).map enA)=(entL ys (E.drop (stI E d.La ((runsTo d.La i).length+1)))).map enA:=by
     rw[<- List.map_drop,<- hrs]
     congr 1
     simp[entL,List.map_drop]
    have hends:=AhP hS.ok d.La[i].name (hnm _ (lac gi));have hany:=AnB 142 [.pin 4 [leA d.La[i]] 0 0] rfl (fun e=>e.1==fst d.La i) (entL ys (E.drop (stI E d.La (runsTo d.La i).length))) (by rw[hel,List.length_drop]; omega) (fun x _=>by rw[hfi]; exact BsF x d.La[i]);rw[hix]at hany;have hbor:=Ct.borrowF (P:=prog) (f:=136) (args:=[.fz 2 ((entL ys (E.drop (stI E d.La (runsTo d.La i).length))).map enA),.fn (.func 142) [.ptr 2 1 0 0]]) 1 [.arr 3 (rowsJ ys E d.La i),.arr 1 ((nmT d.La i).map .str),.arr 4 [leA d.La[i]]] (post:=(· = .int .i64 (q:Int))) hany (by rintro r rfl; rfl);have htk:List.take (E.drop (stI E d.La (runsTo d.La i).length)).length ((entL ys (E.drop (stI E d.La (runsTo d.La i).length))).map enA)=(entL ys (E.drop (stI E d.La (runsTo d.La i).length))).map enA:=laj (by simp[entL]);simp only[leA]at hbor;have hrj1:rowsJ ys E d.La (i+1)=rowsD ys E d.La ((runsTo d.La i).length+1)++[.agg [.raw (.slice none 0 0),.sl 1 0 1 1,.str []]]:=by
     unfold rowsJ;rw[if_neg (by omega),p1,p2]; rfl
    unfold tabJ at hfin |-;rw[hrj1,p1,p2]at hfin
    by_cases hj:0<(runsTo d.La i).length
    .have hrj:rowsJ ys E d.La i=rowsD ys E d.La (runsTo d.La i).length++[.agg [.raw (.slice none 0 0),.sl 1 0 (nmT d.La i).length (nmT d.La i).length,.str []]]:=if_neg (by omega)
     have hb1:b1 E d.La<=(runsTo d.La i).length:=by unfold b1; split <;> omega
     have hrow:rowK ys E d.La (runsTo d.La i).length=.agg [.fz 2 ((entL ys (sgI E d.La (runsTo d.La i).length)).map enA),.fz 1 ((nmT d.La i).map .str),.str (endsL d.La[i].name).1]:=by
      unfold rowK;rw[B1S gi hz hj,hup]
     rw[BcC ys E d.La hb1,hrow]at hfin;rw[hrj]at hbor |-;have hi0:0<i:=Nat.pos_of_ne_zero fun e=>by subst e; simp[runsTo]at hj
     have dip:decide ((i:Int)>0)=true:=by rw[lag]; omega
     have hfrz:=AmK ys E d.La (runsTo d.La i).length;have hrz:=fun id es l=>A1C ys E d.La (runsTo d.La i).length id es l
     have hrr:=BlE ys E d.La (runsTo d.La i).length;have hnl:(nmT d.La i).length<=100000:=by unfold nmT; simp; omega
     have hDl:(rowsD ys E d.La (runsTo d.La i).length).length<=100000:=by rw[AhR]; have:=AcU d.La i; omega
     clear hrow hrj hj hup;generalize rowsD ys E d.La (runsTo d.La i).length=D at *;have eD:(((D.length+1:Nat):Int)-1).toNat=D.length:=by omega
     have dDp:decide (((D.length+1:Nat):Int)>0)=true:=by rw[lag]; omega
     simp only[lah,lam,lap,laq,lbb,lbx]at hfin hbor |-;apply zgB;simp only[go_sem,di,hg',q4,laa,hel]
     repeat refine aqg ?_
     refine za (hbor) ?_;rintro _ _ ⟨rfl,rfl⟩;apply zgN;simp only[go_sem,dDp,eD,gdR_last,stR_last,dip,hs1,hs2,htk,laa,hel]
     repeat refine aqg ?_
     refine zqN hg (hends) ?_;simp only[go_sem,eD,gdR_last,stR_last,hs1,hs2,htk,laa,hel]
     repeat refine aqg ?_
     rw[ic i];refine ainv hfin (Shift.trans (Lr (e':=[(20,.int .i64 ((i+1:Nat):Int)),(19,.int .i64 d.La.length),(18,.fz 4 (d.La.map leA)),(5,.fz 2 ((entL ys (E.drop (stI E d.La ((runsTo d.La i).length+1)))).map enA)),(6,.sl 0 0 (D.length+1+1) (D.length+1+1))]) ?_) (Shift.trans (BlF rfl hrz hrr _ (nmT d.La i) _ _ _ _ ?_) (Lt ?_ ?_)))
     .simp only [go_sem]
     .simp only[frzE,frz,frz1,renE,renV,ren1,idx,go_sem]
     .simp only [go_sem]
     .rfl
    .have hj0:(runsTo d.La i).length=0:=by omega
     have hi0:i=0:=by
      refine Classical.byContradiction fun e=>hj (g2 (by omega))
     have hst0:stI E d.La (runsTo d.La i).length=0:=by rw[hj0]; rfl
     have hqx:q=stI E d.La ((runsTo d.La i).length+1):=by omega
     have hrj:rowsJ ys E d.La i=[]:=if_pos hj0;have hnT:nmT d.La i=[]:=by unfold nmT; rw[hi0]; simp
     rw[hrj,hnT]at hbor |-;have dip:decide ((i:Int)>0)=false:=by rw[lai]; omega
     have hb1:b1 E d.La=if q=0 then 1 else 0:=by unfold b1; rw[hqx,hj0]
     have hR0:rowsD ys E d.La ((runsTo d.La i).length+1)=if q=0 then[] else[rowK ys E d.La 0]:=by
      unfold rowsD;rw[hb1,hj0]
      split <;> rfl
     rw[hR0]at hfin;simp only[lap,las]at hbor |-
     by_cases hq0:q=0
     .have dq:decide ((q:Int)>0)=false:=by rw[lai]; omega
      rw[if_pos hq0]at hfin;simp only[lbx,lam,lap]at hfin;apply zgB;simp only[go_sem,di,hg',q4,laa,hel]
      repeat refine aqg ?_
      refine za (hbor) ?_;rintro _ _ ⟨rfl,rfl⟩;apply zgN;simp only[go_sem,dip,dq,hs1,hs2,htk,laa,hel]
      repeat refine aqg ?_
      rw[ic i];refine ainv hfin (Shift.trans (Lr (e':=[(20,.int .i64 ((i+1:Nat):Int)),(19,.int .i64 d.La.length),(18,.fz 4 (d.La.map leA)),(5,.fz 2 ((entL ys (E.drop (stI E d.La ((runsTo d.La i).length+1)))).map enA)),(6,.sl 0 0 1 1)]) ?_) (Shift.trans (Shift.ren [0,3] rfl) (Lt ?_ rfl)))
      .simp only [go_sem]
      .simp only[renE,renV,ren1,idx,go_sem]
     .have dq:decide ((q:Int)>0)=true:=by rw[lag]; omega
      rw[if_neg hq0]at hfin;apply zgB;simp only[go_sem,di,hg',q4,laa,hel]
      repeat refine aqg ?_
      refine za (hbor) ?_;rintro _ _ ⟨rfl,rfl⟩;apply zgN;simp only[go_sem,dip,dq,hs1,hs2,htk,laa,hel]
      repeat refine aqg ?_
      refine zqN hg (hends) ?_;simp only[go_sem,hs1,hs2,htk,laa,hel]
      repeat refine aqg ?_
      have hrow:rowK ys E d.La 0=.agg [.fz 2 ((entL ys (sgI E d.La (runsTo d.La i).length)).map enA),.fz 1 [],.str (endsL d.La[i].name).1]:=by
       unfold rowK;rw[<- hup,hj0];rfl
      rw[hrow]at hfin;rw[ic i];refine ainv hfin (Shift.trans (Lr (e':=[(20,.int .i64 ((i+1:Nat):Int)),(19,.int .i64 d.La.length),(18,.fz 4 (d.La.map leA)),(5,.fz 2 ((entL ys (E.drop (stI E d.La ((runsTo d.La i).length+1)))).map enA)),(6,.sl 0 0 2 2)]) ?_) (Shift.trans (Shift.cells 0 1 [.agg [.fz 2 ((entL ys (sgI E d.La (runsTo d.La i).length)).map enA),.fz 1 [],.str (endsL d.La[i].name).1],.agg [.raw (.slice none 0 0),.sl 4 0 1 1,.str []]] rfl rfl (by simp[cellsOf]) ⟨.refl,.fz,.refl,.refl,.refl,.refl,trivial⟩) (Shift.trans (Shift.ren [0,4] rfl) (Lt ?_ rfl))))
      .simp only [go_sem]
      .simp only[renE,renV,ren1,idx,go_sem]
  .have di:decide ((i:Int)<(d.La.length:Int))=false:=by rw[lai]; omega
   have hi:i=d.La.length:=by omega
   subst hi;clear hJ;have hRl:(AaC d.La).length<=d.La.length:=AcU _ _
   show AWp _ _ _ (tabJ ys E d.La d.La.length)
   have hR:runsTo d.La d.La.length=AaC d.La:=rfl;rw[hR]at g2 |-
   by_cases hz:(AaC d.La).length=0
   .have hl0:d.La.length=0:=by
     refine Classical.byContradiction fun e=>?_
     have:=g2 (by omega);omega
    have hst0:stI E d.La (AaC d.La).length=0:=by rw[hz]; rfl
    have hnT:nmT d.La d.La.length=[]:=by unfold nmT; rw[hl0]; simp
    have hrj:rowsJ ys E d.La d.La.length=[]:=if_pos (by rw[hR]; exact hz);have hrow:rowK ys E d.La 0=.agg [.fz 2 ((entL ys E).map enA),.fz 1 [],.str []]:=by
     have e1:sgI E d.La 0=E:=by
      have s1:stI E d.La (0+1)=E.length:=by
       unfold stI;rw[if_neg (by omega),if_neg (by omega)]
      unfold sgI;rw[s1,laz];rfl
     have e2:upI d.La 0=[]:=by unfold upI; rw[if_neg (by omega)]
     unfold rowK;rw[e1,e2];rfl
    have hA:runsA ys E d.La=[.agg [.fz 2 ((entL ys E).map enA),.fz 1 [],.str []]]:=by unfold runsA; rw[if_pos hz,hrow]
    rw[hA,hst0,lcj];unfold tabJ;rw[hrj,hnT];apply zgN;simp only[go_sem,di]
    repeat refine aqg ?_
    refine ARet.shift (Shift.trans (Lr (e':=[(4,.sl 0 0 1 1)]) (by simp only[go_sem])) (Shift.cells 0 1 [.agg [.fz 2 ((entL ys E).map enA),.fz 1 [],.str []]] rfl rfl (by simp[cellsOf]) ⟨.refl,.fz,.refl,trivial⟩)) (aret [4] rfl ⟨rfl,rfl⟩)
   .have hrj:rowsJ ys E d.La d.La.length=rowsD ys E d.La (AaC d.La).length++[.agg [.raw (.slice none 0 0),.sl 1 0 (nmT d.La d.La.length).length (nmT d.La d.La.length).length,.str []]]:=if_neg (by rw[hR]; omega)
    have hsg:sgI E d.La (AaC d.La).length=E.drop (stI E d.La (AaC d.La).length):=by
     have e1:stI E d.La ((AaC d.La).length+1)=E.length:=by unfold stI; rw[if_neg (by omega),if_neg (by omega)]
     unfold sgI;rw[e1,laz]
    have hA:runsA ys E d.La=rowsD ys E d.La (AaC d.La).length++[.agg [.fz 2 ((entL ys (E.drop (stI E d.La (AaC d.La).length))).map enA),.fz 1 ((nmT d.La d.La.length).map .str),.str []]]:=by
     have e2:upI d.La (AaC d.La).length=[]:=by unfold upI; rw[if_neg (by omega)]
     unfold runsA;rw[if_neg hz];unfold rowK;rw[e2,hsg,BzC (by omega)]
    have hrz:=fun id es l=>A1C ys E d.La (AaC d.La).length id es l
    have hDl:(rowsD ys E d.La (AaC d.La).length).length<=100000:=by rw[AhR]; omega
    have ht:List.take (nmT d.La d.La.length).length ((nmT d.La d.La.length).map AV.str)=(nmT d.La d.La.length).map .str:=laj (by simp);unfold tabJ;rw[hA,hrj];generalize rowsD ys E d.La (AaC d.La).length=D at *;generalize nmT d.La d.La.length=nm at *;have eD:(((D.length+1:Nat):Int)-1).toNat=D.length:=by omega
    have dDp:(((D.length+1:Nat):Int)==0)=false:=by rw[lbe]; omega
    simp only[lah,lam,lap,laq];apply zgN;simp only[go_sem,di,dDp,eD,gdR_last,stR_last]
    repeat refine aqg ?_
    refine ARet.shift (Shift.trans (Lr (e':=[(4,.sl 0 0 (D.length+1) (D.length+1))]) (by simp only[go_sem])) (Shift.trans (Shift.frz 1 (es:=1) (l:=nm.map .str) rfl (AaH _)) (Lt (e':=[(4,.sl 0 0 (D.length+1) (D.length+1))]) (s':=[.arr 3 (D++[.agg [.fz 2 ((entL ys (E.drop (stI E d.La (AaC d.La).length))).map enA),.fz 1 (nm.map .str),.str []]]),.dead]) ?_ ?_))) (aret [4] rfl ⟨rfl,rfl⟩)
    .simp only[frzE,frz,frz1,go_sem]
    .show [Blk.arr 3 ((D++[AV.agg [.fz 2 ((entL ys (E.drop (stI E d.La (AaC d.La).length))).map enA),.sl 1 0 nm.length nm.length,.str []]]).map (frzC 1 1 (nm.map .str))),.dead]=_
     simp only[lak,hrz,lal,las,frzC,frz1,laa,ht,lcj,laq,decide_true,lad,lbh,lbl,lav,lax]
theorem A1D(ys:List Sc)(E:List LU)(lv:List Le')(s:LB):(runsA ys E lv).map (borC 0 s)=runsA ys E lv:=by
 unfold runsA rowsD
 split
 .rfl
 .rw [lak,lbi]
  rfl
theorem BcD{St:Std}(hS:LibR St)(d:Dr){no:Int}{ti:LU}{ys:List Sc}{gn E:List LU}(hE:EntOf ⟨no,ti,ys,gn,[]⟩ E)(hg1:gn.length<=1000)(hr:RelOk ys E d.La)(h0:d.La≠[]->fst d.La 0≠[])(hnm:∀ f∈d.La,f.name.length<1000000) :
  PcH prog St 75 [drA d,drA ⟨no,ti,ys,gn,[]⟩] (· = .fz 3 (runsA ys E d.La)):=by
 refine PcH.mono (PcH.ofOwn 1 (BlG hS d hE hg1 hr h0 hnm)) ?_;rintro _ ⟨_,s,⟨rfl,hs⟩,rfl⟩;simp only[borV,borC_sl];rw[AcR hs rfl,A1D]
end Go.Proofs.YtgenkcmfeeakoaaGreatDoor
namespace Go.Proofs.YtgenkcmfeeakoaaGreatDoor
open Av RowKit
def nmStep(had:List LU)(many:Nat)(up:LU)(i:Nat)(la:LU):LU :=
 if i+1=many/\i+1<had.length then joinN had many else if i<had.length then had.getD i [] else AaS la up
def gTo(had:List LU)(many:Nat)(last up:LU):Nat->Option (List LU)
 | 0=>some []
 | i+1=>match gTo had many last up i with
  | none=>none
  | some g=>if nmStep had many up i (lastN g last)=[] then none else some (g++[nmStep had many up i (lastN g last)])
theorem A5B{had:List LU}{many:Nat}{last up:LU}:∀ {i:Nat}{g:List LU},gTo had many last up i=some g->g.length=i
 | 0,g,h=>by grind[gTo]
 | i+1,g,h=>by
  simp only[gTo]at h
  split at h
  .cases h
  .rename_i g' hg
   split at h
   .cases h
   .simp at h
    rw[<- h,lah,A5B hg]; rfl
theorem A5C{had:List LU}{many:Nat}{last up:LU}(hh:∀ n∈had,n≠[]):∀ i,i<=had.length->(i<many\/many>=had.length)->(∀ j,j<i->¬ (j+1=many/\j+1<had.length))->gTo had many last up i=some (had.take i)
 | 0,_,_,_=>by simp[gTo]
 | i+1,h,h1,h2=>by
  have hi:i<had.length:=by omega
  have ih:=A5C (last:=last) (up:=up) hh i (by omega) (by omega) (fun j hj=>h2 j (by omega));have e:nmStep had many up i (lastN (had.take i) last)=had[i]:=by
   unfold nmStep;rw[if_neg (h2 i (by omega)),if_pos hi]
   simp[List.getD,hi]
  simp only[gTo,ih,e];rw[if_neg (hh _ (lac hi)),laf hi]
theorem BtY{had:List LU}{many:Nat}{last up:LU}:∀ (n i:Nat),had.length<=i->gTo had many last up (i+n)=(gTo had many last up i).bind (AhJ up last n)
 | 0,i,_=>by
  simp_all[AhJ]
 | n+1,i,hi=>by
  rw[show i+(n+1)=(i+1)+n by omega,BtY n (i+1) (by omega)]
  grind[gTo,nmStep,AhJ]
theorem A8V(had:List LU)(many:Nat):joinN had many≠[]:=by simp_all[joinN]
theorem A1E{had:List LU}{many:Nat}{last up:LU}(hh:∀ n∈had,n≠[])(h1:1<=many):gTo had many last up many=ApZ had many last up:=by
 unfold ApZ
 by_cases hm:many<had.length
 .obtain ⟨m,rfl⟩:∃ m,many=m+1:=⟨many-1,by omega⟩
  have h:=A5C (last:=last) (up:=up) (many:=m+1) hh m (by omega) (by omega) (fun j hj=>by omega);have e:nmStep had (m+1) up m (lastN (had.take m) last)=joinN had (m+1):=by grind[nmStep]
  simp only[gTo,h,e];rw[if_neg (A8V _ _),laf (show m<had.length by omega),lcf,List.set_append_right _ _ (by grind)];have:m-(List.take m had).length=0:=by grind
  grind
 .have h:=A5C (last:=last) (up:=up) (many:=many) hh had.length (lad _) (by omega) (fun j hj=>by omega)
  have h2:=BtY (many:=many) (last:=last) (up:=up) (many-had.length) had.length (lad _)
  grind
def ArA(f y:Le'):Bool:=y.name==f.name&&(y.first==f.first&&y.Lb==f.Lb)
def drT(lv:List Le')(f:Le')(m:Nat):Int:=(lv.take m).foldl (fun q y=>if ArA f y then y.Lj else q) f.Lj
theorem BsG(lv:List Le')(f:Le'){m:Nat}(h:m<lv.length):drT lv f (m+1)=if ArA f lv[m] then lv[m].Lj else drT lv f m:=by
 grind[drT,laf]
theorem A1F(f:Le'):∀ (lv:List Le')(q:Int),(∀ y∈lv,y.name≠f.name)->lv.foldl (fun q y=>if ArA f y then y.Lj else q) q=q
 | [],q,_=>rfl
 | y::r,q,h=>by
  have e:ArA f y=false:=by
   grind[ArA]
  rw[List.foldl_cons,e];exact A1F f r q fun z hz=>h z (by simp[hz])
theorem A8W(f:Le'):∀ (lv:List Le')(q:Int),(lv.map (·.name)).Nodup->lv.foldl (fun q y=>if ArA f y then y.Lj else q) q=(match lv.find? (fun x=>x.name==f.name)with
  | some x=>if x.first=f.first/\x.Lb=f.Lb then x.Lj else q
  | none=>q)
 | [],q,_=>rfl
 | y::r,q,h=>by
  simp only[lal,List.nodup_cons]at h
  by_cases e:y.name=f.name
  .have hr:∀ z∈r,z.name≠f.name:=fun z hz e2=>h.1 (List.mem_map.2 ⟨z,hz,by grind⟩)
   rw[List.foldl_cons,A1F f r _ hr,List.find?_cons]
   grind[ArA]
  .have e1:(y.name==f.name)=false:=by grind
   rw[List.foldl_cons,List.find?_cons,e1];have e2:ArA f y=false:=by grind[ArA]
   simp_all[A8W]
theorem BzD{lv:List Le'}(hn:(lv.map (·.name)).Nodup)(f:Le'):{ f with Lj:=drT lv f lv.length }=fixL lv f:=by
 unfold drT;rw[laz,A8W f lv _ hn];unfold fixL
 cases hq:lv.find? (fun x=>x.name==f.name)with
 | none=>rfl
 | some x =>
  simp only
  split <;> rfl
def bS(E:List LU)(lv:List Le'):Nat:=if(AaC lv).length=0 then 0 else b1 E lv
theorem A1G(ys:List Sc)(E:List LU)(lv:List Le'):(runsA ys E lv).length+bS E lv=(AaC lv).length+1:=by
 grind[runsA,bS,b1,AhR]
theorem BlH(ys:List Sc)(E:List LU)(lv:List Le'){t:Nat}(h:t<(runsA ys E lv).length):List.getD (runsA ys E lv) t .any=rowK ys E lv (bS E lv+t):=by
 have hl:=A1G ys E lv;unfold runsA bS at *
 split at h
 .grind
 .rename_i hz
  rw[lah,AhR]at h
  by_cases e:t<(AaC lv).length-b1 E lv
  .grind[rowsD,List.getElem?_range']
  grind
theorem BlI(ys:List Sc)(E:List LU)(lv:List Le')(no:Int):relTo ys E lv no (bS E lv)=some ([],[]):=by
 unfold bS
 split
 .rfl
 .unfold b1
  split
  .rename_i h0
   simp only[relTo,BbC];rw[if_pos (by rw[h0]; rfl)]
  .rfl
theorem st_lt{ys:List Sc}{E:List LU}{lv:List Le'}(h:RelOk ys E lv){k:Nat}(hk:bS E lv<=k)(hk2:k<=(AaC lv).length):stI E lv k<stI E lv (k+1)\/(E=[]/\(AaC lv).length=0/\k=0/\stI E lv k=stI E lv (k+1)):=by
 by_cases hz:(AaC lv).length=0
 .grind[stI,List.length_pos_iff]
 .left
  unfold bS at hk
  by_cases k0:k=0
  .grind[b1,stI]
  .have hix:=AiP (h.mem (k-1) (by omega))
   by_cases hlt:k+1<=(AaC lv).length
   .unfold stI
    rw[if_neg k0,if_pos hk2,if_neg (by omega),if_pos hlt,lcf];exact AmZ h.sorted (h.mem _ (by omega)) (h.mem _ (by omega)) (h.rise (k-1) k (by omega) (by omega))
   grind[stI]
