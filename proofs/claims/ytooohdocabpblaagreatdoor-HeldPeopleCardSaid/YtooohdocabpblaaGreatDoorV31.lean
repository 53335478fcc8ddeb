/- Draws: a plan. -/
import Derived.Test.YtooohdocabpblaaGreatDoorV19
import Derived.Test.YtooohdocabpblaaGreatDoorV30
set_option maxRecDepth 100000
set_option maxHeartbeats 4000000
set_option linter.all false
namespace Go.Proofs.YtooohdocabpblaaGreatDoor
open Av RowKit Proofs.Tryz
theorem AnB:∀ {L l:List LU},l.Sublist L->l∈subL L
 | [],l,h=>by simp[List.sublist_nil.1 h,subL]
 | x::L,l,h=>by
  rw[subL,List.mem_append]
  cases h with
  | cons _ h=>exact .inl (AnB h)
  | cons_cons _ h=>exact .inr (List.mem_map.2 ⟨_,AnB h,rfl⟩)
theorem A1V{i:Nat}(h:i<9):[AV.str [49],.str [50],.str [51],.str [52,66],.str [49,48],.str [49,50],.str [48,67],.str [57,57,57],.str [53,66,67]].getD i .any=.str (NumL.getD i []):=by
 have:i=0\/i=1\/i=2\/i=3\/i=4\/i=5\/i=6\/i=7\/i=8:=by omega
 rcases this with rfl|rfl|rfl|rfl|rfl|rfl|rfl|rfl|rfl <;> rfl
def planT(L:List Int)(k:Int)(c:Crew)(r:Rules)(ss:List Strip):LB :=
 [.arr 2 [str L k],.arr 14 [.agg [.raw (.slice none 0 0),.raw (.slice none 0 0),.raw (.slice none 0 0),.raw (.slice none 0 0),.raw (.slice none 0 0),kI 0,kI 0,kI 0,kI 0,kI 0,kI 0,kI 0,kI 0,kI 0]],
  .arr 14 [.agg [.fz 5 (c.minors.map minorA),.fz 9 (c.people.map persA),.fz 3 (c.sites.map siteA),.fz 3 (c.roads.map roadA),.sl 4 0 ss.length ss.length,kI r.start,kI r.eighths,kI r.moves,kI r.change,kI r.gap,kI r.day,kI r.move,kI r.hold,kI r.look]],
  .arr 9 [.agg [.str [49],.str [50],.str [51],.str [52,66],.str [49,48],.str [49,50],.str [48,67],.str [57,57,57],.str [53,66,67]]],.arr 8 (ss.map stripA)]
theorem AjN{n:Nat}(h:5<=n)(L:List Int)(k:Int)(c:Crew)(r:Rules)(ss:List Strip):(planT L k c r ss).all (lowB n)=true:=by
 have h1:lowB n (.arr 14 [.agg [.fz 5 (c.minors.map minorA),.fz 9 (c.people.map persA),.fz 3 (c.sites.map siteA),.fz 3 (c.roads.map roadA),.sl 4 0 ss.length ss.length,kI r.start,kI r.eighths,kI r.moves,kI r.change,kI r.gap,kI r.day,kI r.move,kI r.hold,kI r.look]])=true:=by
  simp[lowB,flat,cellsOf,lowC,Av.frozen]
  omega
 simp only[planT,lay,List.all_nil,h1,lowS,show lowB n (.arr 8 (ss.map stripA))=true from AbV (AoH ss),lbg,Bool.true_and];rfl
theorem AnC(id e:Nat)(L:LA)(l:List Strip):(l.map stripA).map (frzC id e L)=l.map stripA:=List.map_map.trans (lbl fun _ _=>rfl)
theorem A1W{S:Std}(hK:KeyOk S)(L:List Int)(k many:Int)(h3:0<=k)(h4:k<=700000)(h1:1<=many)(h2:many<=9) :
  McH prog S 4 2 (str L k) [kI many] (fun r s=>∃ (x:Plan) (k':Int),r=.agg (planC x)/\PlanOk x/\s=str L k'/\k<=k'/\k'<=k+3000):=by
 refine zdIF func4 rfl fun h ρ w hg=>?_
 simp only[go_sem];refine zmH 0 hg (A0R hK L k h3 (by omega)) ?_;rintro _ _ ⟨c,k1,rfl,okc,rfl,c1,c2⟩;simp only[crewC];apply zgF;simp only[go_sem];refine zm 0 (AaM L k1 [0,420,480,700] (by decide) (by decide) (by omega) (by omega)) ?_;rintro _ _ ⟨⟨r1,hr1,rfl⟩,rfl⟩;apply zgF;simp only[go_sem];refine zm 0 (AaM L (k1+1) [10,20,40,200] (by decide) (by decide) (by omega) (by omega)) ?_;rintro _ _ ⟨⟨r2,hr2,rfl⟩,rfl⟩;apply zgF;simp only[go_sem];refine zm 0 (AaM L (k1+1+1) [0,1,2,20] (by decide) (by decide) (by omega) (by omega)) ?_;rintro _ _ ⟨⟨r3,hr3,rfl⟩,rfl⟩;apply zgF;simp only[go_sem];refine zm 0 (AaM L (k1+1+1+1) [0,5,10] (by decide) (by decide) (by omega) (by omega)) ?_;rintro _ _ ⟨⟨r4,hr4,rfl⟩,rfl⟩;apply zgF;simp only[go_sem];refine zm 0 (AaM L (k1+1+1+1+1) [1,2,3,100] (by decide) (by decide) (by omega) (by omega)) ?_;rintro _ _ ⟨⟨r5,hr5,rfl⟩,rfl⟩;apply zgF;simp only[go_sem];refine zm 0 (AaM L (k1+1+1+1+1+1) [0,1000,5000] (by decide) (by decide) (by omega) (by omega)) ?_;rintro _ _ ⟨⟨r6,hr6,rfl⟩,rfl⟩;apply zgF;simp only[go_sem];refine zm 0 (AaM L (k1+1+1+1+1+1+1) [0,200,900] (by decide) (by decide) (by omega) (by omega)) ?_;rintro _ _ ⟨⟨r7,hr7,rfl⟩,rfl⟩;apply zgF;simp only[go_sem];refine zm 0 (AaM L (k1+1+1+1+1+1+1+1) [0,50,700] (by decide) (by decide) (by omega) (by omega)) ?_;rintro _ _ ⟨⟨r8,hr8,rfl⟩,rfl⟩;apply zgF;simp only[go_sem];refine zm 0 (AaM L (k1+1+1+1+1+1+1+1+1) [0,7,300] (by decide) (by decide) (by omega) (by omega)) ?_;rintro _ _ ⟨⟨r9,hr9,rfl⟩,rfl⟩;have okr:RulesOk ⟨r1,r2,r3,r4,r5,r6,r7,r8,r9⟩:=by
  simp only[lbf,List.not_mem_nil,or_false]at hr1 hr2 hr3 hr4 hr5 hr6 hr7 hr8 hr9;exact⟨by simp only; omega,by simp only; omega,by simp only; omega,by simp only; omega,by simp only; omega,by simp only; omega,by simp only; omega,by simp only; omega,by simp only; omega⟩
 apply zgF;simp only[go_sem,if_neg (show ¬ (9:Int)<many by omega)];obtain⟨r,hr⟩:∃ r:Rules,r=⟨r1,r2,r3,r4,r5,r6,r7,r8,r9⟩:=⟨_,rfl⟩;have hr1:r1=r.start:=by rw[hr]
 have hr2:r2=r.eighths:=by rw[hr]
 have hr3:r3=r.moves:=by rw[hr]
 have hr4:r4=r.change:=by rw[hr]
 have hr5:r5=r.gap:=by rw[hr]
 have hr6:r6=r.day:=by rw[hr]
 have hr7:r7=r.move:=by rw[hr]
 have hr8:r8=r.hold:=by rw[hr]
 have hr9:r9=r.look:=by rw[hr]
 rw[<- hr]at okr;rw[hr1,hr2,hr3,hr4,hr5,hr6,hr7,hr8,hr9];clear hr hr1 hr2 hr3 hr4 hr5 hr6 hr7 hr8 hr9;refine AWp.shift (Shift.cells 2 8 [.agg [.fz 5 (c.minors.map minorA),.fz 9 (c.people.map persA),.fz 3 (c.sites.map siteA),.fz 3 (c.roads.map roadA),.sl 4 0 0 0,kI r.start,kI r.eighths,kI r.moves,kI r.change,kI r.gap,kI r.day,kI r.move,kI r.hold,kI r.look]] rfl rfl (by simp[cellsOf]) ⟨.refl,.refl,.refl,.refl,.sl,.refl,.refl,.refl,.refl,.refl,.refl,.refl,.refl,.refl,trivial⟩) ?_;refine AbP (ι:=Nat×Int×List Strip) (fun x=>(many-x.1).toNat)
  (fun x=>[(45,kI x.1),(44,kI many),(6,.ptr 3 1 0 0),(5,.ptr 2 1 0 0),(4,.ptr 1 1 0 0),(0,.ptr 0 1 0 0)])
  (fun x=>planT L x.2.1 c r x.2.2)
  (fun x=>(x.1:Int)<=many/\k1+9<=x.2.1/\x.2.1<=k1+9+30*x.1/\x.2.2.length=x.1/\x.2.2.map (·.scene)=NumL.take x.2.2.length/\∀ y∈x.2.2,StripOk c y)
  (0,k1+1+1+1+1+1+1+1+1+1,[]) ⟨by simp; omega,by simp only; omega,by simp only; omega,rfl,rfl,by simp⟩ ?_ ?_
 .refine Lg ?_ rfl
  simp only[go_sem]
 .rintro ⟨i,k2,ss⟩ ⟨g1,g2,g3,g4,g5,g6⟩ J hJ
  simp only at g1 g2 g3 g4 g5 g6 hJ |-;have cs1:=okc.sites.1;have cs2:=okc.sites.2.1;have cp2:=okc.people.2.1
  by_cases gi:(i:Int)<many
  .have di:decide ((i:Int)<many)=true:=by simp; omega
   have hnum:=A1V (show i<9 by omega);apply zgF;simp only[planT];simp only[go_sem,di];refine AkM [4,7,16,22,24,26] 0 [] AaL (by decide +kernel) rfl rfl 100 ?_;simp only[go_sem,hnum]
   repeat refine aqf ?_
   refine AgK (AaX L k2 1 9 (by omega) (by omega) (by omega) (by omega) (by omega)) rfl rfl rfl ⟨kI 1,_,⟨1,rfl,by omega,by omega⟩,rfl⟩ ?_;rintro _ _ ⟨⟨ei,rfl,ei1,ei2⟩,rfl⟩;simp only[go_sem];refine AgK (AaM L (k2+1) [10,30,60,120,300] (by decide) (by decide) (by omega) (by omega)) rfl rfl rfl ⟨kI 10,_,⟨10,by simp,rfl⟩,rfl⟩ ?_;rintro _ _ ⟨⟨mi,hmi,rfl⟩,rfl⟩;simp only[go_sem,laa]
   repeat refine aqf ?_
   refine AgK (AdX L (k2+1+1) c.sites.length (by omega) (by omega) (by omega) (by omega)) rfl rfl rfl ⟨kI 0,_,⟨0,rfl,by omega,by omega⟩,rfl⟩ ?_;rintro _ _ ⟨⟨v,rfl,v1,v2⟩,rfl⟩;have hvl:v.toNat<c.sites.length:=by omega
   have hsv:=AcO c.sites hvl;simp only[go_sem,hsv,siteA,laa]
   repeat refine aqf ?_
   refine AgK (AaM L (k2+1+1+1) [0,0,0,1,1,2,3,4] (by decide) (by decide) (by omega) (by omega)) rfl rfl rfl ⟨kI 0,_,⟨0,by simp,rfl⟩,rfl⟩ ?_;rintro _ _ ⟨⟨lt,hlt,rfl⟩,rfl⟩;simp only[go_sem];refine AgK (AdI L (k2+1+1+1+1) 3 (by omega) (by omega) (by omega) (by omega)) rfl rfl rfl ⟨.bool true,_,⟨true,rfl⟩,rfl⟩ ?_;rintro _ _ ⟨⟨o,rfl⟩,rfl⟩;simp only[go_sem];refine A7D hg (AyQ L (k2+1+1+1+1+1) (by omega) (by omega)) rfl rfl rfl ⟨.fz 4 [],_,[],k2+1+1+1+1+1,rfl,⟨[],by simp[AaW],rfl⟩,rfl,by omega,by omega⟩ ?_;rintro _ _ ⟨lk,k3,rfl,hlk,rfl,lk1,lk2⟩;simp only[go_sem];have pmi:1<=mi/\mi<=1440:=(show ∀ x∈[(10:Int),30,60,120,300],1<=x/\x<=1440 by decide) mi hmi;have plt:0<=lt/\lt<=4:=(show ∀ x∈[(0:Int),0,0,1,1,2,3,4],0<=x/\x<=4 by decide) lt hlt;have hsm:c.sites[v.toNat].key∈c.sites.map (·.key):=List.mem_map.2 ⟨_,lae hvl,rfl⟩;generalize c.sites[v.toNat].key=skey at hsm |-;generalize hnm:NumL.getD i []=num at hnum |-;refine goF rfl 1 ?_;simp only[go_sem];refine amid (κ:=Int) (fun _=>[(8,.ptr 5 1 0 0),(45,kI i),(44,kI many),(6,.ptr 3 1 0 0),(5,.ptr 2 1 0 0),(4,.ptr 1 1 0 0),(0,.ptr 0 1 0 0)])
    (fun m=>planT L k3 c r ss++[.arr 8 [.agg [.str num,kI ei,kI m,.str skey,kI lt,.bool o,.raw (.slice none 0 0),.fz 4 (lk.map lookA)]]])
    (fun m=>1<=m/\m<=1440) ?_ ?_
   .rintro m ⟨m1,m2⟩
    refine AWp.shift (Shift.cells 5 1 [.agg [.str num,kI ei,kI m,.str skey,kI lt,.bool o,.sl 6 0 0 0,.fz 4 (lk.map lookA)]] rfl rfl (by simp[cellsOf]) ⟨.refl,.refl,.refl,.refl,.refl,.refl,.sl,.refl,trivial⟩) ?_;apply zgF;simp only[planT,List.set_cons_succ,List.set_cons_zero,lah,lax];simp only[go_sem,laa];have kpe:∀ j (h:j<c.people.length),c.people[j].key=PeopleL[j]'(by simp[PeopleL]; omega):=by
     intro j h;have hq:j<PeopleL.length:=by simp[PeopleL]; omega
     have h1:(c.people.map (·.key))[j]? = (PeopleL.take c.people.length)[j]?:=by rw[okc.people.2.2.1]
     simpa[h,hq,lbq]using h1
    refine AbA (ι:=Nat×Int×List LU) (κ:=Int×List LU) (fun x=>c.people.length-x.1)
     (fun x=>(84,kI x.1)::(83,kI c.people.length)::(82,.fz 9 (c.people.map persA))::[(8,.ptr 5 1 0 0),(45,kI i),(44,kI many),(6,.ptr 3 1 0 0),(5,.ptr 2 1 0 0),(4,.ptr 1 1 0 0),(0,.ptr 0 1 0 0)])
     (fun x=>planT L x.2.1 c r ss++[.arr 8 [.agg [.str num,kI ei,kI m,.str skey,kI lt,.bool o,.sl 6 0 x.2.2.length x.2.2.length,.fz 4 (lk.map lookA)]],.arr 1 (x.2.2.map .str)])
     (fun x=>x.1<=c.people.length/\k3<=x.2.1/\x.2.1<=k3+x.1/\x.2.2.Sublist (PeopleL.take x.1)/\x.2.2.length<=x.1)
     (fun _=>[(8,.ptr 5 1 0 0),(45,kI i),(44,kI many),(6,.ptr 3 1 0 0),(5,.ptr 2 1 0 0),(4,.ptr 1 1 0 0),(0,.ptr 0 1 0 0)])
     (fun x=>planT L x.1 c r ss++[.arr 8 [.agg [.str num,kI ei,kI m,.str skey,kI lt,.bool o,.sl 6 0 x.2.length x.2.length,.fz 4 (lk.map lookA)]],.arr 1 (x.2.map .str)])
     (fun x=>k3<=x.1/\x.1<=k3+4/\x.2.Sublist (PeopleL.take c.people.length))
     (0,k3,[]) ⟨by simp,by simp,by simp,by simp,by simp⟩ ?_ ?_ ?_
    .refine Lg ?_ rfl
     simp only[go_sem]
    .rintro ⟨k4,pl⟩ ⟨q1,q2,q3⟩
     simp only at q1 q2 q3 |-;have q4:pl∈subL (PeopleL.take 4):=AnB (q3.trans (List.take_sublist_take_left (by omega)));refine goF rfl 1 ?_;simp only[planT,lah,lax];simp only[go_sem];refine amid (κ:=Unit) (fun _=>[(8,.ptr 5 1 0 0),(45,kI i),(44,kI many),(6,.ptr 3 1 0 0),(5,.ptr 2 1 0 0),(4,.ptr 1 1 0 0),(0,.ptr 0 1 0 0)])
      (fun _=>planT L k4 c r ss++[.arr 8 [.agg [.str num,kI ei,kI m,.str skey,kI lt,.bool o,strA pl,.fz 4 (lk.map lookA)]],.dead]) (fun _=>True) ?_ ?_
     .rintro - -
      apply zgF;simp only[planT,lah,lax];simp only[go_sem,laa]
      repeat refine aqa ?_
      have e3:ss.map stripA++[.agg [.str num,kI ei,kI m,.str skey,kI lt,.bool o,.fz 1 (pl.map .str),.fz 4 (lk.map lookA)]]=(ss++[(⟨num,ei,m,skey,lt,o,pl,lk⟩:Strip)]).map stripA:=by simp[stripA]
      rw[e3,AhB ss (⟨num,ei,m,skey,lt,o,pl,lk⟩:Strip)];have hnl:ss.length<NumL.length:=by simp[NumL]; omega
      refine ainv (hJ (i+1,k4,ss++[⟨num,ei,m,skey,lt,o,pl,lk⟩]) ⟨by simp only; omega,by simp only; omega,by simp only; omega,by simp; omega,AmG g5 hnl (by
       have:i<NumL.length:=by omega
       subst g4;simp only[<- hnm]
       simp[List.getD,hnl]),fun y hy=>?_⟩ (by simp only; omega)) (AaZ (planT L k4 c r (ss++[⟨num,ei,m,skey,lt,o,pl,lk⟩])) [.arr 8 [.agg [.str num,kI ei,kI m,.str skey,kI lt,.bool o,.fz 1 (pl.map .str),.fz 4 (lk.map lookA)]],.dead] rfl (by simp[planT]) (AjN (by simp[planT]) _ _ _ _ _) ?_)
      .rcases List.mem_append.1 hy with hy|hy
       .exact g6 y hy
       .rw [List.mem_singleton.1 hy]
        exact⟨by simp only; omega,⟨m1,m2⟩,hsm,plt,q3,hlk⟩
      .simp only [go_sem,planT]
       rfl
     .intro Q hQ
      by_cases he:pl=[]
      .subst he
       refine AWp.shift (Shift.frz 6 rfl (AcU [])) ?_;simp only[go_sem,↓AbK,↓AbW,↓AnC,frzE,frz,frz1,frzC,frzB,laa,lal,List.take_nil];apply zgF;simp only[go_sem];refine zqF hg (ApL) ?_;simp only[go_sem];refine ainv (hQ () trivial) (Lg ?_ ?_)
       .simp only [go_sem]
       .simp only [planT,lah,lax]; rfl
      .have hem:pl.isEmpty=false:=by cases pl <;> simp_all
       have hsort:=List.all_eq_true.1 ArH pl q4;rw[hem,Bool.false_or]at hsort;apply zgF;simp only[go_sem];refine zaH hg (CtH.sliceAt (id:=6) (l:=pl.map .str) (l':=pl.map .str) (ApK AmZ hsort) (by simp) (by simpa using he) rfl (AcU _) (AcU _) rfl rfl rfl) ?_;rintro _ _ ⟨rfl,rfl⟩;simp only[List.set_cons_succ,List.set_cons_zero];refine AWp.shift (Shift.frz 6 rfl (AcU pl)) ?_;simp only[go_sem,↓AbK,↓AbW,↓AnC,frzE,frz,frz1,frzC,frzB,laa,lal,laf (show(pl.map AV.str).length<=pl.length by simp)];apply zgF;simp only[go_sem];refine ainv (hQ () trivial) (Lg ?_ ?_)
       .simp only [go_sem,frzE,frz,frz1]
       .simp only [planT,lah,lax]
    .rintro ⟨j,k4,pl⟩ ⟨q1,q2,q3,q4,q5⟩ J' Q' hJ' hQ'
     simp only at q1 q2 q3 q4 q5 hJ' hQ' |-
     by_cases gj:j<c.people.length
     .have dj:decide ((j:Int)<(c.people.length:Int))=true:=by simp; omega
      have hps:=AfM c.people gj;have hkp:=kpe j gj;have hjP:j<PeopleL.length:=by simp[PeopleL]; omega
      have htk:PeopleL.take (j+1)=PeopleL.take j++[PeopleL[j]]:=lag hjP;apply zgF;simp only[planT,lah,lax];simp only[go_sem,dj,hps,persA,laa]
      repeat refine aqf ?_
      refine zm 0 (AdI L k4 2 (by omega) (by omega) (by omega) (by omega)) ?_;rintro _ _ ⟨⟨b,rfl⟩,rfl⟩
      cases b with
      | true =>
       apply zgF;simp only[go_sem,laa]
       repeat refine aqa ?_
       have e3:pl.map AV.str++[.str c.people[j].key]=(pl++[c.people[j].key]).map .str:=by simp
       rw[e3,AhB pl c.people[j].key];refine ainv (hJ' (j+1,k4+1,pl++[c.people[j].key]) ⟨by simp only; omega,by simp only; omega,by simp only; omega,by simp only; rw[htk,hkp]; exact q4.append (List.Sublist.refl _),by simp; omega⟩ (by simp only; omega)) (AaZ (planT L (k4+1) c r ss++[.arr 8 [.agg [.str num,kI ei,kI m,.str skey,kI lt,.bool o,.sl 6 0 (pl++[c.people[j].key]).length (pl++[c.people[j].key]).length,.fz 4 (lk.map lookA)]],.arr 1 ((pl++[c.people[j].key]).map .str)]) [.arr 9 [persA c.people[j]]] rfl (by simp) (by
        rw[lbd,AjN (by simp[planT])];simp only[lay,List.all_nil,show ∀ n,lowB n (.arr 1 ((pl++[c.people[j].key]).map .str))=true from fun n=>AbV (AcU _),Bool.true_and,lbg];rfl) ?_)
       simp only[go_sem,planT];rfl
      | false =>
       apply zgF;simp only[go_sem]
       repeat refine aqa ?_
       refine ainv (hJ' (j+1,k4+1,pl) ⟨by simp only; omega,by simp only; omega,by simp only; omega,by simp only; rw[htk]; exact q4.trans (List.sublist_append_left _ _),by simp only; omega⟩ (by simp only; omega)) (AaZ (planT L (k4+1) c r ss++[.arr 8 [.agg [.str num,kI ei,kI m,.str skey,kI lt,.bool o,.sl 6 0 pl.length pl.length,.fz 4 (lk.map lookA)]],.arr 1 (pl.map .str)]) [.arr 9 [persA c.people[j]]] rfl (by simp) (by
        rw[lbd,AjN (by simp[planT])];simp only[lay,List.all_nil,show ∀ n,lowB n (.arr 1 (pl.map .str))=true from fun n=>AbV (AcU _),Bool.true_and,lbg];rfl) ?_)
       simp only[go_sem,planT];rfl
     .have dj:decide ((j:Int)<(c.people.length:Int))=false:=by simp; omega
      have hjn:j=c.people.length:=by omega
      subst hjn;apply zgF;simp only[planT,lah,lax];simp only[go_sem,dj];refine ainv (hQ' (k4,pl) ⟨by simp only; omega,by simp only; omega,q4⟩) (Lg ?_ rfl);simp only[go_sem]
   .intro Q hQ
    by_cases hl3:lt>=3
    .have d:decide (lt>=3)=true:=by simpa using hl3
     apply zgF;simp only[go_sem,d];refine ainv (hQ 10 ⟨by omega,by omega⟩) (Lg ?_ rfl);simp only[go_sem]
    .have d:decide (lt>=3)=false:=by simpa using hl3
     apply zgF;simp only[go_sem,d];refine ainv (hQ mi pmi) (Lg ?_ rfl);simp only[go_sem]
  .have di:decide ((i:Int)<many)=false:=by simp; omega
   simp only[planT];refine AWp.shift (Shift.frz 4 rfl (AoH ss)) ?_;simp only[go_sem,↓AbK,↓AbW,↓AnC,frzE,frz,frz1,frzC,frzB,laa,lal,laf (show(ss.map stripA).length<=ss.length by simp)];apply zgF;simp only[go_sem,di];exact AlS [.cell 4 36] rfl [_] ⟨by simp only[go_sem,sideIs,planC],trivial⟩ ⟨_,_,rfl,⟨⟨c,ss,r⟩,k2,rfl,⟨okc,okr,by simp only; omega,g5,g6⟩,rfl,by omega,by omega⟩,rfl,rfl⟩
abbrev annL:LU:=[97,110,110]
abbrev hallL:LU:=[104,97,108,108]
def crew1:Crew:=⟨[],[⟨annL,0,127,0,9,[],600,60,5⟩],[⟨hallL,0,[⟨0,360,1080⟩]⟩],[]⟩
def plan1:Plan:=⟨crew1,[⟨[49],1,90,hallL,0,false,[annL],[]⟩],⟨500,9,0,0,1,3,0,0,0⟩⟩
def A9E:List BDay:=[⟨2,[[49]]⟩]
def calls1:AV:=.agg [.str hallL,kI 1,kI 0,kI 1,kI 0,kI 0,kI 60,kI 1,kI 0]
def text1:LU:=[112,101,114,115,111,110,32,97,110,110,32,48,32,49,50,55,32,48,32,57,32,54,48,48,32,54,48,32,53,10,115,105,116,101,32,104,97,108,108,32,48,32,48,32,51,54,48,32,49,48,56,48,10]
theorem read1{S:Std}(hS:LibOk S):PcH prog S 24 [.str text1] (· = .tup [.agg (crewC crew1),kI 0,kI 0]) :=
 AfW AaL (AqY hS) 40 4 (by kernel_rfl)
theorem desk1:DeskOk plan1:=⟨by decide,by decide,by decide,by decide,by decide,by decide⟩
def orcN:Cl:=fun f args s=>match f==39 with
 | true=>match eqL args [.agg (planC plan1)]with
  | true=>fA 3 (shV s.length (.ptr 3 1 0 0)) fun r=>fT (s++(deskT plan1 plan1.strips plan1.crew.sites).map (shB s.length)) fun t=>some (r,t)
  | false=>none
 | false=>none
theorem A6I{S:Std}:ClOk prog S orcN:=by
 intro f args s r s' h;unfold orcN at h
 split at h
 .rename_i hf
  split at h
  .rename_i ha
   rw[fA_eq,AqQ]at h;simp only[lad,laq]at h;obtain⟨rfl,rfl⟩:=h;have hf:f=39:=by simpa using hf
   subst hf;rw[AgW _ _ ha];have hc:=Ct.liftN (AkU plan1 desk1) (by decide +kernel) (by rintro r s' ⟨rfl,rfl⟩; decide +kernel) s;refine⟨hc.1,fun h ρ w vs hg hm hv=>(hc.2 h ρ w vs hm hv).mono ?_⟩;rintro en w' ⟨v,r,s2,h',ρ',e1,⟨r0,s0,⟨rfl,rfl⟩,rfl,rfl⟩,rest⟩;exact⟨v,_,_,h',ρ',e1,⟨rfl,rfl⟩,rest⟩
  .cases h
 .cases h
def orcD:Cl:=orcB orcN (orcS orcL)
theorem ArJ{S:Std}(hS:LibOk S):ClOk prog S orcD:=AxU A6I (AqY hS)
def sheet1:AV:=.agg [kI 2,.fz 5 [.agg [.str [49],kI 3380,kI 3470,kI 0,kI 0]],.fz 2 [],.fz 4 [.agg [kI 3380,kI 3380,.str hallL,.fz 1 [.str annL]]],.fz 6 [.agg [.str annL,kI 0,kI 3380,kI 3380,kI 3380,kI 3470]]]
def report1:AV:=.agg [kI 2,.fz 4 [.agg [.str annL,kI 3380,kI 3470,.fz 2 []]],.fz 1 [.str [49]]]
def deal1:AV:=.agg [.str annL,kI 60,kI 60,kI 60,kI 100,kI 100,kI 900,.fz 1 [],kI 0,kI 0,kI 0,kI 0,kI 0,kI 0,kI 0,kI 0]
theorem AuR{S:Std}(hS:LibOk S):PcH prog S 25 [.agg (planC plan1),boardA A9E,calls1,kI 2,kI 500] (· = .tup [sheet1,kI 0]) :=
 AfW AaL (ArJ hS) 60 8 (by kernel_rfl)
theorem ArK{S:Std}(hS:LibOk S):PcH prog S 26 [.agg (planC plan1),calls1,sheet1,.raw (.slice none 0 0)] (· = .tup [report1,kI 0]) :=
 AfW AaL (ArJ hS) 60 8 (by kernel_rfl)
theorem A1X{S:Std}(hS:LibOk S):PcH prog S 27 [.fz 16 [deal1],.fz 3 [report1]] (· = .tup [.fz 4 [.agg [.str annL,kI 2,kI 1,kI 60],.agg [.str annL,kI 2,kI 2,kI 30]],kI 0]) :=
 AfW AaL (ArJ hS) 60 8 (by kernel_rfl)
theorem AuS{S:Std}(hS:LibOk S):PcH prog S 9 [] (· = .bool true):=by
 have r:=read1 hS;simp only[text1,crewC,crew1]at r;refine zqIF func9 rfl fun h ρ w hg=>?_
 simp only[go_sem];refine zqF hg (r) ?_;simp only[go_sem];refine zqF hg (PcH.leArgs (AuR hS) (by kernel_rfl)) ?_;simp only[sheet1];simp only[go_sem];refine zqF hg (PcH.leArgs (ArK hS) (by kernel_rfl)) ?_;simp only[report1];simp only[go_sem];refine zqF hg (PcH.leArgs (A1X hS) (by kernel_rfl)) ?_;simp only[go_sem];exact zt [0]
