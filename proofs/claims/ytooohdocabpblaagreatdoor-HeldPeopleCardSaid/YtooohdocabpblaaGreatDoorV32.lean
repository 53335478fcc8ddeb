/- backtop.HeldPeople is true. -/
import Derived.Test.YtooohdocabpblaaGreatDoorV31
set_option maxRecDepth 100000
set_option maxHeartbeats 4000000
set_option linter.all false
namespace Go.Proofs.YtooohdocabpblaaGreatDoor
open Av RowKit Proofs.Tryz
theorem A6J{p:Plan}{x:LU}(h:x∈p.strips.map (·.scene)):∃ k,∃ hk:k<p.strips.length,idxP (fun y:Strip=>y.scene==x) p.strips=(k:Nat)/\p.strips[k]=stOf p x:=by
 obtain⟨y,hy,e⟩:=List.mem_map.1 h
 cases hq:p.strips.findIdx? (fun y:Strip=>y.scene==x)with
 | none =>
  have:=List.findIdx?_eq_none_iff.1 hq y hy
  simp[e]at this
 | some k =>
  obtain⟨h1,h2,h3⟩:=List.findIdx?_eq_some_iff_getElem.1 hq;refine⟨k,h1,by simp[idxP,hq],?_⟩;have h4:p.strips.find? (fun s=>s.scene==x)=some p.strips[k]:=List.find?_eq_some_iff_getElem.2 ⟨h2,k,h1,rfl,fun j hj=>by simpa using h3 j hj⟩;rw[stOf,h4];rfl
theorem A1Y(y:Strip)(x:Slot):Pc prog 11 [stripA y,.pin 5 [slotA x] 0 0] (· = .bool (y.scene==x.scene)):=by
 simp only[stripA,strA,slotA];refine zpIB func11 rfl fun h ρ w=>?_
 simp only[go_sem];exact zt [3]
theorem A1Z{p:Plan}(hl:p.strips.length<=9)(x:Slot)(s:LB)(id:Nat)(hs:s.getD id .dead=.arr 5 [slotA x]) :
  Ct prog 10 [.fz 8 (p.strips.map stripA),.fn (.func 11) [.ptr id 1 0 0]] s (fun r s'=>r=kI (idxP (fun y:Strip=>y.scene==x.scene) p.strips)/\s'=s):=by
 have h:=ArG 11 [.pin 5 [slotA x] 0 0] rfl (fun y=>y.scene==x.scene) p.strips (by omega) fun y _=>A1Y y x
 have e:[AV.fz 8 (p.strips.map stripA),AV.fn (.func 11) [.ptr id 1 0 0]].map (borF 1 s)=[.fz 8 (p.strips.map stripA),.fn (.func 11) [.pin 5 [slotA x] 0 0]]:=by
  have e1:borP 1 s (.ptr id 1 0 0)=.pin 5 [slotA x] 0 0:=by
   rw[borP,hs];rfl
  show[_,AV.fn _ [borP 1 s (.ptr id 1 0 0)]]=_
  rw[e1];rfl
 rw[<- e]at h;exact Ct.borrowF 1 s h (by rintro _ rfl; rfl)
theorem AjX{S:Std}(hS:LibOk S)(hK:KeyOk S)(L:List Int):PcH prog S 3 [.fz 1 (L.map kI)] (· = .bool true):=by
 have ho:=AuS hS;refine zqIF func3 rfl fun h ρ w hg=>?_
 simp only[go_sem];refine zm 0 (AaX L 0 1 8 (by omega) (by omega) (by omega) (by omega) (by omega)) ?_;rintro _ _ ⟨⟨many,rfl,m1,m2⟩,rfl⟩;apply zgF;simp only[go_sem];refine zmH 0 hg (A1W hK L (0+1) many (by omega) (by omega) m1 (by omega)) ?_;rintro _ _ ⟨p,k1,rfl,ok,rfl,c1,c2⟩;have hbd:=A1B L k1 p (by omega) (by omega) (by have:=ok.few; omega) ok.desk.Lb;simp only[planC]at hbd |-;apply zgF;simp only[go_sem]
 repeat refine aqf ?_
 refine zm 0 (hbd) ?_;rintro _ _ ⟨l,k2,rfl,okb,rfl,c3,c4⟩;have hrows:=ArD hS p ok l okb;have htimes:=AyK hS p ok l okb;simp only[planC,boardA]at hrows htimes |-;apply zgF;simp only[go_sem,planC,boardA]
 repeat refine aqf ?_
 refine zeH hg (hrows) ?_;rintro _ ⟨rows,rfl,hrl,hrw⟩;apply zgF;simp only[go_sem];refine zeH hg (htimes) ?_;rintro _ (⟨y,rfl⟩|⟨Q,rfl,hQ⟩)
 .apply zgF
  simp only[go_sem];refine zqF hg (ho) ?_;simp only[go_sem];exact zt [2]
 apply zgF;simp only[go_sem,slotsA,laa];have hQl:Q.length=l.length:=by
  have:=congrArg List.length hQ
  simpa using this
 have hlf:=okb.few;obtain⟨D,hD,d1,d2⟩:∃ D:LB,D=[.arr 2 [str L k2],.arr 14 [.agg (planC p)],.arr 1 [boardA l]]/\(∀ U,(D++U).getD 1 .dead=.arr 14 [.agg (planC p)])/\(∀ U,(D++U).getD 2 .dead=.arr 1 [boardA l]):=⟨_,rfl,fun _=>rfl,fun _=>rfl⟩;simp only[planC,boardA]at hD d1 d2;rw[<- hD];clear hD hbd hrows htimes;refine AbP (ι:=Nat×LB) (fun y=>rows.length-y.1)
  (fun y=>[(59,kI y.1),(58,kI rows.length),(57,.fz 4 (rows.map rowA)),(8,.fz 1 (Q.map fun s=>.fz 5 (s.map slotA))),(5,.ptr 2 1 0 0),(4,.ptr 1 1 0 0)]) (fun y=>D++y.2) (fun y=>y.1<=rows.length) (0,[]) (by simp) ?_ ?_
 .refine Lg ?_ (by simp)
  simp only[go_sem]
  try rfl
 rintro⟨i,V⟩ g1 J hJ;simp only at g1 hJ |-
 rcases lau i rows.length with hi|hi
 case inr =>
  have di:decide ((i:Int)<(rows.length:Int))=false:=by simp; omega
  apply zgF;simp only[go_sem,di];refine zqF hg (ho) ?_;simp only[go_sem];exact zt [2]
 have di:decide ((i:Int)<(rows.length:Int))=true:=by simp; omega
 have p1:=A1M rows hi;obtain⟨hlp,hrow⟩:=hrw _ (lae hi);have hnx:=fun V=>hJ (i+1,V) (by simp only; omega) (by simp only; omega)
 simp only at hnx;clear hJ;generalize rows[i]=row at p1 hrow;have t1:=fun U=>d1 (V++U)
 have t2:=fun U=>d2 (V++U)
 simp only[<- lab]at t1 t2;have hnx:=fun V2=>hnx (V++V2)
 simp only[<- lab]at hnx;generalize D++V=T at t1 t2 hnx |-;apply zgF;simp only[go_sem,di,p1,rowA,lab,laa,gt_at0,gt_at,st_at,st_at0]
 repeat refine aqf ?_
 obtain⟨rb,hrb⟩:∃ b,b=Blk.arr 4 [.agg [.str row.key,.fz 1 (iA row.marks),kI row.works,kI row.holds]]:=⟨_,rfl⟩;rw[<- hrb,show ∀ b c:Blk,T++[b,c]=(T++[b])++[c] from fun b c=>by simp];obtain⟨n0,hn0⟩:∃ n,n=T.length:=⟨_,rfl⟩;have hT:n0+1=(T++[rb]).length:=by simp[hn0]
 have t3:∀ U,((T++[rb])++U).getD n0 .dead=rb:=fun U=>by rw[hn0,lab,gt_at0]; rfl
 have t1:=fun U=>t1 ([rb]++U)
 have t2:=fun U=>t2 ([rb]++U)
 have hnx:=fun V2=>hnx ([rb]++V2)
 simp only[<- lab]at t1 t2 hnx;rw[<- hn0,hT];generalize T++[rb]=T at t1 t2 t3 hnx hT |-;subst hrb;refine AbP (ι:=Nat×LB) (fun y=>Q.length-y.1)
  (fun y=>[(66,kI y.1),(65,kI Q.length),(64,.fz 1 (Q.map fun s=>.fz 5 (s.map slotA))),(12,.mp T.length),(11,.ptr n0 1 0 0),(59,kI i),(58,kI rows.length),(57,.fz 4 (rows.map rowA)),(8,.fz 1 (Q.map fun s=>.fz 5 (s.map slotA))),(5,.ptr 2 1 0 0),(4,.ptr 1 1 0 0)])
  (fun y=>T++(.mp (dayM (dsOf (evB p (l.take y.1)) row.key))::y.2)) (fun y=>y.1<=Q.length) (0,[]) (by simp) ?_ ?_
 .refine Lg ?_ (by simp[evB,dsOf,dayM])
  simp only[go_sem]
  try rfl
 rintro⟨j,V1⟩ g2 J1 hJ;simp only at g2 hJ |-
 rcases lau j Q.length with hj|hj
 case inr =>
  have dj:decide ((j:Int)<(Q.length:Int))=false:=by simp; omega
  rw[laf (by omega)];clear hJ;have hb:∀ v∈dsOf (evB p l) row.key,l[0].day<=v/\v<=l[l.length-1].day:=fun v hv=>by
   obtain⟨e,he,rfl⟩:=(AhQ (AmU p okb.ord) row.key).2 v hv;obtain⟨d,hd,e2⟩:=AsX he;obtain⟨q,hq,rfl⟩:=List.getElem_of_mem hd;have h3:=ApC okb.ord (i:=0) (j:=q) hq (by omega);have h4:=ApC okb.ord (i:=q) (j:=l.length-1) (by omega) (by omega);omega
  have hd0:=okb.days _ (lae hlp);have hd9:=okb.days _ (lae (show l.length-1<l.length by omega));have hml:=hrow.len;have hwk:=hrow.works;have p2:=AbZ l hlp;obtain⟨fst,hfst⟩:∃ v,v=l[0].day:=⟨_,rfl⟩;obtain⟨lst,hlst⟩:∃ v,v=l[l.length-1].day:=⟨_,rfl⟩;rw[<- hfst]at hb hd0 hml hrow;rw[<- hlst]at hb hd9 hml hrow;obtain⟨ds,hds⟩:∃ d,d=dsOf (evB p l) row.key:=⟨_,rfl⟩;have hw:=fun i hi=>hrow.work i hi
  have hh:=fun i hi=>A1U hrow hb (i:=i) hi
  rw[<- hds]at hwk |-;simp only[<- hds]at hw;have hlv:(lvs (dayM ds)).length=ds.length:=by rw[dayM_lvs,A1T]
  have dw:(((lvs (dayM ds)).length:Int) != row.works)=false:=by rw[hlv,hwk]; simp
  simp only[bdayA,<- hfst]at p2;have hnx:=hnx (.mp (dayM ds)::V1);apply zgF;simp only[go_sem,dj,t1,t2,t3,dw,gt_at0,gt_at,st_at,st_at0,lab,laa];have u1:=fun U=>t1 (.mp (dayM ds)::V1++U)
  have u2:=fun U=>t2 (.mp (dayM ds)::V1++U)
  have u3:=fun U=>t3 (.mp (dayM ds)::V1++U)
  refine AbP (ι:=Nat) (fun y=>row.marks.length-y)
   (fun y=>[(107,kI y),(106,kI row.marks.length),(105,.fz 1 (iA row.marks)),(12,.mp T.length),(11,.ptr n0 1 0 0),(59,kI i),(58,kI rows.length),(57,.fz 4 (rows.map rowA)),(8,.fz 1 (Q.map fun s=>.fz 5 (s.map slotA))),(5,.ptr 2 1 0 0),(4,.ptr 1 1 0 0)])
   (fun y=>T++(.mp (dayM ds)::V1)) (fun y=>y<=row.marks.length) 0 (by simp) ?_ ?_
  .refine Lg ?_ rfl
   simp only[go_sem]
   try rfl
  intro i2 g3 J3 hJ
  rcases lau i2 row.marks.length with hi2|hi2
  case inr =>
   have d2:decide ((i2:Int)<(row.marks.length:Int))=false:=by simp; omega
   clear hJ;apply zgF;simp only[go_sem,d2]
   repeat refine aqf ?_
   rw[ic i];refine ainv hnx (Lg ?_ rfl);simp only[go_sem]
   try rfl
  have d2:decide ((i2:Int)<(row.marks.length:Int))=true:=by simp; omega
  have hJ:=hJ (i2+1) (by omega) (by omega);have m1:=AmY row.marks hi2;have hw:=hw i2 hi2;have hh:=hh i2 hi2;have hix:=AyN row.marks 1 (by omega);generalize hm:row.marks[i2]=m at m1 hw hh;obtain⟨b,hb1,hb2⟩:∃ b,(m==1)=b/\(mfind (.int .i64) (kI (fst+i2)) (dayM ds) 0=some none/\b=false\/∃ q,mfind (.int .i64) (kI (fst+i2)) (dayM ds) 0=some (some (q,.bool true))/\b=true):=by
   refine⟨_,rfl,?_⟩
   rcases AjM (fst+i2) ds 0 with⟨f1,f2⟩|⟨q,f1,f2⟩
   .refine .inl ⟨f1,?_⟩
    rw[beq_eq_false_iff_ne];exact fun e=>f2 (hw.1 e)
   .refine .inr ⟨_,f1,?_⟩
    rw[beq_iff_eq];exact hw.2 (laj f2)
  have hfin:∀ last:Int,(i2:Int)<=last->(∀ j (h:j<row.marks.length),i2<=j->row.marks[j]=1->(j:Int)<=last)->((m==2)&&(decide (idxI 1 row.marks>(i2:Int))||decide (last<=(i2:Int))))=false:=fun last h1 h2=>by
   cases e:m==2 with
   | false=>rfl
   | true =>
    obtain⟨a1,j,hj,a2,a3⟩:=hh (by simpa using e);have:=h2 j hj (by omega) a3;have e1:decide (idxI 1 row.marks>(i2:Int))=false:=by simp; omega
    have e2:decide (last<=(i2:Int))=false:=by simp; omega
    rw[e1,e2]; rfl
  generalize idxI 1 row.marks=first at hix hfin;have hmain:∀ f,mfind (.int .i64) (kI (fst+i2)) (dayM ds) 0=some f->f=none/\b=false\/(∃ q,f=some (q,.bool true))/\b=true:=fun f hf=>by
   rcases hb2 with⟨e,e2⟩|⟨q,e,e2⟩
   .rw [e]at hf; exact .inl ⟨(Option.some.inj hf).symm,e2⟩
   .rw [e]at hf; exact .inr ⟨⟨q,(Option.some.inj hf).symm⟩,e2⟩
  apply zgF
  rcases hb2 with⟨f1,rfl⟩|⟨q,f1,rfl⟩
  .simp only[go_sem,d2,m1,p2,f1,hb1,t1,t2,t3,gt_at0,gt_at,st_at,st_at0,lab,laa]
   repeat refine aqf ?_
   refine zpF (hix) ?_;simp only[go_sem,t3,gt_at0,gt_at,st_at,st_at0,lab,laa];refine AbP (ι:=Nat×Int) (fun y=>row.marks.length-y.1)
    (fun y=>[(23,kI y.1),(22,kI y.2),(21,kI first),(19,kI m),(18,kI i2),(107,kI i2),(106,kI row.marks.length),(105,.fz 1 (iA row.marks)),(12,.mp T.length),(11,.ptr n0 1 0 0),(59,kI i),(58,kI rows.length),(57,.fz 4 (rows.map rowA)),(8,.fz 1 (Q.map fun s=>.fz 5 (s.map slotA))),(5,.ptr 2 1 0 0),(4,.ptr 1 1 0 0)])
    (fun y=>T++(.mp (dayM ds)::V1)) (fun y=>(i2<=y.1/\y.1<=row.marks.length)/\(i2:Int)<=y.2/\∀ j (h:j<row.marks.length),i2<=j->j<y.1->row.marks[j]=1->(j:Int)<=y.2) (i2,i2) ⟨by simp only; omega,by simp,fun j h h1 h2=>by simp only at h2; omega⟩ ?_ ?_
   .refine Lg ?_ rfl
    simp only[go_sem]
    try rfl
   rintro⟨k,last⟩ ⟨g4,g5,g6⟩ J4 hJ4;simp only at g4 g5 g6 hJ4 |-
   rcases lau k row.marks.length with hk|hk
   case inr =>
    have dk:decide ((k:Int)<(row.marks.length:Int))=false:=by simp; omega
    have hf:=hfin last g5 fun j h h1 h2=>g6 j h h1 (by omega) h2
    clear hJ4
    cases em:m==2 with
    | true =>
     rw[em,Bool.true_and,Bool.or_eq_false_iff]at hf;have f2:decide ((i2:Int)<first)=false:=hf.1;have f3:=hf.2;apply zgF;simp only[go_sem,dk,em,f2,f3,t3,gt_at0,gt_at,st_at,st_at0,lab,laa]
     repeat refine aqf ?_
     rw[ic i2];refine ainv hJ (Lg ?_ rfl);simp only[go_sem]
     try rfl
    | false =>
     apply zgF;simp only[go_sem,dk,em,t3,gt_at0,gt_at,st_at,st_at0,lab,laa]
     repeat refine aqf ?_
     rw[ic i2];refine ainv hJ (Lg ?_ rfl);simp only[go_sem]
     try rfl
   have dk:decide ((k:Int)<(row.marks.length:Int))=true:=by simp; omega
   have m2:=AmY row.marks hk;have hJ4:=fun last h=>hJ4 (k+1,last) h (by simp only; omega)
   simp only at hJ4;generalize hv:row.marks[k]=v at m2
   cases e:v==1 with
   | true =>
    have hJ4:=hJ4 k ⟨by omega,by omega,fun j h h1 h2 h3=>by omega⟩;apply zgF;simp only[go_sem,dk,m2,e,t3,gt_at0,gt_at,st_at,st_at0,lab,laa]
    repeat refine aqf ?_
    rw[ic k];refine ainv hJ4 (Lg ?_ rfl);simp only[go_sem]
    try rfl
   | false =>
    have hJ4:=hJ4 last ⟨by omega,by omega,fun j h h1 h2 h3=>by
     rcases lau j k with h4|h4
     .exact g6 j h h1 h4 h3
     .have:j=k:=by omega
      subst this;rw[hv]at h3;rw[h3]at e
      simp at e⟩
    apply zgF;simp only[go_sem,dk,m2,e,t3,gt_at0,gt_at,st_at,st_at0,lab,laa]
    repeat refine aqf ?_
    rw[ic k];refine ainv hJ4 (Lg ?_ rfl);simp only[go_sem]
    try rfl
  .simp only[go_sem,d2,m1,p2,f1,hb1,t1,t2,t3,gt_at0,gt_at,st_at,st_at0,lab,laa]
   repeat refine aqf ?_
   refine zpF (hix) ?_;simp only[go_sem,t3,gt_at0,gt_at,st_at,st_at0,lab,laa];refine AbP (ι:=Nat×Int) (fun y=>row.marks.length-y.1)
    (fun y=>[(23,kI y.1),(22,kI y.2),(21,kI first),(19,kI m),(18,kI i2),(107,kI i2),(106,kI row.marks.length),(105,.fz 1 (iA row.marks)),(12,.mp T.length),(11,.ptr n0 1 0 0),(59,kI i),(58,kI rows.length),(57,.fz 4 (rows.map rowA)),(8,.fz 1 (Q.map fun s=>.fz 5 (s.map slotA))),(5,.ptr 2 1 0 0),(4,.ptr 1 1 0 0)])
    (fun y=>T++(.mp (dayM ds)::V1)) (fun y=>(i2<=y.1/\y.1<=row.marks.length)/\(i2:Int)<=y.2/\∀ j (h:j<row.marks.length),i2<=j->j<y.1->row.marks[j]=1->(j:Int)<=y.2) (i2,i2) ⟨by simp only; omega,by simp,fun j h h1 h2=>by simp only at h2; omega⟩ ?_ ?_
   .refine Lg ?_ rfl
    simp only[go_sem]
    try rfl
   rintro⟨k,last⟩ ⟨g4,g5,g6⟩ J4 hJ4;simp only at g4 g5 g6 hJ4 |-
   rcases lau k row.marks.length with hk|hk
   case inr =>
    have dk:decide ((k:Int)<(row.marks.length:Int))=false:=by simp; omega
    have hf:=hfin last g5 fun j h h1 h2=>g6 j h h1 (by omega) h2
    clear hJ4
    cases em:m==2 with
    | true =>
     rw[em,Bool.true_and,Bool.or_eq_false_iff]at hf;have f2:decide ((i2:Int)<first)=false:=hf.1;have f3:=hf.2;apply zgF;simp only[go_sem,dk,em,f2,f3,t3,gt_at0,gt_at,st_at,st_at0,lab,laa]
     repeat refine aqf ?_
     rw[ic i2];refine ainv hJ (Lg ?_ rfl);simp only[go_sem]
     try rfl
    | false =>
     apply zgF;simp only[go_sem,dk,em,t3,gt_at0,gt_at,st_at,st_at0,lab,laa]
     repeat refine aqf ?_
     rw[ic i2];refine ainv hJ (Lg ?_ rfl);simp only[go_sem]
     try rfl
   have dk:decide ((k:Int)<(row.marks.length:Int))=true:=by simp; omega
   have m2:=AmY row.marks hk;have hJ4:=fun last h=>hJ4 (k+1,last) h (by simp only; omega)
   simp only at hJ4;generalize hv:row.marks[k]=v at m2
   cases e:v==1 with
   | true =>
    have hJ4:=hJ4 k ⟨by omega,by omega,fun j h h1 h2 h3=>by omega⟩;apply zgF;simp only[go_sem,dk,m2,e,t3,gt_at0,gt_at,st_at,st_at0,lab,laa]
    repeat refine aqf ?_
    rw[ic k];refine ainv hJ4 (Lg ?_ rfl);simp only[go_sem]
    try rfl
   | false =>
    have hJ4:=hJ4 last ⟨by omega,by omega,fun j h h1 h2 h3=>by
     rcases lau j k with h4|h4
     .exact g6 j h h1 h4 h3
     .have:j=k:=by omega
      subst this;rw[hv]at h3;rw[h3]at e
      simp at e⟩
    apply zgF;simp only[go_sem,dk,m2,e,t3,gt_at0,gt_at,st_at,st_at0,lab,laa]
    repeat refine aqf ?_
    rw[ic k];refine ainv hJ4 (Lg ?_ rfl);simp only[go_sem]
    try rfl
 have dj:decide ((j:Int)<(Q.length:Int))=true:=by simp; omega
 have hjl:j<l.length:=by omega
 have hqs:Q[j].map (·.scene)=l[j].Lb:=by
  have:=congrArg (fun x:List (List LU)=>x[j]?) hQ
  simpa[hj,hjl]using this
 have p3:(Q.map fun s=>AV.fz 5 (s.map slotA)).getD j .any=.fz 5 (Q[j].map slotA):=by simp[List.getD,hj]
 have hJ:=fun V=>hJ (j+1,V) (by simp only; omega) (by simp only; omega)
 simp only at hJ;have hdk:=okb.days _ (lae hjl);have p4:=AbZ l hjl;have hsc:∀ x∈l[j].Lb,x∈p.strips.map (·.scene):=fun x hx=>okb.Lb.2 x (List.mem_flatMap.2 ⟨_,lae hjl,hx⟩)
 have hev:=fun ss=>A9D p okb.ord hjl ss row.key
 rw[<- A1R p l hjl,<- hqs]at hJ;rw[<- A6H p l j l[j].day];rw[<- hqs]at hsc hdk;simp only[bdayA,strA]at p4;generalize l[j].day=dy at hJ hev hdk p4 |-;generalize l[j].Lb=ss at p4;generalize Q[j]=q at hJ hsc hdk p3;apply zgF;simp only[go_sem,dj,p3,laa]
 repeat refine aqf ?_
 have hq9:q.length<=9:=by have:=hdk.2.2.2; simpa using this
 refine AbP (ι:=Nat×LB) (fun y=>q.length-y.1)
  (fun y=>[(73,kI y.1),(72,kI q.length),(71,.fz 5 (q.map slotA)),(13,kI j),(66,kI j),(65,kI Q.length),(64,.fz 1 (Q.map fun s=>.fz 5 (s.map slotA))),(12,.mp T.length),(11,.ptr n0 1 0 0),(59,kI i),(58,kI rows.length),(57,.fz 4 (rows.map rowA)),(8,.fz 1 (Q.map fun s=>.fz 5 (s.map slotA))),(5,.ptr 2 1 0 0),(4,.ptr 1 1 0 0)])
  (fun y=>T++(.mp (dayM (dsOf (evU p l j dy ((q.take y.1).map (·.scene))) row.key))::y.2)) (fun y=>y.1<=q.length) (0,V1) (by simp) ?_ ?_
 .refine Lg ?_ rfl
  simp only[go_sem]
  try rfl
 rintro⟨k,V2⟩ g3 J2 hJ2;simp only at g3 hJ2 |-
 rcases lau k q.length with hk|hk
 case inr =>
  have dk:decide ((k:Int)<(q.length:Int))=false:=by simp; omega
  rw[laf (by omega)];clear hJ2;have hf:=hJ V2;apply zgF;simp only[go_sem,dk]
  repeat refine aqf ?_
  rw[ic j];refine ainv hf (Lg ?_ rfl);simp only[go_sem]
  try rfl
 have dk:decide ((k:Int)<(q.length:Int))=true:=by simp; omega
 have hJ2:=fun V=>hJ2 (k+1,V) (by simp only; omega) (by simp only; omega)
 simp only at hJ2;rw[show(q.take (k+1)).map (·.scene)=(q.take k).map (·.scene)++[q[k].scene] by rw[lag hk,lav]; rfl,evU_snoc,A1Q]at hJ2;have hxs:=hsc _ (List.mem_map.2 ⟨_,lae hk,rfl⟩);have p5:=ApH q hk;obtain⟨ki,hki,f1,f2⟩:=A6J hxs;obtain⟨hin,hle⟩:=hev ((q.take k).map (·.scene));generalize dsOf (evU p l j dy ((q.take k).map (·.scene))) row.key=ds at hJ2 hin hle |-;have hix:=fun s id=>A1Z (p:=p) (by have:=ok.few; omega) q[k] s id
 rw[f1]at hix;generalize q[k]=x at hJ2 hxs p5 hix f1 f2;have p6:=AcH p.strips hki;rw[f2]at p6;have hpf:=AcZ ok (AcF hxs).1;generalize stOf p x.scene=st at p6 hpf hJ2;have hct:=ArF st.people row.key (by omega);simp only[stripA,strA,slotA]at p5 p6 hix;apply zgF;simp only[go_sem,dk,p5,t1,t2,laa,gt_at0,gt_at,st_at,st_at0,lab,laa]
 repeat refine aqf ?_
 refine za ((hix _ _ (by rw[gt_at,List.getD_cons_succ,gt_at0]; rfl))) ?_;rintro _ _ ⟨rfl,rfl⟩;apply zgF;simp only[go_sem,t1,t2,gt_at0,gt_at,st_at,st_at0,lab,laa];refine AoL [8] (T.length+(V2.length+9)) [] AaL (by decide) rfl rfl 100 ?_;simp only[go_sem,Go.Av.dxn,Go.Av.dxnc,↓Go.Av.AbF,↓Go.Av.AaY,Go.Av.dbrn,t1,t2,t3,p6,gt_at0,gt_at,st_at,st_at0,lab,laa]
 repeat refine aqf ?_
 refine AwS hct rfl ⟨_,rfl⟩ ?_;rintro _ rfl
 cases hd:decide (row.key∈st.people)with
 | false =>
  have hnk:¬ row.key∈st.people:=by simpa using hd
  simp only[hnk,false_and,if_false]at hJ2;apply zgF;simp only[go_sem]
  repeat refine aqf ?_
  rw[ic k];refine ainv (hJ2 (V2++[.arr 5 [.agg [.str x.scene,kI x.fr,kI x.till,kI x.drive,kI x.ch]]])) (Lg ?_ rfl);simp only[go_sem]
  try rfl
 | true =>
  have hk2:row.key∈st.people:=by simpa using hd
  simp only[hk2,true_and]at hJ2
  rcases AjM dy ds 0 with⟨e1,e2⟩|⟨u,e1,e2⟩
  .rw [AsW hin hle]at e2
   simp only[ne_eq,e2,not_false_eq_true,if_true]at hJ2;rw[<- AyO]at hJ2;apply zgF;simp only[go_sem,t1,t2,t3,p4,e1,laa,gt_at0,gt_at,st_at,st_at0,lab,laa]
   repeat refine aqf ?_
   rw[ic k];refine ainv (hJ2 (V2++[.arr 5 [.agg [.str x.scene,kI x.fr,kI x.till,kI x.drive,kI x.ch]]])) (Lg ?_ rfl);simp only[go_sem]
   try rfl
  .have e3:=(AsW hin hle).1 (laj e2)
   simp only[ne_eq,e3,not_true_eq_false,if_false]at hJ2;have e4:=A1S ds u dy e2;rw[lbc]at e1;apply zgF;simp only[go_sem,t1,t2,t3,p4,e1,laa,gt_at0,gt_at,st_at,st_at0,lab,laa]
   repeat refine aqf ?_
   rw[e4,show(k:Int)+1=((k+1:Nat):Int) by omega];refine ainv (hJ2 (V2++[.arr 5 [.agg [.str x.scene,kI x.fr,kI x.till,kI x.drive,kI x.ch]]])) (Lg ?_ rfl);simp only[go_sem]
   try rfl
