/- Parts of leaves: plain law; leavesFault, walked. -/
import Derived.Test.YtmhjbljckkgeoaaGreatDoorC30
set_option maxRecDepth 100000
set_option maxHeartbeats 8000000
set_option linter.all false
namespace Go.Proofs.YtmhjbljckkgeoaaGreatDoor
open Av RowKit Proofs.Tryz
def fst(l:List Le')(j:Nat):LU:=(l.getD j le0).first
def rat(rs:List (Nat×Nat))(k:Nat):Nat×Nat:=rs.getD k (0,0)
structure RInv(l:List Le')(i:Nat)(rs:List (Nat×Nat)):Prop where
 one:∀ k,k<rs.length->(rat rs k).1<(rat rs k).2/\(rat rs k).2<=i/\fst l (rat rs k).1≠[]/\∀ j,(rat rs k).1<j->j<(rat rs k).2->fst l j=[]
 adj:∀ k,k+1<rs.length->(rat rs k).2=(rat rs (k+1)).1
 last:0<rs.length->(rat rs (rs.length-1)).2=i
 begins:∀ j,j<i->fst l j≠[]->0<rs.length/\(rat rs 0).1<=j
theorem rat_app{rs:List (Nat×Nat)}{r:Nat×Nat}{k:Nat}:rat (rs++[r]) k=if k<rs.length then rat rs k else if k=rs.length then r else(0,0):=by
 grind[rat]
theorem BsS{rs:List (Nat×Nat)}{r:Nat×Nat}{k m:Nat}(hm:m<rs.length):rat (rs.set m r) k=if k=m then r else rat rs k:=by
 grind[rat]
theorem BeD{l:List Le'}{i:Nat}{rs:List (Nat×Nat)}(h:RInv l i rs)(hi:i<l.length):RInv l (i+1) (runStep rs i l[i]):=by
 have hf:fst l i=l[i].first:=by grind[fst]
 unfold runStep
 by_cases h0:l[i].first=[]
 .simp only [h0,ne_eq,not_true_eq_false,if_false]
  by_cases hr:rs=[]
  .refine ⟨fun k hk=>by grind,fun k hk=>by grind,fun hk=>by grind,fun j hj hne=>?_⟩
   by_cases e:j=i
   .grind
   .have:=(h.begins j (by omega) hne).1; grind
  .rw [if_neg hr]
   have hp:=List.length_pos_iff.2 hr;have hl:=h.last hp;have ho:=h.one (rs.length-1) (by omega);have hm:rs.length-1<rs.length:=by omega
   have hset:∀ k,rat (rs.set (rs.length-1) ((rat rs (rs.length-1)).1,i+1)) k=if k=rs.length-1 then((rat rs (rs.length-1)).1,i+1) else rat rs k:=fun k=>BsS hm
   show RInv l (i+1) (rs.set (rs.length-1) ((rat rs (rs.length-1)).1,i+1))
   refine⟨fun k hk=>?_,fun k hk=>?_,fun hk=>?_,fun j hj hne=>?_⟩
   .rw [List.length_set]at hk
    rw[hset]
    by_cases e:k=rs.length-1
    .grind
    .rw [if_neg e]
     have:=h.one k hk
     grind
   .rw [List.length_set]at hk
    rw[hset,hset,if_neg (by omega)];have:=h.adj k hk
    grind
   .grind
   .rw [List.length_set,hset]
    by_cases e:j=i
    .grind
    .have:=h.begins j (by omega) hne
     grind
 .simp only [h0,ne_eq,not_false_eq_true,if_true]
  refine⟨fun k hk=>?_,fun k hk=>?_,fun hk=>?_,fun j hj hne=>?_⟩
  .rw [rat_app]
   rw[lah]at hk
   by_cases e:k<rs.length
   .rw [if_pos e]
    have:=h.one k e
    grind
   grind
  .rw [lah]at hk
   simp at hk
   rw[rat_app,rat_app,if_pos (by omega)]
   by_cases e:k+1<rs.length
   .rw [if_pos e]; exact h.adj k e
   .rw [if_neg e,if_pos (by omega)]
    have:=h.last (by omega)
    grind
  .grind[rat_app]
  .rw [rat_app,lah]
   refine⟨by simp,?_⟩
   by_cases e:0<rs.length
   .rw [if_pos e]
    by_cases e2:j=i
    .subst e2
     have:=h.one 0 e;omega
    .exact (h.begins j (by omega) hne).2
   .rw [if_neg e,if_pos (by omega)]
    by_cases e2:j=i
    .omega
    .exact absurd (h.begins j (by omega) hne).1 e
theorem AkR(l:List Le'):∀ i,i<=l.length->RInv l i (runsTo l i)
 | 0,_=>⟨fun k hk=>by grind[runsTo],fun k hk=>by grind[runsTo],fun hk=>by grind[runsTo],fun j hj=>by omega⟩
 | i+1,h=>by
  have hi:i<l.length:=by omega
  simp only[runsTo,lam hi];exact BeD (AkR l i (by omega)) hi
theorem AcI(l:List Le'):RInv l l.length (runsL l):=AkR l _ (lab _)
theorem AoI{l:List Le'}{k:Nat}(hk:k<(runsL l).length)(h:(rat (runsL l) k).2<l.length):fst l (rat (runsL l) k).2≠[]:=by
 have hi:=AcI l
 by_cases e:k+1<(runsL l).length
 .rw [hi.adj k e]
  exact(hi.one (k+1) e).2.2.1
 .have:=hi.last (by omega)
  grind
def ixN(E:List LU)(x:LU):Nat:=(E.findIdx? (fun y=>x==y)).getD E.length
def segE(E:List LU)(l:List Le')(r:Nat×Nat):List LU :=
 (E.take (if r.2<l.length then ixN E (fst l r.2) else E.length)).drop (ixN E (fst l r.1))
theorem AfT{E:List LU}{x:LU}(h:x∈E):∃ hi:ixN E x<E.length,E[ixN E x]=x/\idxP (fun y=>x==y) E=(ixN E x:Int):=by
 unfold ixN idxP
 cases hq:E.findIdx? (fun y=>x==y)<;>grind[List.findIdx?_eq_some_iff_getElem]
theorem AjE{E:List LU}(hE:E.Pairwise nLt){x y:LU}(hx:x∈E)(hy:y∈E)(h:nLt x y):ixN E x<ixN E y:=by
 obtain⟨i1,i2,_⟩:=AfT hx;obtain⟨j1,j2,_⟩:=AfT hy
 grind[nLt_irrefl,lbj,nLt_trans]
structure LvOk(d:Dr)(E:List LU):Prop where
 empt:E=[] ↔ d.La=[]
 head:E≠[]->fst d.La 0=E.getD 0 []
 mem:∀ j,j<d.La.length->fst d.La j≠[]->fst d.La j∈E
 rise:∀ i j,i<j->j<d.La.length->fst d.La i≠[]->fst d.La j≠[]->nLt (fst d.La i) (fst d.La j)
 Lh:∀ k,k<(runsL d.La).length->(layL (entsB d.Lc (segE E d.La (rat (runsL d.La) k)))).Lh=((d.La.take (rat (runsL d.La) k).2).drop (rat (runsL d.La) k).1).map (·.Lb)
def lastF(l:List Le'):Nat->LU
 | 0=>[]
 | i+1=>if fst l i=[] then lastF l i else fst l i
structure AInv(l:List Le')(E:List LU)(i:Nat):Prop where
 mem:∀ j,j<i->fst l j≠[]->fst l j∈E
 rise:∀ a b,a<b->b<i->fst l a≠[]->fst l b≠[]->nLt (fst l a) (fst l b)
 top:∀ j,j<i->fst l j≠[]->lastF l i≠[]/\(fst l j=lastF l i\/nLt (fst l j) (lastF l i))
 isAt:lastF l i≠[]->∃ j,j<i/\fst l j=lastF l i
theorem AxR{l:List Le'}{E:List LU}{i:Nat}(h:AInv l E i)(h0:fst l i=[]):AInv l E (i+1):=by
 have e:lastF l (i+1)=lastF l i:=by grind[lastF]
 refine⟨fun j hj hn=>?_,fun a b hab hb ha hb'=>?_,fun j hj hn=>?_,fun hn=>?_⟩
 .by_cases q:j=i
  .grind
  .exact h.mem j (by omega) hn
 .by_cases q:b=i
  .grind
  .exact h.rise a b hab (by omega) ha hb'
 .rw [e]
  by_cases q:j=i
  .grind
  .exact h.top j (by omega) hn
 .rw [e]at hn |-
  obtain⟨j,h1,h2⟩:=h.isAt hn
  grind
theorem AtU{l:List Le'}{E:List LU}{i:Nat}(h:AInv l E i)(h0:fst l i≠[])(hm:fst l i∈E)(hr:lastF l i≠[]->nLt (lastF l i) (fst l i)):AInv l E (i+1):=by
 have e:lastF l (i+1)=fst l i:=by grind[lastF]
 have key:∀ j,j<i->fst l j≠[]->nLt (fst l j) (fst l i):=fun j hj hn=>by
  obtain⟨t1,t2⟩:=h.top j hj hn
  grind[nLt_trans]
 refine⟨fun j hj hn=>?_,fun a b hab hb ha hb'=>?_,fun j hj hn=>?_,fun hn=>?_⟩
 .by_cases q:j=i
  .grind
  .exact h.mem j (by omega) hn
 .by_cases q:b=i
  .grind
  .exact h.rise a b hab (by omega) ha hb'
 all_goals grind
theorem AtV{d:Dr}{E:List LU}(hE:EntOf d E):∀ x∈E,x≠[]:=fun x hx e=>by
 have:=hE.num x hx;subst e;exact absurd this (by decide)
theorem AoJ{xs:List Sc}{E:List LU}(hm:MdOk xs E)(a b:Nat):MdOk xs ((E.take b).drop a):=by
 refine⟨hm.sc,hm.nod,hm.few,?_,fun n hn=>hm.num n (lat (lav hn))⟩;have:=hm.fewN
 grind
theorem AfF{xs:List Sc}{nos:List LU}(hm:MdOk xs nos):(layL (entsB xs nos)).Lh.length<=1000000000000/\∀ p∈(layL (entsB xs nos)).Lh,1<=p.length/\p.length<=54:=by
 have h1:=ArC hm;rw[firsts_pages]at h1;refine⟨h1,(BdM fun b hb=>?_).1⟩;obtain⟨n,hn,hb⟩:=List.mem_flatMap.1 hb;exact((AdA hm.sc (hm.num n hn)).1 b hb).1.own
theorem BsT{rs:List (Nat×Nat)}{k:Nat}(h:k<rs.length):List.getD (rs.map rnA) k .any=.agg [.int .i64 ((rat rs k).1:Int),.int .i64 ((rat rs k).2:Int)]:=by grind[rnA,rat]
theorem AoK{St:Std}(hS:LibOk St)(d:Dr)(E:List LU)(hE:EntOf d E)(hm:MdOk d.Lc E)(hgl:d.Lp.length<=1000)(hl:d.La.length<=100000)
  (hb:∀ f∈d.La,f.Lb.length<1000000) :
  PcH prog St 28 [drA d] (fun r=>∃ n:Int,r=.int .i64 n/\(n=0 ↔ LvOk d E)):=by
 have hent:=A7U d E hE hgl (by have:=hm.few; omega);have hEl:=hm.fewN;have hmade:=BlW hS d;obtain⟨no,ti,xs,go,le⟩:=d;simp only at hm hgl hl hb hmade;simp only[drA]at hent hmade |-
 by_cases hee:E=[]
 .have q1:((E.length:Int)==0)=true:=by grind
  by_cases hle:le=[]
  .have q2:((le.length:Int)==0)=true:=by grind
   have hok:LvOk ⟨no,ti,xs,go,le⟩ E:=by
    subst hle;exact⟨by grind,fun h=>absurd hee h,fun j hj=>by grind,fun i j _ hj=>by grind,fun k hk=>by grind[runsL,runsTo]⟩
   refine zqIB func28 rfl fun h ρ w hg=>?_
   simp only[go_sem];refine zpB (hent) ?_;simp only[go_sem,q1,q2,laa];exact aret [2] rfl ⟨⟨0,rfl,by grind⟩,rfl⟩
  .have q2:((le.length:Int)==0)=false:=by simp_all
   have hno:¬ LvOk ⟨no,ti,xs,go,le⟩ E:=fun h=>hle (h.empt.1 hee)
   refine zqIB func28 rfl fun h ρ w hg=>?_
   simp only[go_sem];refine zpB (hent) ?_;simp only[go_sem,q1,q2,laa];exact aret [2] rfl ⟨⟨3,rfl,by grind⟩,rfl⟩
 .have q1:((E.length:Int)==0)=false:=by simp_all
  have hEp:=List.length_pos_iff.2 hee
  by_cases hle:le=[]
  .have q2:((le.length:Int)==0)=true:=by grind
   have hno:¬ LvOk ⟨no,ti,xs,go,le⟩ E:=fun h=>hee (h.empt.2 hle)
   refine zqIB func28 rfl fun h ρ w hg=>?_
   simp only[go_sem];refine zpB (hent) ?_;simp only[go_sem,q1,q2,laa];exact aret [2] rfl ⟨⟨3,rfl,by grind⟩,rfl⟩
  .have q2:((le.length:Int)==0)=false:=by simp_all
   have hlp:=List.length_pos_iff.2 hle;have hg0:=AaY hlp;have hE0:List.getD (E.map AV.str) 0 .any=.str E[0]:=by grind
   have hf0:fst le 0=le[0].first:=by grind[fst]
   by_cases hh:le[0].first=E[0]
   .have q3:(le[0].first != E[0])=false:=by grind
    refine zqIB func28 rfl fun h ρ w hg=>?_
    simp only[go_sem];refine zpB (hent) ?_;simp only[go_sem,q1,q2,laa];refine zr [] AaF ?_;simp only[go_sem,hg0,hE0,q3,laa]
    repeat refine ao ?_
    apply zgB;simp only[go_sem,laa];refine AaC (ι:=Nat) (fun i=>le.length-i)
     (fun i=>[(37,.int .i64 i),(36,.int .i64 le.length),(35,.fz 4 (le.map leA)),(3,.fz 1 (E.map .str)),(4,.str (lastF le i)),(1,.pin 5 [.agg [.int .i64 no,.str ti,.fz 5 (xs.map scA),.fz 1 (go.map .str),.fz 4 (le.map leA)]] 0 0)])
     (fun _=>[]) (fun i=>i<=le.length/\AInv le E i) 0 ⟨by omega,fun j hj=>by omega,fun a b _ hb=>by omega,fun j hj=>by omega,fun h=>absurd rfl h⟩ ?_ ?_
    .refine Ls ?_
     simp only[go_sem,lastF]
    .rintro i ⟨g1,g2⟩ J hJ
     by_cases gi:i<le.length
     .have di:decide ((i:Int)<(le.length:Int))=true:=by grind
      have hg':=AaY gi;have hfi:fst le i=le[i].first:=by grind[fst]
      rw[<- hfi]at hg'
      by_cases h0:fst le i=[]
      .have q4:(fst le i==[])=true:=by grind
       have hfin:=hJ (i+1) ⟨by omega,AxR g2 h0⟩ (by omega);rw[show lastF le (i+1)=lastF le i by grind[lastF]]at hfin;apply zgB;simp only[go_sem,di,hg',q4,laa]
       repeat refine ao ?_
       rw[ic i];refine ainv hfin (Shift.low 0 (by simp) (by simp) rfl ?_);simp only[go_sem]
      .have q4:(fst le i==[])=false:=by grind
       have hct:=AiH E (fst le i) (by omega)
       by_cases hmE:fst le i∈E
       .have dm:decide (fst le i∈E)=true:=by grind
        rw[dm]at hct
        by_cases hz:lastF le i=[]
        .have q5:(lastF le i != [])=false:=by grind
         have hfin:=hJ (i+1) ⟨by omega,AtU g2 h0 hmE fun h=>absurd hz h⟩ (by omega);rw[show lastF le (i+1)=fst le i by grind[lastF]]at hfin;apply zgB;simp only[go_sem,di,hg',q4,laa]
         repeat refine ao ?_
         refine zpB (hct) ?_;simp only[go_sem,q5]
         repeat refine ao ?_
         rw[ic i];refine ainv hfin (Shift.low 0 (by simp) (by simp) rfl ?_);simp only[go_sem]
        .have q5:(lastF le i != [])=true:=by grind
         obtain⟨j,hj,hjl⟩:=g2.isAt hz;have hnl:numberL (lastF le i)=true:=by
          rw[<- hjl];exact hE.num _ (g2.mem j hj (by grind))
         have hc:=AcM (fst le i) (lastF le i) (hE.num _ hmE) hnl
         by_cases hle':compareN (fst le i) (lastF le i)<=0
         .have dl:decide (compareN (fst le i) (lastF le i)<=0)=true:=by grind
          have hno:¬ LvOk ⟨no,ti,xs,go,le⟩ E:=fun h=>by
           have:=h.rise j i hj gi (by grind) h0
           grind[compareN_le]
          apply zgB;simp only[go_sem,di,hg',q4,laa]
          repeat refine ao ?_
          refine zpB (hct) ?_;simp only[go_sem,q5]
          repeat refine ao ?_
          refine zpB (hc) ?_;simp only[go_sem,dl];exact aret [2] rfl ⟨⟨3,rfl,by grind⟩,rfl⟩
         .have dl:decide (compareN (fst le i) (lastF le i)<=0)=false:=by grind
          have hlt:nLt (lastF le i) (fst le i):=Classical.byContradiction fun e=>hle' (compareN_le.2 e)
          have hfin:=hJ (i+1) ⟨by omega,AtU g2 h0 hmE fun _=>hlt⟩ (by omega);rw[show lastF le (i+1)=fst le i by grind[lastF]]at hfin;apply zgB;simp only[go_sem,di,hg',q4,laa]
          repeat refine ao ?_
          refine zpB (hct) ?_;simp only[go_sem,q5]
          repeat refine ao ?_
          refine zpB (hc) ?_;simp only[go_sem,dl]
          repeat refine ao ?_
          rw[ic i];refine ainv hfin (Shift.low 0 (by simp) (by simp) rfl ?_);simp only[go_sem]
       .have dm:decide (fst le i∈E)=false:=by grind
        rw[dm]at hct;have hno:¬ LvOk ⟨no,ti,xs,go,le⟩ E:=fun h=>hmE (h.mem i gi h0)
        apply zgB;simp only[go_sem,di,hg',q4,laa]
        repeat refine ao ?_
        refine zpB (hct) ?_;simp only[go_sem];exact aret [2] rfl ⟨⟨3,rfl,by grind⟩,rfl⟩
     .have di:decide ((i:Int)<(le.length:Int))=false:=by grind
      have hi:i=le.length:=by omega
      subst hi;have hruns:=BsQ le hl;have hRI:=AcI le;have hRn:=@AoI le;have hRl:(runsL le).length<=le.length:=AcC le le.length;apply zgB;simp only[go_sem,di];refine zpB (hruns) ?_;simp only[go_sem,laa];refine AaC (ι:=Nat) (fun i=>(runsL le).length-i)
       (fun i=>[(67,.int .i64 i),(66,.int .i64 (runsL le).length),(65,.fz 2 ((runsL le).map rnA)),(3,.fz 1 (E.map .str)),(1,.pin 5 [.agg [.int .i64 no,.str ti,.fz 5 (xs.map scA),.fz 1 (go.map .str),.fz 4 (le.map leA)]] 0 0)])
       (fun _=>[]) (fun i=>i<=(runsL le).length/\∀ k,k<i->(layL (entsB xs (segE E le (rat (runsL le) k)))).Lh=((le.take (rat (runsL le) k).2).drop (rat (runsL le) k).1).map (·.Lb)) 0 (by simp) ?_ ?_
      .refine Ls ?_
       simp only[go_sem]
      .clear hJ J
       rintro i ⟨k1,k2⟩ J hJ
       by_cases gi:i<(runsL le).length
       .have di:decide ((i:Int)<((runsL le).length:Int))=true:=by grind
        have hgr:=BsT gi;obtain⟨o1,o2,o3,o4⟩:=hRI.one i gi;have hnx:=hRn gi;have out:(layL (entsB xs (segE E le (rat (runsL le) i)))).Lh=((le.take (rat (runsL le) i).2).drop (rat (runsL le) i).1).map (·.Lb)->∀ (a:Act) (w':World),Sim _ _ _ a w'->J a w':=fun e=>hJ (i+1) ⟨by omega,fun k hk=>by
         grind⟩ (by omega)
        have bad:¬ (layL (entsB xs (segE E le (rat (runsL le) i)))).Lh=((le.take (rat (runsL le) i).2).drop (rat (runsL le) i).1).map (·.Lb)->¬ LvOk ⟨no,ti,xs,go,le⟩ E:=fun e h=>e (h.Lh i gi)
        generalize rat (runsL le) i=r at *;have hr1:r.1<le.length:=by omega
        have hfr1:fst le r.1=le[r.1].first:=by grind[fst]
        have hm1:=g2.mem _ hr1 o3;obtain⟨f1,f2,f3⟩:=AfT hm1;have hb2:Pc prog 71 [.fz 1 (E.map .str),.fz 4 (le.map leA),rnA r] (· = .fz 1 ((segE E le r).map .str)):=by
         unfold segE
         by_cases h5:r.2<le.length
         .have hfr2:fst le r.2=le[r.2].first:=by grind[fst]
          have hm2:=g2.mem _ h5 (hnx h5);obtain⟨t1,t2,t3⟩:=AfT hm2;have hlt:=AjE hE.sorted hm1 hm2 (g2.rise _ _ o1 h5 o3 (hnx h5));rw[if_pos h5];exact AoG E le r _ _ (by omega) hl hr1 o2 (by grind) (by grind) (by omega) (by omega)
         .rw [if_neg h5]
          exact AoG E le r _ _ (by omega) hl hr1 o2 (by grind) (by grind) (by omega) (by omega)
        have hmd:MdOk xs (segE E le r):=AoJ hm _ _;have hmk:=hmade (segE E le r) hmd;obtain⟨bd1,bd2⟩:=AfF hmd;generalize (layL (entsB xs (segE E le r))).Lh=Pg at *;generalize segE E le r=sg at *;have hsl:List.drop r.1 (List.take r.2 (le.map leA))=((le.take r.2).drop r.1).map leA:=by simp_all
        have heq:=A8C Pg ((le.take r.2).drop r.1) (fun p hp=>by grind) (fun f hf=>hb f (lat (lav hf))) (by omega) (by grind);simp only[rnA]at hb2
        by_cases hpe:Pg=((le.take r.2).drop r.1).map (·.Lb)
        .have dp:decide (Pg=((le.take r.2).drop r.1).map (·.Lb))=true:=by grind
         rw[dp]at heq;have hfin:=out hpe;apply zgB;simp only[go_sem,di,hgr,laa]
         repeat refine ao ?_
         refine zr [.fz 1 (sg.map .str),.tup [.fz 1 (Pg.map pgA),.fz 1 ((firstsI xs sg).map .str)]] AaF ?_;simp only[go_sem]
         repeat refine And.intro (by first|exact hb2.at|exact PcH.at hg hmk|omega|exact .inl trivial|rfl|(simp; done)|(simp; omega)) ?_
         apply zgB;simp only[go_sem,hsl,laa]
         repeat refine ao ?_
         refine zpB (heq) ?_;simp only[go_sem]
         repeat refine ao ?_
         rw[ic i];refine ainv hfin (Shift.low 0 (by simp) (by simp) rfl ?_);simp only[go_sem]
        .have dp:decide (Pg=((le.take r.2).drop r.1).map (·.Lb))=false:=by grind
         rw[dp]at heq;have hno:=bad hpe;apply zgB;simp only[go_sem,di,hgr,laa]
         repeat refine ao ?_
         refine zr [.fz 1 (sg.map .str),.tup [.fz 1 (Pg.map pgA),.fz 1 ((firstsI xs sg).map .str)]] AaF ?_;simp only[go_sem]
         repeat refine And.intro (by first|exact hb2.at|exact PcH.at hg hmk|omega|exact .inl trivial|rfl|(simp; done)|(simp; omega)) ?_
         apply zgB;simp only[go_sem,hsl,laa]
         repeat refine ao ?_
         refine zpB (heq) ?_;simp only[go_sem];exact aret [2] rfl ⟨⟨3,rfl,by grind⟩,rfl⟩
       .have di:decide ((i:Int)<((runsL le).length:Int))=false:=by grind
        have hi:i=(runsL le).length:=by omega
        subst hi;have hok:LvOk ⟨no,ti,xs,go,le⟩ E:=⟨⟨fun e=>absurd e hee,fun e=>absurd e hle⟩,fun _=>by grind,fun j hj hn=>g2.mem j hj hn,fun a b hab hb' ha hbn=>g2.rise a b hab hb' ha hbn,fun k hk=>k2 k hk⟩;apply zgB;simp only[go_sem,di];exact aret [2] rfl ⟨⟨0,rfl,by grind⟩,rfl⟩
   .have q3:(le[0].first != E[0])=true:=by grind
    have hno:¬ LvOk ⟨no,ti,xs,go,le⟩ E:=fun h=>hh (by
     have:=h.head hee
     grind)
    refine zqIB func28 rfl fun h ρ w hg=>?_
    simp only[go_sem];refine zpB (hent) ?_;simp only[go_sem,q1,q2,laa];refine zr [] AaF ?_;simp only[go_sem,hg0,hE0,q3,laa]
    repeat refine ao ?_
    apply zgB;simp only[go_sem];exact aret [2] rfl ⟨⟨3,rfl,by grind⟩,rfl⟩
def insN(x:LU):List LU->List LU
 | []=>[x]
 | y::r=>if compareN x y<0 then x::y::r else y::insN x r
theorem AoL(x:LU):∀ l,(insN x l).Perm (x::l)
 | []=>.refl _
 | y::r=>by
  rw[insN]
  split
  .exact .refl _
  .exact ((AoL x r).cons y).trans (.swap _ _ _)
theorem AoM{x:LU}(hx:numberL x=true):∀ l:List LU,l.Pairwise nLt->(∀ y∈l,numberL y=true)->x ∉ l->(insN x l).Pairwise nLt
 | [],_,_,_=>by simp[insN]
 | y::r,h,hn,hm=>by
  obtain⟨h1,h2⟩:=List.pairwise_cons.1 h
  simp at hm
  rw[insN]
  split
  .rename_i hlt
   have hlt:=compareN_lt.1 hlt;refine List.pairwise_cons.2 ⟨fun w hw=>?_,h⟩
   rcases List.mem_cons.1 hw with rfl|hw
   .exact hlt
   .exact nLt_trans hlt (h1 w hw)
  .rename_i hlt
   have hlt:=fun e=>hlt (compareN_lt.2 e)
   have hyx:nLt y x:=by
    by_cases h3:nLt y x
    .exact h3
    .exact absurd (number_eq hx (hn y (by simp)) (AkI hlt h3)) hm.1
   refine List.pairwise_cons.2 ⟨fun w hw=>?_,AoM hx r h2 (fun z hz=>hn z (by simp[hz])) hm.2⟩
   rcases List.mem_cons.1 ((AoL x r).mem_iff.1 hw)with rfl|hw
   .exact hyx
   .exact h1 w hw
theorem A1S:∀ (g m:List LU),m.Pairwise nLt->g.Pairwise nLt->(∀ y∈m,numberL y=true)->(∀ y∈g,numberL y=true)->(∀ y∈g,y ∉ m)->∃ E:List LU,E.Perm (g++m)/\E.Pairwise nLt
 | [],m,h1,_,_,_,_=>⟨m,.refl _,h1⟩
 | x::g,m,h1,h2,h3,h4,h5=>by
  obtain⟨a1,a2⟩:=List.pairwise_cons.1 h2;obtain⟨E,p,s⟩:=A1S g m h1 a2 h3 (fun y hy=>h4 y (by grind)) (fun y hy=>h5 y (by grind));refine⟨insN x E,(AoL x E).trans (p.cons x),AoM (h4 x (by simp)) E s (fun y hy=>?_) fun hm=>?_⟩<;>grind[nLt_irrefl]
structure DrIn(d:Dr):Prop where
 script:ScriptOk ⟨d.Lk,d.Lc⟩
 sc:∀ x∈d.Lc,SceneD x
 Lp:∀ n∈d.Lp,numberL n=true
 Lm:d.Lp.length<=1000
 Lo:d.La.length<=100000
 La:∀ f∈d.La,f.name.length<1000000/\f.first.length<1000000/\f.Lb.length<1000000/\∀ s∈f.Lb,s.length<4000000
theorem BeE{d:Dr}(h:DrIn d)(hn:NumsOk d):∃ E,EntOf d E/\MdOk d.Lc E:=by
 have hno:∀ y∈nosL d.Lc,numberL y=true:=fun y hy=>by
  obtain⟨x,hx,rfl⟩:=List.mem_map.1 hy;exact(h.sc x hx).no.resolve_left (hn.all x hx)
 obtain⟨E,p,s⟩:=A1S d.Lp (nosL d.Lc) hn.rise hn.riseG hno h.Lp hn.apart;have hnum:∀ x∈E,numberL x=true:=fun x hx=>by
  rcases List.mem_append.1 (p.mem_iff.1 hx)with hx|hx
  .exact h.Lp x hx
  grind
 have hf:=hn.few;refine⟨E,⟨p,s,hnum⟩,h.sc,hn.rise.imp fun hlt e=>by grind[nLt_irrefl],by omega,?_,hnum⟩;have:=p.length_eq
 grind[nosL]
theorem BeF{d:Dr}{E F:List LU}(h:EntOf d E)(h':EntOf d F):E=F :=
 sorted_eq nLt_irrefl (fun _ _ _=>nLt_trans) h.sorted h'.sorted fun x=>(h.perm.trans h'.perm.symm).mem_iff
structure DraftOk(d:Dr):Prop where
 no:1<=d.no/\d.no<=30
 nums:NumsOk d
 binder:BinderOk d.La
 made:∀ f∈d.La,f.Lj<=d.no
 lv:∀ E,EntOf d E->LvOk d E
theorem AhO{St:Std}(hS:LibOk St)(d:Dr)(h:DrIn d):PcH prog St 7 [drA d] (fun r=>∃ n:Int,r=.int .i64 n/\(n=0 ↔ DraftOk d)):=by
 have hck:=BbY hS _ h.script;have hnf:=AoH d (fun x hx=>(h.sc x hx).no) h.Lp (by have:=h.script.len; simp only at this; omega) h.Lm;have hcb:=AbV hS d.La (by have:=h.Lo; omega) h.La;have hex:=BeE h;have hlv:=fun E (hE:EntOf d E) (hm:MdOk d.Lc E)=>AoK hS d E hE hm h.Lm h.Lo (fun f hf=>(h.La f hf).2.2.1)
 have hln:=h.Lo;obtain⟨no,ti,xs,go,le⟩:=d;simp only at hcb hlv hln;simp only[drA,srA]at hck hnf hlv |-
 by_cases h1:no<1
 .have d1:decide (no<1)=true:=by simpa using h1
  have hno:¬ DraftOk ⟨no,ti,xs,go,le⟩:=fun h=>by have:=h.no; simp only at this; omega
  refine zqIB func7 rfl fun h ρ w hg=>?_
  simp only[go_sem,d1];exact aret [2] rfl ⟨⟨1,rfl,by simp[hno]⟩,rfl⟩
 .have d1:decide (no<1)=false:=by simpa using h1
  by_cases h2:no>30
  .have d2:decide (no>30)=true:=by simpa using h2
   have hno:¬ DraftOk ⟨no,ti,xs,go,le⟩:=fun h=>by have:=h.no; simp only at this; omega
   refine zqIB func7 rfl fun h ρ w hg=>?_
   simp only[go_sem,d1,d2];exact aret [2] rfl ⟨⟨1,rfl,by simp[hno]⟩,rfl⟩
  .have d2:decide (no>30)=false:=by simpa using h2
   refine zqIB func7 rfl fun h ρ w hg=>?_
   simp only[go_sem,d1,d2];refine zqB hg (hck) ?_;simp only[go_sem];refine ApU hnf rfl rfl rfl ?_;rintro _ ⟨n,rfl,hn⟩
   by_cases n0:n=0
   .have e1:(n != 0)=false:=by simp[n0]
    have hnok:=hn.1 n0;apply zgB;simp only[go_sem,e1];refine AeK hg hcb rfl rfl rfl ?_;rintro _ ⟨m,rfl,hm⟩
    by_cases m0:m=0
    .have e2:(m != 0)=false:=by simp[m0]
     have hbok:=hm.1 m0;apply zgB;simp only[go_sem,e2,laa];refine AaC (ι:=Nat) (fun i=>le.length-i)
      (fun i=>[(36,.int .i64 i),(35,.int .i64 le.length),(34,.fz 4 (le.map leA)),(1,.pin 5 [.agg [.int .i64 no,.str ti,.fz 5 (xs.map scA),.fz 1 (go.map .str),.fz 4 (le.map leA)]] 0 0)])
      (fun _=>[]) (fun i=>i<=le.length/\∀ j,(hj:j<le.length)->j<i->le[j].Lj<=no) 0 (by simp) ?_ ?_
     .refine Ls ?_
      simp only[go_sem]
     .rintro i ⟨g1,g2⟩ J hJ
      by_cases gi:i<le.length
      .have di:decide ((i:Int)<(le.length:Int))=true:=by simp; omega
       have hg':=AaY gi
       by_cases hd:le[i].Lj>no
       .have dd:decide (le[i].Lj>no)=true:=by simpa using hd
        have hno:¬ DraftOk ⟨no,ti,xs,go,le⟩:=fun h=>by
         have:=h.made _ (lac gi);simp only at this; omega
        apply zgB;simp only[go_sem,di,hg',dd,laa]
        repeat refine aqb ?_
        exact aret [2] rfl ⟨⟨1,rfl,by simp[hno]⟩,rfl⟩
       .have dd:decide (le[i].Lj>no)=false:=by simpa using hd
        have hfin:=hJ (i+1) ⟨by omega,fun j hj hji=>by
         by_cases q:j=i
         .subst q; omega
         .exact g2 j hj (by omega)⟩ (by omega)
        apply zgB;simp only[go_sem,di,hg',dd,laa]
        repeat refine aqb ?_
        rw[ic i];refine ainv hfin (Shift.low 0 (by simp) (by simp) rfl ?_);simp only[go_sem]
      .have di:decide ((i:Int)<(le.length:Int))=false:=by simp; omega
       have hi:i=le.length:=by omega
       subst hi;obtain⟨E,hE,hmd⟩:=hex hnok;have hlf:=hlv E hE hmd;apply zgB;simp only[go_sem,di];refine AeK hg hlf rfl rfl rfl ?_;rintro _ ⟨k,rfl,hk⟩;apply zgB;simp only[go_sem];refine aret [2] rfl ⟨⟨k,rfl,hk.trans ⟨fun hl=>⟨⟨by simp only; omega,by simp only; omega⟩,hnok,hbok,fun f hf=>?_,fun F hF=>BeF hE hF▸hl⟩,fun h=>h.lv E hE⟩⟩,rfl⟩;obtain⟨j,hj,rfl⟩:=List.getElem_of_mem hf;exact g2 j hj hj
    .have e2:(m != 0)=true:=by simp[m0]
     have hno:¬ DraftOk ⟨no,ti,xs,go,le⟩:=fun h=>m0 (hm.2 h.binder)
     apply zgB;simp only[go_sem,e2];exact aret [2] rfl ⟨⟨m,rfl,by simp[hno,m0]⟩,rfl⟩
   .have e1:(n != 0)=true:=by simp[n0]
    have hno:¬ DraftOk ⟨no,ti,xs,go,le⟩:=fun h=>n0 (hn.2 h.nums)
    apply zgB;simp only[go_sem,e1];exact aret [2] rfl ⟨⟨n,rfl,by simp[hno,n0]⟩,rfl⟩
theorem BeG(xs:List Sc)(hl:xs.length<=100000):Pc prog 148 [.fz 5 (xs.map scA)] (· = .fz 5 (xs.map scA)):=by
 cases xs with
 | nil=>exact clone0_pc
 | cons x xs=>exact BjL (n:=(x::xs).length) (by simp) (AaG _) (AmC x xs (by simp at hl; omega))
