/- leavesFault, walked. -/
import Derived.Test.YtlldmgboedknfaaGreatDoorC34
set_option maxRecDepth 100000
set_option maxHeartbeats 8000000
set_option linter.unusedSimpArgs false
set_option linter.unusedVariables false
namespace Go.Proofs.YtlldmgboedknfaaGreatDoor
open Go Go.Av Go.RowKit _root_.Go.Proofs.Tryz
structure LvOk(d:Dr)(E:List (List UInt8)):Prop where
 empt:E=[] ↔ d.leaves=[]
 head:E≠[]->fst d.leaves 0=E.getD 0 []
 mem:∀ j,j<d.leaves.length->fst d.leaves j≠[]->fst d.leaves j∈E
 rise:∀ i j,i<j->j<d.leaves.length->fst d.leaves i≠[]->fst d.leaves j≠[]->nLt (fst d.leaves i) (fst d.leaves j)
 pages:∀ k,k<(runsL d.leaves).length->(layL (entsB d.scenes (segE E d.leaves (rat (runsL d.leaves) k)))).pages=((d.leaves.take (rat (runsL d.leaves) k).2).drop (rat (runsL d.leaves) k).1).map (·.lines)
def lastF(l:List Le'):Nat->List UInt8
 | 0=>[]
 | i+1=>if fst l i=[] then lastF l i else fst l i
structure AInv(l:List Le')(E:List (List UInt8))(i:Nat):Prop where
 mem:∀ j,j<i->fst l j≠[]->fst l j∈E
 rise:∀ a b,a<b->b<i->fst l a≠[]->fst l b≠[]->nLt (fst l a) (fst l b)
 top:∀ j,j<i->fst l j≠[]->lastF l i≠[]/\(fst l j=lastF l i\/nLt (fst l j) (lastF l i))
 isAt:lastF l i≠[]->∃ j,j<i/\fst l j=lastF l i
theorem BeJ{l:List Le'}{E:List (List UInt8)}{i:Nat}(h:AInv l E i)(h0:fst l i=[]):AInv l E (i+1):=by
 have e:lastF l (i+1)=lastF l i:=by simp[lastF,h0]
 refine⟨fun j hj hn=>?_,fun a b hab hb ha hb'=>?_,fun j hj hn=>?_,fun hn=>?_⟩
 .by_cases q:j=i
  .subst q; exact absurd h0 hn
  .exact h.mem j (by omega) hn
 .by_cases q:b=i
  .subst q; exact absurd h0 hb'
  .exact h.rise a b hab (by omega) ha hb'
 .rw [e]
  by_cases q:j=i
  .subst q; exact absurd h0 hn
  .exact h.top j (by omega) hn
 .rw [e]at hn |-
  obtain⟨j,h1,h2⟩:=h.isAt hn;exact⟨j,by omega,h2⟩
theorem A5J{l:List Le'}{E:List (List UInt8)}{i:Nat}(h:AInv l E i)(h0:fst l i≠[])(hm:fst l i∈E)(hr:lastF l i≠[]->nLt (lastF l i) (fst l i)):AInv l E (i+1):=by
 have e:lastF l (i+1)=fst l i:=by simp[lastF,h0]
 have key:∀ j,j<i->fst l j≠[]->nLt (fst l j) (fst l i):=fun j hj hn=>by
  obtain⟨t1,t2⟩:=h.top j hj hn
  rcases t2 with t2|t2
  .rw [t2]; exact hr t1
  .exact AaF t2 (hr t1)
 refine⟨fun j hj hn=>?_,fun a b hab hb ha hb'=>?_,fun j hj hn=>?_,fun hn=>?_⟩
 .by_cases q:j=i
  .subst q; exact hm
  .exact h.mem j (by omega) hn
 .by_cases q:b=i
  .subst q; exact key a hab ha
  .exact h.rise a b hab (by omega) ha hb'
 .rw [e]
  refine⟨h0,?_⟩
  by_cases q:j=i
  .subst q; exact .inl rfl
  .exact .inr (key j (by omega) hn)
 .exact ⟨i,by omega,e.symm⟩
theorem A5K{xs:List Sc}{E:List (List UInt8)}(hm:MdOk xs E)(a b:Nat):MdOk xs ((E.take b).drop a):=by
 refine⟨hm.sc,hm.nod,hm.few,?_,fun n hn=>hm.num n (List.mem_of_mem_take (List.mem_of_mem_drop hn))⟩;have:=hm.fewN
 simp; omega
theorem AhO{xs:List Sc}{nos:List (List UInt8)}(hm:MdOk xs nos):(layL (entsB xs nos)).pages.length<=1000000000000/\∀ p∈(layL (entsB xs nos)).pages,1<=p.length/\p.length<=54:=by
 have h1:=AsA hm;rw[firsts_pages]at h1;refine⟨h1,(BdP fun b hb=>?_).1⟩;obtain⟨n,hn,hb⟩:=List.mem_flatMap.1 hb;exact((AfT hm.sc (hm.num n hn)).1 b hb).1.own
theorem A2G{rs:List (Nat×Nat)}{k:Nat}(h:k<rs.length):List.getD (rs.map rnA) k .any=.agg [.int .i64 ((rat rs k).1:Int),.int .i64 ((rat rs k).2:Int)]:=by simp[List.getD,h,rnA,rat]
theorem ApH{St:Std}(hS:LibOk St)(d:Dr)(E:List (List UInt8))(hE:EntOf d E)(hm:MdOk d.scenes E)(hgl:d.gone.length<=1000)(hl:d.leaves.length<=100000)
  (hb:∀ f∈d.leaves,f.lines.length<1000000) :
  PcH prog St 51 [drA d] (fun r=>∃ n:Int,r=.int .i64 n/\(n=0 ↔ LvOk d E)):=by
 have hent:=ArR d E hE hgl (by have:=hm.few; omega);have hEl:=hm.fewN;have hmade:=BkF hS d;obtain⟨no,ti,xs,go,le⟩:=d;simp only at hm hgl hl hb hmade;simp only[drA]at hent hmade |-
 by_cases hee:E=[]
 .have q1:((E.length:Int)==0)=true:=by simp[hee]
  by_cases hle:le=[]
  .have q2:((le.length:Int)==0)=true:=by simp[hle]
   have hok:LvOk ⟨no,ti,xs,go,le⟩ E:=by
    subst hle;exact⟨by simp[hee],fun h=>absurd hee h,fun j hj=>by simp at hj,fun i j _ hj=>by simp at hj,fun k hk=>by simp[runsL,runsTo]at hk⟩
   refine zqIB func51 rfl fun h ρ w hg=>?_
   simp only[go_sem];refine zpB (hent) ?_;simp only[go_sem,q1,q2,List.length_map];exact aret [2] rfl ⟨⟨0,rfl,by simp[hok]⟩,rfl⟩
  .have q2:((le.length:Int)==0)=false:=by simp[hle]
   have hno:¬ LvOk ⟨no,ti,xs,go,le⟩ E:=fun h=>hle (h.empt.1 hee)
   refine zqIB func51 rfl fun h ρ w hg=>?_
   simp only[go_sem];refine zpB (hent) ?_;simp only[go_sem,q1,q2,List.length_map];exact aret [2] rfl ⟨⟨3,rfl,by simp[hno]⟩,rfl⟩
 .have q1:((E.length:Int)==0)=false:=by simp[hee]
  have hEp:=List.length_pos_iff.2 hee
  by_cases hle:le=[]
  .have q2:((le.length:Int)==0)=true:=by simp[hle]
   have hno:¬ LvOk ⟨no,ti,xs,go,le⟩ E:=fun h=>hee (h.empt.2 hle)
   refine zqIB func51 rfl fun h ρ w hg=>?_
   simp only[go_sem];refine zpB (hent) ?_;simp only[go_sem,q1,q2,List.length_map];exact aret [2] rfl ⟨⟨3,rfl,by simp[hno]⟩,rfl⟩
  .have q2:((le.length:Int)==0)=false:=by simp[hle]
   have hlp:=List.length_pos_iff.2 hle;have hg0:=AbQ hlp;have hE0:List.getD (E.map AV.str) 0 .any=.str E[0]:=by simp[List.getD,hEp]
   have hf0:fst le 0=le[0].first:=by simp[fst,List.getD,hlp]
   by_cases hh:le[0].first=E[0]
   .have q3:(le[0].first != E[0])=false:=by simp[hh]
    refine zqIB func51 rfl fun h ρ w hg=>?_
    simp only[go_sem];refine zpB (hent) ?_;simp only[go_sem,q1,q2,List.length_map];refine zr [] mixed ?_;simp only[go_sem,hg0,hE0,q3,List.length_map]
    repeat refine aqa ?_
    refine zgB ?_;simp only[go_sem,List.length_map];refine AaI (ι:=Nat) (fun i=>le.length-i)
     (fun i=>[(37,.int .i64 i),(36,.int .i64 le.length),(35,.fz 4 (le.map leA)),(3,.fz 1 (E.map .str)),(4,.str (lastF le i)),(1,.pin 5 [.agg [.int .i64 no,.str ti,.fz 5 (xs.map scA),.fz 1 (go.map .str),.fz 4 (le.map leA)]] 0 0)])
     (fun _=>[]) (fun i=>i<=le.length/\AInv le E i) 0 ⟨by omega,fun j hj=>by omega,fun a b _ hb=>by omega,fun j hj=>by omega,fun h=>absurd rfl h⟩ ?_ ?_
    .refine Shift.weak ?_
     simp only[go_sem,lastF]
    .rintro i ⟨g1,g2⟩ J hJ
     by_cases gi:i<le.length
     .have di:decide ((i:Int)<(le.length:Int))=true:=by simp; omega
      have hg':=AbQ gi;have hfi:fst le i=le[i].first:=by simp[fst,List.getD,gi]
      rw[<- hfi]at hg'
      by_cases h0:fst le i=[]
      .have q4:(fst le i==[])=true:=by simp[h0]
       have hfin:=hJ (i+1) ⟨by omega,BeJ g2 h0⟩ (by omega);rw[show lastF le (i+1)=lastF le i by simp[lastF,h0]]at hfin;refine zgB ?_;simp only[go_sem,di,hg',q4,List.length_map]
       repeat refine aqa ?_
       rw[ic i];refine ainv hfin (Shift.low 0 (by simp) (by simp) rfl ?_);simp only[go_sem]
      .have q4:(fst le i==[])=false:=by simp[h0]
       have hct:=ApD E (fst le i) (by omega)
       by_cases hmE:fst le i∈E
       .have dm:decide (fst le i∈E)=true:=by simpa using hmE
        rw[dm]at hct
        by_cases hz:lastF le i=[]
        .have q5:(lastF le i != [])=false:=by simp[hz]
         have hfin:=hJ (i+1) ⟨by omega,A5J g2 h0 hmE fun h=>absurd hz h⟩ (by omega);rw[show lastF le (i+1)=fst le i by simp[lastF,h0]]at hfin;refine zgB ?_;simp only[go_sem,di,hg',q4,List.length_map]
         repeat refine aqa ?_
         refine zpB (hct) ?_;simp only[go_sem,q5]
         repeat refine aqa ?_
         rw[ic i];refine ainv hfin (Shift.low 0 (by simp) (by simp) rfl ?_);simp only[go_sem]
        .have q5:(lastF le i != [])=true:=by simp[hz]
         obtain⟨j,hj,hjl⟩:=g2.isAt hz;have hnl:numberL (lastF le i)=true:=by
          rw[<- hjl];exact hE.num _ (g2.mem j hj (by rw[hjl]; exact hz))
         have hc:=AbI (fst le i) (lastF le i) (hE.num _ hmE) hnl
         by_cases hle':AaC (fst le i) (lastF le i)<=0
         .have dl:decide (AaC (fst le i) (lastF le i)<=0)=true:=by simpa using hle'
          have hno:¬ LvOk ⟨no,ti,xs,go,le⟩ E:=fun h=>by
           have:=h.rise j i hj gi (by show fst le j≠[]; rw[hjl]; exact hz) h0;refine compareN_le.1 hle' ?_;rw[<- hjl]; exact this
          refine zgB ?_;simp only[go_sem,di,hg',q4,List.length_map]
          repeat refine aqa ?_
          refine zpB (hct) ?_;simp only[go_sem,q5]
          repeat refine aqa ?_
          refine zpB (hc) ?_;simp only[go_sem,dl];exact aret [2] rfl ⟨⟨3,rfl,by simp[hno]⟩,rfl⟩
         .have dl:decide (AaC (fst le i) (lastF le i)<=0)=false:=by simpa using hle'
          have hlt:nLt (lastF le i) (fst le i):=Classical.byContradiction fun e=>hle' (compareN_le.2 e)
          have hfin:=hJ (i+1) ⟨by omega,A5J g2 h0 hmE fun _=>hlt⟩ (by omega);rw[show lastF le (i+1)=fst le i by simp[lastF,h0]]at hfin;refine zgB ?_;simp only[go_sem,di,hg',q4,List.length_map]
          repeat refine aqa ?_
          refine zpB (hct) ?_;simp only[go_sem,q5]
          repeat refine aqa ?_
          refine zpB (hc) ?_;simp only[go_sem,dl]
          repeat refine aqa ?_
          rw[ic i];refine ainv hfin (Shift.low 0 (by simp) (by simp) rfl ?_);simp only[go_sem]
       .have dm:decide (fst le i∈E)=false:=by simpa using hmE
        rw[dm]at hct;have hno:¬ LvOk ⟨no,ti,xs,go,le⟩ E:=fun h=>hmE (h.mem i gi h0)
        refine zgB ?_;simp only[go_sem,di,hg',q4,List.length_map]
        repeat refine aqa ?_
        refine zpB (hct) ?_;simp only[go_sem];exact aret [2] rfl ⟨⟨3,rfl,by simp[hno]⟩,rfl⟩
     .have di:decide ((i:Int)<(le.length:Int))=false:=by simp; omega
      have hi:i=le.length:=by omega
      subst hi;have hruns:=BeH le hl;have hRI:=AcQ le;have hRn:=@AyK le;have hRl:(runsL le).length<=le.length:=AhN le le.length;refine zgB ?_;simp only[go_sem,di];refine zpB (hruns) ?_;simp only[go_sem,List.length_map];refine AaI (ι:=Nat) (fun i=>(runsL le).length-i)
       (fun i=>[(67,.int .i64 i),(66,.int .i64 (runsL le).length),(65,.fz 2 ((runsL le).map rnA)),(3,.fz 1 (E.map .str)),(1,.pin 5 [.agg [.int .i64 no,.str ti,.fz 5 (xs.map scA),.fz 1 (go.map .str),.fz 4 (le.map leA)]] 0 0)])
       (fun _=>[]) (fun i=>i<=(runsL le).length/\∀ k,k<i->(layL (entsB xs (segE E le (rat (runsL le) k)))).pages=((le.take (rat (runsL le) k).2).drop (rat (runsL le) k).1).map (·.lines)) 0 (by simp) ?_ ?_
      .refine Shift.weak ?_
       simp only[go_sem]
      .clear hJ J
       rintro i ⟨k1,k2⟩ J hJ
       by_cases gi:i<(runsL le).length
       .have di:decide ((i:Int)<((runsL le).length:Int))=true:=by simp; omega
        have hgr:=A2G gi;obtain⟨o1,o2,o3,o4⟩:=hRI.one i gi;have hnx:=hRn gi;have out:(layL (entsB xs (segE E le (rat (runsL le) i)))).pages=((le.take (rat (runsL le) i).2).drop (rat (runsL le) i).1).map (·.lines)->∀ (a:Act) (w':World),Sim _ _ _ a w'->J a w':=fun e=>hJ (i+1) ⟨by omega,fun k hk=>by
         by_cases q:k=i
         .subst q; exact e
         .exact k2 k (by omega)⟩ (by omega)
        have bad:¬ (layL (entsB xs (segE E le (rat (runsL le) i)))).pages=((le.take (rat (runsL le) i).2).drop (rat (runsL le) i).1).map (·.lines)->¬ LvOk ⟨no,ti,xs,go,le⟩ E:=fun e h=>e (h.pages i gi)
        generalize rat (runsL le) i=r at *;have hr1:r.1<le.length:=by omega
        have hfr1:fst le r.1=le[r.1].first:=by simp[fst,List.getD,hr1]
        have hm1:=g2.mem _ hr1 o3;obtain⟨f1,f2,f3⟩:=ApG hm1;have hb2:Pc prog 102 [.fz 1 (E.map .str),.fz 4 (le.map leA),rnA r] (· = .fz 1 ((segE E le r).map .str)):=by
         unfold segE
         by_cases h5:r.2<le.length
         .have hfr2:fst le r.2=le[r.2].first:=by simp[fst,List.getD,h5]
          have hm2:=g2.mem _ h5 (hnx h5);obtain⟨t1,t2,t3⟩:=ApG hm2;have hlt:=A5I hE.sorted hm1 hm2 (g2.rise _ _ o1 h5 o3 (hnx h5));rw[if_pos h5];exact ApE E le r _ _ (by omega) hl hr1 o2 (by rw[<- hfr1]; exact f3) (by rw[dif_pos h5,<- hfr2]; exact t3) (by omega) (by omega)
         .rw [if_neg h5]
          exact ApE E le r _ _ (by omega) hl hr1 o2 (by rw[<- hfr1]; exact f3) (by rw[dif_neg h5]) (by omega) (by omega)
        have hmd:MdOk xs (segE E le r):=A5K hm _ _;have hmk:=hmade (segE E le r) hmd;obtain⟨bd1,bd2⟩:=AhO hmd;generalize (layL (entsB xs (segE E le r))).pages=Pg at *;generalize segE E le r=sg at *;have hsl:List.drop r.1 (List.take r.2 (le.map leA))=((le.take r.2).drop r.1).map leA:=by rw[List.map_drop,List.map_take]
        have heq:=A8I Pg ((le.take r.2).drop r.1) (fun p hp=>by have:=bd2 p hp; omega) (fun f hf=>hb f (List.mem_of_mem_take (List.mem_of_mem_drop hf))) (by omega) (by simp; omega);simp only[rnA]at hb2
        by_cases hpe:Pg=((le.take r.2).drop r.1).map (·.lines)
        .have dp:decide (Pg=((le.take r.2).drop r.1).map (·.lines))=true:=by simpa using hpe
         rw[dp]at heq;have hfin:=out hpe;refine zgB ?_;simp only[go_sem,di,hgr,List.length_map]
         repeat refine aqa ?_
         refine zr [.fz 1 (sg.map .str),.tup [.fz 1 (Pg.map pgA),.fz 1 ((firstsI xs sg).map .str)]] mixed ?_;simp only[go_sem]
         repeat refine And.intro (by first|exact hb2.at|exact PcH.at hg hmk|omega|exact .inl trivial|rfl|(simp; done)|(simp; omega)) ?_
         refine zgB ?_;simp only[go_sem,hsl,List.length_map]
         repeat refine aqa ?_
         refine zpB (heq) ?_;simp only[go_sem]
         repeat refine aqa ?_
         rw[ic i];refine ainv hfin (Shift.low 0 (by simp) (by simp) rfl ?_);simp only[go_sem]
        .have dp:decide (Pg=((le.take r.2).drop r.1).map (·.lines))=false:=by simpa using hpe
         rw[dp]at heq;have hno:=bad hpe;refine zgB ?_;simp only[go_sem,di,hgr,List.length_map]
         repeat refine aqa ?_
         refine zr [.fz 1 (sg.map .str),.tup [.fz 1 (Pg.map pgA),.fz 1 ((firstsI xs sg).map .str)]] mixed ?_;simp only[go_sem]
         repeat refine And.intro (by first|exact hb2.at|exact PcH.at hg hmk|omega|exact .inl trivial|rfl|(simp; done)|(simp; omega)) ?_
         refine zgB ?_;simp only[go_sem,hsl,List.length_map]
         repeat refine aqa ?_
         refine zpB (heq) ?_;simp only[go_sem];exact aret [2] rfl ⟨⟨3,rfl,by simp[hno]⟩,rfl⟩
       .have di:decide ((i:Int)<((runsL le).length:Int))=false:=by simp; omega
        have hi:i=(runsL le).length:=by omega
        subst hi;have hok:LvOk ⟨no,ti,xs,go,le⟩ E:=⟨⟨fun e=>absurd e hee,fun e=>absurd e hle⟩,fun _=>by rw[hf0,hh]; simp[List.getD,hEp],fun j hj hn=>g2.mem j hj hn,fun a b hab hb' ha hbn=>g2.rise a b hab hb' ha hbn,fun k hk=>k2 k hk⟩;refine zgB ?_;simp only[go_sem,di];exact aret [2] rfl ⟨⟨0,rfl,by simp[hok]⟩,rfl⟩
   .have q3:(le[0].first != E[0])=true:=by simp[hh]
    have hno:¬ LvOk ⟨no,ti,xs,go,le⟩ E:=fun h=>hh (by
     have:=h.head hee;rw[hf0]at this;rw[this]
     simp[List.getD,hEp])
    refine zqIB func51 rfl fun h ρ w hg=>?_
    simp only[go_sem];refine zpB (hent) ?_;simp only[go_sem,q1,q2,List.length_map];refine zr [] mixed ?_;simp only[go_sem,hg0,hE0,q3,List.length_map]
    repeat refine aqa ?_
    refine zgB ?_;simp only[go_sem];exact aret [2] rfl ⟨⟨3,rfl,by simp[hno]⟩,rfl⟩
def insN(x:List UInt8):List (List UInt8)->List (List UInt8)
 | []=>[x]
 | y::r=>if AaC x y<0 then x::y::r else y::insN x r
theorem ApI(x:List UInt8):∀ l,(insN x l).Perm (x::l)
 | []=>.refl _
 | y::r=>by
  rw[insN]
  split
  .exact .refl _
  .exact ((ApI x r).cons y).trans (.swap _ _ _)
theorem ApJ{x:List UInt8}(hx:numberL x=true):∀ l:List (List UInt8),l.Pairwise nLt->(∀ y∈l,numberL y=true)->x ∉ l->(insN x l).Pairwise nLt
 | [],_,_,_=>by simp[insN]
 | y::r,h,hn,hm=>by
  obtain⟨h1,h2⟩:=List.pairwise_cons.1 h;simp only[List.mem_cons,not_or]at hm;rw[insN]
  split
  .rename_i hlt
   have hlt:=compareN_lt.1 hlt;refine List.pairwise_cons.2 ⟨fun w hw=>?_,h⟩
   rcases List.mem_cons.1 hw with rfl|hw
   .exact hlt
   .exact AaF hlt (h1 w hw)
  .rename_i hlt
   have hlt:¬ nLt x y:=fun e=>hlt (compareN_lt.2 e)
   have hyx:nLt y x:=by
    by_cases h3:nLt y x
    .exact h3
    .exact absurd (AjE hx (hn y (by simp)) (AoA hlt h3)) hm.1
   refine List.pairwise_cons.2 ⟨fun w hw=>?_,ApJ hx r h2 (fun z hz=>hn z (by simp[hz])) hm.2⟩
   rcases List.mem_cons.1 ((ApI x r).mem_iff.1 hw)with rfl|hw
   .exact hyx
   .exact h1 w hw
theorem A2H:∀ (g m:List (List UInt8)),m.Pairwise nLt->g.Pairwise nLt->(∀ y∈m,numberL y=true)->(∀ y∈g,numberL y=true)->(∀ y∈g,y ∉ m)->∃ E:List (List UInt8),E.Perm (g++m)/\E.Pairwise nLt
 | [],m,h1,_,_,_,_=>⟨m,.refl _,h1⟩
 | x::g,m,h1,h2,h3,h4,h5=>by
  obtain⟨a1,a2⟩:=List.pairwise_cons.1 h2;obtain⟨E,p,s⟩:=A2H g m h1 a2 h3 (fun y hy=>h4 y (by simp[hy])) (fun y hy=>h5 y (by simp[hy]));refine⟨insN x E,(ApI x E).trans (p.cons x),ApJ (h4 x (by simp)) E s (fun y hy=>?_) fun hm=>?_⟩
  .rcases List.mem_append.1 (p.mem_iff.1 hy)with hy|hy
   .exact h4 y (by simp[hy])
   .exact h3 y hy
  .rcases List.mem_append.1 (p.mem_iff.1 hm)with hy|hy
   .exact AaH _ (a1 x hy)
   .exact h5 x (by simp) hy
structure DrIn(d:Dr):Prop where
 script:ScriptOk ⟨d.title,d.scenes⟩
 sc:∀ x∈d.scenes,SceneD x
 gone:∀ n∈d.gone,numberL n=true
 goneN:d.gone.length<=1000
 leavesN:d.leaves.length<=100000
 leaves:∀ f∈d.leaves,f.name.length<1000000/\f.first.length<1000000/\f.lines.length<1000000/\∀ s∈f.lines,s.length<4000000
theorem BmR{d:Dr}(h:DrIn d)(hn:NumsOk d):∃ E,EntOf d E/\MdOk d.scenes E:=by
 have hno:∀ y∈nosL d.scenes,numberL y=true:=fun y hy=>by
  obtain⟨x,hx,rfl⟩:=List.mem_map.1 hy;exact(h.sc x hx).no.resolve_left (hn.all x hx)
 obtain⟨E,p,s⟩:=A2H d.gone (nosL d.scenes) hn.rise hn.riseG hno h.gone hn.apart;have hnum:∀ x∈E,numberL x=true:=fun x hx=>by
  rcases List.mem_append.1 (p.mem_iff.1 hx)with hx|hx
  .exact h.gone x hx
  .exact hno x hx
 have hf:=hn.few;refine⟨E,⟨p,s,hnum⟩,h.sc,hn.rise.imp fun hlt e=>by subst e; exact AaH _ hlt,by omega,?_,hnum⟩;have:=p.length_eq
 simp[nosL]at this
 omega
theorem BmS{d:Dr}{E F:List (List UInt8)}(h:EntOf d E)(h':EntOf d F):E=F :=
 AoL AaH (fun _ _ _=>AaF) h.sorted h'.sorted fun x=>(h.perm.trans h'.perm.symm).mem_iff
structure DraftOk(d:Dr):Prop where
 no:1<=d.no/\d.no<=30
 nums:NumsOk d
 binder:BinderOk d.leaves
 made:∀ f∈d.leaves,f.draft<=d.no
 lv:∀ E,EntOf d E->LvOk d E
theorem AdB{St:Std}(hS:LibOk St)(d:Dr)(h:DrIn d):PcH prog St 17 [drA d] (fun r=>∃ n:Int,r=.int .i64 n/\(n=0 ↔ DraftOk d)):=by
 have hck:=AfE hS _ h.script;have hnf:=ApF d (fun x hx=>(h.sc x hx).no) h.gone (by have:=h.script.len; simp only at this; omega) h.goneN;have hcb:=AcP hS d.leaves (by have:=h.leavesN; omega) h.leaves;have hex:=BmR h;have hlv:=fun E (hE:EntOf d E) (hm:MdOk d.scenes E)=>ApH hS d E hE hm h.goneN h.leavesN (fun f hf=>(h.leaves f hf).2.2.1)
 have hln:=h.leavesN;obtain⟨no,ti,xs,go,le⟩:=d;simp only at hcb hlv hln;simp only[drA,srA]at hck hnf hlv |-
 by_cases h1:no<1
 .have d1:decide (no<1)=true:=by simpa using h1
  have hno:¬ DraftOk ⟨no,ti,xs,go,le⟩:=fun h=>by have:=h.no; simp only at this; omega
  refine zqIB func17 rfl fun h ρ w hg=>?_
  simp only[go_sem,d1];exact aret [2] rfl ⟨⟨1,rfl,by simp[hno]⟩,rfl⟩
 .have d1:decide (no<1)=false:=by simpa using h1
  by_cases h2:no>30
  .have d2:decide (no>30)=true:=by simpa using h2
   have hno:¬ DraftOk ⟨no,ti,xs,go,le⟩:=fun h=>by have:=h.no; simp only at this; omega
   refine zqIB func17 rfl fun h ρ w hg=>?_
   simp only[go_sem,d1,d2];exact aret [2] rfl ⟨⟨1,rfl,by simp[hno]⟩,rfl⟩
  .have d2:decide (no>30)=false:=by simpa using h2
   refine zqIB func17 rfl fun h ρ w hg=>?_
   simp only[go_sem,d1,d2];refine zqB hg (hck) ?_;simp only[go_sem];refine A7B hnf rfl rfl rfl ?_;rintro _ ⟨n,rfl,hn⟩
   by_cases n0:n=0
   .have e1:(n != 0)=false:=by simp[n0]
    have hnok:=hn.1 n0;refine zgB ?_;simp only[go_sem,e1];refine AgC hg hcb rfl rfl rfl ?_;rintro _ ⟨m,rfl,hm⟩
    by_cases m0:m=0
    .have e2:(m != 0)=false:=by simp[m0]
     have hbok:=hm.1 m0;refine zgB ?_;simp only[go_sem,e2,List.length_map];refine AaI (ι:=Nat) (fun i=>le.length-i)
      (fun i=>[(36,.int .i64 i),(35,.int .i64 le.length),(34,.fz 4 (le.map leA)),(1,.pin 5 [.agg [.int .i64 no,.str ti,.fz 5 (xs.map scA),.fz 1 (go.map .str),.fz 4 (le.map leA)]] 0 0)])
      (fun _=>[]) (fun i=>i<=le.length/\∀ j,(hj:j<le.length)->j<i->le[j].draft<=no) 0 (by simp) ?_ ?_
     .refine Shift.weak ?_
      simp only[go_sem]
     .rintro i ⟨g1,g2⟩ J hJ
      by_cases gi:i<le.length
      .have di:decide ((i:Int)<(le.length:Int))=true:=by simp; omega
       have hg':=AbQ gi
       by_cases hd:le[i].draft>no
       .have dd:decide (le[i].draft>no)=true:=by simpa using hd
        have hno:¬ DraftOk ⟨no,ti,xs,go,le⟩:=fun h=>by
         have:=h.made _ (List.getElem_mem gi);simp only at this; omega
        refine zgB ?_;simp only[go_sem,di,hg',dd,List.length_map]
        repeat refine aqa ?_
        exact aret [2] rfl ⟨⟨1,rfl,by simp[hno]⟩,rfl⟩
       .have dd:decide (le[i].draft>no)=false:=by simpa using hd
        have hfin:=hJ (i+1) ⟨by omega,fun j hj hji=>by
         by_cases q:j=i
         .subst q; omega
         .exact g2 j hj (by omega)⟩ (by omega)
        refine zgB ?_;simp only[go_sem,di,hg',dd,List.length_map]
        repeat refine aqa ?_
        rw[ic i];refine ainv hfin (Shift.low 0 (by simp) (by simp) rfl ?_);simp only[go_sem]
      .have di:decide ((i:Int)<(le.length:Int))=false:=by simp; omega
       have hi:i=le.length:=by omega
       subst hi;obtain⟨E,hE,hmd⟩:=hex hnok;have hlf:=hlv E hE hmd;refine zgB ?_;simp only[go_sem,di];refine AgC hg hlf rfl rfl rfl ?_;rintro _ ⟨k,rfl,hk⟩;refine zgB ?_;simp only[go_sem];refine aret [2] rfl ⟨⟨k,rfl,hk.trans ⟨fun hl=>⟨⟨by simp only; omega,by simp only; omega⟩,hnok,hbok,fun f hf=>?_,fun F hF=>BmS hE hF▸hl⟩,fun h=>h.lv E hE⟩⟩,rfl⟩;obtain⟨j,hj,rfl⟩:=List.getElem_of_mem hf;exact g2 j hj hj
    .have e2:(m != 0)=true:=by simp[m0]
     have hno:¬ DraftOk ⟨no,ti,xs,go,le⟩:=fun h=>m0 (hm.2 h.binder)
     refine zgB ?_;simp only[go_sem,e2];exact aret [2] rfl ⟨⟨m,rfl,by simp[hno,m0]⟩,rfl⟩
   .have e1:(n != 0)=true:=by simp[n0]
    have hno:¬ DraftOk ⟨no,ti,xs,go,le⟩:=fun h=>n0 (hn.2 h.nums)
    refine zgB ?_;simp only[go_sem,e1];exact aret [2] rfl ⟨⟨n,rfl,by simp[hno,n0]⟩,rfl⟩
theorem BeK(ps:List Pa)(hl:ps.length<=100000):Pc prog 157 [.fz 2 (ps.map paA)] (· = .fz 2 (ps.map paA)):=by
 cases ps with
 | nil =>
  refine zpIN func157 rfl fun h ρ w=>?_
  simp only[go_sem];intro b;refine zgN ?_
  cases b with
  | true =>
   simp only[go_sem];exact ARet.shift (Shift.nilfz 2 2 rfl) (aret [2] rfl ⟨rfl,rfl⟩)
  | false =>
   simp only[go_sem];refine⟨.inl trivial,?_⟩;exact ARet.shift (Shift.freeze 2 (id:=0) rfl rfl rfl (Nat.le_refl _) rfl) (aret [2] rfl ⟨rfl,rfl⟩)
 | cons p ps =>
  refine A3W (n:=(p::ps).length) (by simp) (AgJ _) ?_;refine zcIN func157 rfl fun h ρ w=>?_
  simp only[go_sem,paA];refine⟨by simp,by simp at hl |-; omega,by simp at hl |-; omega,aret [2] rfl ⟨by simp[resV,Av.get,paA],rfl⟩⟩
theorem ApK{x:Sr}(hx:ScriptOk x):∀ y∈x.scenes,y.paras.length<=100000:=fun y hy=>by
 have h1:=BmN x.scenes y hy;have h2:=hx.many;omega
theorem BeL(xs:List Sc)(hl:xs.length<=100000):Pc prog 63 [.fz 5 (xs.map scA)] (· = .fz 5 (xs.map scA)):=by
 cases xs with
 | nil=>exact clone0_pc
 | cons x xs=>exact A3W (n:=(x::xs).length) (by simp) (AaD _) (AuM x xs (by simp at hl; omega))
theorem ApL(x:Sr)(hl:x.scenes.length<=1000)(hp:∀ y∈x.scenes,y.paras.length<=100000):Pc prog 111 [srA x] (· = srA x):=by
 obtain⟨ti,xs⟩:=x;simp only at hl hp;simp only[srA];refine zpIF func111 rfl fun h ρ w=>?_
 simp only[go_sem,List.length_map];refine AaI (ι:=Nat) (fun i=>xs.length-i)
  (fun i=>[(12,.int .i64 i),(11,.int .i64 xs.length),(10,.fz 5 (xs.map scA)),(3,.ptr 2 1 0 0),(2,.ptr 1 1 0 0)])
  (fun i=>[.arr 2 [.agg [.str ti,.fz 5 (xs.map scA)]],.arr 2 [.agg [.str [],.raw (.slice none 0 0)]],.arr 2 [.agg [.str ti,.sl 3 0 i i]],.arr 5 ((xs.take i).map scA)]) (fun i=>i<=xs.length) 0 (by simp) ?_ ?_
 .refine Shift.trans (Shift.cells 2 5 [.agg [.str ti,.sl 3 0 0 0]] rfl rfl (by simp[cellsOf]) ⟨.refl,.sl,trivial⟩) (Shift.weak ?_)
  simp only[go_sem]
 .intro i g1 J hJ
  by_cases gi:i<xs.length
  .have di:decide ((i:Int)<(xs.length:Int))=true:=by simp; omega
   have hg':List.getD (List.map scA xs) i .any=.agg [.str xs[i].no,.int .i64 xs[i].place,.str xs[i].set,.int .i64 xs[i].time,.fz 2 (xs[i].paras.map paA)]:=by simp[List.getD,gi,scA]
   have hcl:=BeK xs[i].paras (hp _ (List.getElem_mem gi));have htl:(List.take i xs).length=i:=by simp; omega
   have hsu:List.map scA (List.take i xs)++[.agg [.str xs[i].no,.int .i64 xs[i].place,.str xs[i].set,.int .i64 xs[i].time,.fz 2 (xs[i].paras.map paA)]]=List.map scA (List.take (i+1) xs):=by
    rw[List.take_succ_eq_append_getElem gi,List.map_append]; rfl
   refine zgF ?_;simp only[go_sem,di,hg',List.length_map]
   repeat refine aqa ?_
   refine zpF (hcl) ?_;simp only[go_sem,List.length_map,htl]
   repeat refine aqa ?_
   rw[hsu,show(i:Int)+1=((i+1:Nat):Int) by omega];refine ainv (hJ (i+1) (by omega) (by omega)) (Shift.low 4 (by simp) (by simp) ?_ ?_)
   .have:=AaD (List.take (i+1) xs)
    simp only[go_sem,lowB,flat,AbL this]
   .simp only [go_sem]
  .have di:decide ((i:Int)<(xs.length:Int))=false:=by simp; omega
   have hi:i=xs.length:=by omega
   subst hi;rw[List.take_length];refine AWp.shift (Shift.frz 3 rfl (AaD _)) ?_;simp only[go_sem,frzE,frzC,frz,frz1,frzB,List.length_map,Nat.le_refl];have htk:List.take xs.length (List.map scA xs)=List.map scA xs:=List.take_of_length_le (by simp);simp only[htk];refine zgF ?_;simp only[go_sem,di];exact AbB [.cell 2 28] rfl [_] ⟨by simp only[go_sem,sideIs],trivial⟩ ⟨rfl,rfl⟩
theorem A5L{St:Std}(hS:LibOk St)(x:Sr)(hx:ScriptOk x)(k:Nat)(hk:k<=x.scenes.length):PcH prog St 56 [srA x,.int .i64 0,.int .i64 (k:Int)] (· = .tup [srA ⟨x.title,x.scenes.take k⟩,.int .i64 0]):=by
 have hck:=AfE hS x hx;have hcp:=ApL x (by have:=hx.len; omega) (ApK hx);have hok:=hx.ok;obtain⟨ti,xs⟩:=x;have t3:=hx.len;simp only at t3 hk hok;have hcl:=BeL (xs.take k) (by simp; omega);simp only[srA]at hck hcp |-;have d0:decide ((k:Int)<0)=false:=by simp
 have d1:decide ((k:Int)>(xs.length:Int))=false:=by simp; omega
 have hcut:List.drop 0 (List.take k (List.map scA xs))=List.map scA (xs.take k):=by simp[List.map_take]
 by_cases k0:k=0
 .have dk:decide ((0:Int)<(k:Int))=false:=by simp; omega
  refine zqIF func56 rfl fun h ρ w hg=>?_
  simp only[go_sem];refine zqF hg (hck) ?_;simp only[go_sem,d0,d1,List.length_map];refine zpF (hcp) ?_;simp only[go_sem,dk,List.length_map]
  repeat refine aqa ?_
  rw[<- List.map_take];refine zpF (hcl) ?_;simp only[go_sem]
  repeat refine aqa ?_
  exact AbB [.cell 6 28,.tmp 7] rfl [_,_] ⟨by simp only[go_sem,sideIs],rfl,trivial⟩ ⟨rfl,rfl⟩
 .have dk:decide ((0:Int)<(k:Int))=true:=by simp; omega
  have hx0:0<xs.length:=by omega
  have h5:(xs[0].time==5)=false:=by
   cases xs with
   | nil=>simp at hx0
   | cons a r =>
    have:=hok.2.2.2.1 rfl
    simpa using this
  have hg':List.getD (List.map scA xs) 0 .any=.agg [.str xs[0].no,.int .i64 xs[0].place,.str xs[0].set,.int .i64 xs[0].time,.fz 2 (xs[0].paras.map paA)]:=by simp[List.getD,hx0,scA]
  refine zqIF func56 rfl fun h ρ w hg=>?_
  simp only[go_sem];refine zqF hg (hck) ?_;simp only[go_sem,d0,d1,List.length_map];refine zpF (hcp) ?_;simp only[go_sem,dk,hg',h5,List.length_map]
  repeat refine aqa ?_
  rw[<- List.map_take];refine zpF (hcl) ?_;simp only[go_sem]
  repeat refine aqa ?_
  exact AbB [.cell 6 28,.tmp 7] rfl [_,_] ⟨by simp only[go_sem,sideIs],rfl,trivial⟩ ⟨rfl,rfl⟩
theorem A2I{St:Std}(hS:LibOk St)(ti:List UInt8)(hx:ScriptOk ⟨ti,[]⟩):PcH prog St 55 [srA ⟨ti,[]⟩] (· = .tup [srA ⟨ti,[]⟩,.int .i64 0]):=by
 have hck:=AfE hS _ hx;have hcp:=ApL ⟨ti,[]⟩ (by simp) (by simp);simp only[srA,List.map_nil]at hck hcp |-;refine zqIF func55 rfl fun h ρ w hg=>?_
 simp only[go_sem];refine zqF hg (hck) ?_;simp only[go_sem];refine zpF (hcp) ?_;simp only[go_sem];refine AcT (around (zgN ?_));simp only[go_sem];exact AbB [.cell 2 28,.tmp 3] rfl [_,_] ⟨by simp only[go_sem,sideIs],rfl,trivial⟩ ⟨rfl,rfl⟩
theorem AuS{St:Std}(hS:LibOk St)(x:Sr)(hx:ScriptOk x)(hn:∀ y∈x.scenes,numberL y.no=true)(hr:(nosL x.scenes).Pairwise nLt):PcH prog St 19 [srA x] (· = .tup [srA x,.int .i64 0]):=by
 have hcut:=A5L hS x hx x.scenes.length (Nat.le_refl _);rw[List.take_length]at hcut;have hlen:=hx.len;obtain⟨ti,xs⟩:=x;simp only at hn hr hlen hcut;have hnum0:=fun h:xs=[]=>A2I hS ti (h▸hx)
 simp only[srA]at hcut hnum0 |-;have hne:∀ i,(h:i<xs.length)->(xs[i].no==[])=false:=fun i h=>by
  have:=hn _ (List.getElem_mem h)
  cases hq:xs[i].no with
  | nil=>rw[hq]at this; exact absurd this (by decide)
  | cons a r=>rfl
 refine zqIF func19 rfl fun h ρ w hg=>?_
 simp only[go_sem,List.length_map];refine AaI (ι:=Nat) (fun i=>xs.length-i)
  (fun i=>[(12,.int .i64 i),(11,.int .i64 xs.length),(10,.fz 5 (xs.map scA)),(4,.int .i64 0),(3,.int .i64 0),(2,.ptr 1 1 0 0),(1,.ptr 0 1 0 0)])
  (fun i=>[.arr 2 [.agg [.str ti,.fz 5 (xs.map scA)]],.arr 2 [.agg [.str [],.raw (.slice none 0 0)]]]) (fun i=>i<=xs.length) 0 (by simp) ?_ ?_
 .refine Shift.weak ?_
  simp only[go_sem]
 .intro i g1 J hJ
  by_cases gi:i<xs.length
  .have di:decide ((i:Int)<(xs.length:Int))=true:=by simp; omega
   have hg':List.getD (List.map scA xs) i .any=.agg [.str xs[i].no,.int .i64 xs[i].place,.str xs[i].set,.int .i64 xs[i].time,.fz 2 (xs[i].paras.map paA)]:=by simp[List.getD,gi,scA]
   have q:=hne i gi;have hfin:=hJ (i+1) (by omega) (by omega);refine zgF ?_;simp only[go_sem,di,hg',q,List.length_map]
   repeat refine aqa ?_
   rw[ic i];refine ainv hfin (Shift.low 2 (by simp) (by simp) rfl ?_);simp only[go_sem]
  .have di:decide ((i:Int)<(xs.length:Int))=false:=by simp; omega
   have hi:i=xs.length:=by omega
   subst hi
   by_cases h0:xs=[]
   .have q1:((0:Int)==(xs.length:Int))=true:=by simp[h0]
    have hnm:=hnum0 h0;subst h0;refine zgF ?_;simp only[go_sem,di,q1,List.length_map];refine zqF hg (hnm) ?_;simp only[go_sem];exact AbB [.cell 2 28,.tmp 3] rfl [_,_] ⟨by simp only[go_sem,sideIs],rfl,trivial⟩ ⟨rfl,rfl⟩
   .have hpos:=List.length_pos_iff.2 h0
    have q1:((0:Int)==(xs.length:Int))=false:=by simp[h0]; omega
    refine zgF ?_;simp only[go_sem,di,q1,List.length_map];refine AaI (ι:=Nat) (fun i=>xs.length-i)
     (fun i=>[(37,.int .i64 i),(36,.int .i64 xs.length),(35,.fz 5 (xs.map scA)),(3,.int .i64 0),(2,.ptr 1 1 0 0),(1,.ptr 0 1 0 0)])
     (fun i=>[.arr 2 [.agg [.str ti,.fz 5 (xs.map scA)]],.arr 2 [.agg [.str [],.raw (.slice none 0 0)]]]) (fun i=>i<=xs.length) 0 (by simp) ?_ ?_
    .refine Shift.weak ?_
     simp only[go_sem]
    .clear hJ J
     intro i g1 J hJ
     by_cases gi:i<xs.length
     .have di:decide ((i:Int)<(xs.length:Int))=true:=by simp; omega
      have hg':List.getD (List.map scA xs) i .any=.agg [.str xs[i].no,.int .i64 xs[i].place,.str xs[i].set,.int .i64 xs[i].time,.fz 2 (xs[i].paras.map paA)]:=by simp[List.getD,gi,scA]
      have hfin:=hJ (i+1) (by omega) (by omega)
      by_cases hi0:i=0
      .have dz:decide ((i:Int)>0)=false:=by simp; omega
       refine zgF ?_;simp only[go_sem,di,hg',List.length_map]
       repeat refine aqa ?_
       refine zr [.any] mixed ?_;simp only[go_sem,dz]
       repeat refine aqa ?_
       refine zgF ?_;simp only[go_sem]
       repeat refine aqa ?_
       rw[ic i];refine ainv hfin (Shift.low 2 (by simp) (by simp) rfl ?_);simp only[go_sem]
      .have dz:decide ((i:Int)>0)=true:=by simp; omega
       have gp:i-1<xs.length:=by omega
       have e1:((i:Int)-1).toNat=i-1:=by omega
       have hgp:List.getD (List.map scA xs) (i-1) .any=.agg [.str xs[i-1].no,.int .i64 xs[i-1].place,.str xs[i-1].set,.int .i64 xs[i-1].time,.fz 2 (xs[i-1].paras.map paA)]:=by simp[List.getD,gp,scA]
       have hc:=AbI xs[i].no xs[i-1].no (hn _ (List.getElem_mem gi)) (hn _ (List.getElem_mem gp));have hlt:nLt xs[i-1].no xs[i].no:=by
        have:=List.pairwise_iff_getElem.1 hr (i-1) i (by simpa[nosL]using gp) (by simpa[nosL]using gi) (by omega)
        simpa[nosL]using this
       have dl:decide (AaC xs[i].no xs[i-1].no<=0)=false:=by
        rw[decide_eq_false_iff_not,compareN_le]; exact fun e=>e hlt
       generalize hP:xs[i-1]=P at *;refine zgF ?_;simp only[go_sem,di,hg',List.length_map]
       repeat refine aqa ?_
       refine zr [.int .i64 (AaC xs[i].no P.no)] mixed ?_;simp only[go_sem,dz,e1,hgp,dl,List.length_map]
       repeat refine And.intro (by first|exact hc.at|omega|exact .inl trivial|rfl|(simp; done)|(simp; omega)) ?_
       refine zgF ?_;simp only[go_sem]
       repeat refine aqa ?_
       rw[ic i];refine ainv hfin (Shift.low 2 (by simp) (by simp) rfl ?_);simp only[go_sem]
     .have di:decide ((i:Int)<(xs.length:Int))=false:=by simp; omega
      refine zgF ?_;simp only[go_sem,di,List.length_map];refine zqF hg (hcut) ?_;simp only[go_sem];exact AbB [.cell 2 28,.tmp 3] rfl [_,_] ⟨by simp only[go_sem,sideIs],rfl,trivial⟩ ⟨rfl,rfl⟩
