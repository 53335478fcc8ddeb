/- Binders, as the reference checks them. -/
import Derived.Test.YtgenkcmfeeakoaaGreatDoorX43
set_option maxRecDepth 100000
set_option maxHeartbeats 8000000
set_option linter.all false
namespace Go.Proofs.YtgenkcmfeeakoaaGreatDoor
open Av RowKit Proofs.Tryz
theorem AhP{St:Std}(hS:LibOk St)(s:LU)(hl:s.length<1000000):PcH prog St 76 [.str s] (· = .tup [.str (endsL s).1,.str (endsL s).2]):=by
 have hc:=BvM hS s [45] (by omega);have he:(Lib.cut s [45]).2.2=false->(Lib.cut s [45]).1=s:=by
  unfold Lib.cut
  split <;> simp
 unfold endsL;generalize Lib.cut s [45]=c at hc he |-;obtain⟨a,b,ok⟩:=c;simp only at hc he |-;refine zqIB func76 rfl fun h ρ w hg=>?_
 simp only[go_sem];refine zqB hg (hc) ?_
 cases ok with
 | true =>
  simp only[go_sem];exact zt [2,3]
 | false =>
  rw[he rfl]at hc |-;simp only[go_sem];exact zt [2,3]
theorem AkR(l:List LU)(hl:l.length<1000000)(hs:∀ n∈l,n.length<1000000):Pc prog 26 [.fz 1 (l.map .str)] (fun r=>∃ n:Int,r=.int .i64 n/\(n=0 ↔ (∀ n∈l,numberL n=true)/\∀ i,(h:i+1<l.length)->nLt l[i] l[i+1])):=by
 refine zpIB func26 rfl fun h ρ w=>?_
 simp only[go_sem,laa];refine AaE (ι:=Nat) (fun i=>l.length-i) (fun i=>[(7,.int .i64 i),(6,.int .i64 l.length),(5,.fz 1 (l.map .str)),(0,.fz 1 (l.map .str))]) (fun _=>[])
  (fun i=>i<=l.length/\(∀ j,(h:j<l.length)->j<i->numberL l[j]=true)/\∀ j,(h:j+1<l.length)->j+1<i->nLt l[j] l[j+1]) 0 (by simp) ?_ ?_
 .refine Lr ?_
  simp only[go_sem]
 .rintro i ⟨g1,g2,g3⟩ J hJ
  by_cases gi:i<l.length
  .have di:decide ((i:Int)<(l.length:Int))=true:=by simp; omega
   have hg':List.getD (l.map AV.str) i .any=.str l[i]:=by simp[List.getD,gi]
   have hnb:=AbX l[i] (hs _ (lac gi))
   cases d1:numberL l[i]with
   | false =>
    rw[d1]at hnb;apply zgB;simp only[go_sem,di,hg',laa]
    repeat refine aqg ?_
    refine zpB (hnb) ?_;simp only[go_sem];refine aret [2] rfl ⟨⟨5,rfl,fun h=>absurd h (by decide),fun h=>?_⟩,rfl⟩;rw[h.1 _ (lac gi)]at d1; cases d1
   | true =>
    rw[d1]at hnb;have g2':∀ j,(h:j<l.length)->j<i+1->numberL l[j]=true:=fun j h hj=>by
     by_cases e:j=i
     .subst e; exact d1
     .exact g2 j h (by omega)
    by_cases hi0:i=0
    .have dz:decide ((i:Int)>0)=false:=by simp; omega
     have hfin:=hJ (i+1) ⟨by omega,g2',fun j h hj=>by omega⟩ (by omega);apply zgB;simp only[go_sem,di,hg',laa]
     repeat refine aqg ?_
     refine zpB (hnb) ?_;simp only[go_sem,dz]
     repeat refine aqg ?_
     rw[ic i];refine ainv hfin (Lr ?_);simp only[go_sem]
    .have dz:decide ((i:Int)>0)=true:=by simp; omega
     have e1:((i:Int)-1).toNat=i-1:=by omega
     have hi1:i-1<l.length:=by omega
     have hg2:List.getD (l.map AV.str) (i-1) .any=.str l[i-1]:=by simp[List.getD,hi1]
     have hor:=AeK l[i-1] l[i] (g2 _ hi1 (by omega)) d1;have ej:i-1+1=i:=by omega
     cases d2:decide (compareN l[i-1] l[i]>=0)with
     | true =>
      have hno:¬ ∀ i,(h:i+1<l.length)->nLt l[i] l[i+1]:=fun h=>by
       have:=h (i-1) (by omega);simp only[ej]at this;have:=compareN_lt.2 this;rw[lag]at d2;omega
      apply zgB;simp only[go_sem,di,hg',laa]
      repeat refine aqg ?_
      refine zpB (hnb) ?_;simp only[go_sem,dz,e1,hg2,laa]
      repeat refine aqg ?_
      refine zpB (hor) ?_;simp only[go_sem,d2];exact aret [2] rfl ⟨⟨7,rfl,fun h=>absurd h (by decide),fun h=>absurd h.2 hno⟩,rfl⟩
     | false =>
      have hfin:=hJ (i+1) ⟨by omega,g2',fun j h hj=>by
       by_cases e:j+1=i
       .have:nLt l[i-1] l[i]:=compareN_lt.1 (by rw[lai]at d2; omega)
        have ej2:j=i-1:=by omega
        subst ej2;simp only[ej];exact this
       .exact g3 j h (by omega)⟩ (by omega)
      apply zgB;simp only[go_sem,di,hg',laa]
      repeat refine aqg ?_
      refine zpB (hnb) ?_;simp only[go_sem,dz,e1,hg2,laa]
      repeat refine aqg ?_
      refine zpB (hor) ?_;simp only[go_sem,d2]
      repeat refine aqg ?_
      rw[ic i];refine ainv hfin (Lr ?_);simp only[go_sem]
  .have di:decide ((i:Int)<(l.length:Int))=false:=by simp; omega
   have hi:i=l.length:=by omega
   subst hi;apply zgB;simp only[go_sem,di];exact aret [2] rfl ⟨⟨0,rfl,fun _=>⟨fun n hn=>by
    obtain⟨j,hj,rfl⟩:=List.getElem_of_mem hn;exact g2 j hj hj,fun j h=>g3 j h h⟩,fun _=>rfl⟩,rfl⟩
theorem A0S(s:LU)(hs:s.length<10000000):Pc prog 135 [.str s] (· = .bool (s.all plainC)):=by
 refine zpIB func135 rfl fun h ρ w=>?_
 simp only[go_sem];refine AaE (ι:=Nat) (fun j=>s.length-j) (fun j=>[(3,.int .i64 j),(0,.str s)]) (fun _=>[]) (fun j=>j<=s.length/\(s.take j).all plainC=true) 0 (by simp) ?_ ?_
 .refine Lr ?_
  simp only[go_sem]
 .rintro j ⟨k1,k2⟩ J hJ
  by_cases gj:j<s.length
  .have dj:decide ((j:Int)<(s.length:Int))=true:=by simp; omega
   have hgd:s.getD j 0=s[j]:=by simp[List.getD,gj]
   have bad:plainC s[j]=false->s.all plainC=false:=fun h=>by
    rw[List.all_eq_false];exact⟨_,lac gj,by simp[h]⟩
   cases c1:decide ((s[j].toNat:Int)<32)with
   | true =>
    rw[bad (by simp only[plainC,c1]; rfl)];apply zgB;simp only[go_sem,dj,hgd,c1]
    repeat refine aqg ?_
    exact zt [2]
   | false =>
    cases c2:decide ((s[j].toNat:Int)>126)with
    | true =>
     rw[bad (by simp only[plainC,c1,c2]; rfl)];apply zgB;simp only[go_sem,dj,hgd,c1,c2]
     repeat refine aqg ?_
     exact zt [2]
    | false =>
     have hfin:=hJ (j+1) ⟨by omega,AaR gj k2 (plainC_val.2 ⟨c1,c2⟩)⟩ (by omega);apply zgB;simp only[go_sem,dj,hgd,c1,c2]
     repeat refine aqg ?_
     rw[ic j];refine ainv hfin (Lr ?_);simp only[go_sem]
  .have dj:decide ((j:Int)<(s.length:Int))=false:=by simp; omega
   have hj:j=s.length:=by omega
   rw[hj,laz]at k2;rw[k2];apply zgB;simp only[go_sem,dj];exact zt [2]
theorem B1N(s:LU):leafNameL s=(numberL (endsL s).1&&(numberL (endsL s).2&&!(s != (endsL s).1&&decide (compareN (endsL s).1 (endsL s).2>=0)))):=by
 have he:(Lib.cut s [45]).2.2=false->(Lib.cut s [45]).1=s:=by
  grind[Lib.cut]
 have hn:(Lib.cut s [45]).2.2=true->numberL (Lib.cut s [45]).1=true->s≠(Lib.cut s [45]).1:=fun h1 h2 h3=>by
  grind[A3Z]
 unfold leafNameL endsL
 grind
theorem A4T{St:Std}(hS:LibOk St)(l:List Le')(hl:l.length<1000000)(hb:∀ f∈l,f.name.length<1000000/\f.first.length<1000000/\f.Lb.length<1000000/\∀ s∈f.Lb,s.length<4000000) :
  PcH prog St 72 [.fz 4 (l.map leA)] (fun r=>∃ n:Int,r=.int .i64 n/\(n=0 ↔ BinderOk l)):=by
 by_cases hm:l.length<=1500
 .have d1:decide ((l.length:Int)>1500)=false:=by simp; omega
  refine zqIB func72 rfl fun h ρ w hg=>?_
  simp only[go_sem,d1,laa];refine AaE (ι:=Nat) (fun i=>l.length-i) (fun i=>[(15,.int .i64 i),(14,.int .i64 l.length),(13,.fz 4 (l.map leA)),(3,.str (lastE l i))]) (fun _=>[])
   (fun i=>i<=l.length/\(∀ j,(h:j<l.length)->j<i->LeafOk l[j])/\∀ j,(h:j+1<l.length)->j+1<i->nLt (endsL l[j].name).2 (endsL l[j+1].name).1) 0 (by simp) ?_ ?_
  .refine Lr ?_
   simp only[go_sem,lastE]
  .rintro i ⟨g1,g2,g3⟩ J hJ
   by_cases gi:i<l.length
   .have di:decide ((i:Int)<(l.length:Int))=true:=by simp; omega
    have hg':=AgN gi;obtain⟨b1,b2,b3,b4⟩:=hb _ (lac gi);have hen:=AhP hS l[i].name b1;have hla:0<i->(lastE l i=(endsL (l[i-1]'(by omega)).name).2/\numberL (lastE l i)=true):=fun h0=>by
     have h1:i-1<l.length:=by omega
     have e:lastE l i=(endsL (l[i-1]'(by omega)).name).2:=by
      have hi0:¬ i=0:=by omega
      simp only[lastE,hi0,if_false,List.getD,lab h1,lcn]
     exact⟨e,by rw[e]; exact(ends_num (g2 (i-1) h1 (by omega)).name).2.1⟩
    have hnx:lastE l (i+1)=(endsL l[i].name).2:=by
     simp only[lastE,Nat.add_one_ne_zero,if_false,lcf,List.getD,lab gi,lcn]
    have out:LeafOk l[i]->(0<i->nLt (lastE l i) (endsL l[i].name).1)->∀ (a:Act) (w':World),Sim _ _ _ a w'->J a w':=fun e e2=>hJ (i+1) ⟨by omega,fun j h hj=>by
     by_cases e':j=i
     .subst e'; exact e
     .exact g2 j h (by omega),fun j h hj=>by
     by_cases e':j+1=i
     .subst e'
      have:=e2 (by omega);rw[(hla (by omega)).1]at this;exact this
     .exact g3 j h (by omega)⟩ (by omega)
    have bad:¬ LeafOk l[i]->¬ BinderOk l:=fun e h=>e (h.all _ (lac gi))
    have bad2:0<i->¬ nLt (lastE l i) (endsL l[i].name).1->¬ BinderOk l:=fun h0 e h=>by
     have:=h.rise (i-1) (by omega);simp only[Nat.sub_add_cancel h0]at this;rw[(hla h0).1]at e;exact e this
    rw[hnx]at out;have hen2:=@ends_num l[i].name;have hlr:=B1N l[i].name;have hlc:=cut_len l[i].name [45];have hel:(endsL l[i].name).1.length<1000000/\(endsL l[i].name).2.length<1000000:=by
     unfold endsL;refine⟨by simp only; omega,?_⟩;simp only
     split <;> omega
    have hl0:i=0->lastE l i=[]:=fun h=>by simp[lastE,h]
    clear hJ hnx;generalize lastE l i=last at *;generalize hf:l[i]=f at *;generalize hq:endsL f.name=p at *;obtain⟨a,b⟩:=p;simp only at hel hlr out bad2 hla hen2 hen;have hna:=AbX a (by omega);have hnb:=AbX b (by omega);apply zgB;simp only[go_sem,di,hg',laa]
    repeat refine aqg ?_
    refine zeH hg (hen) ?_;rintro _ rfl;refine goB rfl 12 ?_;simp only[go_sem];refine acut (ι:=Unit) (fun _=>[(6,.str a),(7,.str b),(5,.ptr 0 1 0 0),(15,.int .i64 i),(14,.int .i64 l.length),(13,.fz 4 (l.map leA)),(3,.str last)]) (fun _=>[.arr 4 [.agg [.str f.name,.int .i64 f.Lj,.str f.first,.fz 1 (f.Lb.map .str)]]]) (fun _=>leafNameL f.name=true) ?_ ?_
    .intro Jc hJc
     have hbad:leafNameL f.name=false->¬ BinderOk l:=fun e=>bad fun h=>by rw[h.name]at e; cases e
     have fc:=hJc ();clear hJc
     cases na:numberL a with
     | false =>
      rw[na]at hna hlr;have hno:=hbad (hlr.trans rfl);apply zgB;simp only[go_sem];refine zpB (hna) ?_;simp only[go_sem];exact aret [2] rfl ⟨⟨5,rfl,by simp[hno]⟩,rfl⟩
     | true =>
      rw[na]at hna hlr
      cases nb:numberL b with
      | false =>
       rw[nb]at hnb hlr;have hno:=hbad (hlr.trans rfl);apply zgB;simp only[go_sem];refine zpB (hna) ?_;simp only[go_sem];refine zpB (hnb) ?_;simp only[go_sem];exact aret [2] rfl ⟨⟨5,rfl,by simp[hno]⟩,rfl⟩
      | true =>
       rw[nb]at hnb hlr;have hor:=AeK a b na nb
       cases ne:f.name != a with
       | false =>
        rw[ne]at hlr;have fc2:=fc (hlr.trans rfl);apply zgB;simp only[go_sem];refine zpB (hna) ?_;simp only[go_sem];refine zpB (hnb) ?_;simp only[go_sem,ne];refine ainv fc2 (Lr ?_);simp only[go_sem]
       | true =>
        rw[ne]at hlr
        cases d2:decide (compareN a b>=0)with
        | true =>
         rw[d2]at hlr;have hno:=hbad (hlr.trans rfl);apply zgB;simp only[go_sem];refine zpB (hna) ?_;simp only[go_sem];refine zpB (hnb) ?_;simp only[go_sem,ne];refine zpB (hor) ?_;simp only[go_sem,ne,d2];exact aret [2] rfl ⟨⟨5,rfl,by simp[hno]⟩,rfl⟩
        | false =>
         rw[d2]at hlr;have fc2:=fc (hlr.trans rfl);apply zgB;simp only[go_sem];refine zpB (hna) ?_;simp only[go_sem];refine zpB (hnb) ?_;simp only[go_sem,ne];refine zpB (hor) ?_;simp only[go_sem,ne,d2];refine ainv fc2 (Lr ?_);simp only[go_sem]
    .rintro-hnm
     obtain⟨n1,n2,n3⟩:=hen2 hnm;refine goB rfl 1 ?_;simp only[go_sem];refine acut (ι:=Unit) (fun _=>[(6,.str a),(7,.str b),(5,.ptr 0 1 0 0),(15,.int .i64 i),(14,.int .i64 l.length),(13,.fz 4 (l.map leA))]) (fun _=>[.arr 4 [.agg [.str f.name,.int .i64 f.Lj,.str f.first,.fz 1 (f.Lb.map .str)]]]) (fun _=>0<i->nLt last a) ?_ ?_
     .intro Jc hJc
      have fc:=hJc ();clear hJc
      by_cases hi0:i=0
      .have el:=hl0 hi0
       have d0:(last != [])=false:=by simp[el]
       have fc2:=fc (fun h=>by omega);apply zgB;simp only[go_sem,d0];refine ainv fc2 (Lr ?_);simp only[go_sem]
      .have hln:=(hla (by omega)).2
       have d0:(last != [])=true:=by
        have:=num_ne hln
        simpa using this
       have hor:=AeK a last n1 hln
       cases d2:decide (compareN a last<=0)with
       | true =>
        have hno:=bad2 (by omega) (fun h=>by
         rw[lag]at d2;exact(compareN_le.1 d2) h)
        apply zgB;simp only[go_sem,d0];refine zpB (hor) ?_;simp only[go_sem,d0,d2];exact aret [2] rfl ⟨⟨7,rfl,by simp[hno]⟩,rfl⟩
       | false =>
        have fc2:=fc (fun _=>by
         rw[lai,compareN_le]at d2;exact Classical.not_not.1 d2)
        apply zgB;simp only[go_sem,d0];refine zpB (hor) ?_;simp only[go_sem,d0,d2];refine ainv fc2 (Lr ?_);simp only[go_sem]
     .rintro-hris
      by_cases hd1:f.Lj<1
      .have e1:decide (f.Lj<1)=true:=by simpa using hd1
       have hno:=bad fun h=>by have:=h.Lj; omega
       apply zgB;simp only[go_sem,e1];exact aret [2] rfl ⟨⟨1,rfl,by simp[hno]⟩,rfl⟩
      .have e1:decide (f.Lj<1)=false:=by simpa using hd1
       by_cases hd2:f.Lj>30
       .have e2:decide (f.Lj>30)=true:=by simpa using hd2
        have hno:=bad fun h=>by have:=h.Lj; omega
        apply zgB;simp only[go_sem,e1,e2];exact aret [2] rfl ⟨⟨1,rfl,by simp[hno]⟩,rfl⟩
       .have e2:decide (f.Lj>30)=false:=by simpa using hd2
        have hnf:=AbX f.first (by omega)
        by_cases hfi:f.first=[]\/numberL f.first=true
        .by_cases h54:f.Lb.length<=54
         .have d54:decide ((f.Lb.length:Int)>54)=false:=by rw[lai]; omega
          by_cases h0:f.Lb=[]
          .have d00:((f.Lb.length:Int)==0)=true:=by simp[h0]
           have hno:=bad fun h=>h.Lb.some h0
           refine hfi.elim (fun hf0=>?_) (fun hf0=>?_);have e3:(f.first != [])=false:=by simp[hf0]
           apply zgB;simp only[go_sem,e1,e2,e3,d54,d00,laa]
           rotate_left
           have e3:(f.first != [])=true:=by
            have:=num_ne hf0
            simpa using this
           rw[hf0]at hnf;apply zgB;simp only[go_sem,e1,e2,e3];refine zpB (hnf) ?_;simp only[go_sem,e1,e2,e3,d54,d00,laa]
           all_goals exact aret [2] rfl ⟨⟨3,rfl,by simp[hno]⟩,rfl⟩
          .have hpos:=List.length_pos_iff.2 h0
           have d00:((f.Lb.length:Int)==0)=false:=by simp[h0]
           refine hfi.elim (fun hf0=>?_) (fun hf0=>?_);have e3:(f.first != [])=false:=by simp[hf0]
           apply zgB;simp only[go_sem,e1,e2,e3,d54,d00,laa]
           rotate_left
           have e3:(f.first != [])=true:=by
            have:=num_ne hf0
            simpa using this
           rw[hf0]at hnf;apply zgB;simp only[go_sem,e1,e2,e3];refine zpB (hnf) ?_;simp only[go_sem,e1,e2,e3,d54,d00,laa]
           all_goals
            refine AaE (ι:=Nat) (fun j=>f.Lb.length-j) (fun j=>[(86,.int .i64 j),(85,.int .i64 f.Lb.length),(84,.fz 1 (f.Lb.map .str)),(3,.str b),(15,.int .i64 i),(14,.int .i64 l.length),(13,.fz 4 (l.map leA))]) (fun _=>[.arr 4 [.agg [.str f.name,.int .i64 f.Lj,.str f.first,.fz 1 (f.Lb.map .str)]]]) (fun j=>j<=f.Lb.length/\∀ k,(h:k<f.Lb.length)->k<j->LineFit f.Lb[k]) 0 (by simp) ?_ ?_
            .refine Lr ?_
             simp only[go_sem]
            .rintro j ⟨k1,k2⟩ K hK
             by_cases gj:j<f.Lb.length
             .have dj:decide ((j:Int)<(f.Lb.length:Int))=true:=by simp; omega
              have hx:=AmX gj;have hsl:=b4 _ (lac gj);have fit:LineFit f.Lb[j]->∀ (a:Act) (w':World),Sim _ _ _ a w'->K a w':=fun e=>hK (j+1) ⟨by omega,fun k h hk=>by
               by_cases e':k=j
               .subst e'; exact e
               .exact k2 k h (by omega)⟩ (by omega)
              have badl:¬ LineFit f.Lb[j]->¬ BinderOk l:=fun e=>bad fun h=>e (h.Lb.all _ (lac gj))
              clear hK;generalize f.Lb[j]=s at *;have hpr:=A0S s (by omega)
              cases q1:s.all plainC with
              | false =>
               rw[q1]at hpr;have hno:=badl fun h=>by rw[h.plain]at q1; cases q1
               apply zgB;simp only[go_sem,dj,hx,laa]
               repeat refine aqg ?_
               refine zpB (hpr) ?_;simp only[go_sem];exact aret [2] rfl ⟨⟨3,rfl,by simp[hno]⟩,rfl⟩
              | true =>
               rw[q1]at hpr;have hsx:=AbR s [32] (by omega)
               cases q2:Lib.hasSuffix s [32]with
               | true =>
                rw[q2]at hsx;have hno:=badl fun h=>by rw[h.suf]at q2; cases q2
                apply zgB;simp only[go_sem,dj,hx,laa]
                repeat refine aqg ?_
                refine zpB (hpr) ?_;simp only[go_sem];refine zpB (hsx) ?_;simp only[go_sem];exact aret [2] rfl ⟨⟨3,rfl,by simp[hno]⟩,rfl⟩
               | false =>
                rw[q2]at hsx
                by_cases h80:s.length<=80
                .have d80:decide ((s.length:Int)>80)=false:=by rw[lai]; omega
                 have hfin:=fit ⟨h80,q2,q1⟩;apply zgB;simp only[go_sem,dj,hx,laa]
                 repeat refine aqg ?_
                 refine zpB (hpr) ?_;simp only[go_sem];refine zpB (hsx) ?_;simp only[go_sem,d80]
                 repeat refine aqg ?_
                 rw[ic j];refine ainv hfin (Lr ?_);simp only[go_sem]
                .have d80:decide ((s.length:Int)>80)=true:=by rw[lag]; omega
                 have hno:=badl fun h=>h80 h.len
                 apply zgB;simp only[go_sem,dj,hx,laa]
                 repeat refine aqg ?_
                 refine zpB (hpr) ?_;simp only[go_sem];refine zpB (hsx) ?_;simp only[go_sem,d80];exact aret [2] rfl ⟨⟨3,rfl,by simp[hno]⟩,rfl⟩
             .have dj:decide ((j:Int)<(f.Lb.length:Int))=false:=by simp; omega
              have hfin:=out ⟨hnm,by omega,hfi,h54,h0,fun s hs=>by
               obtain⟨k,hk,rfl⟩:=List.getElem_of_mem hs;exact k2 k hk (by omega)⟩ hris
              apply zgB;simp only[go_sem,dj]
              repeat refine aqg ?_
              rw[ic i];refine ainv hfin (Shift.low 0 (by simp) (by simp) rfl ?_);simp only[go_sem]
         .have d54:decide ((f.Lb.length:Int)>54)=true:=by rw[lag]; omega
          have hno:=bad fun h=>h54 h.Lb.few
          refine hfi.elim (fun hf0=>?_) (fun hf0=>?_);have e3:(f.first != [])=false:=by simp[hf0]
          apply zgB;simp only[go_sem,e1,e2,e3,d54,laa]
          rotate_left
          have e3:(f.first != [])=true:=by
           have:=num_ne hf0
           simpa using this
          rw[hf0]at hnf;apply zgB;simp only[go_sem,e1,e2,e3];refine zpB (hnf) ?_;simp only[go_sem,e1,e2,e3,d54,laa]
          all_goals exact aret [2] rfl ⟨⟨2,rfl,by simp[hno]⟩,rfl⟩
        .have hf0:f.first≠[]:=fun h=>hfi (.inl h)
         have hf1:numberL f.first=false:=by
          cases h:numberL f.first with
          | true=>exact absurd (.inr h) hfi
          | false=>rfl
         have e3:(f.first != [])=true:=by simpa using hf0
         rw[hf1]at hnf;have hno:=bad fun h=>hfi h.first
         apply zgB;simp only[go_sem,e1,e2,e3];refine zpB (hnf) ?_;simp only[go_sem,e1,e2,e3];exact aret [2] rfl ⟨⟨5,rfl,by simp[hno]⟩,rfl⟩
   .have di:decide ((i:Int)<(l.length:Int))=false:=by simp; omega
    have hi:i=l.length:=by omega
    subst hi;have hok:BinderOk l:=⟨hm,fun f hf=>by
     obtain⟨j,hj,rfl⟩:=List.getElem_of_mem hf;exact g2 j hj hj,fun j h=>g3 j h h⟩
    apply zgB;simp only[go_sem,di];exact aret [2] rfl ⟨⟨0,rfl,by simp[hok]⟩,rfl⟩
 .have d1:decide ((l.length:Int)>1500)=true:=by simp; omega
  have hno:¬ BinderOk l:=fun h=>hm h.few
  refine zqIB func72 rfl fun h ρ w hg=>?_
  simp only[go_sem,d1,laa];exact aret [2] rfl ⟨⟨2,rfl,by simp[hno]⟩,rfl⟩
theorem number_len{n:LU}(h:numberL n=true):n.length<=8:=by
 have:=AaZ h
 grind[AbF]
theorem A0T{no:LU}(hn:numberL no=true):wrapL 60 (goneT no)=[goneT no]:=by
 have:=number_len hn;exact BqO (A4C hn) (num_ne hn) (by decide) (by simp) (by simp; omega)
theorem BrQ(no:LU)(hl:no.length<=100):Ct prog 67 [.str no] [] (fun r s=>r=.sl 1 0 1 1/\s=[.arr 1 [.str (goneT no)],.arr 3 [.agg [.int .i64 0,.sl 0 0 1 1,.sl 2 0 0 0]],.arr 1 []]):=by
 have hg:no++[32,79,77,73,84,84,69,68]=goneT no:=rfl;refine zcIW func67 rfl fun h ρ w=>?_
 simp only[go_sem,hg]
 repeat refine aqg ?_
 refine ARet.shift (Shift.cells 1 1 [.agg [.int .i64 0,.sl 0 0 1 1,.sl 2 0 0 0]] rfl rfl (by simp[cellsOf]) ⟨.refl,.refl,.sl,trivial⟩) (aret [2] rfl ⟨rfl,rfl⟩)
theorem BrR{no:LU}(hn:numberL no=true):Pc prog 67 [.str no] (· = .fz 3 [rbA (goneB no)]):=by
 refine Pc.mono (Pc.ofOwn 2 (BrQ no (by have:=number_len hn; omega))) ?_;rintro _ ⟨_,_,⟨rfl,rfl⟩,rfl⟩;unfold goneB rbA;rw[A0T hn];rfl
def entL(xs:List Sc)(nos:List LU):List (LU×List Bl):=nos.map fun n=>(n,entB xs n)
theorem BkM(l:List (LU×List Bl)):(flat (l.map enA)).all Av.frozen=true:=AbY (fun _=>rfl) l
theorem PcH.nil2{P:Program}{g:Std}{f:FuncId}{a:AV}{es:Nat}{r:LA}{post:AV->Prop}(hc:PcH P g f (a::.fz es []::r) post):PcH P g f (a::.raw (.slice none 0 0)::r) post:=by
 refine⟨hc.1,fun h w vs hg hm rl=>hc.2 h w vs hg hm ?_⟩
 cases rl with
 | cons r1 rl =>
  cases rl with
  | cons r2 rl =>
   refine .cons r1 (.cons ?_ rl);have:=AaT (ρ:=fun _=>none) (sto:=[]) (r2.thaw (fun _ _ _ x=>x) (fl:=false));subst this;exact .fznil es
theorem BkN:∀ (l:List (LU×List Bl)),(∀ p∈l,numberL p.1=true)->∃ L:List En,L.map (·.1)=l
 | [],_=>⟨[],rfl⟩
 | a::l,h=>by
  obtain⟨L,e⟩:=BkN l fun x hx=>h x (by grind)
  exact⟨⟨a,h a (by simp)⟩::L,by grind⟩
theorem BrS{xs:List Sc}{go E:List LU}{no:Int}{ti:LU}{lv:List Le'}(hE:EntOf ⟨no,ti,xs,go,lv⟩ E)(hm:MdOk xs E) :
  (xs.map (fun x=>(x.no,blocksL x))++go.map fun n=>(n,[goneB n]))=(nosL xs++go).map fun n=>(n,entB xs n):=by
 have hd:E.Nodup:=hE.sorted.imp fun h e=>by grind[nLt_irrefl]
 have hd2:=hE.perm.nodup_iff.1 hd
 all_goals grind[nosL,lbg,entB,atNo_get,atNo]
theorem BkO{xs:List Sc}{E:List LU}{l':List En}(hE:E.Pairwise nLt)(hp:(l'.map (·.1.1)).Perm E)(hs:l'.Pairwise (fun x y=>¬ nLt y.1.1 x.1.1))(hv:∀ p∈l',p.1.2=entB xs p.1.1):l'.map (·.1)=entL xs E:=by
 have h1:(l'.map fun p:En=>(⟨p.1.1,p.2⟩:Nu)).map (·.1)=E:=A3P hE (by rw[lbi]; exact hp) (by grind)
 grind[entL,lbg]
theorem AdG{St:Std}(hS:LibR St){no:Int}{ti:LU}{xs:List Sc}{go E:List LU}{lv:List Le'}(hE:EntOf ⟨no,ti,xs,go,lv⟩ E)(hm:MdOk xs E)(hg:go.length<=1000) :
  PcH prog St 28 [.agg [.str ti,.fz 5 (xs.map scA)],.fz 1 (go.map .str)] (· = .fz 2 ((entL xs E).map enA)):=by
 have hfew:=hm.few;have hgn:∀ n∈go,numberL n=true:=fun n hn=>hE.num n (hE.perm.mem_iff.2 (List.mem_append_left _ hn))
 have hxn:∀ x∈xs,numberL x.no=true:=fun x hx=>hE.num _ (hE.perm.mem_iff.2 (List.mem_append_right _ (List.mem_map.2 ⟨x,hx,rfl⟩)))
 have hpm:=BrS hE hm;refine zqIB func28 rfl fun h ρ w hg=>?_
 simp only[go_sem,laa];refine AaE (ι:=Nat) (fun i=>xs.length-i) (fun i=>[(13,.int .i64 i),(12,.int .i64 xs.length),(11,.fz 5 (xs.map scA)),(5,.sl 0 0 i i),(1,.fz 1 (go.map .str))])
  (fun i=>[.arr 2 ((xs.take i).map fun x=>enA (x.no,blocksL x))]) (fun i=>i<=xs.length) 0 (by omega) ?_ ?_
 .refine Shift.trans (Ls 5 2 rfl) (Lt ?_ (by rfl))
  simp only[go_sem]
 .intro i g1 J hJ
  by_cases gi:i<xs.length
  .have di:decide ((i:Int)<(xs.length:Int))=true:=by simp; omega
   have hg':List.getD (List.map scA xs) i .any=.agg [.str xs[i].no,.int .i64 xs[i].place,.str xs[i].set,.int .i64 xs[i].time,.fz 2 (xs[i].Ld.map paA)]:=by simp[List.getD,gi,scA]
   have hb:=A4O hS xs[i] (hm.sc _ (lac gi));have hlt:(List.take i xs).length=i:=by simp; omega
   have hfin:=hJ (i+1) (by omega) (by omega);rw[laf gi]at hfin;simp only[scA]at hb;apply zgB;simp only[go_sem,di,hg',laa]
   repeat refine aqg ?_
   refine zr [.fz 3 ((blocksL xs[i]).map rbA)] AaI ?_;simp only[go_sem,laa,hlt]
   repeat refine And.intro (by first|exact hb.at hg|omega|exact .inl trivial|rfl|(simp; done)|(simp; omega)) ?_
   apply zgB;simp only[go_sem]
   repeat refine aqg ?_
   rw[ic i];refine ainv hfin (Shift.trans (Shift.low 1 (e':=[(13,.int .i64 ((i+1:Nat):Int)),(12,.int .i64 xs.length),(11,.fz 5 (xs.map scA)),(5,.sl 0 0 (i+1) (i+1)),(1,.fz 1 (go.map .str))]) (by simp) (by simp) ?_ ?_) (Lt ?_ ?_))
   .have:=AbY (f:=fun x:Sc=>enA (x.no,blocksL x)) (fun _=>rfl) (xs.take i++[xs[i]])
    rw[lak]at this
    show(lowB 1 (.arr 2 _)&&true)=true
    rw[lax];exact AaD this
   .simp only[go_sem]
   .simp only [go_sem]
   .rw [lak]
    rfl
  .have di:decide ((i:Int)<(xs.length:Int))=false:=by simp; omega
   have hi:i=xs.length:=by omega
   subst hi;rw[laz];clear hJ;apply zgB;simp only[go_sem,di,laa];refine AaE (ι:=Nat) (fun j=>go.length-j) (fun j=>[(28,.int .i64 j),(27,.int .i64 go.length),(26,.fz 1 (go.map .str)),(5,.sl 0 0 (xs.length+j) (xs.length+j))])
    (fun j=>[.arr 2 ((xs.map (fun x=>(x.no,blocksL x))++(go.take j).map fun n=>(n,[goneB n])).map enA)]) (fun j=>j<=go.length) 0 (by omega) ?_ ?_
   .refine Lt ?_ (by simp)
    simp only[go_sem]
   .intro j g2 J hJ
    by_cases gj:j<go.length
    .have dj:decide ((j:Int)<(go.length:Int))=true:=by simp; omega
     have hg':List.getD (go.map AV.str) j .any=.str go[j]:=by simp[List.getD,gj]
     have hgo:=BrR (hgn _ (lac gj));have hfin:=hJ (j+1) (by omega) (by omega);have hlt:(List.take j go).length=j:=by simp; omega
     apply zgB;simp only[go_sem,dj,hg',laa]
     repeat refine aqg ?_
     refine zpB (hgo) ?_;simp only[go_sem,laa,hlt]
     repeat refine aqg ?_
     rw[ic j];refine ainv hfin (Lt ?_ ?_)
     .simp only [go_sem,Nat.add_assoc]
     .have e:∀ (A B:List (LU×List Bl)) c,List.map enA (A++(B++[c]))=List.map enA (A++B)++[enA c]:=fun A B c=>by
       rw[<- lbu,lak]; rfl
      rw[laf gj,lak (l₁:=List.take j go)];exact congrArg (fun l=>[Blk.arr 2 l]) (e _ _ (go[j],[goneB go[j]])).symm
    .have dj:decide ((j:Int)<(go.length:Int))=false:=by simp; omega
     have hj:j=go.length:=by omega
     subst hj;rw[laz,hpm];have hall:∀ p∈(nosL xs++go).map (fun n=>(n,entB xs n)),numberL p.1=true:=fun p hp=>by
      obtain⟨n,hn,rfl⟩:=List.mem_map.1 hp
      rcases List.mem_append.1 hn with h|h
      .obtain ⟨x,hx,rfl⟩:=List.mem_map.1 h
       exact hxn x hx
      .exact hgn n h
     obtain⟨L,hL⟩:=BkN _ hall;have hLl:xs.length+go.length=L.length:=by rw[<- laa (f:=fun x:En=>x.1),hL]; simp[nosL]
     have hLm:((nosL xs++go).map fun n=>(n,entB xs n)).map enA=L.map enB:=by rw[<- hL,lbi]; rfl
     rw[hLm,hLl];apply zgB;simp only[go_sem,dj];refine za (BkJ (s:=[.arr 2 (L.map enB)]) (bid:=0) (l:=L) rfl (by omega)) ?_;rintro _ _ ⟨rfl,l',rfl,hp,hs⟩;have hl2:(l'.map (·.1.1)).Perm E:=by
      refine(hp.map _).trans ?_;have e:L.map (·.1.1)=nosL xs++go:=by
       have:=congrArg (List.map Prod.fst) hL;rw[lbi,lbi]at this;refine Eq.trans ?_ (this.trans ?_)
       .rfl
       .simp [Function.comp_def]
      rw[e];exact List.perm_append_comm.trans hE.perm.symm
     have hfe:=BkO (xs:=xs) hE.sorted hl2 hs fun p hp'=>by
      have:p.1∈L.map (·.1):=List.mem_map.2 ⟨p,hp.mem_iff.1 hp',rfl⟩;rw[hL]at this;obtain⟨n,_,e⟩:=List.mem_map.1 this;rw[<- e]
     have hfm:l'.map enB=(entL xs E).map enA:=by rw[<- hfe,lbi]; rfl
     have hll:L.length=(entL xs E).length:=by rw[<- hfe,laa,hp.length_eq]
     simp only[List.set_cons_zero,hfm,hll];apply zgB;simp only[go_sem];refine ARet.shift (Shift.freeze 4 (id:=0) rfl rfl (by simp) (lad _) (BkM _)) (aret [4] rfl ⟨?_,rfl⟩)
     simp[resV,Av.get,Av.put,laj]
theorem BrT{k:Nat}(h1:1<=k)(h2:k<=999):numberL (Lib.itoa (k:Int))=true/\pN (Lib.itoa (k:Int))=k:=by
 rw[itoa_dig3 (by omega) (by omega)];have:=number_of (d:=(k)) (c:=[]) (by omega) (by omega) rfl (by simp) (by decide) (fun h=>by omega)
 grind
theorem BkP{xs:List Sc}{nos:List LU}(hm:MdOk xs nos):∀ f∈firstsI xs nos,f=[]\/numberL f=true:=fun f hf=>by
 obtain⟨i,_,hi⟩:=List.mem_map.1 hf
 rcases AeJ xs nos i with⟨m,h3,_,h4⟩|⟨_,h4⟩
 .right
  exact hm.num _ (by grind)
 grind
theorem ByV{ti:LU}{xs:List Sc}(hd:StoryD xs):DraftOk ⟨1,ti,xs,[],lockL xs⟩:=by
 have hm:=hd.md;have h5:=hd.few;have hfew:=ApW xs hd.sc hd.few (nosL xs) (by grind[nosL]) fun n hn=>ApX hn
 have hft:=A0B hm;have hfn:=BkP hm;have hent:=hd.ent 1 ti (lockL xs);obtain⟨ps,p1,p2,p3⟩:=AnA _ (nosL xs) (lad _) hm;have hfl:(firstsI xs (nosL xs)).length=(layL (entsB xs (nosL xs))).Lh.length:=by grind[firstsI,firsts_pages]
 have hnm:∀ k,k<(layL (entsB xs (nosL xs))).Lh.length->numberL (Lib.itoa ((k)+1))=true/\pN (Lib.itoa ((k)+1))=k+1:=fun k hk=>by
  have:=BrT (k:=k+1) (by omega) (by omega)
  grind
 refine⟨by simp,⟨fun x hx=>num_ne (hd.num x hx),hd.rise,by simp,by simp,by grind⟩,⟨?_,?_,?_⟩,?_,?_⟩
 .grind[lockL,AfU]
 .intro f hf
  simp only[lockL,lvsTo,List.mem_map,List.mem_range]at hf;obtain⟨k,hk,rfl⟩:=hf;refine⟨leafName_one (hnm k hk).1,by simp only; omega,hfn _ ?_,hft _ ?_⟩<;>grind
 .intro i hi
  simp only[lockL,AfU]at hi;have g:∀ j,(hj:j<(lockL xs).length)->(lockL xs)[j].name=Lib.itoa ((j)+1):=fun j hj=>by grind[lockL,lvsTo]
  rw[g,g,AvT (hnm i (by omega)).1,AvT (hnm (i+1) hi).1];refine .inl ?_<;>grind
 .grind[lockL,lvsTo]
 .intro E hE
  have:=BtP hE hent;subst this;refine B1D hE.sorted hE.num p1 ?_ p3;rw[<- p2];simp only[lockL,lvsTo,lbi];exact AzT _ _ hfl
