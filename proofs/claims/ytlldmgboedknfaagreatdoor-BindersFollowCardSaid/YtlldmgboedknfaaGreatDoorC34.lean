/- Binders, checked. -/
import Derived.Test.YtlldmgboedknfaaGreatDoorC33
set_option maxRecDepth 100000
set_option maxHeartbeats 4000000
set_option linter.unusedSimpArgs false
set_option linter.unusedVariables false
namespace Go.Proofs.YtlldmgboedknfaaGreatDoor
open Go Go.Av Go.RowKit _root_.Go.Proofs.Tryz
def leafNameL(s:List UInt8):Bool:=numberL (Lib.cut s [45]).1&&(!(Lib.cut s [45]).2.2||(numberL (Lib.cut s [45]).2.1&&decide (AaC (Lib.cut s [45]).1 (Lib.cut s [45]).2.1<0)))
theorem cut_len(s p:List UInt8):(Lib.cut s p).1.length<=s.length/\(Lib.cut s p).2.1.length<=s.length:=by
 unfold Lib.cut
 split <;> simp <;> omega
theorem AaJ{s:List UInt8}(h:leafNameL s=true):numberL (endsL s).1=true/\numberL (endsL s).2=true/\((endsL s).1=(endsL s).2\/nLt (endsL s).1 (endsL s).2):=by
 unfold leafNameL at h;unfold endsL;generalize Lib.cut s [45]=c at *;obtain⟨a,b,ok⟩:=c;simp only[Bool.and_eq_true,Bool.or_eq_true,Bool.not_eq_true',decide_eq_true_eq]at h |-
 cases ok with
 | true =>
  have:=h.2.resolve_left (by simp);exact⟨h.1,this.1,.inr (compareN_lt.1 this.2)⟩
 | false=>exact⟨h.1,h.1,.inl rfl⟩
def plainC(c:UInt8):Bool:=!(decide ((c.toNat:Int)<32)||decide ((c.toNat:Int)>126))
structure LineFit(s:List UInt8):Prop where
 len:s.length<=80
 suf:Lib.hasSuffix s [32]=false
 plain:s.all plainC=true
structure LinesOk(ls:List (List UInt8)):Prop where
 few:ls.length<=54
 some:ls≠[]
 all:∀ s∈ls,LineFit s
structure LeafOk(f:Le'):Prop where
 name:leafNameL f.name=true
 draft:1<=f.draft/\f.draft<=30
 first:f.first=[]\/numberL f.first=true
 lines:LinesOk f.lines
structure BinderOk(l:List Le'):Prop where
 few:l.length<=1500
 all:∀ f∈l,LeafOk f
 rise:∀ i,(h:i+1<l.length)->nLt (endsL l[i].name).2 (endsL l[i+1].name).1
theorem AqY{St:Std}(hS:LibOk St)(s:List UInt8)(hl:s.length<1000000):PcH prog St 97 [.str s] (· = .bool (leafNameL s)):=by
 have hc:=AtO hS s [45] (by omega);have hcl:=cut_len s [45];unfold leafNameL;generalize Lib.cut s [45]=c at hc hcl |-;obtain⟨a,b,ok⟩:=c;simp only at hc hcl |-;have ha:=AcK a (by omega);have hb:=AcK b (by omega);refine zqIB func97 rfl fun h ρ w hg=>?_
 simp only[go_sem];refine zqB hg (hc) ?_;simp only[go_sem]
 cases ea:numberL a with
 | false =>
  rw[ea]at ha;refine zpB (ha) ?_;simp only[go_sem];exact zt [2]
 | true =>
  rw[ea]at ha;refine zpB (ha) ?_;simp only[go_sem]
  cases ok with
  | false =>
   simp only[go_sem];exact zt [2]
  | true =>
   simp only[go_sem]
   cases eb:numberL b with
   | false =>
    rw[eb]at hb;refine zpB (hb) ?_;simp only[go_sem];exact zt [2]
   | true =>
    rw[eb]at hb;have hcm:=AbI a b ea eb;refine zpB (hb) ?_;simp only[go_sem];refine zpB (hcm) ?_;simp only[go_sem];exact aret [2] rfl ⟨by simp[resV,Av.get,Av.put],rfl⟩
theorem plainC_val{c:UInt8}:plainC c=true ↔ decide ((c.toNat:Int)<32)=false/\decide ((c.toNat:Int)>126)=false:=by
 simp only[plainC,Bool.not_eq_true',Bool.or_eq_false_iff]
theorem AuR(ls:List (List UInt8))(hl:ls.length<1000000)(hs:∀ s∈ls,s.length<4000000):Pc prog 98 [.fz 1 (ls.map .str)] (fun r=>∃ n:Int,r=.int .i64 n/\(n=0 ↔ LinesOk ls)):=by
 by_cases h54:ls.length<=54
 .have d1:decide ((ls.length:Int)>54)=false:=by simp; omega
  by_cases h0:ls=[]
  .have d2:((ls.length:Int)==0)=true:=by simp[h0]
   have hno:¬ LinesOk ls:=fun h=>h.some h0
   refine zpIB func98 rfl fun h ρ w=>?_
   simp only[go_sem,d1,d2,List.length_map];exact aret [2] rfl ⟨⟨3,rfl,by simp[hno]⟩,rfl⟩
  .have hpos:=List.length_pos_iff.2 h0
   have d2:((ls.length:Int)==0)=false:=by simp[h0]
   refine zpIB func98 rfl fun h ρ w=>?_
   simp only[go_sem,d1,d2,List.length_map];refine AaI (ι:=Nat) (fun i=>ls.length-i) (fun i=>[(14,.int .i64 i),(13,.int .i64 ls.length),(12,.fz 1 (ls.map .str))]) (fun _=>[]) (fun i=>i<=ls.length/\∀ j,(h:j<ls.length)->j<i->LineFit ls[j]) 0 (by simp) ?_ ?_
   .refine Shift.weak ?_
    simp only[go_sem]
   .rintro i ⟨g1,g2⟩ J hJ
    by_cases gi:i<ls.length
    .have di:decide ((i:Int)<(ls.length:Int))=true:=by simp; omega
     have hx:=AcB gi;have hsl:=hs _ (List.getElem_mem gi);have out:LineFit ls[i]->∀ (a:Act) (w':World),Sim _ _ _ a w'->J a w':=fun e=>hJ (i+1) ⟨by omega,fun j h hj=>by
      by_cases e':j=i
      .subst e'; exact e
      .exact g2 j h (by omega)⟩ (by omega)
     have bad:¬ LineFit ls[i]->¬ LinesOk ls:=fun e h=>e (h.all _ (List.getElem_mem gi))
     generalize ls[i]=s at *
     by_cases h80:s.length<=80
     .have d80:decide ((s.length:Int)>80)=false:=by simp; omega
      cases hsf:Lib.hasSuffix s [32]with
      | true =>
       have hno:=bad fun h=>by have:=h.suf; rw[hsf]at this; cases this
       refine zgB ?_;simp only[go_sem,di,hx,d80,List.length_map]
       repeat refine aqa ?_
       refine zpB (AcJ s [32] (by omega)) ?_;simp only[go_sem,hsf];exact aret [2] rfl ⟨⟨3,rfl,by simp[hno]⟩,rfl⟩
      | false =>
       refine zgB ?_;simp only[go_sem,di,hx,d80,List.length_map]
       repeat refine aqa ?_
       refine zpB (AcJ s [32] (by omega)) ?_;simp only[go_sem,hsf];refine AaI (ι:=Nat) (fun j=>s.length-j) (fun j=>[(27,.int .i64 j),(26,.int .i64 s.length),(4,.str s),(14,.int .i64 i),(13,.int .i64 ls.length),(12,.fz 1 (ls.map .str))]) (fun _=>[]) (fun j=>j<=s.length/\(s.take j).all plainC=true) 0 (by simp) ?_ ?_
       .refine Shift.weak ?_
        simp only[go_sem]
       .rintro j ⟨k1,k2⟩ K hK
        by_cases gj:j<s.length
        .have dj:decide ((j:Int)<(s.length:Int))=true:=by simp; omega
         have hgd:s.getD j 0=s[j]:=by simp[List.getD,gj]
         cases c1:decide ((s[j].toNat:Int)<32)with
         | true =>
          have hno:=bad fun h=>by
           have:=plainC_val.1 (List.all_eq_true.1 h.plain _ (List.getElem_mem gj));rw[c1]at this; cases this.1
          refine zgB ?_;simp only[go_sem,dj,hgd,c1]
          repeat refine aqa ?_
          exact aret [2] rfl ⟨⟨3,rfl,by simp[hno]⟩,rfl⟩
         | false =>
          cases c2:decide ((s[j].toNat:Int)>126)with
          | true =>
           have hno:=bad fun h=>by
            have:=plainC_val.1 (List.all_eq_true.1 h.plain _ (List.getElem_mem gj));rw[c2]at this; cases this.2
           refine zgB ?_;simp only[go_sem,dj,hgd,c1,c2]
           repeat refine aqa ?_
           exact aret [2] rfl ⟨⟨3,rfl,by simp[hno]⟩,rfl⟩
          | false =>
           have hfin:=hK (j+1) ⟨by omega,AaO gj k2 (plainC_val.2 ⟨c1,c2⟩)⟩ (by omega);refine zgB ?_;simp only[go_sem,dj,hgd,c1,c2]
           repeat refine aqa ?_
           rw[ic j];refine ainv hfin (Shift.weak ?_);simp only[go_sem]
        .have dj:decide ((j:Int)<(s.length:Int))=false:=by simp; omega
         have hj:j=s.length:=by omega
         subst hj;rw[List.take_length]at k2;have hfin:=out ⟨h80,hsf,k2⟩;refine zgB ?_;simp only[go_sem,dj]
         repeat refine aqa ?_
         rw[ic i];refine ainv hfin (Shift.weak ?_);simp only[go_sem]
     .have d80:decide ((s.length:Int)>80)=true:=by simp; omega
      have hno:=bad fun h=>h80 h.len
      refine zgB ?_;simp only[go_sem,di,hx,d80,List.length_map]
      repeat refine aqa ?_
      exact aret [2] rfl ⟨⟨3,rfl,by simp[hno]⟩,rfl⟩
    .have di:decide ((i:Int)<(ls.length:Int))=false:=by simp; omega
     have hi:i=ls.length:=by omega
     subst hi;have hok:LinesOk ls:=⟨h54,h0,fun s hs=>by
      obtain⟨j,hj,rfl⟩:=List.getElem_of_mem hs;exact g2 j hj hj⟩
     refine zgB ?_;simp only[go_sem,di];exact aret [2] rfl ⟨⟨0,rfl,by simp[hok]⟩,rfl⟩
 .have d1:decide ((ls.length:Int)>54)=true:=by simp; omega
  have hno:¬ LinesOk ls:=fun h=>h54 h.few
  refine zpIB func98 rfl fun h ρ w=>?_
  simp only[go_sem,d1,List.length_map];exact aret [2] rfl ⟨⟨2,rfl,by simp[hno]⟩,rfl⟩
def le0:Le':=⟨[],0,[],[]⟩
def lastE(l:List Le')(i:Nat):List UInt8:=if i=0 then[] else(endsL (l.getD (i-1) le0).name).2
theorem AcP{St:Std}(hS:LibOk St)(l:List Le')(hl:l.length<1000000)(hb:∀ f∈l,f.name.length<1000000/\f.first.length<1000000/\f.lines.length<1000000/\∀ s∈f.lines,s.length<4000000) :
  PcH prog St 41 [.fz 4 (l.map leA)] (fun r=>∃ n:Int,r=.int .i64 n/\(n=0 ↔ BinderOk l)):=by
 by_cases hm:l.length<=1500
 .have d1:decide ((l.length:Int)>1500)=false:=by simp; omega
  refine zqIB func41 rfl fun h ρ w hg=>?_
  simp only[go_sem,d1,List.length_map];refine AaI (ι:=Nat) (fun i=>l.length-i) (fun i=>[(14,.int .i64 i),(13,.int .i64 l.length),(12,.fz 4 (l.map leA)),(3,.str (lastE l i))]) (fun _=>[])
   (fun i=>i<=l.length/\(∀ j,(h:j<l.length)->j<i->LeafOk l[j])/\∀ j,(h:j+1<l.length)->j+1<i->nLt (endsL l[j].name).2 (endsL l[j+1].name).1) 0 (by simp) ?_ ?_
  .refine Shift.weak ?_
   simp only[go_sem,lastE]
  .rintro i ⟨g1,g2,g3⟩ J hJ
   by_cases gi:i<l.length
   .have di:decide ((i:Int)<(l.length:Int))=true:=by simp; omega
    have hg':=AbQ gi;obtain⟨b1,b2,b3,b4⟩:=hb _ (List.getElem_mem gi);have hil:=AqY hS l[i].name b1;have hen:=AdR hS l[i].name b1;have hfn:=AcK l[i].first (by omega);have hlf:=AuR l[i].lines b3 b4;have hla:0<i->(lastE l i=(endsL (l[i-1]'(by omega)).name).2/\numberL (lastE l i)=true):=fun h0=>by
     have h1:i-1<l.length:=by omega
     have e:lastE l i=(endsL (l[i-1]'(by omega)).name).2:=by
      have hi0:¬ i=0:=by omega
      simp only[lastE,hi0,if_false,List.getD,List.getElem?_eq_getElem h1,Option.getD_some]
     exact⟨e,by rw[e]; exact(AaJ (g2 (i-1) h1 (by omega)).name).2.1⟩
    have hnx:lastE l (i+1)=(endsL l[i].name).2:=by
     simp only[lastE,Nat.add_one_ne_zero,if_false,Nat.add_sub_cancel,List.getD,List.getElem?_eq_getElem gi,Option.getD_some]
    have out:LeafOk l[i]->(0<i->nLt (lastE l i) (endsL l[i].name).1)->∀ (a:Act) (w':World),Sim _ _ _ a w'->J a w':=fun e e2=>hJ (i+1) ⟨by omega,fun j h hj=>by
     by_cases e':j=i
     .subst e'; exact e
     .exact g2 j h (by omega),fun j h hj=>by
     by_cases e':j+1=i
     .subst e'
      have:=e2 (by omega);rw[(hla (by omega)).1]at this;exact this
     .exact g3 j h (by omega)⟩ (by omega)
    have bad:¬ LeafOk l[i]->¬ BinderOk l:=fun e h=>e (h.all _ (List.getElem_mem gi))
    have bad2:0<i->¬ nLt (lastE l i) (endsL l[i].name).1->¬ BinderOk l:=fun h0 e h=>by
     have:=h.rise (i-1) (by omega);simp only[Nat.sub_add_cancel h0]at this;rw[(hla h0).1]at e;exact e this
    rw[hnx]at out;have hen2:=@AaJ l[i].name;generalize hf:l[i]=f at *
    cases en:leafNameL f.name with
    | false =>
     have hno:=bad fun h=>by have:=h.name; rw[en]at this; cases this
     rw[en]at hil;refine zgB ?_;simp only[go_sem,di,hg',List.length_map]
     repeat refine aqa ?_
     refine zqB hg (hil) ?_;simp only[go_sem];exact aret [2] rfl ⟨⟨5,rfl,by simp[hno]⟩,rfl⟩
    | true =>
     obtain⟨n1,n2,n3⟩:=hen2 en;rw[en]at hil
     by_cases h0:i=0
     .have dz:decide ((i:Int)>0)=false:=by simp; omega
      by_cases hd1:f.draft<1
      .have e1:decide (f.draft<1)=true:=by simpa using hd1
       have hno:=bad fun h=>by have:=h.draft; omega
       refine zgB ?_;simp only[go_sem,di,hg',List.length_map]
       repeat refine aqa ?_
       refine zqB hg (hil) ?_;simp only[go_sem];refine zqB hg (hen) ?_;simp only[go_sem,dz,e1]
       repeat refine aqa ?_
       exact aret [2] rfl ⟨⟨1,rfl,by simp[hno]⟩,rfl⟩
      .have e1:decide (f.draft<1)=false:=by simpa using hd1
       by_cases hd2:f.draft>30
       .have e2:decide (f.draft>30)=true:=by simpa using hd2
        have hno:=bad fun h=>by have:=h.draft; omega
        refine zgB ?_;simp only[go_sem,di,hg',List.length_map]
        repeat refine aqa ?_
        refine zqB hg (hil) ?_;simp only[go_sem];refine zqB hg (hen) ?_;simp only[go_sem,dz,e1,e2]
        repeat refine aqa ?_
        exact aret [2] rfl ⟨⟨1,rfl,by simp[hno]⟩,rfl⟩
       .have e2:decide (f.draft>30)=false:=by simpa using hd2
        by_cases hf0:f.first=[]
        .have e3:(f.first != [])=false:=by simp[hf0]
         refine zgB ?_;simp only[go_sem,di,hg',List.length_map]
         repeat refine aqa ?_
         refine zqB hg (hil) ?_;simp only[go_sem];refine zqB hg (hen) ?_;simp only[go_sem,dz,e1,e2,e3]
         repeat refine aqa ?_
         refine A7B hlf rfl rfl rfl ?_;rintro _ ⟨n,rfl,hn⟩
         by_cases h0:n=0
         .have e5:(n != 0)=false:=by simp[h0]
          have hfin:=out ⟨en,by omega,(.inl hf0),hn.1 h0⟩ (fun e=>by omega);refine zgB ?_;simp only[go_sem,e5]
          repeat refine aqa ?_
          rw[ic i];refine ainv hfin (Shift.low 0 (by simp) (by simp) rfl ?_);simp only[go_sem]
         .have e5:(n != 0)=true:=by simp[h0]
          have hno:=bad fun h=>h0 (hn.2 h.lines)
          refine zgB ?_;simp only[go_sem,e5];exact aret [2] rfl ⟨⟨n,rfl,by simp[hno,h0]⟩,rfl⟩
        .have e3:(f.first != [])=true:=by simp[hf0]
         cases e4:numberL f.first with
         | false =>
          rw[e4]at hfn;have hno:=bad fun h=>by have:=h.first.resolve_left hf0; rw[e4]at this; cases this
          refine zgB ?_;simp only[go_sem,di,hg',List.length_map]
          repeat refine aqa ?_
          refine zqB hg (hil) ?_;simp only[go_sem];refine zqB hg (hen) ?_;simp only[go_sem,dz,e1,e2,e3]
          repeat refine aqa ?_
          refine zpB (hfn) ?_;simp only[go_sem];exact aret [2] rfl ⟨⟨5,rfl,by simp[hno]⟩,rfl⟩
         | true =>
          rw[e4]at hfn;refine zgB ?_;simp only[go_sem,di,hg',List.length_map]
          repeat refine aqa ?_
          refine zqB hg (hil) ?_;simp only[go_sem];refine zqB hg (hen) ?_;simp only[go_sem,dz,e1,e2,e3]
          repeat refine aqa ?_
          refine zpB (hfn) ?_;simp only[go_sem]
          repeat refine aqa ?_
          refine A7B hlf rfl rfl rfl ?_;rintro _ ⟨n,rfl,hn⟩
          by_cases h0:n=0
          .have e5:(n != 0)=false:=by simp[h0]
           have hfin:=out ⟨en,by omega,(.inr e4),hn.1 h0⟩ (fun e=>by omega);refine zgB ?_;simp only[go_sem,e5]
           repeat refine aqa ?_
           rw[ic i];refine ainv hfin (Shift.low 0 (by simp) (by simp) rfl ?_);simp only[go_sem]
          .have e5:(n != 0)=true:=by simp[h0]
           have hno:=bad fun h=>h0 (hn.2 h.lines)
           refine zgB ?_;simp only[go_sem,e5];exact aret [2] rfl ⟨⟨n,rfl,by simp[hno,h0]⟩,rfl⟩
     .have dz:decide ((i:Int)>0)=true:=by simp; omega
      obtain⟨hl1,hl2⟩:=hla (by omega);have hc:=AbI (endsL f.name).1 (lastE l i) n1 hl2
      by_cases hle:AaC (endsL f.name).1 (lastE l i)<=0
      .have dl:decide (AaC (endsL f.name).1 (lastE l i)<=0)=true:=by simpa using hle
       have hno:=bad2 (by omega) (compareN_le.1 hle);refine zgB ?_;simp only[go_sem,di,hg',List.length_map]
       repeat refine aqa ?_
       refine zqB hg (hil) ?_;simp only[go_sem];refine zqB hg (hen) ?_;simp only[go_sem,dz];refine zpB (hc) ?_;simp only[go_sem,dl];exact aret [2] rfl ⟨⟨7,rfl,by simp[hno]⟩,rfl⟩
      .have dl:decide (AaC (endsL f.name).1 (lastE l i)<=0)=false:=by simpa using hle
       have hlt:nLt (lastE l i) (endsL f.name).1:=Classical.byContradiction fun e=>hle (compareN_le.2 e)
       by_cases hd1:f.draft<1
       .have e1:decide (f.draft<1)=true:=by simpa using hd1
        have hno:=bad fun h=>by have:=h.draft; omega
        refine zgB ?_;simp only[go_sem,di,hg',List.length_map]
        repeat refine aqa ?_
        refine zqB hg (hil) ?_;simp only[go_sem];refine zqB hg (hen) ?_;simp only[go_sem,dz];refine zpB (hc) ?_;simp only[go_sem,dl,e1]
        repeat refine aqa ?_
        exact aret [2] rfl ⟨⟨1,rfl,by simp[hno]⟩,rfl⟩
       .have e1:decide (f.draft<1)=false:=by simpa using hd1
        by_cases hd2:f.draft>30
        .have e2:decide (f.draft>30)=true:=by simpa using hd2
         have hno:=bad fun h=>by have:=h.draft; omega
         refine zgB ?_;simp only[go_sem,di,hg',List.length_map]
         repeat refine aqa ?_
         refine zqB hg (hil) ?_;simp only[go_sem];refine zqB hg (hen) ?_;simp only[go_sem,dz];refine zpB (hc) ?_;simp only[go_sem,dl,e1,e2]
         repeat refine aqa ?_
         exact aret [2] rfl ⟨⟨1,rfl,by simp[hno]⟩,rfl⟩
        .have e2:decide (f.draft>30)=false:=by simpa using hd2
         by_cases hf0:f.first=[]
         .have e3:(f.first != [])=false:=by simp[hf0]
          refine zgB ?_;simp only[go_sem,di,hg',List.length_map]
          repeat refine aqa ?_
          refine zqB hg (hil) ?_;simp only[go_sem];refine zqB hg (hen) ?_;simp only[go_sem,dz];refine zpB (hc) ?_;simp only[go_sem,dl,e1,e2,e3]
          repeat refine aqa ?_
          refine A7B hlf rfl rfl rfl ?_;rintro _ ⟨n,rfl,hn⟩
          by_cases h0:n=0
          .have e5:(n != 0)=false:=by simp[h0]
           have hfin:=out ⟨en,by omega,(.inl hf0),hn.1 h0⟩ (fun _=>hlt);refine zgB ?_;simp only[go_sem,e5]
           repeat refine aqa ?_
           rw[ic i];refine ainv hfin (Shift.low 0 (by simp) (by simp) rfl ?_);simp only[go_sem]
          .have e5:(n != 0)=true:=by simp[h0]
           have hno:=bad fun h=>h0 (hn.2 h.lines)
           refine zgB ?_;simp only[go_sem,e5];exact aret [2] rfl ⟨⟨n,rfl,by simp[hno,h0]⟩,rfl⟩
         .have e3:(f.first != [])=true:=by simp[hf0]
          cases e4:numberL f.first with
          | false =>
           rw[e4]at hfn;have hno:=bad fun h=>by have:=h.first.resolve_left hf0; rw[e4]at this; cases this
           refine zgB ?_;simp only[go_sem,di,hg',List.length_map]
           repeat refine aqa ?_
           refine zqB hg (hil) ?_;simp only[go_sem];refine zqB hg (hen) ?_;simp only[go_sem,dz];refine zpB (hc) ?_;simp only[go_sem,dl,e1,e2,e3]
           repeat refine aqa ?_
           refine zpB (hfn) ?_;simp only[go_sem];exact aret [2] rfl ⟨⟨5,rfl,by simp[hno]⟩,rfl⟩
          | true =>
           rw[e4]at hfn;refine zgB ?_;simp only[go_sem,di,hg',List.length_map]
           repeat refine aqa ?_
           refine zqB hg (hil) ?_;simp only[go_sem];refine zqB hg (hen) ?_;simp only[go_sem,dz];refine zpB (hc) ?_;simp only[go_sem,dl,e1,e2,e3]
           repeat refine aqa ?_
           refine zpB (hfn) ?_;simp only[go_sem]
           repeat refine aqa ?_
           refine A7B hlf rfl rfl rfl ?_;rintro _ ⟨n,rfl,hn⟩
           by_cases h0:n=0
           .have e5:(n != 0)=false:=by simp[h0]
            have hfin:=out ⟨en,by omega,(.inr e4),hn.1 h0⟩ (fun _=>hlt);refine zgB ?_;simp only[go_sem,e5]
            repeat refine aqa ?_
            rw[ic i];refine ainv hfin (Shift.low 0 (by simp) (by simp) rfl ?_);simp only[go_sem]
           .have e5:(n != 0)=true:=by simp[h0]
            have hno:=bad fun h=>h0 (hn.2 h.lines)
            refine zgB ?_;simp only[go_sem,e5];exact aret [2] rfl ⟨⟨n,rfl,by simp[hno,h0]⟩,rfl⟩
   .have di:decide ((i:Int)<(l.length:Int))=false:=by simp; omega
    have hi:i=l.length:=by omega
    subst hi;have hok:BinderOk l:=⟨hm,fun f hf=>by
     obtain⟨j,hj,rfl⟩:=List.getElem_of_mem hf;exact g2 j hj hj,fun j h=>g3 j h h⟩
    refine zgB ?_;simp only[go_sem,di];exact aret [2] rfl ⟨⟨0,rfl,by simp[hok]⟩,rfl⟩
 .have d1:decide ((l.length:Int)>1500)=true:=by simp; omega
  have hno:¬ BinderOk l:=fun h=>hm h.few
  refine zqIB func41 rfl fun h ρ w hg=>?_
  simp only[go_sem,d1,List.length_map];exact aret [2] rfl ⟨⟨2,rfl,by simp[hno]⟩,rfl⟩
def fst(l:List Le')(j:Nat):List UInt8:=(l.getD j le0).first
def rat(rs:List (Nat×Nat))(k:Nat):Nat×Nat:=rs.getD k (0,0)
structure RInv(l:List Le')(i:Nat)(rs:List (Nat×Nat)):Prop where
 one:∀ k,k<rs.length->(rat rs k).1<(rat rs k).2/\(rat rs k).2<=i/\fst l (rat rs k).1≠[]/\∀ j,(rat rs k).1<j->j<(rat rs k).2->fst l j=[]
 adj:∀ k,k+1<rs.length->(rat rs k).2=(rat rs (k+1)).1
 last:0<rs.length->(rat rs (rs.length-1)).2=i
 begins:∀ j,j<i->fst l j≠[]->0<rs.length/\(rat rs 0).1<=j
theorem rat_app{rs:List (Nat×Nat)}{r:Nat×Nat}{k:Nat}:rat (rs++[r]) k=if k<rs.length then rat rs k else if k=rs.length then r else(0,0):=by
 unfold rat;simp only[List.getD]
 by_cases h:k<rs.length
 .rw [if_pos h,List.getElem?_append_left h]
 .rw [if_neg h,List.getElem?_append_right (by omega)]
  by_cases e:k=rs.length
  .subst e; simp
  .rw [if_neg e,List.getElem?_eq_none (by simp; omega)]; rfl
theorem BqD{rs:List (Nat×Nat)}{r:Nat×Nat}{k m:Nat}(hm:m<rs.length):rat (rs.set m r) k=if k=m then r else rat rs k:=by
 unfold rat;simp only[List.getD,List.getElem?_set]
 by_cases e:m=k
 .subst e; simp[hm]
 .rw [if_neg e,if_neg (Ne.symm e)]
theorem BeI{l:List Le'}{i:Nat}{rs:List (Nat×Nat)}(h:RInv l i rs)(hi:i<l.length):RInv l (i+1) (runStep rs i l[i]):=by
 have hf:fst l i=l[i].first:=by simp[fst,List.getD,hi]
 unfold runStep
 by_cases h0:l[i].first=[]
 .simp only [h0,ne_eq,not_true_eq_false,if_false]
  by_cases hr:rs=[]
  .rw [if_pos hr]
   subst hr;refine⟨fun k hk=>by simp at hk,fun k hk=>by simp at hk,fun hk=>by simp at hk,fun j hj hne=>?_⟩
   by_cases e:j=i
   .subst e; rw[hf]at hne; exact absurd h0 hne
   .have:=(h.begins j (by omega) hne).1; simp at this
  .rw [if_neg hr]
   have hp:0<rs.length:=List.length_pos_iff.2 hr;have hl:=h.last hp;have ho:=h.one (rs.length-1) (by omega);have hm:rs.length-1<rs.length:=by omega
   have hset:∀ k,rat (rs.set (rs.length-1) ((rat rs (rs.length-1)).1,i+1)) k=if k=rs.length-1 then((rat rs (rs.length-1)).1,i+1) else rat rs k:=fun k=>BqD hm
   show RInv l (i+1) (rs.set (rs.length-1) ((rat rs (rs.length-1)).1,i+1))
   refine⟨fun k hk=>?_,fun k hk=>?_,fun hk=>?_,fun j hj hne=>?_⟩
   .rw [List.length_set]at hk
    rw[hset]
    by_cases e:k=rs.length-1
    .rw [if_pos e]
     refine⟨by simp only; omega,Nat.le_refl _,ho.2.2.1,fun j h1 h2=>?_⟩;simp only at h1 h2
     by_cases e2:j=i
     .subst e2; rw[hf]; exact h0
     .exact ho.2.2.2 j h1 (by omega)
    .rw [if_neg e]
     have:=h.one k hk;exact⟨this.1,by omega,this.2.2⟩
   .rw [List.length_set]at hk
    rw[hset,hset,if_neg (by omega)];have:=h.adj k hk
    by_cases e:k+1=rs.length-1
    .rw [if_pos e,this,e]
    .rw [if_neg e,this]
   .rw [List.length_set,hset,if_pos rfl]
   .rw [List.length_set,hset]
    by_cases e:j=i
    .subst e; rw[hf]at hne; exact absurd h0 hne
    .have:=h.begins j (by omega) hne
     refine⟨this.1,?_⟩
     split
     .rename_i e2
      rw[<- e2]; exact this.2
     .exact this.2
 .simp only [h0,ne_eq,not_false_eq_true,if_true]
  refine⟨fun k hk=>?_,fun k hk=>?_,fun hk=>?_,fun j hj hne=>?_⟩
  .rw [rat_app]
   rw[List.length_append]at hk
   by_cases e:k<rs.length
   .rw [if_pos e]
    have:=h.one k e;exact⟨this.1,by omega,this.2.2⟩
   .rw [if_neg e,if_pos (by simp at hk; omega)]
    exact⟨by simp,by simp,by simp only; rw[hf]; exact h0,fun j h1 h2=>by simp only at h1 h2; omega⟩
  .rw [List.length_append]at hk
   simp only[List.length_cons,List.length_nil]at hk;rw[rat_app,rat_app,if_pos (by omega)]
   by_cases e:k+1<rs.length
   .rw [if_pos e]; exact h.adj k e
   .rw [if_neg e,if_pos (by omega)]
    have:=h.last (by omega);rw[show rs.length-1=k by omega]at this;exact this
  .rw [rat_app,List.length_append]
   simp
  .rw [rat_app,List.length_append]
   refine⟨by simp,?_⟩
   by_cases e:0<rs.length
   .rw [if_pos e]
    by_cases e2:j=i
    .subst e2
     have:=h.one 0 e;omega
    .exact (h.begins j (by omega) hne).2
   .rw [if_neg e,if_pos (by omega)]
    by_cases e2:j=i
    .subst e2; exact Nat.le_refl _
    .exact absurd (h.begins j (by omega) hne).1 e
theorem AsB(l:List Le'):∀ i,i<=l.length->RInv l i (runsTo l i)
 | 0,_=>⟨fun k hk=>by simp[runsTo]at hk,fun k hk=>by simp[runsTo]at hk,fun hk=>by simp[runsTo]at hk,fun j hj=>by omega⟩
 | i+1,h=>by
  have hi:i<l.length:=by omega
  simp only[runsTo,List.getElem?_eq_getElem hi];exact BeI (AsB l i (by omega)) hi
theorem AcQ(l:List Le'):RInv l l.length (runsL l):=AsB l _ (Nat.le_refl _)
theorem AyK{l:List Le'}{k:Nat}(hk:k<(runsL l).length)(h:(rat (runsL l) k).2<l.length):fst l (rat (runsL l) k).2≠[]:=by
 have hi:=AcQ l
 by_cases e:k+1<(runsL l).length
 .rw [hi.adj k e]
  exact(hi.one (k+1) e).2.2.1
 .have:=hi.last (by omega)
  rw[show(runsL l).length-1=k by omega]at this;omega
def ixN(E:List (List UInt8))(x:List UInt8):Nat:=(E.findIdx? (fun y=>x==y)).getD E.length
def segE(E:List (List UInt8))(l:List Le')(r:Nat×Nat):List (List UInt8) :=
 (E.take (if r.2<l.length then ixN E (fst l r.2) else E.length)).drop (ixN E (fst l r.1))
theorem ApG{E:List (List UInt8)}{x:List UInt8}(h:x∈E):∃ hi:ixN E x<E.length,E[ixN E x]=x/\idxP (fun y=>x==y) E=(ixN E x:Int):=by
 unfold ixN idxP
 cases hq:E.findIdx? (fun y=>x==y)with
 | none =>
  have:=List.findIdx?_eq_none_iff.1 hq x h
  simp at this
 | some i =>
  obtain⟨h1,h2,h3⟩:=List.findIdx?_eq_some_iff_getElem.1 hq;simp only[beq_iff_eq]at h2;exact⟨h1,h2.symm,rfl⟩
theorem A5I{E:List (List UInt8)}(hE:E.Pairwise nLt){x y:List UInt8}(hx:x∈E)(hy:y∈E)(h:nLt x y):ixN E x<ixN E y:=by
 obtain⟨i1,i2,_⟩:=ApG hx;obtain⟨j1,j2,_⟩:=ApG hy
 rcases Nat.lt_trichotomy (ixN E x) (ixN E y)with e|e|e
 .exact e
 .have:x=y:=by rw[<- i2,<- j2]; congr 1
  subst this; exact absurd h (AaH _)
 .have:=List.pairwise_iff_getElem.1 hE _ _ j1 i1 e
  rw[i2,j2]at this;exact absurd (AaF h this) (AaH _)
