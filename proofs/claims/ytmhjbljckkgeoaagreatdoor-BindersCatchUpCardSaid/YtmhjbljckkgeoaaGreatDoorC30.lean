/- The numbers of a draft, checked. -/
import Derived.Test.YtmhjbljckkgeoaaGreatDoorC29
set_option maxRecDepth 100000
set_option maxHeartbeats 4000000
set_option linter.all false
namespace Go.Proofs.YtmhjbljckkgeoaaGreatDoor
open Av RowKit Proofs.Tryz
theorem AcM(a b:LU)(ha:numberL a=true)(hb:numberL b=true):Pc prog 40 [.str a,.str b] (· = .int .i64 (compareN a b)) :=
 by grind[compareN_pc,number_okA,AaM]
theorem compareN_le{a b:LU}:compareN a b<=0 ↔ ¬ nLt b a:=by
 rw[<- AnJ]; omega
structure NumsOk(d:Dr):Prop where
 all:∀ x∈d.Lc,x.no≠[]
 rise:(nosL d.Lc).Pairwise nLt
 riseG:d.Lp.Pairwise nLt
 apart:∀ n∈d.Lp,n ∉ nosL d.Lc
 few:d.Lc.length+d.Lp.length<=300
theorem AxQ{l:List LU}{i:Nat}(hi:i<l.length)(hp:(l.take i).Pairwise nLt):(l.take (i+1)).Pairwise nLt ↔ (0<i->nLt (l.getD (i-1) []) l[i]):=by
 rw[lad hi,List.pairwise_append]
 constructor
 .grind[List.mem_take_iff_getElem]
 .intro h
  refine⟨hp,by simp,fun a ha b hb=>?_⟩<;>grind[List.mem_take_iff_getElem,lbj,nLt_trans]
theorem A1R{xs:List Sc}{i:Nat}(h:i<xs.length):(nosL xs)[i]'(by simpa[nosL]using h)=xs[i].no:=by simp[nosL]
theorem AoH(d:Dr)(hs:∀ x∈d.Lc,x.no=[]\/numberL x.no=true)(hg:∀ n∈d.Lp,numberL n=true)(h1:d.Lc.length<=1000)(h2:d.Lp.length<=1000) :
  Pc prog 26 [drA d] (fun r=>∃ n:Int,r=.int .i64 n/\(n=0 ↔ NumsOk d)):=by
 obtain⟨no,ti,xs,go,le⟩:=d;simp only at hs hg h1 h2;simp only[drA];refine zpIB func26 rfl fun h ρ w=>?_
 simp only[go_sem,laa];refine AaC (ι:=Nat) (fun i=>xs.length-i)
  (fun i=>[(13,.int .i64 i),(12,.int .i64 xs.length),(11,.fz 5 (xs.map scA)),(3,.mp 0),(1,.pin 5 [.agg [.int .i64 no,.str ti,.fz 5 (xs.map scA),.fz 1 (go.map .str),.fz 4 (le.map leA)]] 0 0)])
  (fun i=>[.mp (seenM ((nosL xs).take i))]) (fun i=>i<=xs.length/\((nosL xs).take i).Pairwise nLt/\∀ j,(h:j<xs.length)->j<i->xs[j].no≠[]) 0 (by simp) ?_ ?_
 .refine Lu ?_ (by simp[seenM])
  simp only[go_sem]
 .rintro i ⟨g1,g2,g3⟩ J hJ
  by_cases gi:i<xs.length
  .have di:decide ((i:Int)<(xs.length:Int))=true:=by simp; omega
   have hg':List.getD (List.map scA xs) i .any=.agg [.str xs[i].no,.int .i64 xs[i].place,.str xs[i].set,.int .i64 xs[i].time,.fz 2 (xs[i].Ld.map paA)]:=by simp[List.getD,gi,scA]
   have gn:i<(nosL xs).length:=by simpa[nosL]using gi
   have hps:=AxQ gn g2;rw[A1R gi]at hps
   by_cases q:xs[i].no=[]
   .have q0:(xs[i].no==[])=true:=by simp[q]
    have hno:¬ NumsOk ⟨no,ti,xs,go,le⟩:=fun h=>h.all _ (lac gi) q
    apply zgB;simp only[go_sem,di,hg',q0,laa]
    repeat refine aqb ?_
    exact aret [2] rfl ⟨⟨5,rfl,by simp[hno]⟩,rfl⟩
   .have q0:(xs[i].no==[])=false:=by simp[q]
    have hni:=(hs _ (lac gi)).resolve_left q;have out:(0<i->nLt ((nosL xs).getD (i-1) []) xs[i].no)->∀ (a:Act) (w':World),Sim _ _ _ a w'->J a w':=fun e=>hJ (i+1) ⟨by omega,hps.2 e,fun j h hj=>by
     by_cases e:j=i
     .subst e; exact q
     .exact g3 j h (by omega)⟩ (by omega)
    have bad:¬ (0<i->nLt ((nosL xs).getD (i-1) []) xs[i].no)->¬ NumsOk ⟨no,ti,xs,go,le⟩:=fun e h=>e (hps.1 (h.rise.sublist (List.take_sublist _ _)))
    have hseen:∀ e:(0<i->nLt ((nosL xs).getD (i-1) []) xs[i].no),mfind .string (.str xs[i].no) (seenM ((nosL xs).take i)) 0=some none:=fun e=>by
     refine mfind_out fun hm=>?_
     have hp:=hps.2 e;rw[lad gn,A1R gi,List.pairwise_append]at hp;exact nLt_irrefl _ (hp.2.2 _ hm _ (by simp))
    have happ:seenM ((nosL xs).take i)++[(.str xs[i].no,.bool true)]=seenM ((nosL xs).take (i+1)):=by
     rw[lad gn,A1R gi]; simp[seenM]
    have hlw:=AeO 1 ((nosL xs).take (i+1))
    by_cases h0:i=0
    .have hse:=hseen (by omega)
     have hfin:=out (by omega);have dz:decide ((i:Int)>0)=false:=by simp; omega
     apply zgB;simp only[go_sem,di,hg',q0,laa]
     repeat refine aqb ?_
     refine zr [.any] AaF ?_;simp only[go_sem,dz]
     repeat refine aqb ?_
     apply zgB;simp only[go_sem,hse,happ]
     repeat refine aqb ?_
     rw[ic i];refine ainv hfin (Shift.low 1 (by simp) (by simp) ?_ ?_)
     .simp only [lbk,lcc,las,lba,↓hlw,lbh]
     .simp only[go_sem]
    .have dz:decide ((i:Int)>0)=true:=by simp; omega
     have gp:i-1<xs.length:=by omega
     have e1:((i:Int)-1).toNat=i-1:=by omega
     have hgp:List.getD (List.map scA xs) (i-1) .any=.agg [.str xs[i-1].no,.int .i64 xs[i-1].place,.str xs[i-1].set,.int .i64 xs[i-1].time,.fz 2 (xs[i-1].Ld.map paA)]:=by simp[List.getD,gp,scA]
     have hpr:(nosL xs).getD (i-1) []=xs[i-1].no:=by simp[List.getD,nosL,gp]
     have hnp:=(hs _ (lac gp)).resolve_left (g3 _ gp (by omega));have hc:=AcM xs[i].no xs[i-1].no hni hnp;rw[hpr]at bad out hseen;generalize hP:xs[i-1]=P at *
     by_cases hle:compareN xs[i].no P.no<=0
     .have dl:decide (compareN xs[i].no P.no<=0)=true:=by simpa using hle
      have hno:=bad fun e=>compareN_le.1 hle (e (by omega))
      apply zgB;simp only[go_sem,di,hg',q0,laa]
      repeat refine aqb ?_
      refine zr [.int .i64 (compareN xs[i].no P.no)] AaF ?_;simp only[go_sem,dz,e1,hgp,dl,laa]
      repeat refine And.intro (by first|exact hc.at|omega|exact .inl trivial|rfl|(simp; done)|(simp; omega)) ?_
      apply zgB;simp only[go_sem];exact aret [2] rfl ⟨⟨7,rfl,by simp[hno]⟩,rfl⟩
     .have dl:decide (compareN xs[i].no P.no<=0)=false:=by simpa using hle
      have hlt:nLt P.no xs[i].no:=Classical.byContradiction fun e=>hle (compareN_le.2 e)
      have hse:=hseen fun _=>hlt
      have hfin:=out fun _=>hlt
      apply zgB;simp only[go_sem,di,hg',q0,laa]
      repeat refine aqb ?_
      refine zr [.int .i64 (compareN xs[i].no P.no)] AaF ?_;simp only[go_sem,dz,e1,hgp,dl,laa]
      repeat refine And.intro (by first|exact hc.at|omega|exact .inl trivial|rfl|(simp; done)|(simp; omega)) ?_
      apply zgB;simp only[go_sem,hse,happ]
      repeat refine aqb ?_
      rw[ic i];refine ainv hfin (Shift.low 1 (by simp) (by simp) ?_ ?_)
      .simp only [lbk,lcc,las,lba,↓hlw,lbh]
      .simp only[go_sem]
  .have di:decide ((i:Int)<(xs.length:Int))=false:=by simp; omega
   have hi:i=xs.length:=by omega
   subst hi;have htk:(nosL xs).take xs.length=nosL xs:=lae (by simp[nosL]);rw[htk]at g2 |-;have hall:∀ x∈xs,x.no≠[]:=fun x hx=>by
    obtain⟨j,hj,rfl⟩:=List.getElem_of_mem hx;exact g3 j hj hj
   apply zgB;simp only[go_sem,di,laa];refine AaC (ι:=Nat) (fun i=>go.length-i)
    (fun i=>[(44,.int .i64 i),(43,.int .i64 go.length),(42,.fz 1 (go.map .str)),(3,.mp 0),(1,.pin 5 [.agg [.int .i64 no,.str ti,.fz 5 (xs.map scA),.fz 1 (go.map .str),.fz 4 (le.map leA)]] 0 0)])
    (fun i=>[.mp (seenM (nosL xs))]) (fun i=>i<=go.length/\(go.take i).Pairwise nLt/\∀ j,(h:j<go.length)->j<i->go[j] ∉ nosL xs) 0 (by simp) ?_ ?_
   .refine Lu ?_ rfl
    simp only[go_sem]
   .clear hJ J
    rintro i ⟨k1,k2,k3⟩ J hJ
    by_cases gi:i<go.length
    .have di:decide ((i:Int)<(go.length:Int))=true:=by simp; omega
     have hgn:List.getD (go.map AV.str) i .any=.str go[i]:=by simp[List.getD,gi]
     have hni:=hg _ (lac gi);have hin:=AcL go[i] (by have:=(number_okA hni).2.1; omega);rw[hni]at hin;have hps:=AxQ gi k2;have bad:¬ (0<i->nLt (go.getD (i-1) []) go[i])->¬ NumsOk ⟨no,ti,xs,go,le⟩:=fun e h=>e (hps.1 (h.riseG.sublist (List.take_sublist _ _)))
     have bad2:go[i]∈nosL xs->¬ NumsOk ⟨no,ti,xs,go,le⟩:=fun e h=>h.apart _ (lac gi) e
     have out:(0<i->nLt (go.getD (i-1) []) go[i])->go[i] ∉ nosL xs->∀ (a:Act) (w':World),Sim _ _ _ a w'->J a w':=fun e e'=>hJ (i+1) ⟨by omega,hps.2 e,fun j h hj=>by
      by_cases e:j=i
      .subst e; exact e'
      .exact k3 j h (by omega)⟩ (by omega)
     have gp:i-1<go.length:=by omega
     have hpr:go.getD (i-1) []=go[i-1]:=by simp[List.getD,gp]
     have hgp:List.getD (go.map AV.str) (i-1) .any=.str go[i-1]:=by simp[List.getD,gp]
     have hnp:=hg _ (lac gp);have hc:=AcM go[i] go[i-1] hni hnp;have e1:0<i->((i:Int)-1).toNat=i-1:=fun _=>by omega
     rw[hpr]at bad out;have hlw:=AeO 1 (nosL xs);generalize hP:go[i-1]=P at *;generalize hQ:go[i]=Q at *
     by_cases h0:i=0
     .have dz:decide ((i:Int)>0)=false:=by simp; omega
      by_cases hm:Q∈nosL xs
      .obtain ⟨j,m1,_⟩:=AmD (n:=0) hm
       have hno:=bad2 hm;apply zgB;simp only[go_sem,di,hgn,laa]
       repeat refine aqb ?_
       refine zpB (hin) ?_;simp only[go_sem,dz,m1]
       repeat refine aqb ?_
       exact aret [2] rfl ⟨⟨6,rfl,by simp[hno]⟩,rfl⟩
      .have m1:=mfind_out (n:=0) hm
       have hfin:=out (by omega) hm;apply zgB;simp only[go_sem,di,hgn,laa]
       repeat refine aqb ?_
       refine zpB (hin) ?_;simp only[go_sem,dz,m1]
       repeat refine aqb ?_
       rw[ic i];refine ainv hfin (Shift.low 1 (by simp) (by simp) ?_ ?_)
       .simp only [lbk,lcc,las,lba,↓hlw,lbh]
       .simp only[go_sem]
     .have dz:decide ((i:Int)>0)=true:=by simp; omega
      have e1:=e1 (by omega)
      by_cases hle:compareN Q P<=0
      .have dl:decide (compareN Q P<=0)=true:=by simpa using hle
       have hno:=bad fun e=>compareN_le.1 hle (e (by omega))
       apply zgB;simp only[go_sem,di,hgn,laa]
       repeat refine aqb ?_
       refine zpB (hin) ?_;simp only[go_sem,dz,e1,hgp,laa]
       repeat refine aqb ?_
       refine zpB (hc) ?_;simp only[go_sem,dl]
       repeat refine aqb ?_
       exact aret [2] rfl ⟨⟨7,rfl,by simp[hno]⟩,rfl⟩
      .have dl:decide (compareN Q P<=0)=false:=by simpa using hle
       have hlt:nLt P Q:=Classical.byContradiction fun e=>hle (compareN_le.2 e)
       by_cases hm:Q∈nosL xs
       .obtain ⟨j,m1,_⟩:=AmD (n:=0) hm
        have hno:=bad2 hm;apply zgB;simp only[go_sem,di,hgn,laa]
        repeat refine aqb ?_
        refine zpB (hin) ?_;simp only[go_sem,dz,e1,hgp,laa]
        repeat refine aqb ?_
        refine zpB (hc) ?_;simp only[go_sem,dl,m1]
        repeat refine aqb ?_
        exact aret [2] rfl ⟨⟨6,rfl,by simp[hno]⟩,rfl⟩
       .have m1:=mfind_out (n:=0) hm
        have hfin:=out (fun _=>hlt) hm;apply zgB;simp only[go_sem,di,hgn,laa]
        repeat refine aqb ?_
        refine zpB (hin) ?_;simp only[go_sem,dz,e1,hgp,laa]
        repeat refine aqb ?_
        refine zpB (hc) ?_;simp only[go_sem,dl,m1]
        repeat refine aqb ?_
        rw[ic i];refine ainv hfin (Shift.low 1 (by simp) (by simp) ?_ ?_)
        .simp only [lbk,lcc,las,lba,↓hlw,lbh]
        .simp only[go_sem]
    .have di:decide ((i:Int)<(go.length:Int))=false:=by simp; omega
     have hi:i=go.length:=by omega
     subst hi;rw[lap]at k2;have hap:∀ n∈go,n ∉ nosL xs:=fun n hn=>by
      obtain⟨j,hj,rfl⟩:=List.getElem_of_mem hn;exact k3 j hj hj
     by_cases hf:xs.length+go.length<=300
     .have df:decide ((xs.length:Int)+(go.length:Int)>300)=false:=by simp; omega
      have hok:NumsOk ⟨no,ti,xs,go,le⟩:=⟨hall,g2,k2,hap,hf⟩;apply zgB;simp only[go_sem,di,df,laa]
      repeat refine aqb ?_
      exact aret [2] rfl ⟨⟨0,rfl,by simp[hok]⟩,rfl⟩
     .have df:decide ((xs.length:Int)+(go.length:Int)>300)=true:=by simp; omega
      have hno:¬ NumsOk ⟨no,ti,xs,go,le⟩:=fun h=>hf h.few
      apply zgB;simp only[go_sem,di,df,laa]
      repeat refine aqb ?_
      exact aret [2] rfl ⟨⟨2,rfl,by simp[hno]⟩,rfl⟩
def leafNameL(s:LU):Bool:=numberL (Lib.cut s [45]).1&&(!(Lib.cut s [45]).2.2||(numberL (Lib.cut s [45]).2.1&&decide (compareN (Lib.cut s [45]).1 (Lib.cut s [45]).2.1<0)))
theorem cut_len(s p:LU):(Lib.cut s p).1.length<=s.length/\(Lib.cut s p).2.1.length<=s.length:=by
 grind[Lib.cut]
theorem ends_num{s:LU}(h:leafNameL s=true):numberL (endsL s).1=true/\numberL (endsL s).2=true/\((endsL s).1=(endsL s).2\/nLt (endsL s).1 (endsL s).2):=by
 grind[leafNameL,endsL,compareN_lt]
def plainC(c:UInt8):Bool:=!(decide ((c.toNat:Int)<32)||decide ((c.toNat:Int)>126))
structure LineFit(s:LU):Prop where
 len:s.length<=80
 suf:Lib.hasSuffix s [32]=false
 plain:s.all plainC=true
structure LinesOk(ls:List LU):Prop where
 few:ls.length<=54
 some:ls≠[]
 all:∀ s∈ls,LineFit s
structure LeafOk(f:Le'):Prop where
 name:leafNameL f.name=true
 Lj:1<=f.Lj/\f.Lj<=30
 first:f.first=[]\/numberL f.first=true
 Lb:LinesOk f.Lb
structure BinderOk(l:List Le'):Prop where
 few:l.length<=1500
 all:∀ f∈l,LeafOk f
 rise:∀ i,(h:i+1<l.length)->nLt (endsL l[i].name).2 (endsL l[i+1].name).1
theorem AqB{St:Std}(hS:LibOk St)(s:LU)(hl:s.length<1000000):PcH prog St 65 [.str s] (· = .bool (leafNameL s)):=by
 have hc:=AnA hS s [45] (by omega);have hcl:=cut_len s [45];unfold leafNameL;generalize Lib.cut s [45]=c at hc hcl |-;obtain⟨a,b,ok⟩:=c;simp only at hc hcl |-;have ha:=AcL a (by omega);have hb:=AcL b (by omega);refine AcF (AcP func65 rfl ntmps65 hB65 (by simp) fun h ρ w hg=>goB ntmps65 300 ?_);simp only[go_sem];refine AmY hg (hc) rfl ntmps65 rfl (goB ntmps65 300 ?_);simp only[go_sem]
 cases ea:numberL a with
 | false =>
  rw[ea]at ha;refine AaL (ha) rfl ntmps65 rfl (goB ntmps65 300 ?_);simp only[go_sem];exact zt [2]
 | true =>
  rw[ea]at ha;refine AaL (ha) rfl ntmps65 rfl (goB ntmps65 300 ?_)
  cases ok with
  | false =>
   simp only[go_sem];exact zt [2]
  | true =>
   simp only[go_sem]
   cases eb:numberL b with
   | false =>
    rw[eb]at hb;refine AaL (hb) rfl ntmps65 rfl (goB ntmps65 300 ?_);simp only[go_sem];exact zt [2]
   | true =>
    rw[eb]at hb;have hcm:=AcM a b ea eb;refine AaL (hb) rfl ntmps65 rfl (goB ntmps65 300 ?_);simp only[go_sem];refine AaL (hcm) rfl ntmps65 rfl (goB ntmps65 300 ?_);simp only[go_sem];exact aret [2] rfl ⟨by grind[resV,Av.get],rfl⟩
theorem plainC_val{c:UInt8}:plainC c=true ↔ decide ((c.toNat:Int)<32)=false/\decide ((c.toNat:Int)>126)=false:=by
 grind[plainC]
theorem AtT(ls:List LU)(hl:ls.length<1000000)(hs:∀ s∈ls,s.length<4000000):Pc prog 66 [.fz 1 (ls.map .str)] (fun r=>∃ n:Int,r=.int .i64 n/\(n=0 ↔ LinesOk ls)):=by
 by_cases h54:ls.length<=54
 .have d1:decide ((ls.length:Int)>54)=false:=by grind
  by_cases h0:ls=[]
  .have d2:((ls.length:Int)==0)=true:=by grind
   have hno:¬ LinesOk ls:=fun h=>h.some h0
   refine AaJ (AaI func66 rfl ntmps66 hB66 (by simp) fun h ρ w=>goB ntmps66 300 ?_);simp only[go_sem,d1,d2,laa];exact aret [2] rfl ⟨⟨3,rfl,by grind⟩,rfl⟩
  .have hpos:=List.length_pos_iff.2 h0
   have d2:((ls.length:Int)==0)=false:=by grind
   refine AaJ (AaI func66 rfl ntmps66 hB66 (by simp) fun h ρ w=>goB ntmps66 300 ?_);simp only[go_sem,d1,d2,laa];refine AaC (fun i=>ls.length-i) (fun i=>[(14,.int .i64 i),(13,.int .i64 ls.length),(12,.fz 1 (ls.map .str))]) (fun _=>[]) (fun i=>i<=ls.length/\∀ j,(h:j<ls.length)->j<i->LineFit ls[j]) 0 (by simp) ?_ ?_
   .refine Ls ?_
    simp only[go_sem]
   .rintro i ⟨g1,g2⟩ J hJ
    by_cases gi:i<ls.length
    .have di:decide ((i)<(ls.length:Int))=true:=by grind
     have hx:=AiZ gi;have hsl:=hs _ (lac gi);have out:LineFit ls[i]->∀ (a:Act) (w':World),Sim _ _ _ a w'->J a w':=fun e=>hJ (i+1) ⟨by omega,fun j h hj=>by
      grind⟩ (by omega)
     have bad:¬ LineFit ls[i]->¬ LinesOk ls:=fun e h=>e (h.all _ (lac gi))
     generalize ls[i]=s at *
     by_cases h80:s.length<=80
     .have d80:decide ((s.length:Int)>80)=false:=by grind
      cases hsf:Lib.hasSuffix s [32]with
      | true =>
       have hno:=bad fun h=>by have:=h.suf; grind
       refine goB ntmps66 300 ?_;simp only[go_sem,di,hx,d80,laa]
       repeat refine ao ?_
       refine AaL (AbC s [32] (by omega)) rfl ntmps66 rfl (goB ntmps66 300 ?_);simp only[go_sem,hsf];exact aret [2] rfl ⟨⟨3,rfl,by grind⟩,rfl⟩
      | false =>
       refine goB ntmps66 300 ?_;simp only[go_sem,di,hx,d80,laa]
       repeat refine ao ?_
       refine AaL (AbC s [32] (by omega)) rfl ntmps66 rfl (goB ntmps66 300 ?_);simp only[go_sem,hsf];refine AaC (fun j=>s.length-j) (fun j=>[(27,.int .i64 j),(26,.int .i64 s.length),(4,.str s),(14,.int .i64 i),(13,.int .i64 ls.length),(12,.fz 1 (ls.map .str))]) (fun _=>[]) (fun j=>j<=s.length/\(s.take j).all plainC=true) 0 (by simp) ?_ ?_
       .refine Ls ?_
        simp only[go_sem]
       .rintro j ⟨k1,k2⟩ K hK
        by_cases gj:j<s.length
        .have dj:decide ((j)<(s.length:Int))=true:=by grind
         have hgd:s.getD j 0=s[j]:=by grind
         cases c1:decide ((s[j].toNat:Int)<32)with
         | true =>
          have hno:=bad fun h=>by
           have:=plainC_val.1 (List.all_eq_true.1 h.plain _ (lac gj))
           grind
          refine goB ntmps66 300 ?_;simp only[go_sem,dj,hgd,c1]
          repeat refine ao ?_
          exact aret [2] rfl ⟨⟨3,rfl,by grind⟩,rfl⟩
         | false =>
          cases c2:decide ((s[j].toNat:Int)>126)with
          | true =>
           have hno:=bad fun h=>by
            have:=plainC_val.1 (List.all_eq_true.1 h.plain _ (lac gj))
            grind
           refine goB ntmps66 300 ?_;simp only[go_sem,dj,hgd,c1,c2]
           repeat refine ao ?_
           exact aret [2] rfl ⟨⟨3,rfl,by grind⟩,rfl⟩
          | false =>
           have hfin:=hK (j+1) ⟨by omega,AaK gj k2 (plainC_val.2 ⟨c1,c2⟩)⟩ (by omega);refine goB ntmps66 300 ?_;simp only[go_sem,dj,hgd,c1,c2]
           repeat refine ao ?_
           rw[show(j)+1=((j+1:Nat):Int) by omega];refine ainv hfin (Ls ?_);simp only[go_sem]
        .have dj:decide ((j:Int)<(s.length:Int))=false:=by grind
         have hj:j=s.length:=by omega
         subst hj;rw[lap]at k2;have hfin:=out ⟨h80,hsf,k2⟩;refine goB ntmps66 300 ?_;simp only[go_sem,dj]
         repeat refine ao ?_
         rw[ic i];refine ainv hfin (Ls ?_);simp only[go_sem]
     .have d80:decide ((s.length:Int)>80)=true:=by grind
      have hno:=bad fun h=>h80 h.len
      refine goB ntmps66 300 ?_;simp only[go_sem,di,hx,d80,laa]
      repeat refine ao ?_
      exact aret [2] rfl ⟨⟨3,rfl,by grind⟩,rfl⟩
    .have di:decide ((i:Int)<(ls.length:Int))=false:=by grind
     have hi:i=ls.length:=by omega
     subst hi;have hok:LinesOk ls:=⟨h54,h0,fun s hs=>by
      grind[List.getElem_of_mem]⟩
     refine goB ntmps66 300 ?_;simp only[go_sem,di];exact aret [2] rfl ⟨⟨0,rfl,by grind⟩,rfl⟩
 .have d1:decide ((ls.length:Int)>54)=true:=by grind
  have hno:¬ LinesOk ls:=fun h=>h54 h.few
  refine AaJ (AaI func66 rfl ntmps66 hB66 (by simp) fun h ρ w=>goB ntmps66 300 ?_);simp only[go_sem,d1,laa];exact aret [2] rfl ⟨⟨2,rfl,by grind⟩,rfl⟩
def le0:Le':=⟨[],0,[],[]⟩
def lastE(l:List Le')(i:Nat):LU:=if i=0 then[] else(endsL (l.getD (i-1) le0).name).2
theorem AbV{St:Std}(hS:LibOk St)(l:List Le')(hl:l.length<1000000)(hb:∀ f∈l,f.name.length<1000000/\f.first.length<1000000/\f.Lb.length<1000000/\∀ s∈f.Lb,s.length<4000000) :
  PcH prog St 27 [.fz 4 (l.map leA)] (fun r=>∃ n:Int,r=.int .i64 n/\(n=0 ↔ BinderOk l)):=by
 by_cases hm:l.length<=1500
 .have d1:decide ((l.length:Int)>1500)=false:=by grind
  refine zqIB func27 rfl fun h ρ w hg=>?_
  simp only[go_sem,d1,laa];refine AaC (ι:=Nat) (fun i=>l.length-i) (fun i=>[(14,.int .i64 i),(13,.int .i64 l.length),(12,.fz 4 (l.map leA)),(3,.str (lastE l i))]) (fun _=>[])
   (fun i=>i<=l.length/\(∀ j,(h:j<l.length)->j<i->LeafOk l[j])/\∀ j,(h:j+1<l.length)->j+1<i->nLt (endsL l[j].name).2 (endsL l[j+1].name).1) 0 (by simp) ?_ ?_
  .refine Ls ?_
   simp only[go_sem,lastE]
  .rintro i ⟨g1,g2,g3⟩ J hJ
   by_cases gi:i<l.length
   .have di:decide ((i:Int)<(l.length:Int))=true:=by grind
    have hg':=AaY gi;obtain⟨b1,b2,b3,b4⟩:=hb _ (lac gi);have hil:=AqB hS l[i].name b1;have hen:=AtS hS l[i].name b1;have hfn:=AcL l[i].first (by omega);have hlf:=AtT l[i].Lb b3 b4;have hla:0<i->(lastE l i=(endsL (l[i-1]'(by omega)).name).2/\numberL (lastE l i)=true):=fun h0=>by
     have h1:i-1<l.length:=by omega
     have e:lastE l i=(endsL (l[i-1]'(by omega)).name).2:=by
      grind[lastE]
     exact⟨e,by rw[e]; exact(ends_num (g2 (i-1) h1 (by omega)).name).2.1⟩
    have hnx:lastE l (i+1)=(endsL l[i].name).2:=by
     grind[lastE]
    have out:LeafOk l[i]->(0<i->nLt (lastE l i) (endsL l[i].name).1)->∀ (a:Act) (w':World),Sim _ _ _ a w'->J a w':=fun e e2=>hJ (i+1) ⟨by omega,fun j h hj=>by
     grind,fun j h hj=>by
     grind⟩ (by omega)
    have bad:¬ LeafOk l[i]->¬ BinderOk l:=fun e h=>e (h.all _ (lac gi))
    have bad2:0<i->¬ nLt (lastE l i) (endsL l[i].name).1->¬ BinderOk l:=fun h0 e h=>by
     have:=h.rise (i-1) (by omega)
     grind
    rw[hnx]at out;have hen2:=@ends_num l[i].name;generalize hf:l[i]=f at *
    cases en:leafNameL f.name with
    | false =>
     have hno:=bad fun h=>by have:=h.name; grind
     rw[en]at hil;apply zgB;simp only[go_sem,di,hg',laa]
     repeat refine ao ?_
     refine zqB hg (hil) ?_;simp only[go_sem];exact aret [2] rfl ⟨⟨5,rfl,by grind⟩,rfl⟩
    | true =>
     obtain⟨n1,n2,n3⟩:=hen2 en;rw[en]at hil
     by_cases h0:i=0
     .have dz:decide ((i:Int)>0)=false:=by grind
      by_cases hd1:f.Lj<1
      .have e1:decide (f.Lj<1)=true:=by grind
       have hno:=bad fun h=>by have:=h.Lj; omega
       apply zgB;simp only[go_sem,di,hg',laa]
       repeat refine ao ?_
       refine zqB hg (hil) ?_;simp only[go_sem];refine zqB hg (hen) ?_;simp only[go_sem,dz,e1]
       repeat refine ao ?_
       exact aret [2] rfl ⟨⟨1,rfl,by grind⟩,rfl⟩
      .have e1:decide (f.Lj<1)=false:=by grind
       by_cases hd2:f.Lj>30
       .have e2:decide (f.Lj>30)=true:=by grind
        have hno:=bad fun h=>by have:=h.Lj; omega
        apply zgB;simp only[go_sem,di,hg',laa]
        repeat refine ao ?_
        refine zqB hg (hil) ?_;simp only[go_sem];refine zqB hg (hen) ?_;simp only[go_sem,dz,e1,e2]
        repeat refine ao ?_
        exact aret [2] rfl ⟨⟨1,rfl,by grind⟩,rfl⟩
       .have e2:decide (f.Lj>30)=false:=by grind
        by_cases hf0:f.first=[]
        .have e3:(f.first != [])=false:=by grind
         apply zgB;simp only[go_sem,di,hg',laa]
         repeat refine ao ?_
         refine zqB hg (hil) ?_;simp only[go_sem];refine zqB hg (hen) ?_;simp only[go_sem,dz,e1,e2,e3]
         repeat refine ao ?_
         refine ApU hlf rfl rfl rfl ?_;rintro _ ⟨n,rfl,hn⟩
         by_cases h0:n=0
         .have e5:(n != 0)=false:=by grind
          have hfin:=out ⟨en,by omega,(.inl hf0),hn.1 h0⟩ (fun e=>by omega);apply zgB;simp only[go_sem,e5]
          repeat refine ao ?_
          rw[ic i];refine ainv hfin (Shift.low 0 (by simp) (by simp) rfl ?_);simp only[go_sem]
         .have e5:(n != 0)=true:=by grind
          have hno:=bad fun h=>h0 (hn.2 h.Lb)
          apply zgB;simp only[go_sem,e5];exact aret [2] rfl ⟨⟨n,rfl,by grind⟩,rfl⟩
        .have e3:(f.first != [])=true:=by grind
         cases e4:numberL f.first with
         | false =>
          rw[e4]at hfn;have hno:=bad fun h=>by have:=h.first.resolve_left hf0; grind
          apply zgB;simp only[go_sem,di,hg',laa]
          repeat refine ao ?_
          refine zqB hg (hil) ?_;simp only[go_sem];refine zqB hg (hen) ?_;simp only[go_sem,dz,e1,e2,e3]
          repeat refine ao ?_
          refine zpB (hfn) ?_;simp only[go_sem];exact aret [2] rfl ⟨⟨5,rfl,by grind⟩,rfl⟩
         | true =>
          rw[e4]at hfn;apply zgB;simp only[go_sem,di,hg',laa]
          repeat refine ao ?_
          refine zqB hg (hil) ?_;simp only[go_sem];refine zqB hg (hen) ?_;simp only[go_sem,dz,e1,e2,e3]
          repeat refine ao ?_
          refine zpB (hfn) ?_;simp only[go_sem]
          repeat refine ao ?_
          refine ApU hlf rfl rfl rfl ?_;rintro _ ⟨n,rfl,hn⟩
          by_cases h0:n=0
          .have e5:(n != 0)=false:=by grind
           have hfin:=out ⟨en,by omega,(.inr e4),hn.1 h0⟩ (fun e=>by omega);apply zgB;simp only[go_sem,e5]
           repeat refine ao ?_
           rw[ic i];refine ainv hfin (Shift.low 0 (by simp) (by simp) rfl ?_);simp only[go_sem]
          .have e5:(n != 0)=true:=by grind
           have hno:=bad fun h=>h0 (hn.2 h.Lb)
           apply zgB;simp only[go_sem,e5];exact aret [2] rfl ⟨⟨n,rfl,by grind⟩,rfl⟩
     .have dz:decide ((i:Int)>0)=true:=by grind
      obtain⟨hl1,hl2⟩:=hla (by omega);have hc:=AcM (endsL f.name).1 (lastE l i) n1 hl2
      by_cases hle:compareN (endsL f.name).1 (lastE l i)<=0
      .have dl:decide (compareN (endsL f.name).1 (lastE l i)<=0)=true:=by grind
       have hno:=bad2 (by omega) (compareN_le.1 hle);apply zgB;simp only[go_sem,di,hg',laa]
       repeat refine ao ?_
       refine zqB hg (hil) ?_;simp only[go_sem];refine zqB hg (hen) ?_;simp only[go_sem,dz];refine zpB (hc) ?_;simp only[go_sem,dl];exact aret [2] rfl ⟨⟨7,rfl,by grind⟩,rfl⟩
      .have dl:decide (compareN (endsL f.name).1 (lastE l i)<=0)=false:=by grind
       have hlt:nLt (lastE l i) (endsL f.name).1:=Classical.byContradiction fun e=>hle (compareN_le.2 e)
       by_cases hd1:f.Lj<1
       .have e1:decide (f.Lj<1)=true:=by grind
        have hno:=bad fun h=>by have:=h.Lj; omega
        apply zgB;simp only[go_sem,di,hg',laa]
        repeat refine ao ?_
        refine zqB hg (hil) ?_;simp only[go_sem];refine zqB hg (hen) ?_;simp only[go_sem,dz];refine zpB (hc) ?_;simp only[go_sem,dl,e1]
        repeat refine ao ?_
        exact aret [2] rfl ⟨⟨1,rfl,by grind⟩,rfl⟩
       .have e1:decide (f.Lj<1)=false:=by grind
        by_cases hd2:f.Lj>30
        .have e2:decide (f.Lj>30)=true:=by grind
         have hno:=bad fun h=>by have:=h.Lj; omega
         apply zgB;simp only[go_sem,di,hg',laa]
         repeat refine ao ?_
         refine zqB hg (hil) ?_;simp only[go_sem];refine zqB hg (hen) ?_;simp only[go_sem,dz];refine zpB (hc) ?_;simp only[go_sem,dl,e1,e2]
         repeat refine ao ?_
         exact aret [2] rfl ⟨⟨1,rfl,by grind⟩,rfl⟩
        .have e2:decide (f.Lj>30)=false:=by grind
         by_cases hf0:f.first=[]
         .have e3:(f.first != [])=false:=by grind
          apply zgB;simp only[go_sem,di,hg',laa]
          repeat refine ao ?_
          refine zqB hg (hil) ?_;simp only[go_sem];refine zqB hg (hen) ?_;simp only[go_sem,dz];refine zpB (hc) ?_;simp only[go_sem,dl,e1,e2,e3]
          repeat refine ao ?_
          refine ApU hlf rfl rfl rfl ?_;rintro _ ⟨n,rfl,hn⟩
          by_cases h0:n=0
          .have e5:(n != 0)=false:=by grind
           have hfin:=out ⟨en,by omega,(.inl hf0),hn.1 h0⟩ (fun _=>hlt);apply zgB;simp only[go_sem,e5]
           repeat refine ao ?_
           rw[ic i];refine ainv hfin (Shift.low 0 (by simp) (by simp) rfl ?_);simp only[go_sem]
          .have e5:(n != 0)=true:=by grind
           have hno:=bad fun h=>h0 (hn.2 h.Lb)
           apply zgB;simp only[go_sem,e5];exact aret [2] rfl ⟨⟨n,rfl,by grind⟩,rfl⟩
         .have e3:(f.first != [])=true:=by grind
          cases e4:numberL f.first with
          | false =>
           rw[e4]at hfn;have hno:=bad fun h=>by have:=h.first.resolve_left hf0; grind
           apply zgB;simp only[go_sem,di,hg',laa]
           repeat refine ao ?_
           refine zqB hg (hil) ?_;simp only[go_sem];refine zqB hg (hen) ?_;simp only[go_sem,dz];refine zpB (hc) ?_;simp only[go_sem,dl,e1,e2,e3]
           repeat refine ao ?_
           refine zpB (hfn) ?_;simp only[go_sem];exact aret [2] rfl ⟨⟨5,rfl,by grind⟩,rfl⟩
          | true =>
           rw[e4]at hfn;apply zgB;simp only[go_sem,di,hg',laa]
           repeat refine ao ?_
           refine zqB hg (hil) ?_;simp only[go_sem];refine zqB hg (hen) ?_;simp only[go_sem,dz];refine zpB (hc) ?_;simp only[go_sem,dl,e1,e2,e3]
           repeat refine ao ?_
           refine zpB (hfn) ?_;simp only[go_sem]
           repeat refine ao ?_
           refine ApU hlf rfl rfl rfl ?_;rintro _ ⟨n,rfl,hn⟩
           by_cases h0:n=0
           .have e5:(n != 0)=false:=by grind
            have hfin:=out ⟨en,by omega,(.inr e4),hn.1 h0⟩ (fun _=>hlt);apply zgB;simp only[go_sem,e5]
            repeat refine ao ?_
            rw[ic i];refine ainv hfin (Shift.low 0 (by simp) (by simp) rfl ?_);simp only[go_sem]
           .have e5:(n != 0)=true:=by grind
            have hno:=bad fun h=>h0 (hn.2 h.Lb)
            apply zgB;simp only[go_sem,e5];exact aret [2] rfl ⟨⟨n,rfl,by grind⟩,rfl⟩
   .have di:decide ((i:Int)<(l.length:Int))=false:=by grind
    have hi:i=l.length:=by omega
    subst hi;have hok:BinderOk l:=⟨hm,fun f hf=>by
     grind[List.getElem_of_mem],fun j h=>g3 j h h⟩
    apply zgB;simp only[go_sem,di];exact aret [2] rfl ⟨⟨0,rfl,by grind⟩,rfl⟩
 .have d1:decide ((l.length:Int)>1500)=true:=by grind
  have hno:¬ BinderOk l:=fun h=>hm h.few
  refine zqIB func27 rfl fun h ρ w hg=>?_
  simp only[go_sem,d1,laa];exact aret [2] rfl ⟨⟨2,rfl,by grind⟩,rfl⟩
