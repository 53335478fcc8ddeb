/- The numbers of a draft, checked. -/
import Derived.Test.YtlldmgboedknfaaGreatDoorC32
set_option maxRecDepth 100000
set_option maxHeartbeats 4000000
set_option linter.unusedSimpArgs false
set_option linter.unusedVariables false
namespace Go.Proofs.YtlldmgboedknfaaGreatDoor
open Go Go.Av Go.RowKit _root_.Go.Proofs.Tryz
theorem AbI(a b:List UInt8)(ha:numberL a=true)(hb:numberL b=true):Pc prog 47 [.str a,.str b] (· = .int .i64 (AaC a b)) :=
 AnX a b (by have:=(AaG ha).2.1; omega) (by have:=(AaG hb).2.1; omega) (AbS ha).1 (AbS hb).1
theorem compareN_le{a b:List UInt8}:AaC a b<=0 ↔ ¬ nLt b a:=by
 rw[<- AoB]; omega
structure NumsOk(d:Dr):Prop where
 all:∀ x∈d.scenes,x.no≠[]
 rise:(nosL d.scenes).Pairwise nLt
 riseG:d.gone.Pairwise nLt
 apart:∀ n∈d.gone,n ∉ nosL d.scenes
 few:d.scenes.length+d.gone.length<=300
theorem AyJ{l:List (List UInt8)}{i:Nat}(hi:i<l.length)(hp:(l.take i).Pairwise nLt):(l.take (i+1)).Pairwise nLt ↔ (0<i->nLt (l.getD (i-1) []) l[i]):=by
 rw[List.take_succ_eq_append_getElem hi,List.pairwise_append]
 constructor
 .rintro ⟨_,_,h⟩ h0
  refine h _ ?_ _ (by simp);have:i-1<l.length:=by omega
  have e:l.getD (i-1) []=l[i-1]:=by simp[List.getD,this]
  rw[e,List.mem_take_iff_getElem];exact⟨i-1,by omega,rfl⟩
 .intro h
  refine⟨hp,by simp,fun a ha b hb=>?_⟩;rw[List.mem_singleton.1 hb];obtain⟨j,hj,rfl⟩:=List.mem_take_iff_getElem.1 ha;have h0:0<i:=by omega
  have h1:=h h0;have e:l.getD (i-1) []=l[i-1]:=by
   have:i-1<l.length:=by omega
   simp[List.getD,this]
  rw[e]at h1
  by_cases hj':j=i-1
  .subst hj'; exact h1
  .have:=List.pairwise_iff_getElem.1 hp j (i-1) (by simp; omega) (by simp; omega) (by omega)
   simp only[List.getElem_take]at this;exact AaF this h1
theorem A2F{xs:List Sc}{i:Nat}(h:i<xs.length):(nosL xs)[i]'(by simpa[nosL]using h)=xs[i].no:=by simp[nosL]
theorem ApF(d:Dr)(hs:∀ x∈d.scenes,x.no=[]\/numberL x.no=true)(hg:∀ n∈d.gone,numberL n=true)(h1:d.scenes.length<=1000)(h2:d.gone.length<=1000) :
  Pc prog 50 [drA d] (fun r=>∃ n:Int,r=.int .i64 n/\(n=0 ↔ NumsOk d)):=by
 obtain⟨no,ti,xs,go,le⟩:=d;simp only at hs hg h1 h2;simp only[drA];refine zpIB func50 rfl fun h ρ w=>?_
 simp only[go_sem,List.length_map];refine AaI (ι:=Nat) (fun i=>xs.length-i)
  (fun i=>[(13,.int .i64 i),(12,.int .i64 xs.length),(11,.fz 5 (xs.map scA)),(3,.mp 0),(1,.pin 5 [.agg [.int .i64 no,.str ti,.fz 5 (xs.map scA),.fz 1 (go.map .str),.fz 4 (le.map leA)]] 0 0)])
  (fun i=>[.mp (seenM ((nosL xs).take i))]) (fun i=>i<=xs.length/\((nosL xs).take i).Pairwise nLt/\∀ j,(h:j<xs.length)->j<i->xs[j].no≠[]) 0 (by simp) ?_ ?_
 .refine Shift.weakS ?_ (by simp[seenM])
  simp only[go_sem]
 .rintro i ⟨g1,g2,g3⟩ J hJ
  by_cases gi:i<xs.length
  .have di:decide ((i:Int)<(xs.length:Int))=true:=by simp; omega
   have hg':List.getD (List.map scA xs) i .any=.agg [.str xs[i].no,.int .i64 xs[i].place,.str xs[i].set,.int .i64 xs[i].time,.fz 2 (xs[i].paras.map paA)]:=by simp[List.getD,gi,scA]
   have gn:i<(nosL xs).length:=by simpa[nosL]using gi
   have hps:=AyJ gn g2;rw[A2F gi]at hps
   by_cases q:xs[i].no=[]
   .have q0:(xs[i].no==[])=true:=by simp[q]
    have hno:¬ NumsOk ⟨no,ti,xs,go,le⟩:=fun h=>h.all _ (List.getElem_mem gi) q
    refine zgB ?_;simp only[go_sem,di,hg',q0,List.length_map]
    repeat refine aqa ?_
    exact aret [2] rfl ⟨⟨5,rfl,by simp[hno]⟩,rfl⟩
   .have q0:(xs[i].no==[])=false:=by simp[q]
    have hni:=(hs _ (List.getElem_mem gi)).resolve_left q;have out:(0<i->nLt ((nosL xs).getD (i-1) []) xs[i].no)->∀ (a:Act) (w':World),Sim _ _ _ a w'->J a w':=fun e=>hJ (i+1) ⟨by omega,hps.2 e,fun j h hj=>by
     by_cases e:j=i
     .subst e; exact q
     .exact g3 j h (by omega)⟩ (by omega)
    have bad:¬ (0<i->nLt ((nosL xs).getD (i-1) []) xs[i].no)->¬ NumsOk ⟨no,ti,xs,go,le⟩:=fun e h=>e (hps.1 (h.rise.sublist (List.take_sublist _ _)))
    have hseen:∀ e:(0<i->nLt ((nosL xs).getD (i-1) []) xs[i].no),mfind .string (.str xs[i].no) (seenM ((nosL xs).take i)) 0=some none:=fun e=>by
     refine AfD fun hm=>?_
     have hp:=hps.2 e;rw[List.take_succ_eq_append_getElem gn,A2F gi,List.pairwise_append]at hp;exact AaH _ (hp.2.2 _ hm _ (by simp))
    have happ:seenM ((nosL xs).take i)++[(.str xs[i].no,.bool true)]=seenM ((nosL xs).take (i+1)):=by
     rw[List.take_succ_eq_append_getElem gn,A2F gi]; simp[seenM]
    have hlw:=AeK 1 ((nosL xs).take (i+1))
    by_cases h0:i=0
    .have hse:=hseen (by omega)
     have hfin:=out (by omega);have dz:decide ((i:Int)>0)=false:=by simp; omega
     refine zgB ?_;simp only[go_sem,di,hg',q0,List.length_map]
     repeat refine aqa ?_
     refine zr [.any] mixed ?_;simp only[go_sem,dz]
     repeat refine aqa ?_
     refine zgB ?_;simp only[go_sem,hse,happ]
     repeat refine aqa ?_
     rw[ic i];refine ainv hfin (Shift.low 1 (by simp) (by simp) ?_ ?_)
     .simp only [List.take_succ_cons,List.take_zero,List.all_cons,List.all_nil,↓hlw,Bool.and_self]
     .simp only[go_sem]
    .have dz:decide ((i:Int)>0)=true:=by simp; omega
     have gp:i-1<xs.length:=by omega
     have e1:((i:Int)-1).toNat=i-1:=by omega
     have hgp:List.getD (List.map scA xs) (i-1) .any=.agg [.str xs[i-1].no,.int .i64 xs[i-1].place,.str xs[i-1].set,.int .i64 xs[i-1].time,.fz 2 (xs[i-1].paras.map paA)]:=by simp[List.getD,gp,scA]
     have hpr:(nosL xs).getD (i-1) []=xs[i-1].no:=by simp[List.getD,nosL,gp]
     have hnp:=(hs _ (List.getElem_mem gp)).resolve_left (g3 _ gp (by omega));have hc:=AbI xs[i].no xs[i-1].no hni hnp;rw[hpr]at bad out hseen;generalize hP:xs[i-1]=P at *
     by_cases hle:AaC xs[i].no P.no<=0
     .have dl:decide (AaC xs[i].no P.no<=0)=true:=by simpa using hle
      have hno:=bad fun e=>compareN_le.1 hle (e (by omega))
      refine zgB ?_;simp only[go_sem,di,hg',q0,List.length_map]
      repeat refine aqa ?_
      refine zr [.int .i64 (AaC xs[i].no P.no)] mixed ?_;simp only[go_sem,dz,e1,hgp,dl,List.length_map]
      repeat refine And.intro (by first|exact hc.at|omega|exact .inl trivial|rfl|(simp; done)|(simp; omega)) ?_
      refine zgB ?_;simp only[go_sem];exact aret [2] rfl ⟨⟨7,rfl,by simp[hno]⟩,rfl⟩
     .have dl:decide (AaC xs[i].no P.no<=0)=false:=by simpa using hle
      have hlt:nLt P.no xs[i].no:=Classical.byContradiction fun e=>hle (compareN_le.2 e)
      have hse:=hseen fun _=>hlt
      have hfin:=out fun _=>hlt
      refine zgB ?_;simp only[go_sem,di,hg',q0,List.length_map]
      repeat refine aqa ?_
      refine zr [.int .i64 (AaC xs[i].no P.no)] mixed ?_;simp only[go_sem,dz,e1,hgp,dl,List.length_map]
      repeat refine And.intro (by first|exact hc.at|omega|exact .inl trivial|rfl|(simp; done)|(simp; omega)) ?_
      refine zgB ?_;simp only[go_sem,hse,happ]
      repeat refine aqa ?_
      rw[ic i];refine ainv hfin (Shift.low 1 (by simp) (by simp) ?_ ?_)
      .simp only [List.take_succ_cons,List.take_zero,List.all_cons,List.all_nil,↓hlw,Bool.and_self]
      .simp only[go_sem]
  .have di:decide ((i:Int)<(xs.length:Int))=false:=by simp; omega
   have hi:i=xs.length:=by omega
   subst hi;have htk:(nosL xs).take xs.length=nosL xs:=List.take_of_length_le (by simp[nosL]);rw[htk]at g2 |-;have hall:∀ x∈xs,x.no≠[]:=fun x hx=>by
    obtain⟨j,hj,rfl⟩:=List.getElem_of_mem hx;exact g3 j hj hj
   refine zgB ?_;simp only[go_sem,di,List.length_map];refine AaI (ι:=Nat) (fun i=>go.length-i)
    (fun i=>[(44,.int .i64 i),(43,.int .i64 go.length),(42,.fz 1 (go.map .str)),(3,.mp 0),(1,.pin 5 [.agg [.int .i64 no,.str ti,.fz 5 (xs.map scA),.fz 1 (go.map .str),.fz 4 (le.map leA)]] 0 0)])
    (fun i=>[.mp (seenM (nosL xs))]) (fun i=>i<=go.length/\(go.take i).Pairwise nLt/\∀ j,(h:j<go.length)->j<i->go[j] ∉ nosL xs) 0 (by simp) ?_ ?_
   .refine Shift.weakS ?_ rfl
    simp only[go_sem]
   .clear hJ J
    rintro i ⟨k1,k2,k3⟩ J hJ
    by_cases gi:i<go.length
    .have di:decide ((i:Int)<(go.length:Int))=true:=by simp; omega
     have hgn:List.getD (go.map AV.str) i .any=.str go[i]:=by simp[List.getD,gi]
     have hni:=hg _ (List.getElem_mem gi);have hin:=AcK go[i] (by have:=(AaG hni).2.1; omega);rw[hni]at hin;have hps:=AyJ gi k2;have bad:¬ (0<i->nLt (go.getD (i-1) []) go[i])->¬ NumsOk ⟨no,ti,xs,go,le⟩:=fun e h=>e (hps.1 (h.riseG.sublist (List.take_sublist _ _)))
     have bad2:go[i]∈nosL xs->¬ NumsOk ⟨no,ti,xs,go,le⟩:=fun e h=>h.apart _ (List.getElem_mem gi) e
     have out:(0<i->nLt (go.getD (i-1) []) go[i])->go[i] ∉ nosL xs->∀ (a:Act) (w':World),Sim _ _ _ a w'->J a w':=fun e e'=>hJ (i+1) ⟨by omega,hps.2 e,fun j h hj=>by
      by_cases e:j=i
      .subst e; exact e'
      .exact k3 j h (by omega)⟩ (by omega)
     have gp:i-1<go.length:=by omega
     have hpr:go.getD (i-1) []=go[i-1]:=by simp[List.getD,gp]
     have hgp:List.getD (go.map AV.str) (i-1) .any=.str go[i-1]:=by simp[List.getD,gp]
     have hnp:=hg _ (List.getElem_mem gp);have hc:=AbI go[i] go[i-1] hni hnp;have e1:0<i->((i:Int)-1).toNat=i-1:=fun _=>by omega
     rw[hpr]at bad out;have hlw:=AeK 1 (nosL xs);generalize hP:go[i-1]=P at *;generalize hQ:go[i]=Q at *
     by_cases h0:i=0
     .have dz:decide ((i:Int)>0)=false:=by simp; omega
      by_cases hm:Q∈nosL xs
      .obtain ⟨j,m1,_⟩:=AmO (n:=0) hm
       have hno:=bad2 hm;refine zgB ?_;simp only[go_sem,di,hgn,List.length_map]
       repeat refine aqa ?_
       refine zpB (hin) ?_;simp only[go_sem,dz,m1]
       repeat refine aqa ?_
       exact aret [2] rfl ⟨⟨6,rfl,by simp[hno]⟩,rfl⟩
      .have m1:=AfD (n:=0) hm
       have hfin:=out (by omega) hm;refine zgB ?_;simp only[go_sem,di,hgn,List.length_map]
       repeat refine aqa ?_
       refine zpB (hin) ?_;simp only[go_sem,dz,m1]
       repeat refine aqa ?_
       rw[ic i];refine ainv hfin (Shift.low 1 (by simp) (by simp) ?_ ?_)
       .simp only [List.take_succ_cons,List.take_zero,List.all_cons,List.all_nil,↓hlw,Bool.and_self]
       .simp only[go_sem]
     .have dz:decide ((i:Int)>0)=true:=by simp; omega
      have e1:=e1 (by omega)
      by_cases hle:AaC Q P<=0
      .have dl:decide (AaC Q P<=0)=true:=by simpa using hle
       have hno:=bad fun e=>compareN_le.1 hle (e (by omega))
       refine zgB ?_;simp only[go_sem,di,hgn,List.length_map]
       repeat refine aqa ?_
       refine zpB (hin) ?_;simp only[go_sem,dz,e1,hgp,List.length_map]
       repeat refine aqa ?_
       refine zpB (hc) ?_;simp only[go_sem,dl]
       repeat refine aqa ?_
       exact aret [2] rfl ⟨⟨7,rfl,by simp[hno]⟩,rfl⟩
      .have dl:decide (AaC Q P<=0)=false:=by simpa using hle
       have hlt:nLt P Q:=Classical.byContradiction fun e=>hle (compareN_le.2 e)
       by_cases hm:Q∈nosL xs
       .obtain ⟨j,m1,_⟩:=AmO (n:=0) hm
        have hno:=bad2 hm;refine zgB ?_;simp only[go_sem,di,hgn,List.length_map]
        repeat refine aqa ?_
        refine zpB (hin) ?_;simp only[go_sem,dz,e1,hgp,List.length_map]
        repeat refine aqa ?_
        refine zpB (hc) ?_;simp only[go_sem,dl,m1]
        repeat refine aqa ?_
        exact aret [2] rfl ⟨⟨6,rfl,by simp[hno]⟩,rfl⟩
       .have m1:=AfD (n:=0) hm
        have hfin:=out (fun _=>hlt) hm;refine zgB ?_;simp only[go_sem,di,hgn,List.length_map]
        repeat refine aqa ?_
        refine zpB (hin) ?_;simp only[go_sem,dz,e1,hgp,List.length_map]
        repeat refine aqa ?_
        refine zpB (hc) ?_;simp only[go_sem,dl,m1]
        repeat refine aqa ?_
        rw[ic i];refine ainv hfin (Shift.low 1 (by simp) (by simp) ?_ ?_)
        .simp only [List.take_succ_cons,List.take_zero,List.all_cons,List.all_nil,↓hlw,Bool.and_self]
        .simp only[go_sem]
    .have di:decide ((i:Int)<(go.length:Int))=false:=by simp; omega
     have hi:i=go.length:=by omega
     subst hi;rw[List.take_length]at k2;have hap:∀ n∈go,n ∉ nosL xs:=fun n hn=>by
      obtain⟨j,hj,rfl⟩:=List.getElem_of_mem hn;exact k3 j hj hj
     by_cases hf:xs.length+go.length<=300
     .have df:decide ((xs.length:Int)+(go.length:Int)>300)=false:=by simp; omega
      have hok:NumsOk ⟨no,ti,xs,go,le⟩:=⟨hall,g2,k2,hap,hf⟩;refine zgB ?_;simp only[go_sem,di,df,List.length_map]
      repeat refine aqa ?_
      exact aret [2] rfl ⟨⟨0,rfl,by simp[hok]⟩,rfl⟩
     .have df:decide ((xs.length:Int)+(go.length:Int)>300)=true:=by simp; omega
      have hno:¬ NumsOk ⟨no,ti,xs,go,le⟩:=fun h=>hf h.few
      refine zgB ?_;simp only[go_sem,di,df,List.length_map]
      repeat refine aqa ?_
      exact aret [2] rfl ⟨⟨2,rfl,by simp[hno]⟩,rfl⟩
