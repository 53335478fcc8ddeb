/- take.Conform, walked. -/
import Derived.Test.YtgenkcmfeeakoaaGreatDoorX29
set_option maxRecDepth 100000
set_option maxHeartbeats 8000000
set_option linter.all false
namespace Go.Proofs.YtgenkcmfeeakoaaGreatDoor
open Av RowKit Proofs.Tryz
structure RowsI(R:List (Tk×Nat))(T:LB):Prop where
 h3:T[3]? = some (.arr 9 (R.map rowH))
 rows:∀ q∈R,4<=q.2/\T[q.2]? = some (.arr 4 (q.1.covers.map cvA))
 inj:R.Pairwise fun p q=>p.2≠q.2
 low:T.all (lowB T.length)=true
theorem BpH(ps:List (Nat×Nat))(j:Nat)(h:j<ps.length):prM (ps.take j)++[(AV.int .i64 (ps[j].1:Nat),AV.int .i64 (ps[j].2:Nat))]=prM (ps.take (j+1)):=by
 rw[List.take_add_one,lab h,prM,prM,lak];rfl
theorem BwR{ps:List (Nat×Nat)}(hp:ps.Pairwise fun p q=>p.1<q.1/\p.2<q.2)(j:Nat)(h:j<ps.length):mfind (.int .i64) (.int .i64 (ps[j].1:Nat)) (prM (ps.take j)) 0=some none:=by
 rcases AvK (ps[j].1:Nat) (ps.take j) 0 with⟨h1,_⟩|⟨i,p,_,h2⟩
 .exact h1
 .have hm:=lcr h2
  have he:=List.find?_some h2;obtain⟨k,hk,rfl⟩:=List.getElem_of_mem hm;rw[lci]at hk;have:=List.pairwise_iff_getElem.1 hp k j (by omega) h (by omega);rw[List.getElem_take]at he
  simp at he
  omega
theorem BwS(ps:List (Nat×Nat))(j:Nat)(h:j<ps.length):(prs ps).getD j .any=.agg [.int .i64 (ps[j].1:Nat),.int .i64 (ps[j].2:Nat)]:=by simp[prs,List.getD,h]
def covF(ps:List (Nat×Nat))(cs:List Cv)(c:Nat):List Cv:=(cs.take c).filterMap (confC ps)
theorem BpI(ps:List (Nat×Nat))(cs:List Cv)(c:Nat):(covF ps cs c).length<=c:=by
 unfold covF;have:=List.length_filterMap_le (confC ps) (cs.take c);rw[lci]at this;omega
theorem BgQ(ps:List (Nat×Nat))(cs:List Cv)(c:Nat)(h:c<cs.length):covF ps cs (c+1)=covF ps cs c++(confC ps cs[c]).toList:=by
 unfold covF;rw[List.take_add_one,lab h,List.filterMap_append];simp only[Option.toList,List.filterMap_cons,List.filterMap_nil]
 cases confC ps cs[c] <;> rfl
theorem BaM(xs ys:List Sc)(l:List Tk)(i:Nat)(h:i<l.length):confL xs ys (l.take (i+1))=confL xs ys (l.take i)++(if ys.any (fun y=>y.no==l[i].scene) then[AjD xs ys l[i]] else[]):=by
 unfold confL;rw[List.take_add_one,lab h,List.filter_append,lak];simp only[Option.toList,List.filter_cons,List.filter_nil]
 split <;> rfl
theorem BaN{c:Cx}{e e':Env}{s:LB}(T V:LB)(hs:s=T++V)(hc:c.sto.length<=T.length)(hT:T.all (lowB T.length)=true)(hw:wkl T.length e e'):Shift c e s e' T:=by
 subst hs;have h:=Shift.low (c:=c) (e:=e) (e':=e') (s:=T++V) T.length hc (by simp) (by rw[List.take_left]; exact hT) hw;rw[List.take_left]at h;exact h
theorem A3J{S:Std}(hS:LibOk S)(x y:Sr)(RS:LA)(l:List Tk)
  (hck:PcH prog S 40 [srA x,.fz 5 RS,.fz 9 (l.map tkA)] (· = .int .i64 0))
  (hsf:PcH prog S 41 [srA y] (· = .int .i64 0))
  (hsx:Ct prog 42 [srA x] [] (fun r s=>r=.mp 0/\s=[.mp (scMF 0 x.Lc)]))
  (hsy:Ct prog 42 [srA y] [] (fun r s=>r=.mp 0/\s=[.mp (scMF 0 y.Lc)]))
  (hdx:∀ i (h:i<x.Lc.length) j (h2:j<x.Lc.length),x.Lc[i].no=x.Lc[j].no->i=j)
  (hdy:∀ i (h:i<y.Lc.length) j (h2:j<y.Lc.length),y.Lc[i].no=y.Lc[j].no->i=j)
  (hin:∀ t∈l,∃ i,∃ (h:i<x.Lc.length),x.Lc[i].no=t.scene)
  (hbx:∀ z∈x.Lc,(∀ p∈z.Ld,0<=p.kind/\p.kind<=999/\p.text.length<=100000)/\z.Ld.length<=1000)
  (hby:∀ z∈y.Lc,(∀ p∈z.Ld,0<=p.kind/\p.kind<=999/\p.text.length<=100000)/\z.Ld.length<=1000)
  (hxl:x.Lc.length<=1000) (hyl:y.Lc.length<=1000)
  (hcl:∀ t∈l,t.covers.length<=1000) (hl:l.length<=1000) :
  CtH prog S 9 [srA x,srA y,.fz 5 RS,.fz 9 (l.map tkA)] [] (fun v s=>∃ R:List (Tk×Nat),v=.tup [.sl 3 0 R.length R.length,.int .i64 0]/\R.map (·.1)=confL x.Lc y.Lc l/\RowsI R s):=by
 simp only[srA]at hck hsf hsx hsy |-;have hsy1:=hsy.liftN rfl (by rintro _ _ ⟨_,rfl⟩; rfl) [.mp (scMF 0 x.Lc)];refine zdIB func9 rfl fun h ρ w hg=>?_
 simp only[go_sem];refine zqB hg (hck) ?_;simp only[go_sem];refine zqB hg (hsf) ?_;simp only[go_sem];refine B0P [1,3] 99 [] AaI (by decide) rfl rfl 100 ?_;simp only[go_sem,Go.Av.dxn,Go.Av.dxnc,↓Go.Av.BgC,↓Go.Av.BaD,Go.Av.dbrn];refine icc hsx ⟨_,_,rfl,rfl⟩ ?_;rintro _ _ ⟨rfl,rfl⟩;refine⟨Agr.push' (Nat.zero_le _) _,?_⟩;refine icc hsy1 ⟨_,_,_,_,⟨rfl,rfl⟩,rfl,rfl⟩ ?_;rintro _ _ ⟨_,_,⟨rfl,rfl⟩,rfl,rfl⟩;refine⟨Agr.push' (Nat.zero_le _) _,?_⟩;simp only[shV,sh1,shB,lal,las,shC_scMF,lam,lap,lbb,lbx,laq];apply zgB;simp only[go_sem,laa];refine AaE (ι:=Nat×List (LU×Nat)×List (Tk×Nat)×LB) (fun y=>l.length-y.1)
  (fun q=>[(49,.int .i64 q.1),(48,.int .i64 l.length),(47,.fz 9 (l.map tkA)),(15,.sl 3 0 q.2.2.1.length q.2.2.1.length),(14,.mp 2),(13,.mp 1),(12,.mp 0),(5,.pin 2 [.agg [.str y.Lk,.fz 5 (y.Lc.map scA)]] 0 0),(4,.pin 2 [.agg [.str x.Lk,.fz 5 (x.Lc.map scA)]] 0 0)])
  (fun q=>q.2.2.2) (fun q=>q.1<=l.length/\ConI x.Lc y.Lc q.2.1 q.2.2.1 q.2.2.2/\q.2.2.1.map (·.1)=confL x.Lc y.Lc (l.take q.1))
  (0,[],[],[.mp (scMF 0 x.Lc),.mp (scMF 0 y.Lc),.mp [],.arr 9 []]) ⟨by simp,?_,by simp[confL]⟩ ?_ ?_
 .exact ⟨rfl,rfl,rfl,rfl,by simp,by simp,.nil,by simp only[lat,lbn,↓A3B,lowB,flat,lbh]⟩
 .refine Shift.trans (Ls 15 9 rfl) (Lt ?_ rfl)
  simp only[go_sem,laa]
 rintro⟨i,M,R,T⟩ ⟨g1,g2,g3⟩ J hJ;simp only at g1 g2 g3 hJ |-
 by_cases gi:i<l.length
 .have di:decide ((i:Int)<(l.length:Int))=true:=by simp; omega
  have hget:=AjA l i gi;obtain⟨a,ha,has⟩:=hin _ (lac gi);have hcov:=hcl _ (lac gi);have hstep:=BaM x.Lc y.Lc l i gi;have mA:=AkA (k:=l[i].scene) x.Lc 0 0 a ha has (fun j hj e=>by have:=hdx _ (by omega) _ ha (e.trans has.symm); omega);rw[laq]at mA;have hfA:=BgL hdx ha;rw[has]at hfA;have hRl:R.length<=i:=by
   have:=congrArg List.length g3;rw[laa]at this;rw[this];unfold confL;rw[laa];have:=List.length_filter_le (fun t=>y.Lc.any fun z=>z.no==t.scene) (l.take i);rw[lci]at this;omega
  have hYs:(∃ b,∃ (h:b<y.Lc.length),y.Lc[b].no=l[i].scene)\/∀ z∈y.Lc,z.no≠l[i].scene:=by
   by_cases h:∃ b,∃ (h:b<y.Lc.length),y.Lc[b].no=l[i].scene
   .exact .inl h
   .refine .inr fun z hz e=>h ?_
    obtain⟨b,hb,rfl⟩:=List.getElem_of_mem hz;exact⟨b,hb,e⟩
  generalize htt:l[i]=t at *;have g2':=g2.more (y:=.arr 9 [tkA t]) (AaD (AhE [t]));have k1:=gd_app g2.h1;simp only[tkA]at g2'
  rcases hYs with⟨b,hb,hbs⟩|hno
  .have mB:=AkA (k:=t.scene) y.Lc 0 0 b hb hbs (fun j hj e=>by have:=hdy _ (by omega) _ hb (e.trans hbs.symm); omega)
   rw[laq]at mB;have hfB:=BgL hdy hb;rw[hbs]at hfB;have hany:y.Lc.any (fun z=>z.no==t.scene)=true:=List.any_eq_true.2 ⟨_,lac hb,by simp[hbs]⟩;rw[hany]at hstep;simp only[if_true]at hstep;have hps:psOf x.Lc y.Lc t.scene=pairsL (x.Lc[a].Ld.map lnP) (y.Lc[b].Ld.map lnP):=by simp only[psOf,hfA,hfB]
   obtain⟨hbx1,hbx2⟩:=hbx _ (lac ha);obtain⟨hby1,hby2⟩:=hby _ (lac hb);have hln1:=AsI hS x.Lc[a] hbx1 hbx2;have hln2:=AsI hS y.Lc[b] hby1 hby2;have hpr:=BoV (x.Lc[a].Ld.map lnP) (y.Lc[b].Ld.map lnP) (by simp; omega) (by simp; omega);have hrise:=(AoY (AgJ (x.Lc[a].Ld.map lnP) (y.Lc[b].Ld.map lnP))).1;have hplen:=BaF (x.Lc[a].Ld.map lnP) (y.Lc[b].Ld.map lnP);rw[laa,laa]at hplen;rw[<- hps]at hpr hrise hplen;obtain⟨ps,hpsd⟩:∃ ps,ps=psOf x.Lc y.Lc t.scene:=⟨_,rfl⟩;rw[<- hpsd]at hpr hrise hplen;have hplen:ps.length<=2000:=by omega
   have hgA:=AgE x.Lc a ha;have hgB:=AgE y.Lc b hb;simp only[scA]at hln1 hln2;have hkT:(T++[Blk.arr 9 [tkA t]])[T.length]? = some (.arr 9 [tkA t]):=A3C _ _;simp only[tkA]at hkT;have hTl:(T++[Blk.arr 9 [tkA t]]).length=T.length+1:=by simp
   simp only[tkA]at hTl;refine goB rfl 55 ?_;simp only[go_sem,di,hget,k1,mB,gd_end,st_end,laa]
   repeat refine aqe ?_
   generalize hT1:T++[Blk.arr 9 [AV.agg [.str t.scene,.str t.setup,.int .i64 t.number,.str t.roll,.str t.sound,.int .i64 t.inn,.int .i64 t.out,.bool t.good,.fz 4 (t.covers.map cvA)]]]=T1 at g2' hkT hTl |-;refine acut (ι:=List (LU×Nat)×LB)
    (fun _=>[(17,.ptr T.length 1 0 0),(49,.int .i64 i),(48,.int .i64 l.length),(47,.fz 9 (l.map tkA)),(15,.sl 3 0 R.length R.length),(14,.mp 2),(13,.mp 1),(12,.mp 0),(5,.pin 2 [.agg [.str y.Lk,.fz 5 (y.Lc.map scA)]] 0 0),(4,.pin 2 [.agg [.str x.Lk,.fz 5 (x.Lc.map scA)]] 0 0)])
    (fun q=>q.2) (fun q=>ConI x.Lc y.Lc q.1 R q.2/\q.2[T.length]? = some (.arr 9 [.agg [.str t.scene,.str t.setup,.int .i64 t.number,.str t.roll,.str t.sound,.int .i64 t.inn,.int .i64 t.out,.bool t.good,.fz 4 (t.covers.map cvA)]])/\(∃ n m,mfind .string (.str t.scene) (q.1.map keM) 0=some (some (n,.mp m.2))/\m∈q.1/\m.1=t.scene)/\∀ m∈q.1,m.2≠T.length) ?_ ?_
   .intro Jc hJc
    have hbig:=g2.big;have k0:=gd_of g2'.h0;have k2:=gd_of g2'.h2;have k3:=gd_of hkT
    rcases A7H t.scene M 0 with m1|⟨n,m,m1,m2,m3⟩
    .refine goB rfl 30 ?_
     simp only[go_sem,k2,k3,m1]
     repeat refine aqe ?_
     refine zr [.fz 1 (strs (x.Lc[a].Ld.map lnP)),.fz 1 (strs (y.Lc[b].Ld.map lnP)),.tup [.fz 2 (prs ps),.int .i64 0]] AaI ?_;simp only[go_sem,k0,k3,mA,hgA,hgB,laa]
     repeat refine And.intro (by first|omega|(simp; done)|(simp; omega)|kernel_rfl|exact hln1.at hg|exact hln2.at hg|exact hpr.at) ?_
     apply zgB;simp only[go_sem,prs_len];have hT1b:=g2'.big;refine AaE (ι:=Nat) (fun j=>ps.length-j)
      (fun j=>[(92,.int .i64 j),(91,.int .i64 ps.length),(90,.fz 2 (prs ps)),(22,.mp T1.length),(17,.ptr T.length 1 0 0),(49,.int .i64 i),(48,.int .i64 l.length),(47,.fz 9 (l.map tkA)),(15,.sl 3 0 R.length R.length),(14,.mp 2),(13,.mp 1),(12,.mp 0),(5,.pin 2 [.agg [.str y.Lk,.fz 5 (y.Lc.map scA)]] 0 0),(4,.pin 2 [.agg [.str x.Lk,.fz 5 (x.Lc.map scA)]] 0 0)])
      (fun j=>T1++[.mp (prM (ps.take j))]) (fun j=>j<=ps.length) 0 (by simp) ?_ ?_
     .refine Lt ?_ rfl
      simp only[go_sem,prs_len]
     intro j f1 J2 hJ2
     by_cases gj:j<ps.length
     .have dj:decide ((j:Int)<(ps.length:Int))=true:=by simp; omega
      have hpg:=BwS ps j gj;have hnew:=BwR hrise j gj;have hsn:=BpH ps j gj;have hfin:=hJ2 (j+1) (by omega) (by omega);apply zgB;simp only[go_sem,dj,hpg,hnew,hsn,gd_e0,gd_e1,st_e0,st_e1,prs_len]
      repeat refine aqe ?_
      rw[ic j];refine ainv hfin (shift_lowE T1 [_] [_] (lbu _ _ _) (by simp) g2'.low ?_ ?_)
      .simp only [lat,lbn,↓A3D,lbh]
      .simp only [go_sem]
       repeat(first|rfl|(simp; done)|(simp; omega)|refine And.intro (by first|rfl|(simp; done)|(simp; omega)) ?_)
     .have dj:decide ((j:Int)<(ps.length:Int))=false:=by simp; omega
      have hkM:M.map keM++[(AV.str t.scene,AV.mp T1.length)]=(M++[(t.scene,T1.length)]).map keM:=by simp[keM]
      have k2b:=gd_app g2'.h2;have k3b:=gd_app hkT;have hpair:=g2'.pair t.scene;rw[<- hpsd]at hpair;have hfin:=hJc (M++[(t.scene,T1.length)],_) ⟨hpair,by rw[lbm (by omega)]; exact AgK hkT _,⟨0+M.length,(t.scene,T1.length),BoW t.scene T1.length M 0 m1,by simp,rfl⟩,fun q hq=>by
       rcases List.mem_append.1 hq with hq|hq
       .have:=g2.mlt hq; omega
       .rw [List.mem_singleton.1 hq]; simp only; omega⟩
      rw[show ps.take j=ps from laj (by omega)];apply zgB;simp only[go_sem,dj,k2b,k3b,m1,hkM]
      repeat refine aqe ?_
      refine ainv hfin (Lt ?_ rfl);simp only[go_sem]
    .have k4:=gd_of (g2'.maps m m2).2
     have hfin:=hJc (M,T1) ⟨g2',hkT,⟨0+n,m,m1,m2,m3⟩,fun q hq=>by have:=g2.mlt hq; omega⟩;apply zgB;simp only[go_sem,k2,k3,m1,k4]
     repeat refine aqe ?_
     refine ainv hfin (Lt ?_ rfl);simp only[go_sem]
   rintro⟨M2,T2⟩ ⟨c1,c2,⟨n,m,m1,m2,m3⟩,c4⟩;simp only at c1 c2 m1 m2 c4 |-;have hbig:=c1.big;have hmps:=(c1.maps m m2).2;rw[m3,<- hpsd]at hmps;have hmlt:=c1.mlt m2;have hTlt:=(List.getElem?_eq_some_iff.1 c2).1;have k17:=gd_of c2;have hRlt:∀ q∈R,q.2≠T.length:=fun q hq=>by have:=g2.rlt hq; omega
   have hb4:=g2.big;apply zgB;simp only[go_sem,k17,laa]
   repeat refine aqe ?_
   refine AaE (ι:=Nat) (fun c=>t.covers.length-c)
    (fun c=>[(109,.int .i64 c),(108,.int .i64 t.covers.length),(107,.fz 4 (t.covers.map cvA)),(25,.sl T2.length 0 (covF ps t.covers c).length (covF ps t.covers c).length),(17,.ptr T.length 1 0 0),(49,.int .i64 i),(48,.int .i64 l.length),(47,.fz 9 (l.map tkA)),(15,.sl 3 0 R.length R.length),(14,.mp 2),(13,.mp 1),(12,.mp 0),(5,.pin 2 [.agg [.str y.Lk,.fz 5 (y.Lc.map scA)]] 0 0),(4,.pin 2 [.agg [.str x.Lk,.fz 5 (x.Lc.map scA)]] 0 0)])
    (fun c=>T2++[.arr 4 ((covF ps t.covers c).map cvA)]) (fun c=>c<=t.covers.length) 0 (by simp) ?_ ?_
   .refine Shift.trans (Ls 25 4 rfl) (Lt ?_ rfl)
    simp only[go_sem,laa]
    repeat(first|rfl|(simp; done)|(simp; omega)|refine And.intro (by first|rfl|(simp; done)|(simp; omega)) ?_)
   intro c f1 J2 hJ2;have hcl2:=BpI ps t.covers c
   by_cases gc:c<t.covers.length
   .have dc:decide ((c:Int)<(t.covers.length:Int))=true:=by simp; omega
    have hgc:=AiZ t.covers c gc;have hfin:=hJ2 (c+1) (by omega) (by omega);have hcs:=BgQ ps t.covers c gc;have hl0:=AgR (covF ps t.covers c);have q2:=A3E c1.h2;have q3:=A3E c2;have q4:=A3E hmps;obtain⟨cs,hcs0⟩:∃ z,z=covF ps t.covers c:=⟨_,rfl⟩;rw[<- hcs0]at hcs hl0 hcl2 |-
    rcases AvK t.covers[c].para ps 0 with⟨p1,p2⟩|⟨n2,p,p1,p2⟩
    .have hcn:confC ps t.covers[c]=none:=by simp only[confC,p2,Option.map_none]
     rw[hcn]at hcs;simp only[Option.toList,lca]at hcs;rw[hcs]at hfin;apply zgB;simp only[go_sem,dc,hgc,q2,q3,q4,gd_e0,gd_e1,st_e0,st_e1,m1,p1,laa]
     repeat refine aqe ?_
     rw[ic c];refine ainv hfin (shift_lowE T2 [_] [_] (lbu _ _ _) (by simp) c1.low ?_ ?_)
     .simp only [lat,lbn,lowB,AaD hl0,lbh]
     .simp only [go_sem]
      repeat(first|rfl|(simp; done)|(simp; omega)|refine And.intro (by first|rfl|(simp; done)|(simp; omega)) ?_)
    .have hcn:confC ps t.covers[c]=some ⟨p.2,t.covers[c].inn,t.covers[c].out,t.covers[c].on⟩:=by simp only[confC,p2,lcp]
     rw[hcn]at hcs;simp only[Option.toList]at hcs;rw[hcs]at hfin;simp only[lak,lal,las,cvA,lah,lam,lap,laq]at hfin;apply zgB;simp only[go_sem,dc,hgc,q2,q3,q4,gd_e0,gd_e1,st_e0,st_e1,m1,p1,laa]
     repeat refine aqf ?_
     rw[ic c];refine ainv hfin (shift_lowE T2 [_] [_] (lbu _ _ _) (by simp) c1.low ?_ ?_)
     .simp only [lat,lbn,lowB,flat_append,lbo,AaD hl0,flat,cellsOf,lowC,Av.frozen,lca,lbb,lbx,lbh]
     .simp only [go_sem]
      repeat(first|rfl|(simp; done)|(simp; omega)|refine And.intro (by first|rfl|(simp; done)|(simp; omega)) ?_)
   .have dc:decide ((c:Int)<(t.covers.length:Int))=false:=by simp; omega
    have hce:covF ps t.covers c=(AjD x.Lc y.Lc t).covers:=by
     have:c=t.covers.length:=by omega
     subst this;unfold covF AjD;rw[laz,<- hpsd]
    rw[hce]at hcl2 |-;clear hJ2;obtain⟨u,hu⟩:∃ u,u=AjD x.Lc y.Lc t:=⟨_,rfl⟩;have e1:u.scene=t.scene:=by rw[hu]; rfl
    have e2:u.setup=t.setup:=by rw[hu]; rfl
    have e3:u.number=t.number:=by rw[hu]; rfl
    have e4:u.roll=t.roll:=by rw[hu]; rfl
    have e5:u.sound=t.sound:=by rw[hu]; rfl
    have e6:u.inn=t.inn:=by rw[hu]; rfl
    have e7:u.out=t.out:=by rw[hu]; rfl
    have e8:u.good=t.good:=by rw[hu]; rfl
    rw[<- hu]at hcl2 hstep |-;have hrow:=c1.row u hb4 hTlt c4 hRlt;have hfin:=hJ (i+1,M2,R++[(u,T2.length)],_) ⟨by simp only; omega,hrow,by simp only; rw[hstep,lak,g3]; rfl⟩ (by simp only; omega);have q3:=gd_app c1.h3;have q17:=gd_app c2;simp only[tkH,e1,e2,e3,e4,e5,e6,e7,e8,lah,lam,lap,laq,lak,lal,las,rowH]at hfin;have hXl:∀ v,((T2++[Blk.arr 4 (u.covers.map cvA)]).set T.length v).length=T2.length+1:=fun v=>by simp
    have q18:∀ v,((T2++[Blk.arr 4 (u.covers.map cvA)]).set T.length v).getD T.length .dead=v:=fun v=>by
     rw[lay,List.getElem?_set_self (by simp; omega)]; rfl
    have q19:∀ v w,(((T2++[Blk.arr 4 (u.covers.map cvA)]).set T.length v)++[w]).getD 3 .dead=.arr 9 (R.map rowH):=fun v w=>gd_app (AdM (AgK c1.h3 _) (by omega) _) w
    have q20:∀ v w,(((T2++[Blk.arr 4 (u.covers.map cvA)]).set T.length v)++[w]).getD (T2.length+1) .dead=w:=fun v w=>by
     rw[<- hXl v]; exact gd_end _ _ _
    have q21:∀ v w z,(((T2++[Blk.arr 4 (u.covers.map cvA)]).set T.length v)++[w]).set 3 z=(((T2++[Blk.arr 4 (u.covers.map cvA)]).set T.length v).set 3 z)++[w]:=fun v w z=>List.set_append_left _ _ (by rw[hXl]; omega)
    have hrowl:=hrow.low;simp only[tkH,e1,e2,e3,e4,e5,e6,e7,e8,lak,lal,las,rowH]at hrowl;have hrm:∀ q:Tk×Nat,rowH q=tkH q.2 q.1:=fun _=>rfl
    apply zgN;simp only[go_sem,dc,q17,q3,q18,q19,q20,q21,hXl,laa]
    repeat refine aqf ?_
    rw[ic i];refine ainv hfin (BaN _ [_] rfl (by simp) hrowl ?_);simp only[go_sem]
    repeat(first|rfl|(simp; done)|(simp; omega)|refine And.intro (by first|rfl|(simp; done)|(simp; omega)) ?_)
  .have mB:=AoW (k:=t.scene) y.Lc 0 0 hno
   have hany:y.Lc.any (fun z=>z.no==t.scene)=false:=by
    rw[List.any_eq_false];intro z hz
    simpa using hno z hz
   rw[hany]at hstep;simp only[lan,if_false,lca]at hstep;have hfin:=hJ (i+1,M,R,_) ⟨by simp only; omega,g2',by simp only; rw[hstep]; exact g3⟩ (by simp only; omega);apply zgB;simp only[go_sem,di,hget,k1,mB,gd_end,st_end,laa]
   repeat refine aqe ?_
   trace_state
   rw[ic i];refine ainv hfin (Lt ?_ rfl);simp only[go_sem]
 .have di:decide ((i:Int)<(l.length:Int))=false:=by simp; omega
  have:i=l.length:=by omega
  subst this;rw[laj (lad _)]at g3;apply zgB;simp only[go_sem,di];exact aret [8,9] rfl ⟨R,rfl,g3,g2.h3,g2.rows,g2.inj,g2.low⟩
end Go.Proofs.YtgenkcmfeeakoaaGreatDoor
namespace Go.Av
open RowKit
variable [Tr]
section
variable {h H:Mem}{ρ:Own}{s:LB}{w:World}
theorem A7K(hH:∀ b o v,h b o=some v->H b o=some v){v:Value}{a:AV}(m:Mine h ρ s w)(r:RV h (Lf ρ s) false v a)(hf:frozen a=true):RV (H) Lf0 true v a :=
 (AfC r hf).thaw hH
theorem ApA{n:Nat}(hn:∀ {v:Value}{a:AV},RV h (Lf ρ s) false v a->RV (H) Lf0 true v (bor n s a)):∀ {l:LA}{vs:List Value},RL h (Lf ρ s) false vs l->RL (H) Lf0 true vs (l.map (bor n s))
 | [],_,r=>by cases r; exact .nil
 | a::l,_,r=>by cases r with|cons r1 r2=>exact .cons (hn r1) (ApA hn r2)
theorem A3K(hH:∀ b o v,h b o=some v->H b o=some v)(hO:∀ i g t o v,ρ i=some (g,t)->w.cell? ⟨g,o,none⟩=some v->v.oneCell'=true->H g o=some v)(m:Mine h ρ s w):∀ (n:Nat){v:Value}{a:AV},RV h (Lf ρ s) false v a->RV (H) Lf0 true v (bor n s a)
 | 0,v,a,r=>by
  cases a with
  | sl id o l c=>exact .any _
  | ptr id m i o=>exact .any _
  | mp id=>exact .any _
  | agg r=>exact .any _
  | tup r=>exact .any _
  | fn f r=>exact .any _
  | _=>exact A7K hH m r rfl
 | n+1,v,a,r=>by
  cases a with
  | sl id off len cap =>
   rw[bor_sl];have hl:=(AbE r).2
   cases hq:s[id]? with
   | none=>grind[LfC]
   | some b =>
    have hgd:s.getD id .dead=b:=by grind
    rw[hgd]
    cases b with
    | arr e l =>
     simp only
     cases hd:decide (off+cap=l.length)&&decide (len<=cap)with
     | false=>exact .any _
     | true =>
      simp at hd
      obtain⟨hc,hlc⟩:=hd;simp only[LfC,hq]at hl
      rcases hl.2 hc with⟨rfl,rfl,a,rfl⟩|⟨g,tot,h1,rfl,_⟩
      .cases a with
       | none=>simpa[at0]using RV.fznil e
       | some a=>simpa[at0]using RV.fz a.1 a.2 0 e [] [] .nil (by simp) (by simp) (lad _)
      .rcases m.own id _ hq with⟨_,hn⟩|⟨g',tot',cur,t,h3,h4,h5,h6,h7,h8,h9,h10,h11⟩
       .grind
       .have hlen:(((l.drop off).take len).map (borC n s)).length=len:=by grind
        have hr:RL (H) Lf0 true (((cur.toList.take (l.length*e)).drop (off*e)).take (len*e)) (flat (((l.drop off).take len).map (borC n s))):=by
         rw[bor_flat,<- AbL (fun x hx=>h9 x (lba hx)) len,<- AbA h9 off,lco,List.map_drop];exact((ApA (fun r=>A3K hH hO m n r) h11).drop _).take _
        have:=RV.fz (fl:=true) g' (off*e) (tot'-off) e (((l.drop off).take len).map (borC n s)) _ hr (fun x hx=>by
         grind[bor_cells]) (fun k v hk=>by
         rw[lce]at hk
         split at hk
         .rw [List.getElem?_drop,lce]at hk
          split at hk
          .have h12:=h10 v (lar hk)
           exact hO id _ _ _ _ h3 (by rw[h4.cell,<- lcd,hk]) h12
          grind
         grind) (by omega)
        grind
    | _=>exact .any _
  | ptr id m i o=>exact .any _
  | mp id=>exact .any _
  | agg r=>exact .any _
  | tup r=>exact .any _
  | fn f r=>exact .any _
  | _=>exact A7K hH m r rfl
theorem A7L(hH:∀ b o v,h b o=some v->H b o=some v)(hO:∀ i g t o v,ρ i=some (g,t)->w.cell? ⟨g,o,none⟩=some v->v.oneCell'=true->H g o=some v)(m:Mine h ρ s w)(n:Nat){v:Value}{a:AV}(r:RV h (Lf ρ s) false v a):RV (H) Lf0 true v (borC n s a):=by
 cases a with
 | agg l =>
  obtain⟨vs,rfl,rl⟩:=inv_agg r;exact .agg vs _ (ApA (fun r=>A3K hH hO m n r) rl)
 | _=>exact A3K hH hO m n r
theorem AyQ(hH:∀ b o v,h b o=some v->H b o=some v)(hO:∀ i g t o v,ρ i=some (g,t)->w.cell? ⟨g,o,none⟩=some v->v.oneCell'=true->H g o=some v)(m:Mine h ρ s w)(n:Nat):∀ {l:LA}{vs:List Value},RL h (Lf ρ s) false vs l->RL (H) Lf0 true vs (l.map (borC n s))
 | [],_,r=>by cases r; exact .nil
 | a::l,_,r=>by cases r with|cons r1 r2=>exact .cons (A7L hH hO m n r1) (AyQ hH hO m n r2)
end
def borV(n:Nat)(s:LB):AV->AV
 | .tup r=>.tup (r.map (borC n s))
 | x=>borC n s x
theorem PcH.ofOwn{P:Program}{g:Std}{f:FuncId}{args:LA}{post:AV->LB->Prop}(n:Nat)(hc:CtH P g f args [] post):PcH P g f args (fun r=>∃ r' s,post r' s/\r=borV n s r'):=by
 refine⟨hc.1,fun h w vs hg hm hv=>?_⟩;have hmine:Mine h (fun _=>none) [] w:=⟨hm,fun id blk e=>by grind,fun _ _=>rfl,fun i j g t t' e=>by grind,fun i g t e=>by grind⟩;refine(hc.2 h (fun _=>none) w vs (fun k o e=>⟨hg k o e,fun i t hi=>by grind⟩) hmine (hv.thaw (fun _ _ _ x=>x))).mono ?_;rintro en w' ⟨v,r,s,h',ρ',rfl,hp,hm',hl,rv⟩;have hnew:∀ b o,h b o=none->h' b o≠none->w.heap.size<=b:=fun b o e n=>by
  rcases hl.hnew b o e n with⟨j,t,hj⟩|hs<;>grind
 have hgood:∀ i g t,ρ' i=some (g,t)->w.heap.size<=g:=fun i g t e=>by
  rcases hl.newown i g t e with⟨j,t',hj⟩|h<;>grind
 obtain⟨H,hHd⟩:∃ H:Mem,H=fun b o=>if b<w.heap.size then h b o else AeN w' b o:=⟨_,rfl⟩
 have e1:∀ b o,b<w.heap.size->H b o=h b o:=fun b o hb=>by grind
 have e2:∀ b o,w.heap.size<=b->H b o=AeN w' b o:=fun b o hb=>by grind
 have hlow:∀ b o v,h b o=some v->b<w.heap.size:=fun b o v e=>hmine.memlt e
 have hH:∀ b o v,h' b o=some v->H b o=some v:=fun b o v e=>by
  by_cases hb:b<w.heap.size
  .rw [e1 b o hb]
   cases hq:h b o with
   | none=>grind
   | some u=>rw[<- e,hl.hle b o u hq]
  .rw [e2 b o (by omega)]
   exact A6D hm'.mem b o v e
 have hO:∀ i g t o v,ρ' i=some (g,t)->w'.cell? ⟨g,o,none⟩=some v->v.oneCell'=true->H g o=some v:=fun i g t o v e hc h1=>by
  grind[AeN]
 refine⟨v,borV n s r,H,rfl,⟨r,s,hp,rfl⟩,fun b o v e=>?_,fun b o v e=>?_,fun b o e n=>?_,⟨hl.os,hl.tape,hl.output,hl.size,fun k hk=>hl.block k hk (fun i t e=>by grind)⟩,?_⟩
 .by_cases hb:b<w.heap.size
  .rw [e1 b o hb]at e
   exact hm'.mem b o v (hl.hle b o v e)
  grind[AoI]
 .grind
 .grind
 .cases r with
  | tup l =>
   obtain⟨us,rfl,rl⟩:=AuC rv;exact .tup us _ (AyQ hH hO hm' n rl)
  | _=>exact A7L hH hO hm' n rv
theorem Pc.ofOwn{P:Program}{f:FuncId}{args:LA}{post:AV->LB->Prop}(n:Nat)(hc:Ct P f args [] post):Pc P f args (fun r=>∃ r' s,post r' s/\r=borV n s r'):=by
 have h:=PcH.ofOwn (g:=fun _=>none) n hc.toH;exact⟨h.1,fun hh w vs hm hv=>h.2 hh w vs (fun k o e=>by cases e) hm hv⟩
end Go.Av
namespace Go.Proofs.YtgenkcmfeeakoaaGreatDoor
open Av RowKit Proofs.Tryz
theorem BwT{s:LB}{j:Nat}{cs:List Cv}(h:s[j]? = some (.arr 4 (cs.map cvA))):bor 1 s (.sl j 0 cs.length cs.length)=.fz 4 (cs.map cvA):=by
 have hg:s.getD j .dead=.arr 4 (cs.map cvA):=by rw[lay,h]; rfl
 rw[bor_sl,hg];simp only[laa,laq,decide_true,lad,lbh,lav,lcj];rw[laj (by simp),lbi]
 congr 1
theorem BwU{s:LB}{q:Tk×Nat}(h:s[q.2]? = some (.arr 4 (q.1.covers.map cvA))):borC 1 s (rowH q)=tkA q.1:=by
 have h1:=BwT h;simp only[rowH,tkH,borC,lal,las,h1];rfl
theorem BpJ{s:LB}{R:List (Tk×Nat)}(h:RowsI R s):borC 2 s (.sl 3 0 R.length R.length)=.fz 9 ((R.map (·.1)).map tkA):=by
 have hg:s.getD 3 .dead=.arr 9 (R.map rowH):=by rw[lay,h.h3]; rfl
 have e:borC 2 s (.sl 3 0 R.length R.length)=bor 2 s (.sl 3 0 R.length R.length):=rfl;rw[e,bor_sl,hg];simp only[laa,laq,decide_true,lad,lbh,lav,lcj];rw[laj (by simp),lbi,lbi]
 congr 1
 exact lbg fun q hq=>BwU (h.rows q hq).2
def BgR(xs:List Sc):Prop:=∀ z∈xs,(∀ p∈z.Ld,0<=p.kind/\p.kind<=999/\p.text.length<=100000)/\z.Ld.length<=1000
theorem BgS{x:Sr}{r:Rl}{rs:List Rl}{l:List Tk}(h:FilmW x r rs l):∀ t∈l,∃ i,∃ (h:i<x.Lc.length),x.Lc[i].no=t.scene:=fun t ht=>by
 obtain⟨j,hj,rfl⟩:=List.getElem_of_mem ht;have hti:=h.ok.at' j _ (lab hj);obtain⟨i,hi,his⟩:=(AiB x l[j].scene).resolve_left (by have:=hti.scene; omega);exact⟨i,hi,(AsF h.story hi his).1⟩
theorem AjE{S:Std}(hS:LibR S)(x y:Sr)(r:Rl)(rs:List Rl)(l:List Tk)(hf:FilmW x r rs l)(hy:StW y)(hpx:BgR x.Lc)(hpy:BgR y.Lc) :
  PcH prog S 9 [srA x,srA y,.fz 5 ((r::rs).map rlA),.fz 9 (l.map tkA)] (· = .tup [.fz 9 ((confL x.Lc y.Lc l).map tkA),.int .i64 0]):=by
 have h1:=A3J hS.ok x y ((r::rs).map rlA) l (AoX hS x r rs l hf) (AgS hS y hy) (AgH x hf.story) (AgH y hy) (fun i h j h2 e=>hf.story.inj h h2 e) (fun i h j h2 e=>hy.inj h h2 e) (BgS hf) hpx hpy (by have:=hf.story.len; omega) (by have:=hy.len; omega) (fun t ht=>by have:=(hf.takes t ht).len; omega) (by have:=hf.len; omega);refine PcH.mono (PcH.ofOwn 2 h1) ?_;rintro _ ⟨_,s,⟨R,rfl,hR,hI⟩,rfl⟩;simp only[borV,lal,las,BpJ hI,hR];rfl
theorem AyR{x y:Sr}{r:Rl}{rs:List Rl}{l:List Tk}(h:FilmW x r rs l)(hy:StW y):FilmW y r rs (confL x.Lc y.Lc l) :=
 ⟨hy,h.rolls,h.names,h.many,BpG hy.few h.takes,by
  have:=h.len;have h2:(confL x.Lc y.Lc l).length<=l.length:=by
   unfold confL; rw[laa]; exact List.length_filter_le _ _
  omega,BaL h.ok⟩
theorem AsM{ps:List Pa}(h:∀ p∈ps,DrawnP p):∀ p∈ps,0<=p.kind/\p.kind<=999/\p.text.length<=100000:=fun p hp=>by
 have hd:=h p hp;have hk:=hd.kind;have ho:=hd.ok;simp only[paraOk,lae,lag]at ho;have:=ho.2.2.2.2.1;exact⟨by omega,by omega,by omega⟩
theorem StoryOk.para{x:Sr}(h:StoryOk x):BgR x.Lc:=fun z hz=>by
 obtain⟨i,hi,rfl⟩:=List.getElem_of_mem hz;exact⟨AsM (h.all i hi).all,by have:=(h.all i hi).len; simp only at this; omega⟩
end Go.Proofs.YtgenkcmfeeakoaaGreatDoor
namespace Go.Proofs.YtgenkcmfeeakoaaGreatDoor
open Av RowKit
theorem cb_val:∀ a b:LU,Lib.compareBytes a b=(if bytesLess a b then -1 else if bytesLess b a then 1 else 0)
 | [],[]=>rfl
 | [],_::_=>rfl
 | _::_,[]=>rfl
 | a::x,b::y=>by
  have ih:=cb_val x y;simp only[Lib.compareBytes,bytesLess,lbj,lag,lae,lbr]
  by_cases h1:a<b
  .simp [h1]
  .by_cases h2:b<a
   .have h3:¬ a=b:=fun e=>by subst e; exact h1 h2
    simp[h1,h2,h3]
   .have h3:a=b:=by
     have e1:=UInt8.not_lt.1 h1;have e2:=UInt8.not_lt.1 h2;exact UInt8.le_antisymm e2 e1
    subst h3
    simp[UInt8.lt_irrefl,ih]
theorem bl_irrefl:∀ a:LU,bytesLess a a=false
 | []=>rfl
 | a::x=>by simp[bytesLess,bl_irrefl x]
theorem A7M:∀ a b c:LU,bytesLess a b=true->bytesLess b c=true->bytesLess a c=true
 | [],[],c,h1,_=>by omega
 | _,_::_,[],_,h2=>by cases h2
 | _::_,[],_,h1,_=>by cases h1
 | [],_::_,_::_,_,_=>rfl
 | a::x,b::y,c::z,h1,h2=>by
  simp only[bytesLess,lbj,lag,lae,lbr]at h1 h2 |-
  rcases h1 with h1|⟨e1,h1⟩
  .rcases h2 with h2|⟨e2,h2⟩
   .exact .inl (UInt8.lt_trans h1 h2)
   .subst e2; exact .inl h1
  .subst e1
   rcases h2 with h2|⟨e2,h2⟩
   .exact .inl h2
   .subst e2; exact .inr ⟨rfl,A7M x y z h1 h2⟩
theorem AvL:∀ a b:LU,bytesLess a b=false->bytesLess b a=false->a=b
 | [],[],_,_=>rfl
 | [],_::_,h1,_=>by cases h1
 | _::_,[],_,h2=>by cases h2
 | a::x,b::y,h1,h2=>by
  simp only[bytesLess,lch,lai,Bool.and_eq_false_imp,lbr]at h1 h2;have h3:a=b:=UInt8.le_antisymm (UInt8.not_lt.1 h2.1) (UInt8.not_lt.1 h1.1);subst h3;rw[AvL x y (h1.2 rfl) (h2.2 rfl)]
theorem cb_lt{a b:LU}:Lib.compareBytes a b<0 ↔ bytesLess a b=true:=by
 grind[cb_val]
theorem cb_zero{a b:LU}:Lib.compareBytes a b=0 ↔ a=b:=by
 grind[cb_val,bl_irrefl,AvL]
theorem BwV{a b:Int}:cmpI a b<0 ↔ a<b:=by
 grind[cmpI]
theorem cmpI_zero{a b:Int}:cmpI a b=0 ↔ a=b:=by
 grind[cmpI]
structure Ordr{α:Type}(lt:α->α->Prop):Prop where
 irrefl:∀ x,¬ lt x x
 trans:∀ x y z,lt x y->lt y z->lt x z
 total:∀ x y,¬ lt x y->¬ lt y x->x=y
section
variable {α:Type}{lt:α->α->Prop}(O:Ordr lt)
include O
theorem Ordr.ntrans{x y z:α}(h1:¬ lt y x)(h2:¬ lt z y):¬ lt z x:=fun h=>by
 by_cases h3:lt x y
 .exact h2 (O.trans _ _ _ h h3)
 .have:=O.total x y h3 h1
  grind
end
section
variable {α:Type}(lt:α->α->Prop)(d:α)
variable {lt d}
end
def nLt(a b:LU):Prop:=pN a<pN b\/(pN a=pN b/\bytesLess (caps a) (caps b)=true)
theorem compareN_lt{a b:LU}:compareN a b<0 ↔ nLt a b:=by
 grind[compareN,nLt,orI,cb_lt,cmpI_zero,BwV]
theorem compareN_zero{a b:LU}:compareN a b=0 ↔ pN a=pN b/\caps a=caps b:=by
 grind[compareN,orI,cb_zero,cmpI_zero]
theorem nLt_irrefl(a:LU):¬ nLt a a:=by
 rintro(h|⟨_,h⟩)
 all_goals grind[bl_irrefl]
theorem nLt_trans{a b c:LU}(h1:nLt a b)(h2:nLt b c):nLt a c:=by
 rcases h1 with h1|⟨e1,h1⟩ <;> rcases h2 with h2|⟨e2,h2⟩
 .exact .inl (by omega)
 .exact .inl (by omega)
 .exact .inl (by omega)
 .exact .inr ⟨e1.trans e2,A7M _ _ _ h1 h2⟩
theorem ApB{a b:LU}(h1:¬ nLt a b)(h2:¬ nLt b a):pN a=pN b/\caps a=caps b:=by
 grind[nLt,AvL]
theorem ApC{a b:LU}:compareN a b>0 ↔ nLt b a:=by
 constructor
 .intro h
  .by_cases h2:nLt a b
   .have:=compareN_lt.2 h2; omega
   grind[compareN_zero,ApB]
 .intro h
  by_cases h1:compareN a b<0
  .grind[nLt_trans,compareN_lt,nLt_irrefl]
  .by_cases h2:compareN a b=0
   .obtain ⟨e1,e2⟩:=compareN_zero.1 h2
    rcases h with h|⟨_,h⟩<;>grind[bl_irrefl]
   omega
theorem AeI{c:UInt8}(h:digB c=true):48<=c.toNat/\c.toNat<=57:=by
 grind[digB,digI]
theorem AaV{c:UInt8}{r:LU}{acc:Nat}(h:digB c=true):Lib.decFrom acc (c::r)=Lib.decFrom (acc*10+(c.toNat-48)) r:=by
 grind[Lib.decFrom,A6H]
theorem u8_eq{c:UInt8}{n:Nat}(h:c.toNat=n)(hn:n<256):c=UInt8.ofNat n:=by
 apply UInt8.toNat_inj.1
 simp
 omega
theorem BtI{s:LU}(h:okD s):∃ n:Nat,Lib.decFrom 0 (digs s)=some n/\pN s=n:=by
 obtain⟨n,hn⟩:=AeV (digs s) 0 (AgB s);have h1:=h.1;have ha:=AgB s;have key:Lib.atoi (digs s)=some (n:Int):=by
  cases hq:digs s with
  | nil=>grind
  | cons b r =>
   rw[hq]at hn ha
   simp at ha
   have hb:=AeI ha.1;have b1:(b==45)=false:=by
    rw[lbe];rintro rfl
    grind
   have b2:(b==43)=false:=by
    rw[lbe];rintro rfl
    grind
   grind[Lib.atoi,Lib.decNat]
 grind[pN]
theorem AkC{a:LU}(h:numberL a=true):digs a=dig3 (pN a)/\0<=pN a/\pN a<=999:=by
 obtain⟨hd,hl3,_,_⟩:=AaZ h;have hall:=AgB a;have hz:digs a=[48]\/((digs a).getD 0 0).toNat≠48:=by
  grind[numberL,AbF]
 have h1:=hd.1;obtain⟨n,hn,hp⟩:=BtI hd;generalize digs a=l at *
 match l,hall,hl3,h1,hz,hn with
 | [x],hall,_,_,_,hn =>
  simp at hall
  have b:=AeI hall;rw[AaV hall]at hn;have e:n=x.toNat-48:=by have:=lcm hn; omega
  grind[u8_eq,dig3]
 | [x,y],hall,_,_,hz,hn =>
  simp at hall
  have b:=AeI hall.1;have b2:=AeI hall.2;rw[AaV hall.1,AaV hall.2]at hn;have e:n=(x.toNat-48)*10+(y.toNat-48):=by have:=lcm hn; omega
  grind[u8_eq,dig3]
 | [x,y,z],hall,_,_,hz,hn =>
  simp at hall
  have b:=AeI hall.1;have b2:=AeI hall.2.1;have b3:=AeI hall.2.2;have hx0:x.toNat≠48:=by
   grind
  rw[AaV hall.1,AaV hall.2.1,AaV hall.2.2]at hn;have e:n=((x.toNat-48)*10+(y.toNat-48))*10+(z.toNat-48):=by have:=lcm hn; omega
  have d1:(pN a).toNat=((x.toNat-48)*10+(y.toNat-48))*10+(z.toNat-48):=by omega
  have hx:=u8_eq (c:=x) (n:=48+(pN a).toNat / 100) (by omega) (by omega);have hy:=u8_eq (c:=y) (n:=48+(pN a).toNat / 10%10) (by omega) (by omega);have hz:=u8_eq (c:=z) (n:=48+(pN a).toNat%10) (by omega) (by omega)
  grind[dig3]
theorem number_eq{a b:LU}(ha:numberL a=true)(hb:numberL b=true)(h:pN a=pN b/\caps a=caps b):a=b:=by
 rw[AbF a,AbF b,(AkC ha).1,(AkC hb).1,h.1,h.2]
theorem bl_at{x y:UInt8}(h:x<y):∀ (p u t:LU),bytesLess (p++x::u) (p++y::t)=true
 | [],u,t=>by grind[bytesLess]
 | a::p,u,t=>by
  have ih:=bl_at h p u t
  simp[bytesLess,ih]
theorem BgT:∀ (p:LU)(x:UInt8)(t:LU),bytesLess p (p++x::t)=true
 | [],x,t=>rfl
 | a::p,x,t=>by
  have ih:=BgT p x t
  simp[bytesLess,ih]
theorem AyS:∀ {l r:LU},bumpR l=some r->∃ (j:Nat)(x:UInt8)(s:LU),l=List.replicate j 90++x::s/\x≠90/\r=List.replicate j 65++(x+1)::s
 | [],r,h=>by cases h
 | c::l,r,h=>by
  rw[bumpR]at h
  split at h
  .rename_i hc
   obtain⟨r',h1,rfl⟩:=Option.map_eq_some_iff.1 h;obtain⟨j,x,s,h2,h3,h4⟩:=AyS h1;exact⟨j+1,x,s,by rw[h2,hc]; rfl,h3,by rw[h4]; rfl⟩
  .rename_i hc
   exact⟨0,c,l,rfl,hc,(lcm h).symm⟩
theorem lowest_ne{n:Nat}:lowestL n≠[]:=by simp[lowestL]
theorem lowest_suf(n:Nat):Lib.hasSuffix (lowestL n) [65]=false:=by
 grind[lowestL,Lib.hasSuffix,List.isSuffixOf]
theorem BpK{l:LU}(h:(fixR l).head? = some 65):False:=by
 cases l<;>grind[fixR]
theorem above_suf{c:LU}{n:Nat}:Lib.hasSuffix (aboveL c n) [65]=false\/aboveL c n=[]:=by
 unfold aboveL
 split
 .left
  cases hq:Lib.hasSuffix (c++lowestL (n-c.length)) [65]with
  | false=>rfl
  | true =>
   simp only[Lib.hasSuffix,List.isSuffixOf_iff_suffix]at hq;obtain⟨t,ht⟩:=hq;have:=congrArg List.getLast? ht
   grind[lowestL]
 .split
  .grind
  .rename_i r hr
   left
   cases hq:Lib.hasSuffix (fixR r).reverse [65]with
   | false=>rfl
   | true =>
    simp only[Lib.hasSuffix,List.isSuffixOf_iff_suffix]at hq;obtain⟨t,ht⟩:=hq
    grind[List.getLast?_reverse,BpK]
theorem AsN{c:LU}{n:Nat}(h0:1<=n)(h:aboveL c n≠[]):(aboveL c n).length=n:=by
 unfold aboveL at h |-
 split
 .grind[lowestL,Lib.repeatL_length]
 grind[List.length_reverse,fix_len,AvA]
theorem BpL{c:LU}{n:Nat}(h0:1<=n)(hc:c.all capB=true)(h:aboveL c n≠[]):bytesLess c (aboveL c n)=true:=by
 unfold aboveL at h |-
 split
 .cases hq:lowestL (n-c.length)<;>grind[lowest_ne,BgT]
 .rename_i hl
  split
  .grind
  .rename_i r hr
   obtain⟨j,x,s,h1,h2,h3⟩:=AyS hr;have hx:x.toNat<=90:=by
    refine BtB hc x ?_;have:x∈(c.take n).reverse:=by grind
    grind
   have hx1:(x+1).toNat=x.toNat+1:=by
    grind[UInt8.toNat_add]
   have hct:c=s.reverse++x::(List.replicate j 90++c.drop n):=by
    grind[List.reverse_cons,lbs]
   cases j with
   | zero =>
    simp only[List.replicate_zero,lbx,fixR,List.reverse_cons]
    grind[bl_at,UInt8.lt_iff_toNat_lt]
   | succ j =>
    have e:(fixR (List.replicate (j+1) 65++(x+1)::s)).reverse=s.reverse++(x+1)::(List.replicate j 65++[66]):=by
     grind[fixR]
    grind[bl_at,UInt8.lt_iff_toNat_lt]
theorem A3L{n:Nat}(h:n<256):(UInt8.ofNat n).toNat=n:=by simp_all
theorem A7N{d:Int}(h0:0<=d)(h1:d<=999):Lib.decFrom 0 (dig3 d)=some d.toNat:=by
 have hall:=A6I h0 h1;unfold dig3 at hall |-
 split
 .rename_i h
  rw[if_pos h]at hall;simp only[lat,lbn,lax]at hall;rw[AaV hall,A3L (by omega)]
  show some _=_
  grind
 .rename_i h
  rw[if_neg h]at hall
  split
  .rename_i h2
   rw[if_pos h2]at hall;simp only[lat,lbn,lax,lae]at hall;rw[AaV hall.1,AaV hall.2,A3L (by omega),A3L (by omega)]
   show some _=_
   grind
  .rename_i h2
   rw[if_neg h2]at hall;simp only[lat,lbn,lax,lae]at hall;rw[AaV hall.1,AaV hall.2.1,AaV hall.2.2,A3L (by omega),A3L (by omega),A3L (by omega)]
   show some _=_
   grind
theorem BgU{d:Int}(h0:0<=d)(h1:d<=999):(dig3 d=[48] ↔ d=0)/\(d≠0->((dig3 d).getD 0 0).toNat≠48):=by
 have h:=A7N h0 h1;refine⟨⟨fun e=>?_,fun e=>by rw[e]; rfl⟩,fun hd=>?_⟩
 .rw [e]at h
  have:=lcm h
  grind
 grind[dig3,A3L]
theorem number_of{d:Int}{c:LU}(h0:0<=d)(h1:d<=999)(hc:c.all capB=true)(hl:c.length<=5)(hs:Lib.hasSuffix c [65]=false)(hz:d=0->c≠[]):numberL (dig3 d++c)=true/\pN (dig3 d++c)=d/\caps (dig3 d++c)=c:=by
 obtain⟨e1,e2⟩:=AxU (A6I h0 h1) hc;have hlen:=AjT d;obtain⟨z1,z2⟩:=BgU h0 h1;refine⟨?_,?_,e2⟩
 .grind[numberL]
 .obtain ⟨n,hn,hp⟩:=BtI (s:=dig3 d++c) (by grind[okD])
  grind[A7N]
theorem BaO{a:LU}(ha:a=[]\/numberL a=true){n:Nat}(hn:n<=5)(h:AqV a n≠[]):numberL (AqV a n)=true/\(a=[]\/nLt a (AqV a n)):=by
 have hA:okA a:=ha.imp id fun h=>AaN h
 have hsm:=A2Q (n:=n) (by omega) hA;unfold AqV at h |-;have hcap:(caps a).all capB=true:=by
  rcases ha with rfl|ha
  .rfl
  simp_all[AaZ]
 have hxc:=BeV n hcap;have hsuf:Lib.hasSuffix (nextX a n).2 [65]=false/\(nextX a n).2.length<=5/\((nextX a n).1=0->(nextX a n).2≠[])/\(a=[]\/pN a<(nextX a n).1\/(pN a=(nextX a n).1/\bytesLess (caps a) (nextX a n).2=true)):=by
  have hll:(lowestL n).length<=5\/n=0:=by
   grind[lowestL,Lib.repeatL_length]
  unfold nextX
  split
  .split
   .exact ⟨by decide,by simp,by simp,.inl (by omega)⟩
   grind[lowest_suf,lowest_ne]
  .rename_i hne
   have hna:=ha.resolve_left hne;have hp:=(AkC hna).2
   split
   .grind[Lib.hasSuffix]
   .split
    .grind[lowest_suf]
    .rename_i hab
     refine⟨above_suf.resolve_right hab,?_,fun _=>hab,.inr (.inr ⟨rfl,BpL (by omega) hcap hab⟩)⟩<;>grind[AsN]
 grind[number_of,nLt]
end Go.Proofs.YtgenkcmfeeakoaaGreatDoor
namespace Go.Proofs.YtgenkcmfeeakoaaGreatDoor
open Av RowKit
def placeW:LA:=[.str [],.str [73,78,84,46],.str [69,88,84,46],.str [73,78,84,46,47,69,88,84,46]]
def BgV:LA:=[.str [],.str [68,65,89],.str [78,73,71,72,84],.str [68,65,87,78],.str [68,85,83,75],.str [76,65,84,69,82]]
