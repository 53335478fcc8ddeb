/- Blocks on pages, as the reference lays them: fill. -/
import Derived.Test.YtmhjbljckkgeoaaGreatDoorC42
set_option maxRecDepth 100000
set_option maxHeartbeats 8000000
set_option linter.all false
namespace Go.Proofs.YtmhjbljckkgeoaaGreatDoor
open Av RowKit Proofs.Tryz
def tab0(st tp b5 X:Blk)(ps:List (List Ln))(s:LB):Prop :=
 (ps=[]/\s=[.arr 1 [.agg [.sl 3 0 0 0]],st,tp,.arr 1 [],X,b5])\/∃ dn cur,ps=dn++[cur]/\s=tabP st tp b5 true X dn cur
def FillR(st tp b5:Blk)(ps':List (List Ln))(s:LB):Prop:=∃ f X dn cur,Quiet X/\ps'=dn++[cur]/\s=tabP st tp b5 f X dn cur
structure FiI(b:Bl)(R:List (List Ln))(x:Nat×Nat×List (List Ln)×List Ln×Bool×Blk):Prop where
 fr:x.2.1<b.Lb.length
 fu:b.Lb.length-x.2.1<x.1
 go:fillGo b x.1 x.2.1 (x.2.2.1++[x.2.2.2.1])=R
 len:x.2.2.2.1.length<=54
 h0:x.2.1=0->AaN b<=54-x.2.2.2.1.length
 h1:0<x.2.1->x.2.2.2.1.length=grp b
 q:Quiet x.2.2.2.2.2
 all:∀ p∈x.2.2.1,p.length<=54
 many:x.2.2.1.length<=100000+x.2.1
theorem BuJ(b:Bl)(hb:BrkOk b)(hr:RbOk b)(hln:b.kind=3->b.Lb.getD 0 []=indent 20 b.name)(hsh:∀ l∈b.Lb,l.length<=1000000)(hmx:b.Lb.length<=500000)(need:Nat)(hneed:AaN b<=need)(hneed2:need<=1000000){st tp b5 X:Blk}(q1:Quiet st)(q2:Quiet tp)(q3:Quiet b5)(qX:Quiet X)
  (ps:List (List Ln)) (hps:∀ p∈ps,p.length<=54) (hpl:ps.length<=90000) (s:LB) (hs:tab0 st tp b5 X ps s) :
  Ct prog 216 [.ptr 0 1 0 0,rbA b,.int .i64 (need:Int)] s (fun r s'=>r=.bool (topR b need ps)/\FillR st tp b5 (fillR b need ps) s'):=by
 obtain⟨k1,k2,k0⟩:=AyY hr;have hgap:=BuE b hr;have hlen:0<b.Lb.length:=List.length_pos_iff.2 hb.some;have hle:=hb.least;have hgl:gapN b<=2:=by grind[gapN]
 have hrep:=AdF [32] 20 (by simp) (by omega);have hmb:=fun fr k hf hk=>ApM b hr fr k hf hk
 simp only[rbA]at hgap hmb |-;obtain⟨R,hR⟩:∃ R,R=fillR b need ps:=⟨_,rfl⟩;obtain⟨tt,htt⟩:∃ tt,tt=topR b need ps:=⟨_,rfl⟩;rw[<- hR,<- htt];unfold fillR at hR;rw[<- htt]at hR;refine hs.elim (fun hs1=>?_) (fun hs2=>(Classical.em (tt=true)).elim (fun ht=>?_) (fun ht=>?_));obtain⟨rfl,rfl⟩:=hs1;have ht:tt=true:=by grind[topR]
 rw[ht]at hR;simp only[if_true,lbs]at hR;refine zcIB func216 rfl fun h ρ w=>?_
 simp only[go_sem];refine zr [] AaF ?_;simp only[go_sem]
 repeat refine ao ?_
 apply zgB;simp only[go_sem]
 repeat refine And.intro (by grind) ?_
 refine AWp.shift (Shift.trans (AiJ [] rfl) (Ls (e':=[(8,.int .i64 ((0:Nat):Int)),(7,.bool tt),(4,.pin 3 [.agg [.int .i64 (kR b.kind),.fz 1 (b.Lb.map .str),.fz 1 ((spB b).map .bool)]] 0 0),(0,.ptr 0 1 0 0)]) (by rw[ht]; simp only[go_sem]))) ?_;obtain⟨f0,X0,dn0,cur0,i1,i2,i3,i4,i5,i6,i7⟩:∃ f X' dn cur,Quiet X'/\fillGo b (b.Lb.length+1) 0 (dn++[cur])=R/\AaN b<=54-cur.length/\cur.length<=54/\(∀ p∈dn,p.length<=54)/\dn.length<=100000/\tabP st tp b5 false X [] []=tabP st tp b5 f X' dn cur :=
  ⟨false,X,[],[],qX,hR.symm,by omega,by simp,by simp,by simp,rfl⟩
 rw[i7]
 rotate_left
 obtain⟨dn,cur,rfl,rfl⟩:=hs2;rw[ht]at hR;have hrm:=AuU (AzB st tp b5 true X) dn cur (by grind) (fun p hp=>hps p (by grind)) (hps cur (by simp));have hc54:=hps cur (by simp);have d0:(((dn.length+1:Nat):Int)==0)=false:=by grind
 have d1:decide (((54-cur.length:Nat):Int)<((gapN b:Nat):Int)+(need:Int))=true:=by
  grind[topR,AeH]
 simp only[if_true]at hR;have hpl2:dn.length+1<=90000:=by grind
 have hdnp:∀ p∈dn++[cur],p.length<=54:=hps;simp only[tabP,shS,TF,icF]at hrm |-;refine zcIB func216 rfl fun h ρ w=>?_
 simp only[go_sem];refine AqU [8] 99 [.int .i64 ((gapN b:Nat):Int)] AaF (by decide) rfl rfl 100 ?_;simp only[go_sem,Go.Av.dxq,Go.Av.dxqc,Go.Av.gOnB,↓Go.Av.AbM,↓Go.Av.AaZ,Go.Av.dbrq,d0,laa]
 repeat refine And.intro (by grind) ?_
 refine icc hrm ⟨_,_,rfl,rfl⟩ ?_;rintro _ _ ⟨rfl,rfl⟩;refine⟨.rfl',?_⟩;simp only[go_sem,Go.Av.dxq,Go.Av.dxqc,Go.Av.gOnB,↓Go.Av.AbM,↓Go.Av.AaZ,Go.Av.dbrq]
 repeat refine And.intro (by first|omega|exact hgap.at|exact .inl trivial|rfl|(simp; done)|(simp; omega)) ?_
 rw[d1];refine AzC (e':=[(7,.bool true),(4,.pin 3 [.agg [.int .i64 (kR b.kind),.fz 1 (b.Lb.map .str),.fz 1 ((spB b).map .bool)]] 0 0),(0,.ptr 0 1 0 0)]) q1 q2 q3 qX (by simp) true dn cur (by simp only[go_sem]) fun X' hX'=>?_
 apply zgB;simp only[go_sem,laa]
 repeat refine And.intro (by grind) ?_
 refine AWp.shift (Shift.trans (AiJ (dn++[cur]) (by simp)) (Ls (e':=[(8,.int .i64 ((0:Nat):Int)),(7,.bool tt),(4,.pin 3 [.agg [.int .i64 (kR b.kind),.fz 1 (b.Lb.map .str),.fz 1 ((spB b).map .bool)]] 0 0),(0,.ptr 0 1 0 0)]) (by rw[ht]; simp only[go_sem]))) ?_;obtain⟨f0,X0,dn0,cur0,i1,i2,i3,i4,i5,i6,i7⟩:∃ f Y dn2 cur2,Quiet Y/\fillGo b (b.Lb.length+1) 0 (dn2++[cur2])=R/\AaN b<=54-cur2.length/\cur2.length<=54/\(∀ p∈dn2,p.length<=54)/\dn2.length<=100000/\tabP st tp b5 false X' (dn++[cur]) []=tabP st tp b5 f Y dn2 cur2 :=
  ⟨false,X',dn++[cur],[],hX',hR.symm,by omega,by simp,hdnp,by omega,rfl⟩
 rw[i7]
 rotate_left
 obtain⟨dn,cur,rfl,rfl⟩:=hs2;have ht:tt=false:=by grind
 rw[ht]at hR;have hrm:=AuU (AzB st tp b5 true X) dn cur (by grind) (fun p hp=>hps p (by grind)) (hps cur (by simp));have hc54:=hps cur (by simp);have d0:(((dn.length+1:Nat):Int)==0)=false:=by grind
 have d1:gapN b+need<=54-cur.length/\decide (((54-cur.length:Nat):Int)<((gapN b:Nat):Int)+(need:Int))=false:=by
  grind[topR,AeH]
 obtain⟨d2,d1⟩:=d1;simp only[lan,if_false,AjP]at hR;have hpl2:dn.length+1<=90000:=by grind
 have hdnp:∀ p∈dn,p.length<=54:=fun p hp=>hps p (by grind)
 have hzr:List.replicate (gapN b) (AV.str [])=(List.replicate (gapN b) ([]:Ln)).map .str:=by simp
 have hput:=BuH (S:=fun n L K=>TF st tp b5 true X n L K++[.arr 1 ((List.replicate (gapN b) ([]:Ln)).map .str)]) (is:=0) (ip:=3) (ic:=4)
  ⟨fun _ _ _=>rfl,fun _ _ _=>rfl,fun _ _ _=>rfl,fun _ _ _ _=>rfl,fun _ _ _ _=>rfl,fun _ _ _ _=>rfl,fun _ _ _=>by grind,fun _ _ _=>by simp[TF],by decide,by decide⟩
  dn cur (List.replicate (gapN b) []) 6 (fun _ _ _=>rfl) (by decide) (fun _ _ _=>by simp[TF]) (by omega) (by omega) (by grind)
 simp only[lbx,shS,TF,lbc,lbs]at hput;simp only[tabP,shS,TF,icF]at hrm |-;refine zcIB func216 rfl fun h ρ w=>?_
 simp only[go_sem];refine AqU [8] 99 [.int .i64 ((gapN b:Nat):Int)] AaF (by decide) rfl rfl 100 ?_;simp only[go_sem,Go.Av.dxq,Go.Av.dxqc,Go.Av.gOnB,↓Go.Av.AbM,↓Go.Av.AaZ,Go.Av.dbrq,d0,laa]
 repeat refine And.intro (by grind) ?_
 refine icc hrm ⟨_,_,rfl,rfl⟩ ?_;rintro _ _ ⟨rfl,rfl⟩;refine⟨.rfl',?_⟩;simp only[go_sem,Go.Av.dxq,Go.Av.dxqc,Go.Av.gOnB,↓Go.Av.AbM,↓Go.Av.AaZ,Go.Av.dbrq]
 repeat refine And.intro (by first|omega|exact hgap.at|exact .inl trivial|rfl|(simp; done)|(simp; omega)) ?_
 rw[d1];apply zgB;simp only[go_sem];refine zpB (hgap) ?_;simp only[go_sem,hzr]
 repeat refine ao ?_
 refine za (hput) ?_;rintro _ _ ⟨rfl,rfl⟩;apply zgB;simp only[go_sem];have hlw:=BuI (X:=X) q1 q2 q3 dn (cur++List.replicate (gapN b) []);simp only[tabP,shS,TF,icF]at hlw;refine AWp.shift (Shift.trans (Shift.low 6 (e':=[(8,.int .i64 ((0:Nat):Int)),(7,.bool tt),(4,.pin 3 [.agg [.int .i64 (kR b.kind),.fz 1 (b.Lb.map .str),.fz 1 ((spB b).map .bool)]] 0 0),(0,.ptr 0 1 0 0)]) (by simp) (by simp) (by simp_all) (by rw[ht]; simp only[go_sem]))
  (Lu (e':=[(8,.int .i64 ((0:Nat):Int)),(7,.bool tt),(4,.pin 3 [.agg [.int .i64 (kR b.kind),.fz 1 (b.Lb.map .str),.fz 1 ((spB b).map .bool)]] 0 0),(0,.ptr 0 1 0 0)]) (s':=tabP st tp b5 true X dn (cur++List.replicate (gapN b) [])) (by rw[ht]; simp only[go_sem]) (by grind[tabP,shS,TF,icF]))) ?_
 obtain⟨f0,X0,dn0,cur0,i1,i2,i3,i4,i5,i6,i7⟩:∃ f Y dn2 cur2,Quiet Y/\fillGo b (b.Lb.length+1) 0 (dn2++[cur2])=R/\AaN b<=54-cur2.length/\cur2.length<=54/\(∀ p∈dn2,p.length<=54)/\dn2.length<=100000/\tabP st tp b5 true X dn (cur++List.replicate (gapN b) [])=tabP st tp b5 f Y dn2 cur2 :=
  ⟨true,X,dn,cur++List.replicate (gapN b) [],qX,hR.symm,by grind,by grind,hdnp,by omega,rfl⟩
 rw[i7]
 all_goals
  clear htt hR;refine AaC (ι:=Nat×Nat×List (List Ln)×List Ln×Bool×Blk) (fun x=>b.Lb.length-x.2.1)
   (fun x=>[(8,.int .i64 (x.2.1:Int)),(7,.bool tt),(4,.pin 3 [.agg [.int .i64 (kR b.kind),.fz 1 (b.Lb.map .str),.fz 1 ((spB b).map .bool)]] 0 0),(0,.ptr 0 1 0 0)])
   (fun x=>tabP st tp b5 x.2.2.2.2.1 x.2.2.2.2.2 x.2.2.1 x.2.2.2.1) (FiI b R) (b.Lb.length+1,0,dn0,cur0,f0,X0) ⟨hlen,by simp,i2,i4,fun _=>i3,fun h=>by grind,i1,i5,by omega⟩ ?_ ?_
  .exact Shift.refl
  .rintro ⟨f,fr,dn,cur,fm,X⟩ ⟨g1,g2,g3,g4,g5,g6,g7,g8,g9⟩ J hJ
   simp only at g1 g2 g3 g4 g5 g6 g7 g8 g9 hJ |-;obtain⟨f,rfl⟩:∃ k,f=k+1:=⟨f-1,by omega⟩;have hrm:=AuU (AzB st tp b5 fm X) dn cur (by omega) g8 g4;have hput:=fun cur' ls h h2=>BgN (AzB st tp b5 fm X) dn cur' ls (by omega) h h2
   have hroom:AuR (dn++[cur])=54-cur.length:=AeH _ _;have hdrop:List.drop fr (b.Lb.map AV.str)=(b.Lb.drop fr).map .str:=List.map_drop.symm;simp only[fillGo,hroom]at g3
   by_cases hf:b.Lb.length-fr<=54-cur.length
   .have df:decide ((b.Lb.length:Int)-fr<=((54-cur.length:Nat):Int))=true:=by grind
    rw[if_pos hf,AjP]at g3;apply zgB;simp only[go_sem];refine AqU [6] 99 [] AaF (by decide) rfl rfl 100 ?_;simp only[go_sem,Go.Av.dxq,Go.Av.dxqc,Go.Av.gOnB,↓Go.Av.AbM,↓Go.Av.AaZ,Go.Av.dbrq,laa]
    repeat refine aqb ?_
    refine icc hrm ⟨_,_,rfl,rfl⟩ ?_;rintro _ _ ⟨rfl,rfl⟩;refine⟨.rfl',?_⟩;simp only[go_sem,Go.Av.dxq,Go.Av.dxqc,Go.Av.gOnB,↓Go.Av.AbM,↓Go.Av.AaZ,Go.Av.dbrq,df]
    repeat refine ao ?_
    apply zgB;simp only[go_sem,hdrop,laa]
    repeat refine ao ?_
    refine za (hput cur (b.Lb.drop fr) (by omega) (by grind)) ?_;rintro _ _ ⟨rfl,rfl⟩;apply zgB;simp only[go_sem];exact aret [6] rfl ⟨rfl,fm,X,dn,cur++b.Lb.drop fr,g7,g3.symm,rfl⟩
   .have df:decide ((b.Lb.length:Int)-fr<=((54-cur.length:Nat):Int))=false:=by grind
    rw[if_neg hf]at g3;have hex:∃ j,AcN b fr (min (fr+(54-cur.length)-grp b) (b.Lb.length-1))=some j:=by
     by_cases z:fr=0
     .subst z
      have:=(hb.first (54-cur.length) (g5 rfl)).resolve_left (by omega)
      grind
     .have hp:=g6 (by omega)
      rw[hp];rw[hp]at hf;exact(hb.next fr (by omega) g1).resolve_left hf
    obtain⟨j,hj⟩:=hex;have hj2:AcN b fr (min (fr+(54-cur.length)-grp b) b.Lb.length)=some j:=by grind[BgD]
    have ht2:tzR b fr (54-cur.length)=j:=by grind[tzR]
    have hjl:=AmH b fr _ _ hj;have hgr:grp b<=1:=by unfold grp; grind
    rw[ht2]at g3;obtain⟨mo,hmo⟩:∃ mo,mo=(if b.kind==3 then[AbH] else([]:List Ln)):=⟨_,rfl⟩;obtain⟨gs,hgs⟩:∃ gs,gs=(if b.kind==3 then[goesLn b] else([]:List Ln)):=⟨_,rfl⟩;have hmol:mo.length<=1:=by rw[hmo]; split <;> simp
    have hgsl:gs.length=grp b:=by rw[hgs]; unfold grp; split <;> rfl
    have hturn:turnR b fr j (dn++[cur])=(dn++[cur++partL' b fr j++mo])++[gs]:=by
     unfold turnR
     grind[AjP]
    rw[hturn]at g3;have hpl:(partL' b fr j).length=j-fr:=AhC b (by omega);have hpn:cur.length+(j-fr)+mo.length<=54:=by
     have:mo.length=grp b:=by rw[hmo]; unfold grp; split <;> rfl
     omega
    have hfin:=fun X' (hX':Quiet X')=>hJ (f,j,dn++[cur++partL' b fr j++mo],gs,false,X') ⟨by grind,by simp only; omega,g3,by grind,fun h=>by grind,fun _=>hgsl,hX',fun p hp=>by
     rcases List.mem_append.1 hp with hp|hp
     .grind
     .rw [List.mem_singleton.1 hp]; grind[lah],by simp; omega⟩ (by simp only; omega)
    apply zgB;simp only[go_sem];refine AqU [6] 99 [] AaF (by decide) rfl rfl 100 ?_;simp only[go_sem,Go.Av.dxq,Go.Av.dxqc,Go.Av.gOnB,↓Go.Av.AbM,↓Go.Av.AaZ,Go.Av.dbrq,laa]
    repeat refine aqb ?_
    refine icc hrm ⟨_,_,rfl,rfl⟩ ?_;rintro _ _ ⟨rfl,rfl⟩;refine⟨.rfl',?_⟩;simp only[go_sem,Go.Av.dxq,Go.Av.dxqc,Go.Av.gOnB,↓Go.Av.AbM,↓Go.Av.AaZ,Go.Av.dbrq,df]
    repeat refine ao ?_
    refine goB rfl 18 ?_;simp only[go_sem];refine acut (ι:=Unit) (fun _=>[(9,.int .i64 ((grp b:Nat):Int)),(8,.int .i64 (fr:Int)),(7,.bool tt),(4,.pin 3 [.agg [.int .i64 (kR b.kind),.fz 1 (b.Lb.map .str),.fz 1 ((spB b).map .bool)]] 0 0),(0,.ptr 0 1 0 0)]) (fun _=>tabP st tp b5 fm X dn cur) (fun _=>True) ?_ ?_
    .intro Jc hJc
     have fc:=hJc () trivial
     cases q3':b.kind==3 with
     | true =>
      have hg1:grp b=1:=by grind
      rw[q3']at k2;rw[hg1]at fc;apply zgB;simp only[go_sem,k2];refine ainv fc (Ls ?_);simp only[go_sem]
     | false =>
      have hg0:grp b=0:=by grind
      rw[q3']at k2;rw[hg0]at fc;apply zgB;simp only[go_sem,k2];refine ainv fc (Ls ?_);simp only[go_sem]
    .rintro ⟨⟩ _
     obtain⟨M,hM⟩:∃ M,M=min (fr+(54-cur.length)-grp b) b.Lb.length:=⟨_,rfl⟩;rw[<- hM]at hj2;have hMl:fr<M:=by
      omega
     apply zgB;simp only[go_sem]
     repeat refine ao ?_
     refine AlB (ι:=Nat) (κ:=Unit) (fun i=>M-i)
      (fun i=>[(11,.int .i64 (i:Int)),(10,.int .i64 (((AcN b fr i).getD fr:Nat)-1:Int)),(9,.int .i64 ((grp b:Nat):Int)),(8,.int .i64 (fr:Int)),(7,.bool tt),(4,.pin 3 [.agg [.int .i64 (kR b.kind),.fz 1 (b.Lb.map .str),.fz 1 ((spB b).map .bool)]] 0 0),(0,.ptr 0 1 0 0)]) (fun _=>tabP st tp b5 fm X dn cur) (fun i=>fr<=i/\i<=M)
      (fun _=>[(10,.int .i64 ((j:Int)-1)),(8,.int .i64 (fr:Int)),(7,.bool tt),(4,.pin 3 [.agg [.int .i64 (kR b.kind),.fz 1 (b.Lb.map .str),.fz 1 ((spB b).map .bool)]] 0 0),(0,.ptr 0 1 0 0)]) (fun _=>tabP st tp b5 fm X dn cur) (fun _=>True) fr ⟨lab _,by omega⟩ ?_ ?_ ?_
     .have hl0:AcN b fr fr=none:=by
       cases fr with
       | zero=>rfl
       | succ q=>grind[AcN]
      rw[hl0];refine Ls ?_;simp only[go_sem];rfl
     .rintro - -
      have hpart:List.drop fr (List.take j (b.Lb.map AV.str))=(partL' b fr j).map .str:=by simp[partL',List.map_drop,List.map_take]
      have hj1:((j:Int)-1+1).toNat=j:=by omega
      apply zgB;simp only[go_sem,hj1,hpart,laa]
      repeat refine ao ?_
      refine za (hput cur (partL' b fr j) (by omega) (by omega)) ?_;rintro _ _ ⟨rfl,rfl⟩;refine goB rfl 11 ?_;simp only[go_sem];refine acut (ι:=Unit) (fun _=>[(10,.int .i64 ((j:Int)-1)),(8,.int .i64 (fr:Int)),(7,.bool tt),(4,.pin 3 [.agg [.int .i64 (kR b.kind),.fz 1 (b.Lb.map .str),.fz 1 ((spB b).map .bool)]] 0 0),(0,.ptr 0 1 0 0)]) (fun _=>tabP st tp b5 fm X dn (cur++partL' b fr j++mo)) (fun _=>True) ?_ ?_
      .intro Jc hJc
       have fc:=hJc () trivial
       cases q3':b.kind==3 with
       | true =>
        rw[q3']at k2 hmo;simp only[if_true]at hmo;have hp2:=hput (cur++partL' b fr j) [AbH] (by simp only[lah]; omega) (by simp);simp only[lak,lao]at hp2;have hm:AbH=Lib.repeatL [32] 20++[40,77,79,82,69,41]:=rfl;have hbl:=AcB 20;apply zgB;simp only[go_sem,k2];refine zpB (hrep) ?_;simp only[go_sem]
        repeat refine ao ?_
        rw[<- hm];refine za (hp2) ?_;rintro _ _ ⟨rfl,rfl⟩;rw[hmo]at fc;apply zgB;simp only[go_sem];refine ainv fc (Ls ?_);simp only[go_sem]
       | false =>
        rw[q3']at k2 hmo;simp only[lan,if_false]at hmo;rw[hmo,lbp]at fc;apply zgB;simp only[go_sem,k2];refine ainv fc (Ls ?_);simp only[go_sem]
      .rintro ⟨⟩ _
       refine AzC (e':=[(10,.int .i64 ((j:Int)-1)),(8,.int .i64 (fr:Int)),(7,.bool tt),(4,.pin 3 [.agg [.int .i64 (kR b.kind),.fz 1 (b.Lb.map .str),.fz 1 ((spB b).map .bool)]] 0 0),(0,.ptr 0 1 0 0)]) q1 q2 q3 g7 (by simp) fm dn (cur++partL' b fr j++mo) (by simp only[go_sem]) fun X' hX'=>?_
       have hput2:=fun ls h=>BgN (AzB st tp b5 false X') (dn++[cur++partL' b fr j++mo]) [] ls (by simp; omega) (by simp) h
       refine goB rfl 33 ?_;simp only[go_sem,laa]
       repeat refine And.intro (by grind) ?_
       refine AWp.shift (AiJ (dn++[cur++partL' b fr j++mo]) (by simp)) ?_;refine acut (ι:=Unit) (fun _=>[(10,.int .i64 ((j:Int)-1)),(7,.bool tt),(4,.pin 3 [.agg [.int .i64 (kR b.kind),.fz 1 (b.Lb.map .str),.fz 1 ((spB b).map .bool)]] 0 0),(0,.ptr 0 1 0 0)]) (fun _=>tabP st tp b5 false X' (dn++[cur++partL' b fr j++mo]) gs) (fun _=>True) ?_ ?_
       .intro Jc hJc
        have fc:=hJc () trivial
        cases q3':b.kind==3 with
        | true =>
         rw[q3']at k2 hgs;simp only[if_true]at hgs;have hp2:=hput2 [goesLn b] (by simp);simp only[lak,lao,lbs]at hp2;have hm:goesLn b=indent 20 b.name++[32,40,67,79,78,84,39,68,41]:=rfl;have hl0:List.getD (b.Lb.map AV.str) 0 .any=.str (indent 20 b.name):=by
          rw[<- hln (by grind)]
          simp[List.getD,hlen]
         have hll:=hsh _ (lac hlen);have hl1:(indent 20 b.name).length<=1000000:=by
          rw[<- hln (by grind)]
          simpa[List.getD,hlen]using hll
         apply zgB;simp only[go_sem,k2,hl0,laa]
         repeat refine ao ?_
         rw[<- hm];refine za (hp2) ?_;rintro _ _ ⟨rfl,rfl⟩;rw[hgs]at fc;apply zgB;simp only[go_sem];refine ainv fc (Ls ?_);simp only[go_sem]
        | false =>
         rw[q3']at k2 hgs;simp only[lan,if_false]at hgs;rw[hgs]at fc;apply zgB;simp only[go_sem,k2];refine ainv fc (Ls ?_);simp only[go_sem]
       .rintro ⟨⟩ _
        have hf2:=hfin X' hX';have e1:(j:Int)-1+1=(j:Int):=by omega
        apply zgB;simp only[go_sem,e1]
        repeat refine ao ?_
        refine ainv hf2 (Ls ?_);simp only[go_sem]
     .rintro i ⟨e1,e2⟩ J2 Q hJ2 hQ
      by_cases hi:i<M
      .have d1:decide ((i:Int)<(b.Lb.length:Int))=true:=by rw[laj]; omega
       have d2:decide ((i:Int)-fr+1+((grp b:Nat):Int)<=((54-cur.length:Nat):Int))=true:=by rw[laj]; omega
       have hm:=hmb fr i (by omega) (by omega);have hnx:=hJ2 (i+1) ⟨by omega,by omega⟩ (by omega);simp only[AcN]at hnx;rw[if_pos (by omega)]at hnx;apply zgB;simp only[go_sem,d1,laa]
       repeat refine ao ?_
       refine za (hrm) ?_;rintro _ _ ⟨rfl,rfl⟩;apply zgB;simp only[go_sem,d2]
       repeat refine ao ?_
       refine zpB (hm) ?_
       cases hq:breaksL b fr (i+1)with
       | true =>
        rw[hq,if_pos rfl]at hnx;simp only[go_sem]
        repeat refine ao ?_
        rw[ic i];refine ainv hnx (Ls ?_);simp only[go_sem,Option.getD_some]
        simp
       | false =>
        rw[hq,if_neg (by simp)]at hnx;simp only[go_sem]
        repeat refine ao ?_
        rw[ic i];refine ainv hnx (Ls ?_);simp only[go_sem]
      .have eM:i=M:=by omega
       subst eM;have hq:=hQ () trivial;rw[hj2,Option.getD_some]
       by_cases hl:i<b.Lb.length
       .have d1:decide ((i:Int)<(b.Lb.length:Int))=true:=by grind
        have d2:decide ((i:Int)-fr+1+((grp b:Nat):Int)<=((54-cur.length:Nat):Int))=false:=by rw[lai]; omega
        apply zgB;simp only[go_sem,d1,laa]
        repeat refine ao ?_
        refine za (hrm) ?_;rintro _ _ ⟨rfl,rfl⟩;apply zgB;simp only[go_sem,d2];refine ainv hq (Ls ?_);simp only[go_sem]
       .have d1:decide ((i:Int)<(b.Lb.length:Int))=false:=by omega
        apply zgB;simp only[go_sem,d1,laa];refine ainv hq (Ls ?_);omega
end Go.Proofs.YtmhjbljckkgeoaaGreatDoor
namespace Go.Av
open RowKit
variable [Tr]
section
variable {h H:Mem}{ρ:Own}{s:LB}{w:World}
theorem A6H(hH:∀ b o v,h b o=some v->H b o=some v){v:Value}{a:AV}(m:Mine h ρ s w)(r:RV h (Lf ρ s) false v a)(hf:frozen a=true):RV (H) Lf0 true v a :=
 (AhU r hf).thaw hH
theorem ApO{n:Nat}(hn:∀ {v:Value}{a:AV},RV h (Lf ρ s) false v a->RV (H) Lf0 true v (bor n s a)):∀ {l:LY}{vs:List Value},RL h (Lf ρ s) false vs l->RL (H) Lf0 true vs (l.map (bor n s))
 | [],_,r=>by cases r; exact .nil
 | a::l,_,r=>by cases r with|cons r1 r2=>exact .cons (hn r1) (ApO hn r2)
theorem A2R(hH:∀ b o v,h b o=some v->H b o=some v)(hO:∀ i g t o v,ρ i=some (g,t)->w.cell? ⟨g,o,none⟩=some v->v.oneCell'=true->H g o=some v)(m:Mine h ρ s w):∀ (n:Nat){v:Value}{a:AV},RV h (Lf ρ s) false v a->RV (H) Lf0 true v (bor n s a)
 | 0,v,a,r=>by
  cases a with
  | sl id o l c=>exact .any _
  | ptr id m i o=>exact .any _
  | mp id=>exact .any _
  | agg r=>exact .any _
  | tup r=>exact .any _
  | fn f r=>exact .any _
  | _=>exact A6H hH m r rfl
 | n+1,v,a,r=>by
  cases a with
  | sl id off len cap =>
   rw[AqO];have hl:=(AbL r).2
   cases hq:s[id]? with
   | none=>grind[LfC]
   | some b =>
    have hgd:s.getD id .dead=b:=by grind
    rw[hgd]
    cases b with
    | arr e l =>
     simp only
     cases hd:decide (off+cap=l.length)&&decide (len<=cap)with
     | false=>exact .any _
     | true =>
      simp at hd
      obtain⟨hc,hlc⟩:=hd;simp only[LfC,hq]at hl
      rcases hl.2 hc with⟨rfl,rfl,a,rfl⟩|⟨g,tot,h1,rfl,_⟩
      .cases a with
       | none=>simpa[at0]using RV.fznil e
       | some a=>simpa[at0]using RV.fz a.1 a.2 0 e [] [] .nil (by simp) (by simp) (lab _)
      .rcases m.own id _ hq with⟨_,hn⟩|⟨g',tot',cur,t,h3,h4,h5,h6,h7,h8,h9,h10,h11⟩
       .grind
       .have hlen:(((l.drop off).take len).map (borC n s)).length=len:=by grind
        have hr:RL (H) Lf0 true (((cur.toList.take (l.length*e)).drop (off*e)).take (len*e)) (flat (((l.drop off).take len).map (borC n s))):=by
         rw[bor_flat,<- AbK (fun x hx=>h9 x (lav hx)) len,<- AaV h9 off,List.map_take,List.map_drop];exact((ApO (fun r=>A2R hH hO m n r) h11).drop _).take _
        have:=RV.fz (fl:=true) g' (off*e) (tot'-off) e (((l.drop off).take len).map (borC n s)) _ hr (fun x hx=>by
         grind[bor_cells]) (fun k v hk=>by
         rw[lcd]at hk
         split at hk
         .rw [List.getElem?_drop,lcd]at hk
          split at hk
          .have h12:=h10 v (lar hk)
           exact hO id _ _ _ _ h3 (by rw[h4.cell,<- lbm,hk]) h12
          grind
         grind) (by omega)
        grind
    | _=>exact .any _
  | ptr id m i o=>exact .any _
  | mp id=>exact .any _
  | agg r=>exact .any _
  | tup r=>exact .any _
  | fn f r=>exact .any _
  | _=>exact A6H hH m r rfl
theorem A6I(hH:∀ b o v,h b o=some v->H b o=some v)(hO:∀ i g t o v,ρ i=some (g,t)->w.cell? ⟨g,o,none⟩=some v->v.oneCell'=true->H g o=some v)(m:Mine h ρ s w)(n:Nat){v:Value}{a:AV}(r:RV h (Lf ρ s) false v a):RV (H) Lf0 true v (borC n s a):=by
 cases a with
 | agg l =>
  obtain⟨vs,rfl,rl⟩:=inv_agg r;exact .agg vs _ (ApO (fun r=>A2R hH hO m n r) rl)
 | _=>exact A2R hH hO m n r
theorem AzD(hH:∀ b o v,h b o=some v->H b o=some v)(hO:∀ i g t o v,ρ i=some (g,t)->w.cell? ⟨g,o,none⟩=some v->v.oneCell'=true->H g o=some v)(m:Mine h ρ s w)(n:Nat):∀ {l:LY}{vs:List Value},RL h (Lf ρ s) false vs l->RL (H) Lf0 true vs (l.map (borC n s))
 | [],_,r=>by cases r; exact .nil
 | a::l,_,r=>by cases r with|cons r1 r2=>exact .cons (A6I hH hO m n r1) (AzD hH hO m n r2)
end
def borV(n:Nat)(s:LB):AV->AV
 | .tup r=>.tup (r.map (borC n s))
 | x=>borC n s x
theorem PcH.ofOwn{P:Program}{g:Std}{f:FuncId}{args:LY}{post:AV->LB->Prop}(n:Nat)(hc:CtH P g f args [] post):PcH P g f args (fun r=>∃ r' s,post r' s/\r=borV n s r'):=by
 refine⟨hc.1,fun h w vs hg hm hv=>?_⟩;have hmine:Mine h (fun _=>none) [] w:=⟨hm,fun id blk e=>by grind,fun _ _=>rfl,fun i j g t t' e=>by grind,fun i g t e=>by grind⟩;refine(hc.2 h (fun _=>none) w vs (fun k o e=>⟨hg k o e,fun i t hi=>by grind⟩) hmine (hv.thaw (fun _ _ _ x=>x))).mono ?_;rintro en w' ⟨v,r,s,h',ρ',rfl,hp,hm',hl,rv⟩;have hnew:∀ b o,h b o=none->h' b o≠none->w.heap.size<=b:=fun b o e n=>by
  rcases hl.hnew b o e n with⟨j,t,hj⟩|hs<;>grind
 have hgood:∀ i g t,ρ' i=some (g,t)->w.heap.size<=g:=fun i g t e=>by
  rcases hl.newown i g t e with⟨j,t',hj⟩|h<;>grind
 obtain⟨H,hHd⟩:∃ H:Mem,H=fun b o=>if b<w.heap.size then h b o else AeJ w' b o:=⟨_,rfl⟩
 have e1:∀ b o,b<w.heap.size->H b o=h b o:=fun b o hb=>by grind
 have e2:∀ b o,w.heap.size<=b->H b o=AeJ w' b o:=fun b o hb=>by grind
 have hlow:∀ b o v,h b o=some v->b<w.heap.size:=fun b o v e=>hmine.memlt e
 have hH:∀ b o v,h' b o=some v->H b o=some v:=fun b o v e=>by
  by_cases hb:b<w.heap.size
  .rw [e1 b o hb]
   cases hq:h b o with
   | none=>grind
   | some u=>rw[<- e,hl.hle b o u hq]
  .rw [e2 b o (by omega)]
   exact A4D hm'.mem b o v e
 have hO:∀ i g t o v,ρ' i=some (g,t)->w'.cell? ⟨g,o,none⟩=some v->v.oneCell'=true->H g o=some v:=fun i g t o v e hc h1=>by
  grind[AeJ]
 refine⟨v,borV n s r,H,rfl,⟨r,s,hp,rfl⟩,fun b o v e=>?_,fun b o v e=>?_,fun b o e n=>?_,⟨hl.os,hl.tape,hl.output,hl.size,fun k hk=>hl.block k hk (fun i t e=>by grind)⟩,?_⟩
 .by_cases hb:b<w.heap.size
  .rw [e1 b o hb]at e
   exact hm'.mem b o v (hl.hle b o v e)
  grind[AnF]
 .grind
 .grind
 .cases r with
  | tup l =>
   obtain⟨us,rfl,rl⟩:=AsB rv;exact .tup us _ (AzD hH hO hm' n rl)
  | _=>exact A6I hH hO hm' n rv
theorem Pc.ofOwn{P:Program}{f:FuncId}{args:LY}{post:AV->LB->Prop}(n:Nat)(hc:Ct P f args [] post):Pc P f args (fun r=>∃ r' s,post r' s/\r=borV n s r'):=by
 have h:=PcH.ofOwn (g:=fun _=>none) n hc.toH;exact⟨h.1,fun hh w vs hm hv=>h.2 hh w vs (fun k o e=>by cases e) hm hv⟩
