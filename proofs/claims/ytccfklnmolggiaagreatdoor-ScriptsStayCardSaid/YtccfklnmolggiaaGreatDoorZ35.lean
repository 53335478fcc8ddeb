/- Blocks on pages, as the reference lays them: fill. -/
import Derived.Test.YtccfklnmolggiaaGreatDoorZ34
set_option maxRecDepth 100000
set_option maxHeartbeats 8000000
set_option linter.all false
namespace Go.Proofs.YtccfklnmolggiaaGreatDoor
open Av RowKit Proofs.Tryz
def tab0(st tp b5 X:Blk)(ps:List (List Ln))(s:LB):Prop :=
 (ps=[]/\s=[.arr 1 [.agg [.sl 3 0 0 0]],st,tp,.arr 1 [],X,b5])\/∃ dn cur,ps=dn++[cur]/\s=tabP st tp b5 true X dn cur
def FillR(st tp b5:Blk)(ps':List (List Ln))(s:LB):Prop:=∃ f X dn cur,Quiet X/\ps'=dn++[cur]/\s=tabP st tp b5 f X dn cur
structure FiI(b:Bl)(R:List (List Ln))(x:Nat×Nat×List (List Ln)×List Ln×Bool×Blk):Prop where
 fr:x.2.1<b.La.length
 fu:b.La.length-x.2.1<x.1
 go:fillGo b x.1 x.2.1 (x.2.2.1++[x.2.2.2.1])=R
 len:x.2.2.2.1.length<=54
 h0:x.2.1=0->AaH b<=54-x.2.2.2.1.length
 h1:0<x.2.1->x.2.2.2.1.length=grp b
 q:Quiet x.2.2.2.2.2
 all:∀ p∈x.2.2.1,p.length<=54
 many:x.2.2.1.length<=100000+x.2.1
theorem BiB(b:Bl)(hb:BrkOk b)(hr:RbOk b)(hln:b.kind=3->b.La.getD 0 []=indent 20 b.name)(hsh:∀ l∈b.La,l.length<=1000000)(hmx:b.La.length<=500000)(need:Nat)(hneed:AaH b<=need)(hneed2:need<=1000000){st tp b5 X:Blk}(q1:Quiet st)(q2:Quiet tp)(q3:Quiet b5)(qX:Quiet X)
  (ps:List (List Ln)) (hps:∀ p∈ps,p.length<=54) (hpl:ps.length<=90000) (s:LB) (hs:tab0 st tp b5 X ps s) :
  Ct prog 69 [.ptr 0 1 0 0,rbA b,.int .i64 (need:Int)] s (fun r s'=>r=.bool (topR b need ps)/\FillR st tp b5 (fillR b need ps) s'):=by
 obtain⟨k1,k2,k0⟩:=AuF hr;have hgap:=BhW b hr;have hlen:0<b.La.length:=List.length_pos_iff.2 hb.some;have hle:=hb.least;have hgl:gapN b<=2:=by unfold gapN; split <;> omega
 have hrep:=AdJ [32] 20 (by simp) (by omega);have hmb:=fun fr k hf hk=>AmJ b hr fr k hf hk
 simp only[rbA]at hgap hmb |-;obtain⟨R,hR⟩:∃ R,R=fillR b need ps:=⟨_,rfl⟩;obtain⟨tt,htt⟩:∃ tt,tt=topR b need ps:=⟨_,rfl⟩;rw[<- hR,<- htt];unfold fillR at hR;rw[<- htt]at hR;refine hs.elim (fun hs1=>?_) (fun hs2=>(Classical.em (tt=true)).elim (fun ht=>?_) (fun ht=>?_));obtain⟨rfl,rfl⟩:=hs1;have ht:tt=true:=by rw[htt]; simp[topR]
 rw[ht]at hR;simp only[if_true,lbm]at hR;refine zcIB func69 rfl fun h ρ w=>?_
 simp only[go_sem];refine zr [] AaJ ?_;simp only[go_sem]
 repeat refine aqb ?_
 apply zgB;simp only[go_sem]
 repeat refine And.intro (by first|omega|exact .inl trivial|exact .inl (.inl trivial)|rfl|(simp; done)|(simp; omega)) ?_
 refine AWp.shift (Shift.trans (AgU [] rfl) (Lo (e':=[(8,.int .i64 ((0:Nat):Int)),(7,.bool tt),(4,.pin 3 [.agg [.int .i64 (kR b.kind),.fz 1 (b.La.map .str),.fz 1 ((spB b).map .bool)]] 0 0),(0,.ptr 0 1 0 0)]) (by rw[ht]; simp only[go_sem]))) ?_;obtain⟨f0,X0,dn0,cur0,i1,i2,i3,i4,i5,i6,i7⟩:∃ f X' dn cur,Quiet X'/\fillGo b (b.La.length+1) 0 (dn++[cur])=R/\AaH b<=54-cur.length/\cur.length<=54/\(∀ p∈dn,p.length<=54)/\dn.length<=100000/\tabP st tp b5 false X [] []=tabP st tp b5 f X' dn cur :=
  ⟨false,X,[],[],qX,hR.symm,by simp <;> omega,by simp,by simp,by simp,rfl⟩
 rw[i7]
 rotate_left
 obtain⟨dn,cur,rfl,rfl⟩:=hs2;rw[ht]at hR;have hrm:=AqU (AuI st tp b5 true X) dn cur (by simp at hpl; omega) (fun p hp=>hps p (by simp[hp])) (hps cur (by simp));have hc54:=hps cur (by simp);have d0:(((dn.length+1:Nat):Int)==0)=false:=by rw[lbd]; omega
 have d1:decide (((54-cur.length:Nat):Int)<((gapN b:Nat):Int)+(need:Int))=true:=by
  have:=htt.symm.trans ht;simp only[topR,room_snoc,lbj,lao]at this
  rcases this with h|h
  .simp at h
  .rw [lao]; omega
 simp only[if_true]at hR;have hpl2:dn.length+1<=90000:=by simpa using hpl
 have hdnp:∀ p∈dn++[cur],p.length<=54:=hps;simp only[tabP,shS,TF,icF]at hrm |-;refine zcIB func69 rfl fun h ρ w=>?_
 simp only[go_sem];refine AzW [8] 99 [.int .i64 ((gapN b:Nat):Int)] AaJ (by decide) rfl rfl 100 ?_;simp only[go_sem,Go.Av.dxq,Go.Av.dxqc,Go.Av.gOnB,↓Go.Av.AcS,↓Go.Av.AcC,Go.Av.dbrq,d0,laa]
 repeat refine aqb ?_
 refine icc hrm ⟨_,_,rfl,rfl⟩ ?_;rintro _ _ ⟨rfl,rfl⟩;refine⟨.rfl',?_⟩;simp only[go_sem,Go.Av.dxq,Go.Av.dxqc,Go.Av.gOnB,↓Go.Av.AcS,↓Go.Av.AcC,Go.Av.dbrq]
 repeat refine And.intro (by first|omega|exact hgap.at|exact .inl trivial|rfl|(simp; done)|(simp; omega)) ?_
 rw[d1];refine AuJ (e':=[(7,.bool true),(4,.pin 3 [.agg [.int .i64 (kR b.kind),.fz 1 (b.La.map .str),.fz 1 ((spB b).map .bool)]] 0 0),(0,.ptr 0 1 0 0)]) q1 q2 q3 qX (by simp) true dn cur (by simp only[go_sem]) fun X' hX'=>?_
 apply zgB;simp only[go_sem,laa]
 repeat refine And.intro (by first|omega|exact .inl trivial|exact .inl (.inl trivial)|rfl|(simp; done)|(simp; omega)) ?_
 refine AWp.shift (Shift.trans (AgU (dn++[cur]) (by simp)) (Lo (e':=[(8,.int .i64 ((0:Nat):Int)),(7,.bool tt),(4,.pin 3 [.agg [.int .i64 (kR b.kind),.fz 1 (b.La.map .str),.fz 1 ((spB b).map .bool)]] 0 0),(0,.ptr 0 1 0 0)]) (by rw[ht]; simp only[go_sem]))) ?_;obtain⟨f0,X0,dn0,cur0,i1,i2,i3,i4,i5,i6,i7⟩:∃ f Y dn2 cur2,Quiet Y/\fillGo b (b.La.length+1) 0 (dn2++[cur2])=R/\AaH b<=54-cur2.length/\cur2.length<=54/\(∀ p∈dn2,p.length<=54)/\dn2.length<=100000/\tabP st tp b5 false X' (dn++[cur]) []=tabP st tp b5 f Y dn2 cur2 :=
  ⟨false,X',dn++[cur],[],hX',hR.symm,by simp <;> omega,by simp,hdnp,by simp <;> omega,rfl⟩
 rw[i7]
 rotate_left
 obtain⟨dn,cur,rfl,rfl⟩:=hs2;have ht:tt=false:=by simpa using ht
 rw[ht]at hR;have hrm:=AqU (AuI st tp b5 true X) dn cur (by simp at hpl; omega) (fun p hp=>hps p (by simp[hp])) (hps cur (by simp));have hc54:=hps cur (by simp);have d0:(((dn.length+1:Nat):Int)==0)=false:=by rw[lbd]; omega
 have d1:gapN b+need<=54-cur.length/\decide (((54-cur.length:Nat):Int)<((gapN b:Nat):Int)+(need:Int))=false:=by
  have:=htt.symm.trans ht;simp only[topR,room_snoc,Bool.or_eq_false_iff,lbu]at this;refine⟨by omega,?_⟩;rw[lbu]; omega
 obtain⟨d2,d1⟩:=d1;simp only[lan,if_false,put_snoc]at hR;have hpl2:dn.length+1<=90000:=by simpa using hpl
 have hdnp:∀ p∈dn,p.length<=54:=fun p hp=>hps p (by simp[hp])
 have hzr:List.replicate (gapN b) (AV.str [])=(List.replicate (gapN b) ([]:Ln)).map .str:=by simp
 have hput:=BhZ (S:=fun n L K=>TF st tp b5 true X n L K++[.arr 1 ((List.replicate (gapN b) ([]:Ln)).map .str)]) (is:=0) (ip:=3) (ic:=4)
  ⟨fun _ _ _=>rfl,fun _ _ _=>rfl,fun _ _ _=>rfl,fun _ _ _ _=>rfl,fun _ _ _ _=>rfl,fun _ _ _ _=>rfl,fun _ _ _=>by simp[TF],fun _ _ _=>by simp[TF],by decide,by decide⟩
  dn cur (List.replicate (gapN b) []) 6 (fun _ _ _=>rfl) (by decide) (fun _ _ _=>by simp[TF]) (by omega) (by omega) (by simp; omega)
 simp only[lbz,shS,TF,las,lbm]at hput;simp only[tabP,shS,TF,icF]at hrm |-;refine zcIB func69 rfl fun h ρ w=>?_
 simp only[go_sem];refine AzW [8] 99 [.int .i64 ((gapN b:Nat):Int)] AaJ (by decide) rfl rfl 100 ?_;simp only[go_sem,Go.Av.dxq,Go.Av.dxqc,Go.Av.gOnB,↓Go.Av.AcS,↓Go.Av.AcC,Go.Av.dbrq,d0,laa]
 repeat refine aqb ?_
 refine icc hrm ⟨_,_,rfl,rfl⟩ ?_;rintro _ _ ⟨rfl,rfl⟩;refine⟨.rfl',?_⟩;simp only[go_sem,Go.Av.dxq,Go.Av.dxqc,Go.Av.gOnB,↓Go.Av.AcS,↓Go.Av.AcC,Go.Av.dbrq]
 repeat refine And.intro (by first|omega|exact hgap.at|exact .inl trivial|rfl|(simp; done)|(simp; omega)) ?_
 rw[d1];apply zgB;simp only[go_sem];refine zpB (hgap) ?_;simp only[go_sem,hzr]
 repeat refine aqb ?_
 refine za (hput) ?_;rintro _ _ ⟨rfl,rfl⟩;apply zgB;simp only[go_sem];have hlw:=BiA (X:=X) q1 q2 q3 dn (cur++List.replicate (gapN b) []);simp only[tabP,shS,TF,icF]at hlw;refine AWp.shift (Shift.trans (Shift.low 6 (e':=[(8,.int .i64 ((0:Nat):Int)),(7,.bool tt),(4,.pin 3 [.agg [.int .i64 (kR b.kind),.fz 1 (b.La.map .str),.fz 1 ((spB b).map .bool)]] 0 0),(0,.ptr 0 1 0 0)]) (by simp) (by simp) (by simpa using hlw) (by rw[ht]; simp only[go_sem]))
  (Lp (e':=[(8,.int .i64 ((0:Nat):Int)),(7,.bool tt),(4,.pin 3 [.agg [.int .i64 (kR b.kind),.fz 1 (b.La.map .str),.fz 1 ((spB b).map .bool)]] 0 0),(0,.ptr 0 1 0 0)]) (s':=tabP st tp b5 true X dn (cur++List.replicate (gapN b) [])) (by rw[ht]; simp only[go_sem]) (by simp[tabP,shS,TF,icF]))) ?_
 obtain⟨f0,X0,dn0,cur0,i1,i2,i3,i4,i5,i6,i7⟩:∃ f Y dn2 cur2,Quiet Y/\fillGo b (b.La.length+1) 0 (dn2++[cur2])=R/\AaH b<=54-cur2.length/\cur2.length<=54/\(∀ p∈dn2,p.length<=54)/\dn2.length<=100000/\tabP st tp b5 true X dn (cur++List.replicate (gapN b) [])=tabP st tp b5 f Y dn2 cur2 :=
  ⟨true,X,dn,cur++List.replicate (gapN b) [],qX,hR.symm,by simp <;> omega,by simp <;> omega,hdnp,by omega,rfl⟩
 rw[i7]
 all_goals
  clear htt hR;refine AaI (ι:=Nat×Nat×List (List Ln)×List Ln×Bool×Blk) (fun x=>b.La.length-x.2.1)
   (fun x=>[(8,.int .i64 (x.2.1:Int)),(7,.bool tt),(4,.pin 3 [.agg [.int .i64 (kR b.kind),.fz 1 (b.La.map .str),.fz 1 ((spB b).map .bool)]] 0 0),(0,.ptr 0 1 0 0)])
   (fun x=>tabP st tp b5 x.2.2.2.2.1 x.2.2.2.2.2 x.2.2.1 x.2.2.2.1) (FiI b R) (b.La.length+1,0,dn0,cur0,f0,X0) ⟨hlen,by simp,i2,i4,fun _=>i3,fun h=>by simp at h,i1,i5,by simpa using i6⟩ ?_ ?_
  .exact Shift.refl
  .rintro ⟨f,fr,dn,cur,fm,X⟩ ⟨g1,g2,g3,g4,g5,g6,g7,g8,g9⟩ J hJ
   simp only at g1 g2 g3 g4 g5 g6 g7 g8 g9 hJ |-;obtain⟨f,rfl⟩:∃ k,f=k+1:=⟨f-1,by omega⟩;have hrm:=AqU (AuI st tp b5 fm X) dn cur (by omega) g8 g4;have hput:=fun cur' ls h h2=>A8P (AuI st tp b5 fm X) dn cur' ls (by omega) h h2
   have hroom:AqR (dn++[cur])=54-cur.length:=room_snoc _ _;have hdrop:List.drop fr (b.La.map AV.str)=(b.La.drop fr).map .str:=List.map_drop.symm;simp only[fillGo,hroom]at g3
   by_cases hf:b.La.length-fr<=54-cur.length
   .have df:decide ((b.La.length:Int)-fr<=((54-cur.length:Nat):Int))=true:=by rw[lao]; omega
    rw[if_pos hf,put_snoc]at g3;apply zgB;simp only[go_sem];refine AzW [6] 99 [] AaJ (by decide) rfl rfl 100 ?_;simp only[go_sem,Go.Av.dxq,Go.Av.dxqc,Go.Av.gOnB,↓Go.Av.AcS,↓Go.Av.AcC,Go.Av.dbrq,laa]
    repeat refine aqb ?_
    refine icc hrm ⟨_,_,rfl,rfl⟩ ?_;rintro _ _ ⟨rfl,rfl⟩;refine⟨.rfl',?_⟩;simp only[go_sem,Go.Av.dxq,Go.Av.dxqc,Go.Av.gOnB,↓Go.Av.AcS,↓Go.Av.AcC,Go.Av.dbrq,df]
    repeat refine aqb ?_
    apply zgB;simp only[go_sem,hdrop,laa]
    repeat refine aqb ?_
    refine za (hput cur (b.La.drop fr) (by omega) (by simp; omega)) ?_;rintro _ _ ⟨rfl,rfl⟩;apply zgB;simp only[go_sem];exact aret [6] rfl ⟨rfl,fm,X,dn,cur++b.La.drop fr,g7,g3.symm,rfl⟩
   .have df:decide ((b.La.length:Int)-fr<=((54-cur.length:Nat):Int))=false:=by rw[lbu]; omega
    rw[if_neg hf]at g3;have hex:∃ j,AcD b fr (min (fr+(54-cur.length)-grp b) (b.La.length-1))=some j:=by
     by_cases z:fr=0
     .subst z
      have:=(hb.first (54-cur.length) (g5 rfl)).resolve_left (by omega)
      simpa using this
     .have hp:=g6 (by omega)
      rw[hp];rw[hp]at hf;exact(hb.next fr (by omega) g1).resolve_left hf
    obtain⟨j,hj⟩:=hex;have hj2:AcD b fr (min (fr+(54-cur.length)-grp b) b.La.length)=some j:=by rw[A8H b fr _ g1]; exact hj
    have ht2:tzR b fr (54-cur.length)=j:=by unfold tzR; rw[hj2]; rfl
    have hjl:=AjV b fr _ _ hj;have hgr:grp b<=1:=by unfold grp; split <;> omega
    rw[ht2]at g3;obtain⟨mo,hmo⟩:∃ mo,mo=(if b.kind==3 then[AbX] else([]:List Ln)):=⟨_,rfl⟩;obtain⟨gs,hgs⟩:∃ gs,gs=(if b.kind==3 then[goesLn b] else([]:List Ln)):=⟨_,rfl⟩;have hmol:mo.length<=1:=by rw[hmo]; split <;> simp
    have hgsl:gs.length=grp b:=by rw[hgs]; unfold grp; split <;> rfl
    have hturn:turnR b fr j (dn++[cur])=(dn++[cur++partL' b fr j++mo])++[gs]:=by
     unfold turnR;rw[<- hmo,<- hgs,put_snoc,put_snoc,put_snoc]; rfl
    rw[hturn]at g3;have hpl:(partL' b fr j).length=j-fr:=AgD b (by omega);have hpn:cur.length+(j-fr)+mo.length<=54:=by
     have:mo.length=grp b:=by rw[hmo]; unfold grp; split <;> rfl
     omega
    have hfin:=fun X' (hX':Quiet X')=>hJ (f,j,dn++[cur++partL' b fr j++mo],gs,false,X') ⟨by simp only; omega,by simp only; omega,g3,by simp only; omega,fun h=>by simp only at h; omega,fun _=>hgsl,hX',fun p hp=>by
     rcases List.mem_append.1 hp with hp|hp
     .exact g8 p hp
     .rw [List.mem_singleton.1 hp]; simp only[lak,hpl]; omega,by simp; omega⟩ (by simp only; omega)
    apply zgB;simp only[go_sem];refine AzW [6] 99 [] AaJ (by decide) rfl rfl 100 ?_;simp only[go_sem,Go.Av.dxq,Go.Av.dxqc,Go.Av.gOnB,↓Go.Av.AcS,↓Go.Av.AcC,Go.Av.dbrq,laa]
    repeat refine aqb ?_
    refine icc hrm ⟨_,_,rfl,rfl⟩ ?_;rintro _ _ ⟨rfl,rfl⟩;refine⟨.rfl',?_⟩;simp only[go_sem,Go.Av.dxq,Go.Av.dxqc,Go.Av.gOnB,↓Go.Av.AcS,↓Go.Av.AcC,Go.Av.dbrq,df]
    repeat refine aqb ?_
    refine goB rfl 18 ?_;simp only[go_sem];refine acut (ι:=Unit) (fun _=>[(9,.int .i64 ((grp b:Nat):Int)),(8,.int .i64 (fr:Int)),(7,.bool tt),(4,.pin 3 [.agg [.int .i64 (kR b.kind),.fz 1 (b.La.map .str),.fz 1 ((spB b).map .bool)]] 0 0),(0,.ptr 0 1 0 0)]) (fun _=>tabP st tp b5 fm X dn cur) (fun _=>True) ?_ ?_
    .intro Jc hJc
     have fc:=hJc () trivial
     cases q3':b.kind==3 with
     | true =>
      have hg1:grp b=1:=by unfold grp; rw[q3']; rfl
      rw[q3']at k2;rw[hg1]at fc;apply zgB;simp only[go_sem,k2];refine ainv fc (Lo ?_);simp only[go_sem]
     | false =>
      have hg0:grp b=0:=by unfold grp; rw[q3']; rfl
      rw[q3']at k2;rw[hg0]at fc;apply zgB;simp only[go_sem,k2];refine ainv fc (Lo ?_);simp only[go_sem]
    .rintro ⟨⟩ _
     obtain⟨M,hM⟩:∃ M,M=min (fr+(54-cur.length)-grp b) b.La.length:=⟨_,rfl⟩;rw[<- hM]at hj2;have hMl:fr<M:=by
      rw[hM];have:=Nat.le_trans (Nat.succ_le_of_lt hjl.1) hjl.2;omega
     apply zgB;simp only[go_sem]
     repeat refine aqb ?_
     refine AyG (ι:=Nat) (κ:=Unit) (fun i=>M-i)
      (fun i=>[(11,.int .i64 (i:Int)),(10,.int .i64 (((AcD b fr i).getD fr:Nat)-1:Int)),(9,.int .i64 ((grp b:Nat):Int)),(8,.int .i64 (fr:Int)),(7,.bool tt),(4,.pin 3 [.agg [.int .i64 (kR b.kind),.fz 1 (b.La.map .str),.fz 1 ((spB b).map .bool)]] 0 0),(0,.ptr 0 1 0 0)]) (fun _=>tabP st tp b5 fm X dn cur) (fun i=>fr<=i/\i<=M)
      (fun _=>[(10,.int .i64 ((j:Int)-1)),(8,.int .i64 (fr:Int)),(7,.bool tt),(4,.pin 3 [.agg [.int .i64 (kR b.kind),.fz 1 (b.La.map .str),.fz 1 ((spB b).map .bool)]] 0 0),(0,.ptr 0 1 0 0)]) (fun _=>tabP st tp b5 fm X dn cur) (fun _=>True) fr ⟨lab _,by omega⟩ ?_ ?_ ?_
     .have hl0:AcD b fr fr=none:=by
       cases fr with
       | zero=>rfl
       | succ q=>simp only[AcD]; rw[if_neg (by omega)]
      rw[hl0];refine Lo ?_;simp only[go_sem];rfl
     .rintro - -
      have hpart:List.drop fr (List.take j (b.La.map AV.str))=(partL' b fr j).map .str:=by simp[partL',List.map_drop,List.map_take]
      have hj1:((j:Int)-1+1).toNat=j:=by omega
      apply zgB;simp only[go_sem,hj1,hpart,laa]
      repeat refine aqb ?_
      refine za (hput cur (partL' b fr j) (by omega) (by omega)) ?_;rintro _ _ ⟨rfl,rfl⟩;refine goB rfl 11 ?_;simp only[go_sem];refine acut (ι:=Unit) (fun _=>[(10,.int .i64 ((j:Int)-1)),(8,.int .i64 (fr:Int)),(7,.bool tt),(4,.pin 3 [.agg [.int .i64 (kR b.kind),.fz 1 (b.La.map .str),.fz 1 ((spB b).map .bool)]] 0 0),(0,.ptr 0 1 0 0)]) (fun _=>tabP st tp b5 fm X dn (cur++partL' b fr j++mo)) (fun _=>True) ?_ ?_
      .intro Jc hJc
       have fc:=hJc () trivial
       cases q3':b.kind==3 with
       | true =>
        rw[q3']at k2 hmo;simp only[if_true]at hmo;have hp2:=hput (cur++partL' b fr j) [AbX] (by simp only[lak]; omega) (by simp);simp only[lah,laq]at hp2;have hm:AbX=Lib.repeatL [32] 20++[40,77,79,82,69,41]:=rfl;have hbl:=AbP 20;apply zgB;simp only[go_sem,k2];refine zpB (hrep) ?_;simp only[go_sem]
        repeat refine aqb ?_
        rw[<- hm];refine za (hp2) ?_;rintro _ _ ⟨rfl,rfl⟩;rw[hmo]at fc;apply zgB;simp only[go_sem];refine ainv fc (Lo ?_);simp only[go_sem]
       | false =>
        rw[q3']at k2 hmo;simp only[lan,if_false]at hmo;rw[hmo,lbg]at fc;apply zgB;simp only[go_sem,k2];refine ainv fc (Lo ?_);simp only[go_sem]
      .rintro ⟨⟩ _
       refine AuJ (e':=[(10,.int .i64 ((j:Int)-1)),(8,.int .i64 (fr:Int)),(7,.bool tt),(4,.pin 3 [.agg [.int .i64 (kR b.kind),.fz 1 (b.La.map .str),.fz 1 ((spB b).map .bool)]] 0 0),(0,.ptr 0 1 0 0)]) q1 q2 q3 g7 (by simp) fm dn (cur++partL' b fr j++mo) (by simp only[go_sem]) fun X' hX'=>?_
       have hput2:=fun ls h=>A8P (AuI st tp b5 false X') (dn++[cur++partL' b fr j++mo]) [] ls (by simp; omega) (by simp) h
       refine goB rfl 33 ?_;simp only[go_sem,laa]
       repeat refine And.intro (by first|omega|exact .inl trivial|exact .inl (.inl trivial)|rfl|(simp; done)|(simp; omega)) ?_
       refine AWp.shift (AgU (dn++[cur++partL' b fr j++mo]) (by simp)) ?_;refine acut (ι:=Unit) (fun _=>[(10,.int .i64 ((j:Int)-1)),(7,.bool tt),(4,.pin 3 [.agg [.int .i64 (kR b.kind),.fz 1 (b.La.map .str),.fz 1 ((spB b).map .bool)]] 0 0),(0,.ptr 0 1 0 0)]) (fun _=>tabP st tp b5 false X' (dn++[cur++partL' b fr j++mo]) gs) (fun _=>True) ?_ ?_
       .intro Jc hJc
        have fc:=hJc () trivial
        cases q3':b.kind==3 with
        | true =>
         rw[q3']at k2 hgs;simp only[if_true]at hgs;have hp2:=hput2 [goesLn b] (by simp);simp only[lah,laq,lbm]at hp2;have hm:goesLn b=indent 20 b.name++[32,40,67,79,78,84,39,68,41]:=rfl;have hl0:List.getD (b.La.map AV.str) 0 .any=.str (indent 20 b.name):=by
          rw[<- hln (by simpa using q3')]
          simp[List.getD,hlen]
         have hll:=hsh _ (lai hlen);have hl1:(indent 20 b.name).length<=1000000:=by
          rw[<- hln (by simpa using q3')]
          simpa[List.getD,hlen]using hll
         apply zgB;simp only[go_sem,k2,hl0,laa]
         repeat refine aqb ?_
         rw[<- hm];refine za (hp2) ?_;rintro _ _ ⟨rfl,rfl⟩;rw[hgs]at fc;apply zgB;simp only[go_sem];refine ainv fc (Lo ?_);simp only[go_sem]
        | false =>
         rw[q3']at k2 hgs;simp only[lan,if_false]at hgs;rw[hgs]at fc;apply zgB;simp only[go_sem,k2];refine ainv fc (Lo ?_);simp only[go_sem]
       .rintro ⟨⟩ _
        have hf2:=hfin X' hX';have e1:(j:Int)-1+1=(j:Int):=by omega
        apply zgB;simp only[go_sem,e1]
        repeat refine aqb ?_
        refine ainv hf2 (Lo ?_);simp only[go_sem]
     .rintro i ⟨e1,e2⟩ J2 Q hJ2 hQ
      by_cases hi:i<M
      .have d1:decide ((i:Int)<(b.La.length:Int))=true:=by rw[lao]; omega
       have d2:decide ((i:Int)-fr+1+((grp b:Nat):Int)<=((54-cur.length:Nat):Int))=true:=by rw[lao]; omega
       have hm:=hmb fr i (by omega) (by omega);have hnx:=hJ2 (i+1) ⟨by omega,by omega⟩ (by omega);simp only[AcD]at hnx;rw[if_pos (by omega)]at hnx;apply zgB;simp only[go_sem,d1,laa]
       repeat refine aqb ?_
       refine za (hrm) ?_;rintro _ _ ⟨rfl,rfl⟩;apply zgB;simp only[go_sem,d2]
       repeat refine aqb ?_
       refine zpB (hm) ?_
       cases hq:breaksL b fr (i+1)with
       | true =>
        rw[hq,if_pos rfl]at hnx;simp only[go_sem]
        repeat refine aqb ?_
        rw[ic i];refine ainv hnx (Lo ?_);simp only[go_sem,Option.getD_some]
        simp
       | false =>
        rw[hq,if_neg (by simp)]at hnx;simp only[go_sem]
        repeat refine aqb ?_
        rw[ic i];refine ainv hnx (Lo ?_);simp only[go_sem]
      .have eM:i=M:=by omega
       subst eM;have hq:=hQ () trivial;rw[hj2,Option.getD_some]
       by_cases hl:i<b.La.length
       .have d1:decide ((i:Int)<(b.La.length:Int))=true:=by rw[lao]; omega
        have d2:decide ((i:Int)-fr+1+((grp b:Nat):Int)<=((54-cur.length:Nat):Int))=false:=by rw[lbu]; omega
        apply zgB;simp only[go_sem,d1,laa]
        repeat refine aqb ?_
        refine za (hrm) ?_;rintro _ _ ⟨rfl,rfl⟩;apply zgB;simp only[go_sem,d2];refine ainv hq (Lo ?_);simp only[go_sem]
       .have d1:decide ((i:Int)<(b.La.length:Int))=false:=by rw[lbu]; omega
        apply zgB;simp only[go_sem,d1,laa];refine ainv hq (Lo ?_);simp only[go_sem]
end Go.Proofs.YtccfklnmolggiaaGreatDoor
namespace Go.Proofs.YtccfklnmolggiaaGreatDoor
open Av RowKit Proofs.Tryz
structure LdOk(b:Bl):Prop where
 brk:BrkOk b
 rb:RbOk b
 ln:b.kind=3->b.La.getD 0 []=indent 20 b.name
 sh:∀ l∈b.La,l.length<=1000000
 mx:b.La.length<=500000
def PgO:Type:=Option (List (List Ln)×List Ln)
def toO:PgO->List (List Ln)
 | none=>[]
 | some (d,c)=>d++[c]
def tabL(A:List Int)(B:List Bool):PgO->LB
 | none=>[.arr 1 [.agg [.sl 3 0 0 0]],.arr 1 (A.map (.int .i64)),.arr 1 (B.map .bool),.arr 1 [],.arr 1 []]
 | some (dn,cur)=>[.arr 1 [.agg [.sl 3 0 (dn.length+1) (dn.length+1)]],.arr 1 (A.map (.int .i64)),.arr 1 (B.map .bool),.arr 1 (dn.map pgA++[.sl 4 0 cur.length cur.length]),.arr 1 (cur.map .str)]
theorem A8S(l:List Int):(flat (l.map (AV.int .i64))).all Av.frozen=true:=by
 induction l<;>grind[flat,cellsOf,Av.frozen]
theorem AoI(l:List Int):Quiet (.arr 1 (l.map (.int .i64))):=⟨fun id l' _=>by
 show Blk.arr 1 ((l.map (AV.int .i64)).map (frzC id 1 l'))=_
 rw[List.map_map]; congr 1,AaD (A8S l)⟩
theorem AmL(l:List Bool):Quiet (.arr 1 (l.map .bool)):=⟨fun id l' _=>by
 show Blk.arr 1 ((l.map AV.bool).map (frzC id 1 l'))=_
 rw[List.map_map]; congr 1,AaD (AfL l)⟩
theorem BdJ(b:Bl):Quiet (.arr 3 [rbA b]):=⟨fun _ _ _=>rfl,rfl⟩
theorem AqW(A:List Int)(B:List Bool)(o:PgO):(tabL A B o).length=5:=by
 cases o <;> rfl
theorem AxH(A:List Int)(B:List Bool)(o:PgO):(tabL A B o).getD 1 .dead=.arr 1 (A.map (.int .i64))/\(tabL A B o).getD 2 .dead=.arr 1 (B.map .bool):=by
 unfold tabL; grind
theorem BdK(A:List Int)(B:List Bool)(o:PgO)(b:Bl):tab0 (.arr 1 (A.map (.int .i64))) (.arr 1 (B.map .bool)) (.arr 3 [rbA b]) (.arr 1 []) (toO o) (tabL A B o++[.arr 3 [rbA b]]):=by
 cases o with
 | none=>exact .inl ⟨rfl,rfl⟩
 | some x=>exact .inr ⟨x.1,x.2,rfl,rfl⟩
section
variable {c:Cx}{e e':Env}
theorem AuK(hc:c.sto.length=0)(A:List Int)(B:List Bool){b5 X:Blk}(f:Bool)(dn:List (List Ln))(cur:List Ln)(hw:wkl 5 e e')(hw2:wk (renE [0,1,2,3,6] e) e') :
  Shift c e (tabP (.arr 1 (A.map (.int .i64))) (.arr 1 (B.map .bool)) b5 f X dn cur) e' (tabL A B (some (dn,cur))):=by
 cases f with
 | true =>
  have a2:=AdA (show 4<=5 by omega) (AoI A).low;have a3:=AdA (show 4<=5 by omega) (AmL B).low;have a4:lowB 5 (.arr 1 (cur.map .str))=true:=AaD (AdE _);have a5:=AaD (n:=5) (AiN dn);refine Shift.low 5 (by omega) (by simp_all[tabP,shS,TF]) ?_ hw
  show([Blk.arr 1 [.agg [.sl 3 0 (dn.length+1) (dn.length+1)]],.arr 1 (A.map (.int .i64)),.arr 1 (B.map .bool),.arr 1 (dn.map pgA++[.sl 4 0 cur.length cur.length]),.arr 1 (cur.map .str)]).all (lowB 5)=true
  simp only[laz,List.all_nil,a2,a3,a4,lbw,lbn];simp only[lowB,flat_append,List.all_append,a5,lbn];rfl
 | false =>
  refine Shift.trans (Shift.ren [0,1,2,3,6] ?_) (Lp hw2 ?_)
  .rw [hc]; rfl
  .have e1:(A.map (AV.int .i64)).map (renC [0,1,2,3,6])=A.map (.int .i64):=AcT (fun _=>rfl) A
   have e2:(B.map AV.bool).map (renC [0,1,2,3,6])=B.map .bool:=AcT (fun _=>rfl) B;have e3:(dn.map pgA).map (renC [0,1,2,3,6])=dn.map pgA:=AcT (fun _=>rfl) dn;have e4:(cur.map AV.str).map (renC [0,1,2,3,6])=cur.map .str:=AcT (fun _=>rfl) cur
   show[Blk.arr 1 [.agg [.sl 3 0 (dn.length+1) (dn.length+1)]],.arr 1 ((A.map (AV.int .i64)).map (renC [0,1,2,3,6])),.arr 1 ((B.map AV.bool).map (renC [0,1,2,3,6])),.arr 1 ((dn.map pgA++[AV.sl 6 0 cur.length cur.length]).map (renC [0,1,2,3,6])),.arr 1 ((cur.map AV.str).map (renC [0,1,2,3,6]))]=_
   rw[e1,e2,e4,lap,e3];rfl
end
theorem tabP_g0(st tp b5:Blk)(f:Bool)(X:Blk)(dn:List (List Ln))(cur:List Ln):(tabP st tp b5 f X dn cur).getD 0 .dead=.arr 1 [.agg [.sl 3 0 (dn.length+1) (dn.length+1)]]:=by cases f <;> rfl
theorem tabP_g1(st tp b5:Blk)(f:Bool)(X:Blk)(dn:List (List Ln))(cur:List Ln):(tabP st tp b5 f X dn cur).getD 1 .dead=st:=by cases f <;> rfl
theorem tabP_g2(st tp b5:Blk)(f:Bool)(X:Blk)(dn:List (List Ln))(cur:List Ln):(tabP st tp b5 f X dn cur).getD 2 .dead=tp:=by cases f <;> rfl
theorem tabP_g3(st tp b5:Blk)(f:Bool)(X:Blk)(dn:List (List Ln))(cur:List Ln):(tabP st tp b5 f X dn cur).getD 3 .dead=.arr 1 (dn.map pgA++[.sl (icF f) 0 cur.length cur.length]):=by cases f <;> rfl
theorem tabP_s1(st tp b5:Blk)(f:Bool)(X:Blk)(dn:List (List Ln))(cur:List Ln)(y:Blk):(tabP st tp b5 f X dn cur).set 1 y=tabP y tp b5 f X dn cur:=by cases f <;> rfl
theorem tabP_s2(st tp b5:Blk)(f:Bool)(X:Blk)(dn:List (List Ln))(cur:List Ln)(y:Blk):(tabP st tp b5 f X dn cur).set 2 y=tabP st y b5 f X dn cur:=by cases f <;> rfl
theorem st_le{bs:List Bl}(hb:∀ b∈bs,BrkOk b){i:Nat}(hi:i<bs.length):stR bs i<=(layTo bs i).Lg.length+1:=by
 grind[stR,turnS,flushS]
def stsL(ss:List (List Bl))(k:Nat):List Int:=(List.range k).map fun j=>((stR ss.flatten (hxR ss j)+1:Nat):Int)
def tpsL(ss:List (List Bl))(k:Nat):List Bool:=(List.range k).map fun j=>tpR ss.flatten (hxR ss j)
theorem stsL_len(ss:List (List Bl))(k:Nat):(stsL ss k).length=k:=by simp[stsL]
theorem tpsL_len(ss:List (List Bl))(k:Nat):(tpsL ss k).length=k:=by simp[tpsL]
theorem stsL_step(ss:List (List Bl))(k:Nat):(stsL ss k).map (AV.int .i64)++[.int .i64 ((stR ss.flatten (hxR ss k)+1:Nat):Int)]=(stsL ss (k+1)).map (.int .i64):=by grind[stsL,List.range_succ]
theorem tpsL_step(ss:List (List Bl))(k:Nat):(tpsL ss k).map AV.bool++[.bool (tpR ss.flatten (hxR ss k))]=(tpsL ss (k+1)).map .bool:=by grind[tpsL,List.range_succ]
def ssA(ss:List (List Bl)):AV:=.fz 1 (ss.map fun l=>.fz 3 (l.map rbA))
theorem BiC(ss:List (List Bl))(hh:HdOk ss)(hb:∀ l∈ss,∀ b∈l,LdOk b)(ho:∀ b∈ss.flatten,∀ x∈b.La,OwnLn x)(hpl:∀ g,g<=ss.flatten.length->(layTo ss.flatten g).Lg.length<=80000)(h1:ss.length<=1000000)(h2:∀ l∈ss,l.length<=1000000) :
  Ct prog 36 [ssA ss] [] (fun r s=>∃ o,toO o=(layL ss.flatten).Lg/\r=.tup [.sl 3 0 (toO o).length (toO o).length,.sl 1 0 ss.length ss.length,.sl 2 0 ss.length ss.length]/\s=tabL (stsL ss ss.length) (tpsL ss ss.length) o):=by
 have hbf:∀ b∈ss.flatten,LdOk b:=fun b hq=>by
  obtain⟨l,hl,hbl⟩:=List.mem_flatten.1 hq;exact hb l hl b hbl
 have hbk:∀ b∈ss.flatten,BrkOk b:=fun b hq=>(hbf b hq).brk
 have hfl:hxR ss ss.length=ss.flatten.length:=by simp[hxR]
 unfold ssA;refine zcIB func36 rfl fun h ρ w=>?_
 simp only[go_sem,laa];refine AaI (ι:=Nat×PgO) (fun x=>ss.length-x.1)
  (fun x=>[(13,.int .i64 (x.1:Int)),(12,.int .i64 ss.length),(11,.fz 1 (ss.map fun l=>.fz 3 (l.map rbA))),(5,.ptr 0 1 0 0),(4,.sl 2 0 x.1 x.1),(3,.sl 1 0 x.1 x.1)])
  (fun x=>tabL (stsL ss x.1) (tpsL ss x.1) x.2) (fun x=>x.1<=ss.length/\toO x.2=toQ (layTo ss.flatten (hxR ss x.1))) (0,none) ⟨by omega,rfl⟩ ?_ ?_
 .refine Shift.trans (Ll 3 1 rfl) (Shift.trans (Ll 4 1 rfl) (Shift.trans (Shift.cells 0 1 [.agg [.sl 3 0 0 0]] rfl rfl (by simp[cellsOf]) ⟨.sl,trivial⟩) (Shift.trans (Lr 1) (Lp ?_ rfl))))
  simp only[go_sem]
 .rintro ⟨k,o⟩ ⟨g1,g2⟩ J hJ
  simp only at g1 g2 hJ |-;obtain⟨t1,t2⟩:=AxH (stsL ss k) (tpsL ss k) o;have t0:=AqW (stsL ss k) (tpsL ss k) o
  by_cases gk:k<ss.length
  .have dk:decide ((k:Int)<(ss.length:Int))=true:=by simp; omega
   have hg':List.getD (ss.map fun l=>AV.fz 3 (l.map rbA)) k .any=.fz 3 (ss[k].map rbA):=by simp[List.getD,gk]
   have hm:=lai gk;have hl2:=h2 _ hm;have hhk:=hh _ hm;have hbl:=hb _ hm;have hfat:=fun i hi=>BhU (ss:=ss) gk (i:=i) hi
   have hneed:=fun i hi=>BhV hh (k:=k) gk (i:=i) hi
   have hN:=fun o' (h:toO o'=toQ (layTo ss.flatten (hxR ss (k+1))))=>hJ (k+1,o') ⟨by simp only; omega,h⟩ (by simp only; omega)
   rw[A8J gk]at hN;have hxl:hxR ss k+ss[k].length<=ss.flatten.length:=by
    rw[<- A8J gk,<- hfl];unfold hxR;have:(ss.take (k+1)).flatten++(ss.drop (k+1)).flatten=ss.flatten:=by rw[<- List.flatten_append,List.take_append_drop]
    have e:=congrArg List.length this;simp only[lak]at e;rw[lbt]; omega
   clear hJ;generalize hlk:ss[k]=l at *;apply zgB;simp only[go_sem,dk,hg',laa,t0]
   repeat refine aqb ?_
   refine AaI (ι:=Nat×PgO) (fun x=>l.length-x.1)
    (fun x=>[(19,.int .i64 (x.1:Int)),(18,.int .i64 l.length),(17,.fz 3 (l.map rbA)),(7,.fz 3 (l.map rbA)),(13,.int .i64 (k:Int)),(12,.int .i64 ss.length),(11,.fz 1 (ss.map fun l=>.fz 3 (l.map rbA))),(5,.ptr 0 1 0 0),(4,.sl 2 0 (if x.1=0 then k else k+1) (if x.1=0 then k else k+1)),(3,.sl 1 0 (if x.1=0 then k else k+1) (if x.1=0 then k else k+1))])
    (fun x=>tabL (stsL ss (if x.1=0 then k else k+1)) (tpsL ss (if x.1=0 then k else k+1)) x.2) (fun x=>x.1<=l.length/\toO x.2=toQ (layTo ss.flatten (hxR ss k+x.1))) (0,o) ⟨by simp only; omega,g2⟩ ?_ ?_
   .refine Lo ?_
    simp only[go_sem]
   .rintro ⟨i,o⟩ ⟨k1,k2⟩ J2 hJ2
    simp only at k1 k2 hJ2 |-
    by_cases gi:i<l.length
    .have di:decide ((i:Int)<(l.length:Int))=true:=by simp; omega
     have hgi:List.getD (l.map rbA) i .any=rbA l[i]:=by simp[List.getD,gi]
     have hli:=hfat i gi;have hni:=hneed i gi;have hbi:=hbl _ (lai gi);have hlt:hxR ss k+i<ss.flatten.length:=by omega
     have hel:ss.flatten[hxR ss k+i]=l[i]:=by rw[lad hlt]at hli; exact Option.some.inj hli
     obtain⟨s1,s2⟩:=BdD hbk hlt;rw[hel,hni,<- k2]at s1 s2;have hpO:(∀ p∈toO o,p.length<=54)/\(toO o).length<=90000:=by
      rw[k2];obtain⟨v1,v2,_⟩:=lay_ne hbk (hxR ss k+i) (by omega);have v3:=hpl (hxR ss k+i) (by omega);obtain⟨w',v5,_⟩:=AqJ ho (hxR ss k+i) (by omega);have v4:=fun p hp=>(v5.Lg p hp).2
      unfold toQ
      split
      .exact ⟨v4,by omega⟩
      .refine ⟨fun p hp=>?_,by simp; omega⟩
       rcases List.mem_append.1 hp with hp|hp
       .exact v4 p hp
       .rw [List.mem_singleton.1 hp]; exact v1
     obtain⟨hpO1,hpO2⟩:=hpO;have hle:=hbi.brk.least;have hkin:=hbi.rb.kind;obtain⟨c1,c2,c0⟩:=AuF hbi.rb;have hd1:=AuG l[i] hbi.rb hbi.brk.some;have hk0:i=0 ↔ l[i].kind=0:=by
      obtain⟨b,r,e,e0,er⟩:=hhk
      constructor
      .rintro rfl
       simp only[e,List.getElem_cons_zero,e0]
      .intro hz
       refine Classical.byContradiction fun hne=>?_
       obtain⟨j,rfl⟩:∃ j,i=j+1:=⟨i-1,by omega⟩;have hm:l[j+1]∈r:=by
        have:l[j+1]? = r[j]?:=by rw[e]; rfl
        rw[lad gi]at this;exact laj this.symm
       exact er _ hm hz
     have hnb:AaH l[i]<=AqS l i l[i]/\AqS l i l[i]<=1000000:=by
      unfold AqS;refine⟨by omega,?_⟩
      split
      .split
       .rename_i d hd
        have:=(hbl d (laj hd)).brk.least
        show AaH l[i]+(1+AaH d)<=1000000
        omega
       .omega
      .omega
     have hJ3:=fun dn cur (h:dn++[cur]=fillR l[i] (AqS l i l[i]) (toO o))=>hJ2 (i+1,some (dn,cur)) ⟨by simp only; omega,h.trans (s1.trans rfl)⟩ (by simp only; omega)
     simp only[if_neg (Nat.succ_ne_zero i)]at hJ3;clear hJ2;have hfill:=BiB l[i] hbi.brk hbi.rb hbi.ln hbi.sh hbi.mx (AqS l i l[i]) hnb.1 hnb.2 (AoI (stsL ss (if i=0 then k else k+1))) (AmL (tpsL ss (if i=0 then k else k+1))) (BdJ l[i]) A8Q (toO o) hpO1 hpO2 _ (BdK _ _ o l[i]);rw[s2]at hfill;have hst:l[i].kind=0->(toQ (layTo ss.flatten (hxR ss k+i+1))).length=stR ss.flatten (hxR ss k+i)+1:=fun hz=>A2I hbk hlt (by rw[hel]; exact hz)
     rw[<- s1]at hst;have hnd:AqS l i l[i]=AaH l[i]+(if l[i].kind==0 then(match l[i+1]? with
      | some d=>1+AaH d
      | none=>0) else 0):=rfl
     generalize hN3:AqS l i l[i]=nd at *;generalize hR3:fillR l[i] nd (toO o)=R at *
     by_cases hi0:i=0
     .have hkz:=hk0.1 hi0
      have hst2:=hst hkz;have q0:(l[i].kind==0)=true:=by simp[hkz]
      rw[q0]at c0 hnd;simp only[if_true]at hnd;simp only[if_pos hi0]at hfill |-;have u0:=AqW (stsL ss k) (tpsL ss k) o;have hhx:hxR ss k+i=hxR ss k:=by omega
      have e5:∀ (y d:Blk),(tabL (stsL ss k) (tpsL ss k) o++[y]).getD 5 d=y:=fun y d=>by
       cases o <;> rfl
      have f5:∀ (y d:Blk),(tabL (stsL ss k) (tpsL ss k) o++[y]).set 5 d=tabL (stsL ss k) (tpsL ss k) o++[d]:=fun y d=>by
       cases o <;> rfl
      rw[hhx]at hfill hst2;have hcs:(i+1<l.length)\/¬ (i+1<l.length):=Classical.em _;refine hcs.elim (fun h1'=>?_) (fun h1'=>?_);have d1:decide ((i:Int)+1<(l.length:Int))=true:=by rw[lao]; omega
      have hg1:List.getD (l.map rbA) (i+1) .any=rbA l[i+1]:=by simp[List.getD,h1']
      have hb1:=hbl _ (lai h1');have hd2:=AuG l[i+1] hb1.rb hb1.brk.some;have hle2:=hb1.brk.least;rw[lad h1']at hnd;have hnd2:(AaH l[i]:Int)+(1+(AaH l[i+1]:Int))=(nd:Int):=by rw[hnd]; push_cast; omega
      have ei1:((i:Int)+1).toNat=i+1:=by omega
      generalize l[i+1]=b1 at *;generalize l[i]=b at *;simp only[rbA]at hgi hd1 hd2 hfill hg1;apply zgB;simp only[go_sem,di,hgi,e5,f5,laa,u0]
      repeat refine aqb ?_
      refine zpB (hd1) ?_;simp only[go_sem,c0,d1,e5,f5,hg1,ei1,laa]
      repeat refine aqb ?_
      refine zpB (hd2) ?_;simp only[go_sem,c0,hnd2,e5,f5]
      repeat refine aqb ?_
      rotate_left
      have d1:decide ((i:Int)+1<(l.length:Int))=false:=by rw[lbu]; omega
      rw[List.getElem?_eq_none (by omega)]at hnd;have hnd2:(AaH l[i]:Int)=(nd:Int):=by rw[hnd]; rfl
      generalize l[i]=b at *;simp only[rbA]at hgi hd1 hfill;apply zgB;simp only[go_sem,di,hgi,e5,f5,laa,u0]
      repeat refine aqb ?_
      refine zpB (hd1) ?_;simp only[go_sem,c0,d1,e5,f5,hnd2,laa]
      repeat refine aqb ?_
      all_goals
       refine za (hfill) ?_;rintro _ _ ⟨rfl,f,X,dn,cur,qX,hps',rfl⟩;have hdl:dn.length+1=stR ss.flatten (hxR ss k)+1:=by
        rw[<- hst2,hps',lak,laf,lar]
       have hdb:dn.length<=90000:=by
        have v3:=hpl (hxR ss k+i) (by omega);have v6:stR ss.flatten (hxR ss k+i)<=(layTo ss.flatten (hxR ss k+i)).Lg.length+1:=st_le hbk hlt;rw[hhx]at v3 v6;omega
       apply zgB;simp only[go_sem,tabP_g0,tabP_g1,tabP_g2,tabP_g3,tabP_s1,tabP_s2,stsL_len,tpsL_len,laa]
       repeat refine aqb ?_
       rw[tpsL_step,hdl,stsL_step,show(i:Int)+1=((i+1:Nat):Int) by omega];refine ainv (hJ3 dn cur hps'.symm) (AuK rfl _ _ f dn cur ?_ ?_)
       .simp only[go_sem]
       .simp only[renE,renV,ren1,idx,go_sem]
     .have hkz:¬ l[i].kind=0:=fun h=>hi0 (hk0.2 h)
      have q0:(l[i].kind==0)=false:=by simp[hkz]
      rw[q0]at c0 hnd;simp only[lan,if_false,Nat.add_zero]at hnd;simp only[if_neg hi0]at hfill |-;have u0:=AqW (stsL ss (k+1)) (tpsL ss (k+1)) o;have e5:∀ (y d:Blk),(tabL (stsL ss (k+1)) (tpsL ss (k+1)) o++[y]).getD 5 d=y:=fun y d=>by
       cases o <;> rfl
      have f5:∀ (y d:Blk),(tabL (stsL ss (k+1)) (tpsL ss (k+1)) o++[y]).set 5 d=tabL (stsL ss (k+1)) (tpsL ss (k+1)) o++[d]:=fun y d=>by
       cases o <;> rfl
      have hnd2:(AaH l[i]:Int)=(nd:Int):=by rw[hnd]
      generalize l[i]=b at *;simp only[rbA]at hgi hd1 hfill;apply zgB;simp only[go_sem,di,hgi,e5,f5,laa,u0]
      repeat refine aqb ?_
      refine zpB (hd1) ?_;simp only[go_sem,c0,e5,f5,hnd2,laa]
      repeat refine aqb ?_
      refine za (hfill) ?_;rintro _ _ ⟨rfl,f,X,dn,cur,qX,hps',rfl⟩;apply zgB;simp only[go_sem]
      repeat refine aqb ?_
      rw[ic i];refine ainv (hJ3 dn cur hps'.symm) (AuK rfl _ _ f dn cur ?_ ?_)
      .simp only[go_sem]
      .simp only[renE,renV,ren1,idx,go_sem]
    .have di:decide ((i:Int)<(l.length:Int))=false:=by simp; omega
     have ei:i=l.length:=by omega
     have hl0:l.length≠0:=by
      obtain⟨b,r,e,_⟩:=hhk;rw[e]; simp
     subst ei;have hN2:=hN o k2;rw[if_neg hl0];apply zgB;simp only[go_sem,di]
     repeat refine aqb ?_
     rw[ic k];refine ainv hN2 (Lo ?_);simp only[go_sem]
  .have dk:decide ((k:Int)<(ss.length:Int))=false:=by simp; omega
   have hk:k=ss.length:=by omega
   subst hk;rw[hfl,BhT]at g2;obtain⟨q,hq⟩:∃ q,q=o:=⟨_,rfl⟩;have hs0:(tabL (stsL ss ss.length) (tpsL ss ss.length) o).getD 0 .dead=.arr 1 [.agg [.sl 3 0 (toO o).length (toO o).length]]:=by
    unfold tabL toO
    cases o with
    | none=>rfl
    | some x=>simp
   apply zgB;simp only[go_sem,dk,hs0];exact aret [2,3,4] rfl ⟨o,g2,rfl,rfl⟩
