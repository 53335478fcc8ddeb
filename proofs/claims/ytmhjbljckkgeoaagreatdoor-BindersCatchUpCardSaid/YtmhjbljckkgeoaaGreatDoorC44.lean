/- Blocks on pages, as the reference lays them: laid. -/
import Derived.Test.YtmhjbljckkgeoaaGreatDoorC43
set_option maxRecDepth 100000
set_option maxHeartbeats 8000000
set_option linter.all false
namespace Go.Proofs.YtmhjbljckkgeoaaGreatDoor
open Av RowKit Proofs.Tryz
structure LdOk(b:Bl):Prop where
 brk:BrkOk b
 rb:RbOk b
 ln:b.kind=3->b.Lb.getD 0 []=indent 20 b.name
 sh:∀ l∈b.Lb,l.length<=1000000
 mx:b.Lb.length<=500000
def PgO:Type:=Option (List (List Ln)×List Ln)
def toO:PgO->List (List Ln)
 | none=>[]
 | some (d,c)=>d++[c]
def tabL(A:List Int)(B:List Bool):PgO->LB
 | none=>[.arr 1 [.agg [.sl 3 0 0 0]],.arr 1 (A.map (.int .i64)),.arr 1 (B.map .bool),.arr 1 [],.arr 1 []]
 | some (dn,cur)=>[.arr 1 [.agg [.sl 3 0 (dn.length+1) (dn.length+1)]],.arr 1 (A.map (.int .i64)),.arr 1 (B.map .bool),.arr 1 (dn.map pgA++[.sl 4 0 cur.length cur.length]),.arr 1 (cur.map .str)]
theorem BgQ(l:List Int):(flat (l.map (AV.int .i64))).all Av.frozen=true:=by
 induction l<;>grind[flat,cellsOf,Av.frozen]
theorem ArY(l:List Int):Quiet (.arr 1 (l.map (.int .i64))):=⟨fun id l' _=>by
 show Blk.arr 1 ((l.map (AV.int .i64)).map (frzC id 1 l'))=_
 rw[lbb]; congr 1,AaH (BgQ l)⟩
theorem ApP(l:List Bool):Quiet (.arr 1 (l.map .bool)):=⟨fun id l' _=>by
 show Blk.arr 1 ((l.map AV.bool).map (frzC id 1 l'))=_
 rw[lbb]; congr 1,AaH (AgL l)⟩
theorem BnI(b:Bl):Quiet (.arr 3 [rbA b]):=⟨fun _ _ _=>rfl,rfl⟩
theorem AuW(A:List Int)(B:List Bool)(o:PgO):(tabL A B o).length=5:=by
 cases o <;> rfl
theorem A2S(A:List Int)(B:List Bool)(o:PgO):(tabL A B o).getD 1 .dead=.arr 1 (A.map (.int .i64))/\(tabL A B o).getD 2 .dead=.arr 1 (B.map .bool):=by
 unfold tabL; grind
theorem BnJ(A:List Int)(B:List Bool)(o:PgO)(b:Bl):tab0 (.arr 1 (A.map (.int .i64))) (.arr 1 (B.map .bool)) (.arr 3 [rbA b]) (.arr 1 []) (toO o) (tabL A B o++[.arr 3 [rbA b]]):=by
 cases o with
 | none=>exact .inl ⟨rfl,rfl⟩
 | some x=>exact .inr ⟨x.1,x.2,rfl,rfl⟩
section
variable {c:Cx}{e e':Env}
theorem AzE(hc:c.sto.length=0)(A:List Int)(B:List Bool){b5 X:Blk}(f:Bool)(dn:List (List Ln))(cur:List Ln)(hw:wkl 5 e e')(hw2:wk (renE [0,1,2,3,6] e) e') :
  Shift c e (tabP (.arr 1 (A.map (.int .i64))) (.arr 1 (B.map .bool)) b5 f X dn cur) e' (tabL A B (some (dn,cur))):=by
 cases f with
 | true =>
  have a2:=AdQ (show 4<=5 by omega) (ArY A).low;have a3:=AdQ (show 4<=5 by omega) (ApP B).low;have a4:lowB 5 (.arr 1 (cur.map .str))=true:=AaH (AdR _);have a5:=AaH (n:=5) (AhD dn);refine Shift.low 5 (by omega) (by simp_all[tabP,shS,TF]) ?_ hw
  show([Blk.arr 1 [.agg [.sl 3 0 (dn.length+1) (dn.length+1)]],.arr 1 (A.map (.int .i64)),.arr 1 (B.map .bool),.arr 1 (dn.map pgA++[.sl 4 0 cur.length cur.length]),.arr 1 (cur.map .str)]).all (lowB 5)=true
  simp only[las,lba,a2,a3,a4,lau,laz];simp only[lowB,flat_append,List.all_append,a5,laz];rfl
 | false =>
  refine Shift.trans (Shift.ren [0,1,2,3,6] ?_) (Lu hw2 ?_)
  .rw [hc]; rfl
  .have e1:(A.map (AV.int .i64)).map (renC [0,1,2,3,6])=A.map (.int .i64):=AgD (fun _=>rfl) A
   have e2:(B.map AV.bool).map (renC [0,1,2,3,6])=B.map .bool:=AgD (fun _=>rfl) B;have e3:(dn.map pgA).map (renC [0,1,2,3,6])=dn.map pgA:=AgD (fun _=>rfl) dn;have e4:(cur.map AV.str).map (renC [0,1,2,3,6])=cur.map .str:=AgD (fun _=>rfl) cur
   show[Blk.arr 1 [.agg [.sl 3 0 (dn.length+1) (dn.length+1)]],.arr 1 ((A.map (AV.int .i64)).map (renC [0,1,2,3,6])),.arr 1 ((B.map AV.bool).map (renC [0,1,2,3,6])),.arr 1 ((dn.map pgA++[AV.sl 6 0 cur.length cur.length]).map (renC [0,1,2,3,6])),.arr 1 ((cur.map AV.str).map (renC [0,1,2,3,6]))]=_
   rw[e1,e2,e4,laf,e3];rfl
end
theorem tabP_g0(st tp b5:Blk)(f:Bool)(X:Blk)(dn:List (List Ln))(cur:List Ln):(tabP st tp b5 f X dn cur).getD 0 .dead=.arr 1 [.agg [.sl 3 0 (dn.length+1) (dn.length+1)]]:=by cases f <;> rfl
theorem tabP_g1(st tp b5:Blk)(f:Bool)(X:Blk)(dn:List (List Ln))(cur:List Ln):(tabP st tp b5 f X dn cur).getD 1 .dead=st:=by cases f <;> rfl
theorem tabP_g2(st tp b5:Blk)(f:Bool)(X:Blk)(dn:List (List Ln))(cur:List Ln):(tabP st tp b5 f X dn cur).getD 2 .dead=tp:=by cases f <;> rfl
theorem tabP_g3(st tp b5:Blk)(f:Bool)(X:Blk)(dn:List (List Ln))(cur:List Ln):(tabP st tp b5 f X dn cur).getD 3 .dead=.arr 1 (dn.map pgA++[.sl (icF f) 0 cur.length cur.length]):=by cases f <;> rfl
theorem tabP_s1(st tp b5:Blk)(f:Bool)(X:Blk)(dn:List (List Ln))(cur:List Ln)(y:Blk):(tabP st tp b5 f X dn cur).set 1 y=tabP y tp b5 f X dn cur:=by cases f <;> rfl
theorem tabP_s2(st tp b5:Blk)(f:Bool)(X:Blk)(dn:List (List Ln))(cur:List Ln)(y:Blk):(tabP st tp b5 f X dn cur).set 2 y=tabP st y b5 f X dn cur:=by cases f <;> rfl
theorem st_le{bs:List Bl}(hb:∀ b∈bs,BrkOk b){i:Nat}(hi:i<bs.length):stR bs i<=(layTo bs i).Lh.length+1:=by
 grind[stR,turnS,flushS]
def stsL(ss:List (List Bl))(k:Nat):List Int:=(List.range k).map fun j=>((stR ss.flatten (hxR ss j)+1:Nat):Int)
def tpsL(ss:List (List Bl))(k:Nat):List Bool:=(List.range k).map fun j=>tpR ss.flatten (hxR ss j)
theorem stsL_len(ss:List (List Bl))(k:Nat):(stsL ss k).length=k:=by simp[stsL]
theorem tpsL_len(ss:List (List Bl))(k:Nat):(tpsL ss k).length=k:=by simp[tpsL]
theorem stsL_step(ss:List (List Bl))(k:Nat):(stsL ss k).map (AV.int .i64)++[.int .i64 ((stR ss.flatten (hxR ss k)+1:Nat):Int)]=(stsL ss (k+1)).map (.int .i64):=by grind[stsL,List.range_succ]
theorem tpsL_step(ss:List (List Bl))(k:Nat):(tpsL ss k).map AV.bool++[.bool (tpR ss.flatten (hxR ss k))]=(tpsL ss (k+1)).map .bool:=by grind[tpsL,List.range_succ]
def ssA(ss:List (List Bl)):AV:=.fz 1 (ss.map fun l=>.fz 3 (l.map rbA))
theorem BuK(ss:List (List Bl))(hh:HdOk ss)(hb:∀ l∈ss,∀ b∈l,LdOk b)(ho:∀ b∈ss.flatten,∀ x∈b.Lb,OwnLn x)(hpl:∀ g,g<=ss.flatten.length->(layTo ss.flatten g).Lh.length<=80000)(h1:ss.length<=1000000)(h2:∀ l∈ss,l.length<=1000000) :
  Ct prog 152 [ssA ss] [] (fun r s=>∃ o,toO o=(layL ss.flatten).Lh/\r=.tup [.sl 3 0 (toO o).length (toO o).length,.sl 1 0 ss.length ss.length,.sl 2 0 ss.length ss.length]/\s=tabL (stsL ss ss.length) (tpsL ss ss.length) o):=by
 have hbf:∀ b∈ss.flatten,LdOk b:=fun b hq=>by
  obtain⟨l,hl,hbl⟩:=List.mem_flatten.1 hq;exact hb l hl b hbl
 have hbk:∀ b∈ss.flatten,BrkOk b:=fun b hq=>(hbf b hq).brk
 have hfl:hxR ss ss.length=ss.flatten.length:=by simp[hxR]
 unfold ssA;refine zcIB func152 rfl fun h ρ w=>?_
 simp only[go_sem,laa];refine AaC (ι:=Nat×PgO) (fun x=>ss.length-x.1)
  (fun x=>[(13,.int .i64 (x.1:Int)),(12,.int .i64 ss.length),(11,.fz 1 (ss.map fun l=>.fz 3 (l.map rbA))),(5,.ptr 0 1 0 0),(4,.sl 2 0 x.1 x.1),(3,.sl 1 0 x.1 x.1)])
  (fun x=>tabL (stsL ss x.1) (tpsL ss x.1) x.2) (fun x=>x.1<=ss.length/\toO x.2=toQ (layTo ss.flatten (hxR ss x.1))) (0,none) ⟨by omega,rfl⟩ ?_ ?_
 .refine Shift.trans (Lv 3 1 rfl) (Shift.trans (Lv 4 1 rfl) (Shift.trans (Shift.cells 0 1 [.agg [.sl 3 0 0 0]] rfl rfl (by simp[cellsOf]) ⟨.sl,trivial⟩) (Shift.trans (Lr 1) (Lu ?_ rfl))))
  simp only[go_sem]
 .rintro ⟨k,o⟩ ⟨g1,g2⟩ J hJ
  simp only at g1 g2 hJ |-;obtain⟨t1,t2⟩:=A2S (stsL ss k) (tpsL ss k) o;have t0:=AuW (stsL ss k) (tpsL ss k) o
  by_cases gk:k<ss.length
  .have dk:decide ((k:Int)<(ss.length:Int))=true:=by simp; omega
   have hg':List.getD (ss.map fun l=>AV.fz 3 (l.map rbA)) k .any=.fz 3 (ss[k].map rbA):=by simp[List.getD,gk]
   have hm:=lac gk;have hl2:=h2 _ hm;have hhk:=hh _ hm;have hbl:=hb _ hm;have hfat:=fun i hi=>BgG (ss:=ss) gk (i:=i) hi
   have hneed:=fun i hi=>BuD hh (k:=k) gk (i:=i) hi
   have hN:=fun o' (h:toO o'=toQ (layTo ss.flatten (hxR ss (k+1))))=>hJ (k+1,o') ⟨by simp only; omega,h⟩ (by simp only; omega)
   rw[BgF gk]at hN;have hxl:hxR ss k+ss[k].length<=ss.flatten.length:=by
    rw[<- BgF gk,<- hfl];unfold hxR;have:(ss.take (k+1)).flatten++(ss.drop (k+1)).flatten=ss.flatten:=by rw[<- List.flatten_append,lbd]
    have e:=congrArg List.length this;simp only[lah]at e;rw[lap]; omega
   clear hJ;generalize hlk:ss[k]=l at *;apply zgB;simp only[go_sem,dk,hg',laa,t0]
   repeat refine aqb ?_
   refine AaC (ι:=Nat×PgO) (fun x=>l.length-x.1)
    (fun x=>[(19,.int .i64 (x.1:Int)),(18,.int .i64 l.length),(17,.fz 3 (l.map rbA)),(7,.fz 3 (l.map rbA)),(13,.int .i64 (k:Int)),(12,.int .i64 ss.length),(11,.fz 1 (ss.map fun l=>.fz 3 (l.map rbA))),(5,.ptr 0 1 0 0),(4,.sl 2 0 (if x.1=0 then k else k+1) (if x.1=0 then k else k+1)),(3,.sl 1 0 (if x.1=0 then k else k+1) (if x.1=0 then k else k+1))])
    (fun x=>tabL (stsL ss (if x.1=0 then k else k+1)) (tpsL ss (if x.1=0 then k else k+1)) x.2) (fun x=>x.1<=l.length/\toO x.2=toQ (layTo ss.flatten (hxR ss k+x.1))) (0,o) ⟨by simp only; omega,g2⟩ ?_ ?_
   .refine Ls ?_
    simp only[go_sem]
   .rintro ⟨i,o⟩ ⟨k1,k2⟩ J2 hJ2
    simp only at k1 k2 hJ2 |-
    by_cases gi:i<l.length
    .have di:decide ((i:Int)<(l.length:Int))=true:=by simp; omega
     have hgi:List.getD (l.map rbA) i .any=rbA l[i]:=by simp[List.getD,gi]
     have hli:=hfat i gi;have hni:=hneed i gi;have hbi:=hbl _ (lac gi);have hlt:hxR ss k+i<ss.flatten.length:=by omega
     have hel:ss.flatten[hxR ss k+i]=l[i]:=by rw[lam hlt]at hli; exact Option.some.inj hli
     obtain⟨s1,s2⟩:=BnC hbk hlt;rw[hel,hni,<- k2]at s1 s2;have hpO:(∀ p∈toO o,p.length<=54)/\(toO o).length<=90000:=by
      rw[k2];obtain⟨v1,v2,_⟩:=lay_ne hbk (hxR ss k+i) (by omega);have v3:=hpl (hxR ss k+i) (by omega);obtain⟨w',v5,_⟩:=AnZ ho (hxR ss k+i) (by omega);have v4:=fun p hp=>(v5.Lh p hp).2
      unfold toQ
      split
      .exact ⟨v4,by omega⟩
      .refine ⟨fun p hp=>?_,by simp; omega⟩
       rcases List.mem_append.1 hp with hp|hp
       .exact v4 p hp
       .rw [List.mem_singleton.1 hp]; exact v1
     obtain⟨hpO1,hpO2⟩:=hpO;have hle:=hbi.brk.least;have hkin:=hbi.rb.kind;obtain⟨c1,c2,c0⟩:=AyY hbi.rb;have hd1:=AyZ l[i] hbi.rb hbi.brk.some;have hk0:i=0 ↔ l[i].kind=0:=by
      obtain⟨b,r,e,e0,er⟩:=hhk
      constructor
      .rintro rfl
       simp only[e,List.getElem_cons_zero,e0]
      .intro hz
       refine Classical.byContradiction fun hne=>?_
       obtain⟨j,rfl⟩:∃ j,i=j+1:=⟨i-1,by omega⟩;have hm:l[j+1]∈r:=by
        have:l[j+1]? = r[j]?:=by rw[e]; rfl
        rw[lam gi]at this;exact lar this.symm
       exact er _ hm hz
     have hnb:AaN l[i]<=AuS l i l[i]/\AuS l i l[i]<=1000000:=by
      unfold AuS;refine⟨by omega,?_⟩
      split
      .split
       .rename_i d hd
        have:=(hbl d (lar hd)).brk.least
        show AaN l[i]+(1+AaN d)<=1000000
        omega
       .omega
      .omega
     have hJ3:=fun dn cur (h:dn++[cur]=fillR l[i] (AuS l i l[i]) (toO o))=>hJ2 (i+1,some (dn,cur)) ⟨by simp only; omega,h.trans (s1.trans rfl)⟩ (by simp only; omega)
     simp only[if_neg (Nat.succ_ne_zero i)]at hJ3;clear hJ2;have hfill:=BuJ l[i] hbi.brk hbi.rb hbi.ln hbi.sh hbi.mx (AuS l i l[i]) hnb.1 hnb.2 (ArY (stsL ss (if i=0 then k else k+1))) (ApP (tpsL ss (if i=0 then k else k+1))) (BnI l[i]) BgO (toO o) hpO1 hpO2 _ (BnJ _ _ o l[i]);rw[s2]at hfill;have hst:l[i].kind=0->(toQ (layTo ss.flatten (hxR ss k+i+1))).length=stR ss.flatten (hxR ss k+i)+1:=fun hz=>ArU hbk hlt (by rw[hel]; exact hz)
     rw[<- s1]at hst;have hnd:AuS l i l[i]=AaN l[i]+(if l[i].kind==0 then(match l[i+1]? with
      | some d=>1+AaN d
      | none=>0) else 0):=rfl
     generalize hN3:AuS l i l[i]=nd at *;generalize hR3:fillR l[i] nd (toO o)=R at *
     by_cases hi0:i=0
     .have hkz:=hk0.1 hi0
      have hst2:=hst hkz;have q0:(l[i].kind==0)=true:=by simp[hkz]
      rw[q0]at c0 hnd;simp only[if_true]at hnd;simp only[if_pos hi0]at hfill |-;have u0:=AuW (stsL ss k) (tpsL ss k) o;have hhx:hxR ss k+i=hxR ss k:=by omega
      have e5:∀ (y d:Blk),(tabL (stsL ss k) (tpsL ss k) o++[y]).getD 5 d=y:=fun y d=>by
       cases o <;> rfl
      have f5:∀ (y d:Blk),(tabL (stsL ss k) (tpsL ss k) o++[y]).set 5 d=tabL (stsL ss k) (tpsL ss k) o++[d]:=fun y d=>by
       cases o <;> rfl
      rw[hhx]at hfill hst2;have hcs:(i+1<l.length)\/¬ (i+1<l.length):=Classical.em _;refine hcs.elim (fun h1'=>?_) (fun h1'=>?_);have d1:decide ((i:Int)+1<(l.length:Int))=true:=by rw[laj]; omega
      have hg1:List.getD (l.map rbA) (i+1) .any=rbA l[i+1]:=by simp[List.getD,h1']
      have hb1:=hbl _ (lac h1');have hd2:=AyZ l[i+1] hb1.rb hb1.brk.some;have hle2:=hb1.brk.least;rw[lam h1']at hnd;have hnd2:(AaN l[i]:Int)+(1+(AaN l[i+1]:Int))=(nd:Int):=by rw[hnd]; push_cast; omega
      have ei1:((i:Int)+1).toNat=i+1:=by omega
      generalize l[i+1]=b1 at *;generalize l[i]=b at *;simp only[rbA]at hgi hd1 hd2 hfill hg1;apply zgB;simp only[go_sem,di,hgi,e5,f5,laa,u0]
      repeat refine aqb ?_
      refine zpB (hd1) ?_;simp only[go_sem,c0,d1,e5,f5,hg1,ei1,laa]
      repeat refine aqb ?_
      refine zpB (hd2) ?_;simp only[go_sem,c0,hnd2,e5,f5]
      repeat refine aqb ?_
      rotate_left
      have d1:decide ((i:Int)+1<(l.length:Int))=false:=by rw[lai]; omega
      rw[List.getElem?_eq_none (by omega)]at hnd;have hnd2:(AaN l[i]:Int)=(nd:Int):=by rw[hnd]; rfl
      generalize l[i]=b at *;simp only[rbA]at hgi hd1 hfill;apply zgB;simp only[go_sem,di,hgi,e5,f5,laa,u0]
      repeat refine aqb ?_
      refine zpB (hd1) ?_;simp only[go_sem,c0,d1,e5,f5,hnd2,laa]
      repeat refine aqb ?_
      all_goals
       refine za (hfill) ?_;rintro _ _ ⟨rfl,f,X,dn,cur,qX,hps',rfl⟩;have hdl:dn.length+1=stR ss.flatten (hxR ss k)+1:=by
        rw[<- hst2,hps',lah,lal,laq]
       have hdb:dn.length<=90000:=by
        have v3:=hpl (hxR ss k+i) (by omega);have v6:stR ss.flatten (hxR ss k+i)<=(layTo ss.flatten (hxR ss k+i)).Lh.length+1:=st_le hbk hlt;rw[hhx]at v3 v6;omega
       apply zgB;simp only[go_sem,tabP_g0,tabP_g1,tabP_g2,tabP_g3,tabP_s1,tabP_s2,stsL_len,tpsL_len,laa]
       repeat refine aqb ?_
       rw[tpsL_step,hdl,stsL_step,show(i:Int)+1=((i+1:Nat):Int) by omega];refine ainv (hJ3 dn cur hps'.symm) (AzE rfl _ _ f dn cur ?_ ?_)
       .simp only[go_sem]
       .simp only[renE,renV,ren1,idx,go_sem]
     .have hkz:¬ l[i].kind=0:=fun h=>hi0 (hk0.2 h)
      have q0:(l[i].kind==0)=false:=by simp[hkz]
      rw[q0]at c0 hnd;simp only[lan,if_false,Nat.add_zero]at hnd;simp only[if_neg hi0]at hfill |-;have u0:=AuW (stsL ss (k+1)) (tpsL ss (k+1)) o;have e5:∀ (y d:Blk),(tabL (stsL ss (k+1)) (tpsL ss (k+1)) o++[y]).getD 5 d=y:=fun y d=>by
       cases o <;> rfl
      have f5:∀ (y d:Blk),(tabL (stsL ss (k+1)) (tpsL ss (k+1)) o++[y]).set 5 d=tabL (stsL ss (k+1)) (tpsL ss (k+1)) o++[d]:=fun y d=>by
       cases o <;> rfl
      have hnd2:(AaN l[i]:Int)=(nd:Int):=by rw[hnd]
      generalize l[i]=b at *;simp only[rbA]at hgi hd1 hfill;apply zgB;simp only[go_sem,di,hgi,e5,f5,laa,u0]
      repeat refine aqb ?_
      refine zpB (hd1) ?_;simp only[go_sem,c0,e5,f5,hnd2,laa]
      repeat refine aqb ?_
      refine za (hfill) ?_;rintro _ _ ⟨rfl,f,X,dn,cur,qX,hps',rfl⟩;apply zgB;simp only[go_sem]
      repeat refine aqb ?_
      rw[ic i];refine ainv (hJ3 dn cur hps'.symm) (AzE rfl _ _ f dn cur ?_ ?_)
      .simp only[go_sem]
      .simp only[renE,renV,ren1,idx,go_sem]
    .have di:decide ((i:Int)<(l.length:Int))=false:=by simp; omega
     have ei:i=l.length:=by omega
     have hl0:l.length≠0:=by
      obtain⟨b,r,e,_⟩:=hhk;rw[e]; simp
     subst ei;have hN2:=hN o k2;rw[if_neg hl0];apply zgB;simp only[go_sem,di]
     repeat refine aqb ?_
     rw[ic k];refine ainv hN2 (Ls ?_);simp only[go_sem]
  .have dk:decide ((k:Int)<(ss.length:Int))=false:=by simp; omega
   have hk:k=ss.length:=by omega
   subst hk;rw[hfl,A2K]at g2;obtain⟨q,hq⟩:∃ q,q=o:=⟨_,rfl⟩;have hs0:(tabL (stsL ss ss.length) (tpsL ss ss.length) o).getD 0 .dead=.arr 1 [.agg [.sl 3 0 (toO o).length (toO o).length]]:=by
    unfold tabL toO
    cases o with
    | none=>rfl
    | some x=>simp
   apply zgB;simp only[go_sem,dk,hs0];exact aret [2,3,4] rfl ⟨o,g2,rfl,rfl⟩
end Go.Proofs.YtmhjbljckkgeoaaGreatDoor
namespace Go.Proofs.YtmhjbljckkgeoaaGreatDoor
open Av RowKit Proofs.Tryz
theorem AcR{n id m es:Nat}{s:LB}{l:LY}(hb:s.getD id .dead=.arr es l)(hl:m=l.length):bor (n+1) s (.sl id 0 m m)=.fz es (l.map (borC n s)):=by
 grind[AqO]
theorem borC_sl(n:Nat)(s:LB)(a b c d:Nat):borC n s (.sl a b c d)=bor n s (.sl a b c d):=rfl
theorem AgM{α:Type}{n:Nat}{s:LB}{f:α->AV}(h:∀ x,borC n s (f x)=f x)(xs:List α):(xs.map f).map (borC n s)=xs.map f:=by
 simp_all
theorem BuL(ss:List (List Bl))(hh:HdOk ss)(hb:∀ l∈ss,∀ b∈l,LdOk b)(ho:∀ b∈ss.flatten,∀ x∈b.Lb,OwnLn x)(hpl:∀ g,g<=ss.flatten.length->(layTo ss.flatten g).Lh.length<=80000)(h1:ss.length<=1000000)(h2:∀ l∈ss,l.length<=1000000) :
  Pc prog 152 [ssA ss] (· = .tup [.fz 1 ((layL ss.flatten).Lh.map pgA),.fz 1 ((stsL ss ss.length).map (.int .i64)),.fz 1 ((tpsL ss ss.length).map .bool)]):=by
 refine Pc.mono (Pc.ofOwn 2 (BuK ss hh hb ho hpl h1 h2)) ?_;rintro _ ⟨_,_,⟨o,e1,rfl,rfl⟩,rfl⟩;have b1:bor 2 (tabL (stsL ss ss.length) (tpsL ss ss.length) o) (.sl 1 0 ss.length ss.length)=.fz 1 ((stsL ss ss.length).map (.int .i64)):=by
  rw[AcR (A2S _ _ o).1 (by grind[stsL_len]),AgM (fun _=>rfl)]
 have b2:bor 2 (tabL (stsL ss ss.length) (tpsL ss ss.length) o) (.sl 2 0 ss.length ss.length)=.fz 1 ((tpsL ss ss.length).map .bool):=by
  rw[AcR (A2S _ _ o).2 (by grind[tpsL_len]),AgM (fun _=>rfl)]
 have b3:bor 2 (tabL (stsL ss ss.length) (tpsL ss ss.length) o) (.sl 3 0 (toO o).length (toO o).length)=.fz 1 ((toO o).map pgA):=by
  cases o with
  | none=>rfl
  | some x =>
   have hg:(tabL (stsL ss ss.length) (tpsL ss ss.length) (some x)).getD 3 .dead=.arr 1 (x.1.map pgA++[.sl 4 0 x.2.length x.2.length]):=rfl;have hg4:(tabL (stsL ss ss.length) (tpsL ss ss.length) (some x)).getD 4 .dead=.arr 1 (x.2.map .str):=rfl;rw[AcR hg (by simp[toO]),laf,AgM (fun _=>rfl)];have e:borC 1 (tabL (stsL ss ss.length) (tpsL ss ss.length) (some x)) (.sl 4 0 x.2.length x.2.length)=pgA x.2:=by
    rw[borC_sl,AcR hg4 (by simp),AgM (fun _=>rfl)];rfl
   grind[toO]
 grind[borV,borC_sl]
def enA(p:LU×List Bl):AV:=.agg [.str p.1,.fz 3 (p.2.map rbA)]
def AdL(fi:List LU)(ps:List (List Ln)):LY:=(List.range ps.length).map fun i=>.agg [.str (fi.getD i []),.fz 1 ((ps.getD i []).map .str)]
theorem AfJ(fi:List LU)(ps:List (List Ln)):(AdL fi ps).length=ps.length:=by simp[AdL]
theorem AjU(fi:List LU)(ps:List (List Ln)){i:Nat}(h:i<ps.length):List.getD (AdL fi ps) i .any=.agg [.str (fi.getD i []),.fz 1 ((ps.getD i []).map .str)]:=by
 grind[AdL]
theorem BgR(fi:List LU)(ps:List (List Ln)){i:Nat}(h:i<ps.length)(hf:fi.length=ps.length)(x:LU):(AdL fi ps).set i (.agg [.str x,.fz 1 ((ps.getD i []).map .str)])=AdL (fi.set i x) ps:=by
 refine lbo fun j=>?_<;>grind[AdL]
def rowsT(ps:List (List Ln))(j:Nat):LY:=(ps.take j).map (fun p=>.agg [.str [],.fz 1 (p.map .str)])++List.replicate (ps.length-j) (.agg [.str [],.raw (.slice none 0 0)])
theorem BgS(ps:List (List Ln)){j:Nat}(h:j<=ps.length):(rowsT ps j).length=ps.length:=by grind[rowsT]
theorem BgT(ps:List (List Ln)):rowsT ps ps.length=AdL (List.replicate ps.length []) ps:=by
 refine lbo fun j=>?_
 all_goals grind[rowsT,AdL]
theorem BgU(ps:List (List Ln)){j:Nat}(h:j<ps.length):List.getD (rowsT ps j) j .any=.agg [.str [],.raw (.slice none 0 0)]:=by
 grind[rowsT]
theorem BgV(ps:List (List Ln)){j:Nat}(h:j<ps.length):(rowsT ps j).set j (.agg [.str [],.fz 1 (ps[j].map .str)])=rowsT ps (j+1):=by
 have hl:(ps.take j).length=j:=by grind
 rw[rowsT,List.set_append_right _ _ (by grind),laa,hl,Nat.sub_self,show ps.length-j=(ps.length-(j+1))+1 by omega,List.replicate_succ,lby,rowsT,lad h,laf,lca];rfl
def ssE(es:List (LU×List Bl)):List (List Bl):=es.map (·.2)
structure PgOk(es:List (LU×List Bl)):Prop where
 hd:HdOk (ssE es)
 ld:∀ e∈es,∀ b∈e.2,LdOk b
 own:∀ b∈(ssE es).flatten,∀ x∈b.Lb,OwnLn x
 few:∀ g,g<=(ssE es).flatten.length->(layTo (ssE es).flatten g).Lh.length<=80000
 n:es.length<=1000000
 m:∀ e∈es,e.2.length<=1000000
def fiR(es:List (LU×List Bl))(k:Nat):List LU:=fiTo (ssE es).flatten (hxR (ssE es)) (fun k=>(es.getD k ([],[])).1) (layL (ssE es).flatten).Lh.length k
theorem BnK{bs:List Bl}(hb:∀ b∈bs,BrkOk b){i j:Nat}(hij:i<=j)(hj:j<=bs.length):(toQ (layTo bs i)).length<=(toQ (layTo bs j)).length:=by
 induction hij with
 | refl=>omega
 | @step m hm ih =>
  obtain⟨m1,e1,e2⟩:=AyV bs m bs[m] (layTo bs m);obtain⟨m2,p1,p2⟩:=AiI bs[m] (bs[m].Lb.length+1) 0 (openS bs m bs[m] (layTo bs m))
  grind[openS,layTo,gapS,firstS,lay_ne,toQ]
theorem AbA{α:Type}{f:α->AV}(h:∀ x,(cellsOf (f x)).all Av.frozen=true)(l:List α):(flat (l.map f)).all Av.frozen=true:=by
 induction l<;>grind[flat]
theorem ApQ(fi:List LU)(ps:List (List Ln)):(flat (AdL fi ps)).all Av.frozen=true:=AbA (fun _=>rfl) _
theorem A9A(es:List (LU×List Bl))(h:PgOk es) :
  Ct prog 104 [.fz 2 (es.map enA)] [] (fun r s=>r=.sl 0 0 (layL (ssE es).flatten).Lh.length (layL (ssE es).flatten).Lh.length/\s=[.arr 2 (AdL (fiR es es.length) (layL (ssE es).flatten).Lh)]):=by
 have hlaid:=BuL (ssE es) h.hd (fun l hl b hb=>by
  obtain⟨e,he,rfl⟩:=List.mem_map.1 hl;exact h.ld e he b hb) h.own h.few (by simpa[ssE]using h.n) (fun l hl=>by
  obtain⟨e,he,rfl⟩:=List.mem_map.1 hl;exact h.m e he)
 have hn:=h.n;have hsa:ssA (ssE es)=.fz 1 (es.map fun e=>.fz 3 (e.2.map rbA)):=by simp[ssA,ssE,Function.comp_def]
 have hsl:(ssE es).length=es.length:=by simp[ssE]
 rw[hsa,hsl]at hlaid;have hbk:∀ b∈(ssE es).flatten,BrkOk b:=fun b hq=>by
  obtain⟨l,hl,hbl⟩:=List.mem_flatten.1 hq;obtain⟨e,he,rfl⟩:=List.mem_map.1 hl;exact(h.ld e he b hbl).brk
 have hpn:(layL (ssE es).flatten).Lh.length<=90000:=by
  rw[<- A2K];have:=h.few _ (lab _);unfold toQ
  split
  .omega
  .rw [lah,lal,laq]; omega
 have hst:∀ k,k<es.length->List.getD ((tpsL (ssE es) es.length).map AV.bool) k .any=.bool (tpR (ssE es).flatten (hxR (ssE es) k)):=fun k hk=>by simp[tpsL,hk,List.getD]
 have hsi:∀ k,k<es.length->List.getD ((stsL (ssE es) es.length).map (AV.int .i64)) k .any=.int .i64 ((stR (ssE es).flatten (hxR (ssE es) k)+1:Nat):Int):=fun k hk=>by simp[stsL,hk,List.getD]
 have hss:∀ k,k<es.length->stR (ssE es).flatten (hxR (ssE es) k)<(layL (ssE es).flatten).Lh.length:=fun k hk=>by
  have hkm:k<(ssE es).length:=by rw[hsl]; exact hk
  obtain⟨b,r,e,e0,_⟩:=h.hd _ (lac hkm);have hl0:0<(ssE es)[k].length:=by rw[e]; simp
  have hfa:=BgG hkm hl0;have hb0:(ssE es)[k][0]=b:=by simp only[e,List.getElem_cons_zero]
  rw[hb0,Nat.add_zero]at hfa;obtain⟨hlt,hel⟩:=List.getElem?_eq_some_iff.1 hfa;have:=ArU hbk hlt (by rw[hel]; exact e0);have g:=BnK hbk (i:=hxR (ssE es) k+1) (Nat.succ_le_of_lt hlt) (lab _);rw[A2K]at g;omega
 refine zcIF func104 rfl fun h ρ w=>?_
 simp only[go_sem,laa];refine AaC (ι:=Nat) (fun j=>es.length-j) (fun j=>[(16,.int .i64 j),(15,.int .i64 es.length),(14,.fz 2 (es.map enA)),(3,.sl 0 0 j j),(0,.fz 2 (es.map enA))])
  (fun j=>[.arr 1 ((es.take j).map fun e=>.fz 3 (e.2.map rbA))]) (fun j=>j<=es.length) 0 (by omega) ?_ ?_
 .refine Shift.trans (Lv 3 1 rfl) (Lu ?_ (by rfl))
  simp only[go_sem]
 .intro j g1 J hJ
  by_cases gj:j<es.length
  .have dj:decide ((j:Int)<(es.length:Int))=true:=by simp; omega
   have hg':List.getD (es.map enA) j .any=.agg [.str es[j].1,.fz 3 (es[j].2.map rbA)]:=by simp[List.getD,gj,enA]
   have hlt:(List.take j es).length=j:=by simp; omega
   have hJ2:=hJ (j+1) (by omega) (by omega);rw[lad gj]at hJ2;apply zgF;simp only[go_sem,dj,hg',laa,hlt]
   repeat refine aqb ?_
   refine ainv hJ2 (Shift.trans (Shift.low 1 (e':=[(16,.int .i64 ((j+1:Nat):Int)),(15,.int .i64 es.length),(14,.fz 2 (es.map enA)),(3,.sl 0 0 (j+1) (j+1)),(0,.fz 2 (es.map enA))]) (by simp) (by simp) ?_ ?_) (Lu ?_ ?_))
   .have:=AbA (f:=fun e:LU×List Bl=>AV.fz 3 (e.2.map rbA)) (fun _=>rfl) (es.take j++[es[j]])
    rw[laf]at this
    show(lowB 1 (.arr 1 _)&&true)=true
    rw[lau];exact AaH this
   .rw [show((j+1:Nat):Int)=(j:Int)+1 by omega]
    simp only[go_sem]
   .simp only [go_sem]
   .rw [laf]
    rfl
  .have dj:decide ((j:Int)<(es.length:Int))=false:=by simp; omega
   have hj:j=es.length:=by omega
   subst hj;clear hJ;rw[lap];generalize hps:(layL (ssE es).flatten).Lh=ps at *;refine AWp.shift (Shift.trans (Shift.freeze 3 (id:=0) rfl rfl (by simp) (lab _) (AbA (fun _=>rfl) _)) (Shift.low 0 (e':=[(16,.int .i64 (es.length:Int)),(15,.int .i64 es.length),(3,.fz 1 (es.map fun e=>.fz 3 (e.2.map rbA))),(0,.fz 2 (es.map enA))]) (by simp) (by simp) rfl ?_)) ?_
   .simp only[go_sem]
    rw[lae (by simp)]
   .apply zgF
    simp only[go_sem,dj];refine zpF (hlaid) ?_;simp only[go_sem,laa]
    repeat refine aqb ?_
    refine AaC (ι:=Nat) (fun j=>ps.length-j) (fun j=>[(37,.int .i64 j),(36,.int .i64 ps.length),(35,.fz 1 (ps.map pgA)),(9,.sl 0 0 ps.length ps.length),(8,.fz 1 ((tpsL (ssE es) es.length).map .bool)),(7,.fz 1 ((stsL (ssE es) es.length).map (.int .i64))),(0,.fz 2 (es.map enA))])
     (fun j=>[.arr 2 (rowsT ps j)]) (fun j=>j<=ps.length) 0 (by omega) ?_ ?_
    .refine Lu ?_ (by simp[rowsT])
     simp only[go_sem]
    .intro j g2 J hJ
     by_cases gj:j<ps.length
     .have dj:decide ((j:Int)<(ps.length:Int))=true:=by simp; omega
      have hg':List.getD (ps.map pgA) j .any=.fz 1 (ps[j].map .str):=by simp[List.getD,gj,pgA]
      have hgt:=BgU ps gj;have hsx:=BgV ps gj;have hlx:=BgS ps g2;apply zgF;simp only[go_sem,dj,hg',hgt,hsx,hlx,laa]
      repeat refine aqb ?_
      rw[ic j];refine ainv (hJ (j+1) (by omega) (by omega)) (Ls ?_);simp only[go_sem]
     .have dj:decide ((j:Int)<(ps.length:Int))=false:=by simp; omega
      have hj:j=ps.length:=by omega
      subst hj;clear hJ;rw[BgT];apply zgF;simp only[go_sem,dj,laa];refine AaC (ι:=Nat) (fun k=>es.length-k) (fun k=>[(50,.int .i64 k),(49,.int .i64 es.length),(48,.fz 2 (es.map enA)),(9,.sl 0 0 ps.length ps.length),(8,.fz 1 ((tpsL (ssE es) es.length).map .bool)),(7,.fz 1 ((stsL (ssE es) es.length).map (.int .i64)))])
       (fun k=>[.arr 2 (AdL (fiR es k) ps)]) (fun k=>k<=es.length) 0 (by omega) ?_ ?_
      .refine Lu ?_ (by simp[fiR,fiTo,hps])
       simp only[go_sem]
      .intro k g3 J hJ
       have hfl:(fiR es k).length=ps.length:=by unfold fiR; rw[fiTo_len,hps]
       have hrl:=AfJ (fiR es k) ps
       by_cases gk:k<es.length
       .have dk:decide ((k:Int)<(es.length:Int))=true:=by simp; omega
        have hg':List.getD (es.map enA) k .any=.agg [.str es[k].1,.fz 3 (es[k].2.map rbA)]:=by simp[List.getD,gk,enA]
        have h1:=hst k gk;have h2:=hsi k gk;have h3:=hss k gk;have hJ2:=hJ (k+1) (by omega) (by omega);have hfs:fiR es (k+1)=if tpR (ssE es).flatten (hxR (ssE es) k) then(fiR es k).set (stR (ssE es).flatten (hxR (ssE es) k)) es[k].1 else fiR es k:=by
         unfold fiR;rw[fiTo]
         simp[List.getD,gk]
        cases ht:tpR (ssE es).flatten (hxR (ssE es) k)with
        | false =>
         rw[ht]at h1 hfs;rw[hfs]at hJ2;apply zgF;simp only[go_sem,dk,hg',h1,stsL_len,tpsL_len,laa]
         repeat refine aqb ?_
         refine ainv hJ2 (Shift.trans (Shift.low 1 (e':=[(50,.int .i64 ((k:Int)+1)),(49,.int .i64 es.length),(48,.fz 2 (es.map enA)),(9,.sl 0 0 ps.length ps.length),(8,.fz 1 ((tpsL (ssE es) es.length).map .bool)),(7,.fz 1 ((stsL (ssE es) es.length).map (.int .i64)))]) (by simp) (by simp) ?_ ?_) (Lu ?_ rfl))
         .show (lowB 1 (.arr 2 _)&&true)=true
          rw[lau];exact AaH (ApQ _ _)
         .simp only[go_sem]
         .simp only [go_sem]
          rfl
        | true =>
         rw[ht]at h1 hfs;rw[hfs]at hJ2;simp only[if_true]at hJ2;have e1:(((stR (ssE es).flatten (hxR (ssE es) k)+1:Nat):Int)-1).toNat=stR (ssE es).flatten (hxR (ssE es) k):=by omega
         have hrg:=AjU (fiR es k) ps h3;have hrs:=BgR (fiR es k) ps h3 hfl es[k].1;generalize stR (ssE es).flatten (hxR (ssE es) k)=sx at *;apply zgF;simp only[go_sem,dk,hg',h1,stsL_len,tpsL_len,laa]
         repeat refine aqb ?_
         refine zr [] AaF ?_;simp only[go_sem,h2,e1,hrg,hrs,hrl,stsL_len,laa]
         repeat refine aqb ?_
         apply zgF;simp only[go_sem]
         repeat refine aqb ?_
         refine ainv hJ2 (Shift.trans (Shift.low 1 (e':=[(50,.int .i64 ((k:Int)+1)),(49,.int .i64 es.length),(48,.fz 2 (es.map enA)),(9,.sl 0 0 ps.length ps.length),(8,.fz 1 ((tpsL (ssE es) es.length).map .bool)),(7,.fz 1 ((stsL (ssE es) es.length).map (.int .i64)))]) (by simp) (by simp) ?_ ?_) (Lu ?_ rfl))
         .show (lowB 1 (.arr 2 _)&&true)=true
          rw[lau];exact AaH (ApQ _ _)
         .simp only[go_sem]
         .simp only [go_sem]
          rfl
       .have dk:decide ((k:Int)<(es.length:Int))=false:=by simp; omega
        have hk:k=es.length:=by omega
        subst hk;apply zgF;simp only[go_sem,dk];exact zt [2]
