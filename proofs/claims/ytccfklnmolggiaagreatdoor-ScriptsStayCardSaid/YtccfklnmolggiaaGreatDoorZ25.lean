/- The blocks of a scene. -/
import Derived.Test.YtccfklnmolggiaaGreatDoorZ24
set_option maxRecDepth 100000
set_option maxHeartbeats 8000000
set_option linter.all false
namespace Go.Proofs.YtccfklnmolggiaaGreatDoor
open Av RowKit Proofs.Tryz
def asideT(t:LU):LU:=40::(t++[41])
def newB(p:Pa):Bl :=
 if p.kind==1 then⟨1,wrapL 60 p.text,[],[]⟩ else if p.kind==5 then⟨2,[turnLine p.text],[],[]⟩ else⟨3,[indent 20 p.text],[0],p.text⟩
def moreB(b:Bl)(p:Pa):Bl:=if p.kind==3 then addB b 1 15 (wrapL 30 (asideT p.text)) else addB b 2 10 (wrapL 35 p.text)
def bstep(s:List Bl×Bl)(p:Pa):List Bl×Bl:=if joins p then(s.1,moreB s.2 p) else(s.1++[s.2],newB p)
def AeU(x:Sc):List Bl×Bl:=x.Lc.foldl bstep ([],⟨0,wrapL 60 (headL x),[],[]⟩)
def blocksL(x:Sc):List Bl:=(AeU x).1++[(AeU x).2]
theorem A6K(id e:Nat)(l:LY)(bs:List Bl):(bs.map blA).map (frzC id e l)=bs.map blA:=by
 rw[List.map_map];rfl
theorem frz_scB(id e:Nat)(l:LY)(x:Sc):frzC id e l (scA x)=scA x:=rfl
theorem AdD(l:List Bl):(flat (l.map blA)).all Av.frozen=true:=by
 induction l<;>grind[flat,cellsOf,blA,Av.frozen]
def XA(b:Bl):AV:=if b.kind==3 then grpA 2 3 b.kind b.La.length b.kinds.length b.name else blA b
def LA(b:Bl):LY:=if b.kind==3 then b.La.map .str else[]
def KA(b:Bl):LY:=if b.kind==3 then b.kinds.map (.int .i64) else[]
def boT(x:Sc)(dn:List Bl)(cur:Bl):LB:=[.arr 5 [scA x],.arr 4 (dn.map blA++[XA cur]),.arr 1 (LA cur),.arr 1 (KA cur)]
theorem AqG{n id es:Nat}{l:LY}(hid:n<=id){v:AV}(h:lowC n v=true):frz1 id es l v=v:=by
 cases v with
 | sl i off len cap =>
  have hi:=of_decide_eq_true h
  grind[frz1]
 | ptr i off len cap =>
  have hi:=of_decide_eq_true h
  grind[frz1]
 | _=>rfl
theorem AzI{n id es:Nat}{l:LY}(hid:n<=id){r:LY}(h:r.all (lowC n)=true):r.map (frz1 id es l)=r:=by
 conv=>rhs; rw[<- List.map_id r]
 grind[lcc,AqG]
theorem BcA{n id es:Nat}{l:LY}(hid:n<=id){v:AV}(h:lowV n v=true):frz id es l v=v:=by
 cases v with
 | agg r=>simp only[frz,AzI hid (show r.all (lowC n)=true from h)]
 | fn f r=>simp only[frz,AzI hid (show r.all (lowC n)=true from h)]
 | sl i off len cap=>exact AqG hid (show lowC n (.sl i off len cap)=true from h)
 | ptr i off len cap=>exact AqG hid (show lowC n (.ptr i off len cap)=true from h)
 | _=>rfl
theorem AgS{n id es:Nat}{l:LY}(hid:n<=id){e:Env}:∀ {e':Env},wkl n e e'->wkl n (frzE id es l e) e'
 | [],_=>trivial
 | (t,v)::r,h=>⟨⟨h.1.1,by rw[get_frzE,h.1.2,BcA hid h.1.1]⟩,AgS hid h.2⟩
theorem low_bls(n:Nat)(l:List Bl):lowB n (.arr 4 (l.map blA))=true:=AaD (AdD l)
theorem low_sc(n:Nat)(x:Sc):lowB n (.arr 5 [scA x])=true:=rfl
section
variable {c:Cx}{e e':Env}
theorem AnW{x:Sc}{dn:List Bl}{cur:Bl}(hc:c.sto.length<=2)(hw:wkl 2 e e'):Shift c e (boT x dn cur) e' [.arr 5 [scA x],.arr 4 ((dn++[cur]).map blA),.arr 1 [],.arr 1 []]:=by
 have fin:∀ {e0:Env} {s2:LB},wkl 2 e0 e'->Shift c e0 ([.arr 5 [scA x],.arr 4 ((dn++[cur]).map blA)]++s2) e' [.arr 5 [scA x],.arr 4 ((dn++[cur]).map blA),.arr 1 [],.arr 1 []]:=by
  intro e0 s2 hw0;refine Shift.trans (Shift.low 2 hc (by simp) ?_ hw0) (Shift.trans (Lr 1) (Lr 1))<;>grind[low_bls,low_sc]
 unfold boT XA LA KA
 cases hk:cur.kind==3 with
 | false =>
  simp_all
 | true =>
  simp
  refine Shift.trans (Shift.frz 2 rfl (AbN _)) ?_;simp only[List.set_cons_succ,lbs,lah,laq,frzB,frz_scB,lap,A6K];simp only[grpA,frzC,frz,frz1,lah,laq,Nat.reduceBEq,lbi,lav,lba,Bool.false_and,lbn,laa,lau,decide_true,lab,List.drop_zero,lbo];have h3:(List.map (frzC 2 1 (cur.La.map .str)) (cur.kinds.map (.int .i64)))=cur.kinds.map (.int .i64):=by
   rw[List.map_map];exact lcc fun _ _=>rfl
  have ht:List.take cur.La.length (List.map AV.str cur.La)=List.map AV.str cur.La:=lag (by simp);rw[h3,ht];refine Shift.trans (Shift.frz 3 rfl (AeS _)) ?_;simp only[List.set_cons_succ,lbs,lah,laq,frzB,frz_scB,lap,A6K];simp only[grpA,frzC,frz,frz1,lah,laq,Nat.reduceBEq,lbi,lav,lba,Bool.false_and,lbn,laa,lau,decide_true,lab,List.drop_zero,lbo];have ht2:List.take cur.kinds.length (List.map (AV.int .i64) cur.kinds)=List.map (AV.int .i64) cur.kinds:=lag (by simp);rw[ht2];have:dn.map blA++[.agg [.int .i64 cur.kind,.fz 1 (cur.La.map .str),.fz 1 (cur.kinds.map (.int .i64)),.str cur.name]]=(dn++[cur]).map blA:=by simp[blA]
  rw[this,show List.map blA dn++[blA cur]=(dn++[cur]).map blA by simp];exact fin (AgS (by omega) (AgS (by omega) hw))
end
theorem AtH(p:Pa):(newB p).kind=3 ↔ ¬ (p.kind=1\/p.kind=5):=by
 grind[newB]
theorem AhG{x:Sc}{dn:List Bl}{b:Bl}(h:(b.kind==3)=false):boT x dn b=[.arr 5 [scA x],.arr 4 (dn.map blA++[blA b]),.arr 1 [],.arr 1 []]:=by
 grind[boT,XA,LA,KA]
theorem AhH{x:Sc}{dn:List Bl}{b:Bl}(h:(b.kind==3)=true):boT x dn b=[.arr 5 [scA x],.arr 4 (dn.map blA++[grpA 2 3 b.kind b.La.length b.kinds.length b.name]),.arr 1 (b.La.map .str),.arr 1 (b.kinds.map (.int .i64))]:=by
 grind[boT,XA,LA,KA]
theorem AlN(x:Sc)(dn:List Bl)(b:Bl):(boT x dn b).all (lowB 4)=true:=by
 have h1:=AgB 4 b.La;have h2:lowB 4 (.arr 1 (b.kinds.map (.int .i64)))=true:=AaD (AeS _);have h3:=AaD (n:=4) (AdD dn)
 cases h:b.kind==3 with
 | false =>
  rw[AhG h];have:=low_bls 4 (dn++[b]);rw[lap]at this;simp only[laz,List.all_nil,low_sc,this,lbw,lbn];have e:[blA b]=List.map blA [b]:=rfl;rw[e,this]; rfl
 | true =>
  rw[AhH h];simp only[laz,List.all_nil,low_sc,h1,h2,lbw,lbn];simp only[lowB,flat_append,List.all_append,h3,flat,grpA,cellsOf,lbg,laz,List.all_nil,lowC,Av.frozen,decide_true,lbo,lbn,Nat.reduceLT]
theorem AiL(b:Bl)(p:Pa):(moreB b p).kind=b.kind:=by
 unfold moreB; split <;> rfl
theorem moreB_len(b:Bl)(p:Pa):(moreB b p).La.length<=b.La.length+p.text.length+4/\(moreB b p).kinds.length<=b.kinds.length+p.text.length+4:=by
 grind[moreB,addB,wrapL_le,asideT]
theorem AqH(p:Pa):(newB p).La.length<=p.text.length+4/\(newB p).kinds.length<=1:=by
 grind[wrapL_le,newB]
theorem A1Q{St:Std}(hS:LibOk St)(x:Sc)(hx:SceneOk x)(hp:1<=x.place/\x.place<=3)(ht:1<=x.time/\x.time<=5)(hno:x.no.length<1000000)(hset:x.set.length<10000)(hps:x.Lc.length<=4000):PcH prog St 52 [scA x] (· = .fz 4 ((blocksL x).map blA)):=by
 have hh:=AnA x hp ht (by omega) hset;have hhl:(headL x).length<2000000:=by
  have l1:=AeJ x.place;have l2:=AfH x.time;unfold headL headLine
  split <;> simp <;> omega
 have hnh:=AmZ hS (headL x) (by omega);obtain⟨e,hr,he2,he3⟩:=hx.run;simp only[scA]at hh |-;refine zqIN func52 rfl fun h ρ w hg=>?_
 simp only[go_sem];refine zpN (hh) ?_;simp only[go_sem];refine zqN hg (hnh) ?_;simp only[blA];simp only[go_sem,laa];refine AWp.shift (Shift.trans (Lr 1) (Lr 1)) ?_;refine AaI (ι:=Nat×List Bl×Bl×Int) (fun y=>x.Lc.length-y.1)
  (fun y=>[(13,.int .i64 y.1),(12,.int .i64 x.Lc.length),(11,.fz 2 (x.Lc.map paA)),(3,.sl 1 0 (y.2.1.length+1) (y.2.1.length+1))])
  (fun y=>boT x y.2.1 y.2.2.1) (fun y=>y.1<=x.Lc.length/\runL y.2.2.2 (x.Lc.drop y.1)=some e/\((y.2.2.2=2\/y.2.2.2=3\/y.2.2.2=4)->y.2.2.1.kind=3)/\(x.Lc.drop y.1).foldl bstep (y.2.1,y.2.2.1)=AeU x /\
   y.2.1.length<=y.1/\y.2.2.1.La.length<=3000000+2100*y.1/\y.2.2.1.kinds.length<=3000000+2100*y.1) (0,[],⟨0,wrapL 60 (headL x),[],[]⟩,0) ⟨by simp,hr,by simp,rfl,by simp,?_,by simp⟩ ?_ ?_
 .have:=(wrapL_le 60 (headL x)).1
  simp only; omega
 .refine Lp ?_ ?_
  .simp only [go_sem]
  .rw [AhG (by rfl)]; rfl
 .rintro ⟨j,dn,cur,l⟩ ⟨g1,g2,g3,g4,g5,g6,g7⟩ J hJ
  simp only at g1 g2 g3 g4 g5 g6 g7 hJ |-
  by_cases gj:j<x.Lc.length
  .have dj:decide ((j:Int)<(x.Lc.length:Int))=true:=by simp; omega
   have hpA:List.getD (List.map paA x.Lc) j .any=.agg [.int .i64 x.Lc[j].kind,.str x.Lc[j].text]:=by simp[List.getD,gj,paA]
   rw[lbc gj]at g2 g4;simp only[runL]at g2;rw[List.foldl_cons]at g4
   split at g2
   rotate_left
   .cases g2
   rename_i hok;simp only[lac]at hok;generalize x.Lc[j]=p at *;have hpl:=AgC hok.1
   cases hj:joins p with
   | true =>
    have hst:bstep (dn,cur) p=(dn,moreB cur p):=by simp[bstep,hj]
    rw[hst]at g4;have hml:=moreB_len cur p;have hmk:=AiL cur p;have hk3:(cur.kind==3)=true:=by
     have hf:=hok.2;simp only[joins,lbj,lbx]at hj;simp only[followsL]at hf;have:cur.kind=3:=by
      rcases hj with h|h <;> simp[h]at hf <;> exact g3 (by omega)
     simpa using this
    have G:Grp (fun g L K=>[.arr 5 [scA x],.arr 4 (dn.map blA++[g]),.arr 1 L,.arr 1 K,.arr 2 [.agg [.int .i64 p.kind,.str p.text]]]) (fun g=>dn.map blA++[g]) 1 2 3 (dn.length+1) dn.length :=
     ⟨by omega,fun _ _ _=>rfl,fun _=>by simp,fun _=>by simp[List.getD],fun _ _=>by simp,fun _ _ _ _=>rfl,fun _ _ _=>rfl,fun _ _ _ _=>rfl,fun _ _ _=>rfl,fun _ _ _ _=>rfl⟩
    have htn:(((dn.length+1:Nat):Int)-1).toNat=dn.length:=by omega
    have fin:boT x dn (moreB cur p)=[.arr 5 [scA x],.arr 4 (dn.map blA++[grpA 2 3 (moreB cur p).kind (moreB cur p).La.length (moreB cur p).kinds.length (moreB cur p).name]),.arr 1 ((moreB cur p).La.map .str),.arr 1 ((moreB cur p).kinds.map (.int .i64))]:=AhH (by rw[hmk]; exact hk3);have hJ':=hJ (j+1,dn,moreB cur p,p.kind) ⟨by simp only; omega,g2,by simp only; intro _; rw[hmk]; simpa using hk3,g4,by simp only; omega,by simp only; omega,by simp only; omega⟩ (by simp only; omega);simp only at hJ';rw[AhH hk3]
    by_cases k3:p.kind=3
    .have q1:(p.kind==1)=false:=by simp[k3]
     have q5:(p.kind==5)=false:=by simp[k3]
     have q2:(p.kind==2)=false:=by simp[k3]
     have q3:(p.kind==3)=true:=by simp[k3]
     have hadd:=AtE hS G cur p.text (by omega) (by omega) (by omega);have hmb:addB cur 1 15 (wrapL 30 (40::(p.text++[41])))=moreB cur p:=by simp[moreB,k3,asideT]
     rw[hmb]at hadd;simp only[grpS]at hadd;apply zgF;simp only[go_sem,dj,hpA,q1,q5,q2,q3,laa]
     repeat refine aqb ?_
     refine AsW [] rfl AaJ (by decide) rfl rfl rfl 100 ?_;simp only[go_sem,iniO,KLast,laa,htn]
     repeat refine aqb ?_
     apply zgF;simp only[go_sem];refine zaH hg (hadd) ?_;rintro _ _ ⟨rfl,rfl⟩;apply zgF;simp only[go_sem]
     repeat refine aqb ?_
     rw[ic j];refine ainv hJ' (Shift.trans (Shift.low 4 (e':=[(13,.int .i64 ((j+1:Nat):Int)),(12,.int .i64 x.Lc.length),(11,.fz 2 (x.Lc.map paA)),(3,.sl 1 0 (dn.length+1) (dn.length+1))]) (by simp) (by simp) ?_ ?_) (Lp ?_ ?_))
     .have:=AlN x dn (moreB cur p)
      rw[fin]at this;exact this
     .simp only [go_sem]
     .simp only [go_sem]
     .rw [fin]; rfl
    .have k4:p.kind=4:=by
      simp only[joins,lbj,lbx]at hj;omega
     have q1:(p.kind==1)=false:=by simp[k4]
     have q5:(p.kind==5)=false:=by simp[k4]
     have q2:(p.kind==2)=false:=by simp[k4]
     have q3:(p.kind==3)=false:=by simp[k4]
     have q4:(p.kind==4)=true:=by simp[k4]
     have hadd:=AqD hS G cur p.text (by omega) (by omega) (by omega);have hmb:addB cur 2 10 (wrapL 35 p.text)=moreB cur p:=by simp[moreB,k4]
     rw[hmb]at hadd;simp only[grpS]at hadd;apply zgF;simp only[go_sem,dj,hpA,q1,q5,q2,q3,q4,laa]
     repeat refine aqb ?_
     refine AsW [] rfl AaJ (by decide) rfl rfl rfl 100 ?_;simp only[go_sem,iniO,KLast,laa,htn]
     repeat refine aqb ?_
     apply zgF;simp only[go_sem];refine zaH hg (hadd) ?_;rintro _ _ ⟨rfl,rfl⟩;apply zgF;simp only[go_sem]
     repeat refine aqb ?_
     rw[ic j];refine ainv hJ' (Shift.trans (Shift.low 4 (e':=[(13,.int .i64 ((j+1:Nat):Int)),(12,.int .i64 x.Lc.length),(11,.fz 2 (x.Lc.map paA)),(3,.sl 1 0 (dn.length+1) (dn.length+1))]) (by simp) (by simp) ?_ ?_) (Lp ?_ ?_))
     .have:=AlN x dn (moreB cur p)
      rw[fin]at this;exact this
     .simp only [go_sem]
     .simp only [go_sem]
     .rw [fin]; rfl
   | false =>
    have hst:bstep (dn,cur) p=(dn++[cur],newB p):=by simp[bstep,hj]
    rw[hst]at g4;have hnl:=AqH p;have hJ':=hJ (j+1,dn++[cur],newB p,p.kind) ⟨by simp only; omega,g2,by
     simp only;intro h;rw[AtH];have hk:=join_no hj;omega,g4,by simp; omega,by simp only; omega,by simp only; omega⟩ (by simp only; omega)
    have hlen1:(dn++[cur]).length+1=dn.length+1+1:=by simp
    simp only[hlen1]at hJ';have hk15:1<=p.kind/\p.kind<=5:=by
     have:=hok.1;simp only[paraOk,lac,lao]at this;exact⟨this.1,this.2.1⟩
    have hkj:=join_no hj;refine AWp.shift (AnW (e':=[(13,.int .i64 (j:Int)),(12,.int .i64 x.Lc.length),(11,.fz 2 (x.Lc.map paA)),(3,.sl 1 0 (dn.length+1) (dn.length+1))]) (by simp) (by simp only[go_sem])) ?_;have hlm:(List.map blA (dn++[cur])).length=dn.length+1:=by simp
    by_cases k1:p.kind=1
    .have q1:(p.kind==1)=true:=by simp[k1]
     have hna:=AqC hS p.text (by omega);have hnb:newB p=⟨1,wrapL 60 p.text,[],[]⟩:=by simp[newB,k1]
     have fin:=AhG (x:=x) (dn:=dn++[cur]) (b:=newB p) (by rw[hnb]; rfl);apply zgF;simp only[go_sem,dj,hpA,q1,hlm,laa]
     repeat refine aqb ?_
     refine zqF hg (hna) ?_;simp only[blA];simp only[go_sem,hlm,laa]
     repeat refine aqb ?_
     rw[hnb]at fin;rw[hnb]at hJ';rw[ic j];refine ainv hJ' (Shift.trans (Shift.low 4 (e':=[(13,.int .i64 ((j+1:Nat):Int)),(12,.int .i64 x.Lc.length),(11,.fz 2 (x.Lc.map paA)),(3,.sl 1 0 (dn.length+1+1) (dn.length+1+1))]) (by simp) (by simp) ?_ ?_) (Lp ?_ ?_))
     .have:=AlN x (dn++[cur]) ⟨1,wrapL 60 p.text,[],[]⟩
      rw[fin]at this;exact this
     .simp only [go_sem]
     .simp only [go_sem]
     .rw [fin]; rfl
    .by_cases k5:p.kind=5
     .have q1:(p.kind==1)=false:=by simp[k5]
      have q5:(p.kind==5)=true:=by simp[k5]
      have hna:=A1N p.text (by omega);have hnb:newB p=⟨2,[turnLine p.text],[],[]⟩:=by simp[newB,k5]
      have fin:=AhG (x:=x) (dn:=dn++[cur]) (b:=newB p) (by rw[hnb]; rfl);apply zgF;simp only[go_sem,dj,hpA,q1,q5,hlm,laa]
      repeat refine aqb ?_
      refine zpF (hna) ?_;simp only[blA];simp only[go_sem,hlm,laa]
      repeat refine aqb ?_
      rw[hnb]at fin;rw[hnb]at hJ';rw[ic j];refine ainv hJ' (Shift.trans (Shift.low 4 (e':=[(13,.int .i64 ((j+1:Nat):Int)),(12,.int .i64 x.Lc.length),(11,.fz 2 (x.Lc.map paA)),(3,.sl 1 0 (dn.length+1+1) (dn.length+1+1))]) (by simp) (by simp) ?_ ?_) (Lp ?_ ?_))
      .have:=AlN x (dn++[cur]) ⟨2,[turnLine p.text],[],[]⟩
       rw[fin]at this;exact this
      .simp only [go_sem]
      .simp only [go_sem]
      .rw [fin]; rfl
     .have k2:p.kind=2:=by omega
      have q1:(p.kind==1)=false:=by simp[k2]
      have q5:(p.kind==5)=false:=by simp[k2]
      have q2:(p.kind==2)=true:=by simp[k2]
      have hnb:newB p=⟨3,[indent 20 p.text],[0],p.text⟩:=by simp[newB,k2]
      have fin:=AhH (x:=x) (dn:=dn++[cur]) (b:=newB p) (by rw[hnb]; rfl);apply zgF;simp only[go_sem,dj,hpA,q1,q5,q2,hlm,laa]
      repeat refine aqb ?_
      refine za (AwK _ _ _ p.text (by omega)) ?_;rintro _ _ ⟨rfl,b5,b6,rfl⟩;simp only[grpA];apply zgN;simp only[go_sem,hlm,laa]
      repeat refine aqb ?_
      rw[hnb]at fin;rw[hnb]at hJ';simp only[lah,laq,laf,lar,lau,grpA]at fin;rw[ic j];refine ainv hJ' (Shift.trans (Shift.low 4 (e':=[(13,.int .i64 ((j+1:Nat):Int)),(12,.int .i64 x.Lc.length),(11,.fz 2 (x.Lc.map paA)),(3,.sl 1 0 (dn.length+1+1) (dn.length+1+1))]) (by simp) (by simp) ?_ ?_) (Lp ?_ ?_))
      .have:=AlN x (dn++[cur]) ⟨3,[indent 20 p.text],[0],p.text⟩
       rw[fin]at this;exact this
      .simp only [go_sem]
      .simp only [go_sem]
      .rw [fin]; rfl
  .have dj:decide ((j:Int)<(x.Lc.length:Int))=false:=by simp; omega
   have hj:j=x.Lc.length:=by omega
   subst hj;rw[List.drop_length]at g4;simp only[List.foldl_nil]at g4;have hbl:blocksL x=dn++[cur]:=by simp[blocksL,<- g4]
   refine AWp.shift (AnW (e':=[(13,.int .i64 (x.Lc.length:Int)),(12,.int .i64 x.Lc.length),(11,.fz 2 (x.Lc.map paA)),(3,.sl 1 0 (dn.length+1) (dn.length+1))]) (by simp) (by simp only[go_sem])) ?_;apply zgF;simp only[go_sem,dj];refine ARet.shift (Shift.freeze 2 (id:=1) rfl rfl (by simp) (lab _) (AdD _)) (aret [2] rfl ⟨?_,rfl⟩)
   simp[resV,Av.get,Av.put,lag,hbl]
end Go.Proofs.YtccfklnmolggiaaGreatDoor
namespace Go.Proofs.YtccfklnmolggiaaGreatDoor
open Av RowKit Proofs.Tryz
theorem AlO:∀ (ps:List Pa)(s:List Bl×Bl)(B:Nat),(∀ b∈s.1++[s.2],b.La.length<=B+3000)->(∀ p∈ps,p.text.length<=2000) ->
  (∀ b∈(ps.foldl bstep s).1++[(ps.foldl bstep s).2],b.La.length<=B+3000+2100*ps.length)/\((ps.foldl bstep s).1).length<=s.1.length+ps.length
 | [],s,B,h,_=>by grind
 | p::r,s,B,h,hp=>by
  have hstep:(∀ b∈(bstep s p).1++[(bstep s p).2],b.La.length<=(B+2100)+3000)/\(bstep s p).1.length<=s.1.length+1:=by
   grind[bstep,moreB_len,AqH]
  obtain⟨h1,h2⟩:=AlO r (bstep s p) (B+2100) hstep.1 (fun q hq=>hp q (by grind));refine⟨fun b hb=>?_,?_⟩<;>grind
theorem AtI{x:Sc}(hp:∀ p∈x.Lc,p.text.length<=2000)(hh:(headL x).length<2000000)(hl:x.Lc.length<=4000):(∀ b∈blocksL x,b.La.length<=11000000)/\(blocksL x).length<=4001:=by
 have:=AlO x.Lc ([],⟨0,wrapL 60 (headL x),[],[]⟩) 2000000 (by
  grind[wrapL_le]) hp
 grind[blocksL,AeU]
def gapN(b:Bl):Nat:=if b.kind==0 then 2 else 1
def AiM(b:Bl):List LU:=List.replicate (gapN b) []++b.La
def linesL(x:Sc):List LU:=((blocksL x).map AiM).flatten
def linesTo(bs:List Bl)(i:Nat):List LU:=((bs.take i).map AiM).flatten
theorem AtJ{bs:List Bl}{i:Nat}(h:i<bs.length):linesTo bs (i+1)=linesTo bs i++List.replicate (gapN bs[i]) []++bs[i].La:=by
 grind[linesTo,lal,AiM]
structure LineOk(x:Sc):Prop where
 sc:SceneOk x
 place:1<=x.place/\x.place<=3
 time:1<=x.time/\x.time<=5
 no:x.no.length<1000000
 few:x.Lc.length<=4000
theorem AwM{x:Sc}(h:SceneOk x):x.set.length<10000:=by
 have:=h.set
 grind[isSetL,properL]
theorem LineOk.head{x:Sc}(h:LineOk x):(headL x).length<2000000:=by
 have l1:=AeJ x.place;have l2:=AfH x.time;have l3:=AwM h.sc;have l4:=h.no
 grind[headL,headLine]
theorem LineOk.bound{x:Sc}(h:LineOk x):(∀ b∈blocksL x,b.La.length<=11000000)/\(blocksL x).length<=4001:=by
 obtain⟨e,hr,_,_⟩:=h.sc.run;exact AtI (fun p hp=>AgC (AlL _ _ _ hr p hp)) h.head h.few
theorem AlP{bs:List Bl}(h:∀ b∈bs,b.La.length<=11000000):∀ i,i<=bs.length->(linesTo bs i).length<=11000002*i
 | 0,_=>by simp[linesTo]
 | i+1,hi=>by
  have hl:i<bs.length:=by omega
  have ih:=AlP h i (by omega);have hb:=h bs[i] (lai hl);have hg:gapN bs[i]<=2:=by unfold gapN; split <;> omega
  rw[AtJ hl]
  simp
  omega
theorem A6L(x:Sc):linesL x=linesTo (blocksL x) (blocksL x).length:=by grind[linesL,linesTo]
theorem LineOk.La{x:Sc}(h:LineOk x):(linesL x).length<=44100000000:=by
 rw[A6L];have:=AlP h.bound.1 _ (lab _);have:=h.bound.2;omega
theorem AwN:∀ (l:List Sc)(acc:List LU)(f:Bool),AlH acc f l->paraSum l<=4000->∀ x∈l,LineOk x
 | [],_,_,_,_,x,hx=>by simp at hx
 | a::r,acc,f,h,hs,x,hx=>by
  have hsum:paraSum (a::r)=a.Lc.length+paraSum r:=by simp[paraSum]
  rcases List.mem_cons.1 hx with rfl|hx
  .refine ⟨h.2.2.2.2.1,h.2.1,h.2.2.1,?_,by omega⟩
   rcases h.1 with h1|⟨_,h1,_⟩
   .rw [h1]; simp
   .exact h1
  .exact AwN r _ _ h.2.2.2.2.2 (by omega) x hx
abbrev Ln:=LU
def AcZ:Ln:=[32,32,32,32,32,32,32,32,32,32,32,32,32,32,32,32,32,32,32,32]
theorem AwO:Lib.repeatL [32] 20=AcZ:=by decide +kernel
def AbX:Ln:=indent 20 [40,77,79,82,69,41]
def A1R:Ln:=[32,40,67,79,78,84,39,68,41]
def BjT:Ln:=[32,79,77,73,84,84,69,68]
def goesLn(b:Bl):Ln:=indent 20 b.name++A1R
def breaksL(b:Bl)(fr k:Nat):Bool :=
 if b.kind==1 then decide ((k:Int)-fr>=2)&&decide ((b.La.length:Int)-k>=2)
 else if b.kind==3 then b.kinds.getD (k-1) 0==2&&(decide ((k:Int)-fr-(if fr=0 then 1 else 0)>=2)&&decide ((b.La.length:Int)-k>=2))
 else false
def grp(b:Bl):Nat:=if b.kind==3 then 1 else 0
def firstB(b:Bl):Nat->Nat->Option Nat
 | 0,_=>none
 | n+1,k=>if breaksL b 0 k then some k else firstB b n (k+1)
def AaH(b:Bl):Nat :=
 if b.kind==1&&decide ((b.La.length:Int)>3) then 2
 else if b.kind==3&&decide ((b.La.length:Int)>4) then
  match firstB b (b.La.length-1) 1 with
  | some k=>k+1
  | none=>b.La.length
 else b.La.length
def AcD(b:Bl)(fr:Nat):Nat->Option Nat
 | 0=>none
 | j+1=>if fr<j+1 then(if breaksL b fr (j+1) then some (j+1) else AcD b fr j) else none
def stopL(b:Bl)(fr room:Nat):Nat :=
 if b.La.length-fr<=room then b.La.length
 else match AcD b fr (min (fr+room-grp b) (b.La.length-1))with
  | some j=>j
  | none=>max (min (fr+room-grp b) (b.La.length-1)) (fr+1)
def AcK(bs:List Bl)(i:Nat)(b:Bl):Nat :=
 AaH b+(if b.kind==0 then(match bs[i+1]? with
  | some d=>if d.kind==0 then 0 else 1+AaH d
  | none=>0) else 0)
structure LS where
 Lg:List (List Ln)
 Ld:List Int
 Lk:List Int
 Lh:List Ln
 first:Int
def flushS(s:LS):LS:=⟨s.Lg++[s.Lh],s.Ld++[s.first],s.Lk,[],-1⟩
def addS(s:LS)(l:List Ln):LS:={ s with Lh:=s.Lh++l }
def breakS(b:Bl)(s:LS):LS:=addS (flushS (addS s (if b.kind==3 then[AbX] else[]))) (if b.kind==3 then[goesLn b] else[])
def partL'(b:Bl)(fr tz:Nat):List Ln:=(b.La.take tz).drop fr
def AbQ(b:Bl):Nat->Nat->LS->LS
 | 0,_,s=>s
 | f+1,fr,s =>
  if stopL b fr (54-s.Lh.length)=b.La.length then addS s (partL' b fr (stopL b fr (54-s.Lh.length)))
  else AbQ b f (stopL b fr (54-s.Lh.length)) (breakS b (addS s (partL' b fr (stopL b fr (54-s.Lh.length)))))
def turnS(bs:List Bl)(i:Nat)(b:Bl)(s:LS):LS:=if s.Lh≠[]/\s.Lh.length+gapN b+AcK bs i b>54 then flushS s else s
def firstS(i:Nat)(s:LS):LS:=if s.Lh=[] then{ s with first:=i } else s
def gapS(b:Bl)(s:LS):LS:={ s with Lh:=s.Lh++List.replicate (gapN b*min s.Lh.length 1) [],Lk:=s.Lk++[(s.Lg.length:Int)] }
def openS(bs:List Bl)(i:Nat)(b:Bl)(s:LS):LS:=gapS b (firstS i (turnS bs i b s))
def layTo(bs:List Bl):Nat->LS
 | 0=>⟨[],[],[],[],-1⟩
 | i+1=>match bs[i]? with
  | some b=>AbQ b (b.La.length+1) 0 (openS bs i b (layTo bs i))
  | none=>layTo bs i
def layL(bs:List Bl):LS:=if(layTo bs bs.length).Lh≠[] then flushS (layTo bs bs.length) else layTo bs bs.length
def addedL(l:Ln)(i n:Nat):Bool:=(l==AbX&&i+1==n)||(i==0&&(Lib.hasSuffix l A1R&&Lib.hasPrefix l AcZ))
def AnB(l:Ln):Bool:=l != []&&!Lib.hasSuffix l BjT
def saidGo(n:Nat):Nat->List Ln->List Ln
 | _,[]=>[]
 | i,l::r=>if l != []&&(!addedL l i n&&!Lib.hasSuffix l BjT) then l::saidGo n (i+1) r else saidGo n (i+1) r
def BcB(p:List Ln):List Ln:=saidGo p.length 0 p
structure OwnLn(l:Ln):Prop where
 more:l≠AbX
 cont:(Lib.hasSuffix l A1R&&Lib.hasPrefix l AcZ)=false
theorem AzJ(n:Nat)(post:List Ln):∀ (body:List Ln)(i:Nat),(∀ l∈body,OwnLn l)->saidGo n i (body++post)=body.filter AnB++saidGo n (i+body.length) post
 | [],i,_=>rfl
 | l::r,i,h=>by
  have hl:=h l (by simp);have h1:(l==AbX)=false:=by simpa using hl.more
  have ih:=AzJ n post r (i+1) (fun x hx=>h x (by grind));have ha:addedL l i n=false:=by simp[addedL,h1,hl.cont]
  grind[saidGo,AnB]
theorem A6M(i:Nat):saidGo (i+1) i [AbX]=[]:=by grind[saidGo,addedL]
theorem goes_suf(b:Bl):Lib.hasSuffix (goesLn b) A1R=true:=by
 grind[Lib.hasSuffix,goesLn]
theorem BcC(b:Bl):Lib.hasPrefix (goesLn b) AcZ=true:=by
 grind[Lib.hasPrefix,goesLn,indent,AwO]
theorem A6N(n:Nat)(b:Bl)(r:List Ln):saidGo n 0 (goesLn b::r)=saidGo n 1 r:=by
 grind[saidGo,addedL,goes_suf,BcC]
theorem A6O(pre body post:List Ln)(h1:pre=[]\/∃ b,pre=[goesLn b])(h2:∀ l∈body,OwnLn l)(h3:post=[]\/post=[AbX]):BcB (pre++body++post)=body.filter AnB:=by
 unfold BcB;have key:∀ i,i+body.length+post.length=(pre++body++post).length->saidGo (pre++body++post).length i (body++post)=body.filter AnB:=fun i hi=>by
  rw[AzJ _ _ _ _ h2]
  rcases h3 with rfl|rfl
  .simp [saidGo]
  .rw [<- hi]
   show _++saidGo (i+body.length+1) (i+body.length) [AbX]=_
   grind[A6M]
 grind[A6N]
theorem AlQ(b:Bl):∀ (n k j:Nat),firstB b n k=some j->k<=j
 | 0,_,_,h=>by cases h
 | n+1,k,j,h=>by
  simp only[firstB]at h
  split at h
  .grind
  .have:=AlQ b n (k+1) j h; omega
theorem AjV(b:Bl)(fr:Nat):∀ (n j:Nat),AcD b fr n=some j->fr<j/\j<=n
 | 0,_,h=>by cases h
 | n+1,j,h=>by
  simp only[AcD]at h
  split at h
  .split at h
   .grind
   .have:=AjV b fr n j h; omega
  grind
def AhI(b:Bl)(fr room:Nat):Prop:=b.La.length-fr<=room\/1+grp b<=room
theorem A1S{b:Bl}{room:Nat}(h:AaH b<=room):AhI b 0 room:=by
 unfold AaH at h;unfold AhI grp
 split at h
 .grind
 .split at h
  .split at h
   .rename_i k hk
    have:=AlQ b _ _ _ hk
    grind
   omega
  omega
theorem AlR{b:Bl}{fr room:Nat}(h:AhI b fr room)(hf:fr<=b.La.length) :
  (stopL b fr room=b.La.length/\b.La.length-fr<=room)\/(fr<stopL b fr room/\stopL b fr room<b.La.length/\stopL b fr room+grp b<=fr+room):=by
 unfold stopL
 by_cases hr:b.La.length-fr<=room
 .grind
 .rw [if_neg hr]
  have h2:=h.resolve_left hr
  split
  .rename_i j hj
   have:=AjV b fr _ _ hj;omega
  omega
structure PInv(s:LS)(w:List Ln):Prop where
 Lg:∀ p∈s.Lg,1<=p.length/\p.length<=54
 len:s.Lh.length<=54
 ex:∃ pre body,s.Lh=pre++body/\(pre=[]\/∃ b,pre=[goesLn b])/\(∀ l∈body,OwnLn l)/\s.Lg.flatMap BcB++body.filter AnB=w.filter AnB
theorem AfI{s:LS}{w post:List Ln}(h:PInv s w)(hp:post=[]\/post=[AbX])(h0:1<=(s.Lh++post).length)(h1:(s.Lh++post).length<=54):PInv (flushS (addS s post)) w:=by
 obtain⟨pre,body,e1,e2,e3,e4⟩:=h.ex;refine⟨fun p hq=>?_,by simp[flushS],[],[],rfl,.inl rfl,by simp,?_⟩
 .simp only [flushS,addS,List.mem_append,lcf]at hq
  rcases hq with hq|rfl
  .exact h.Lg p hq
  omega
 .simp only [flushS,addS,List.flatMap_append,List.flatMap_cons,List.flatMap_nil,lbg,List.filter_nil]
  grind[A6O]
theorem AqI{s:LS}{w l:List Ln}(h:PInv s w)(ho:∀ x∈l,OwnLn x)(hl:(s.Lh++l).length<=54):PInv (addS s l) (w++l):=by
 obtain⟨pre,body,e1,e2,e3,e4⟩:=h.ex;refine⟨h.Lg,hl,pre,body++l,by simp[addS,e1],e2,fun x hx=>?_,?_⟩<;>grind[addS]
theorem BcD{s:LS}{w:List Ln}(h:PInv s w)(h0:s.Lh=[])(b:Bl):PInv (addS s [goesLn b]) w:=by
 obtain⟨pre,body,e1,e2,e3,e4⟩:=h.ex;have hb:pre=[]/\body=[]:=by grind
 refine⟨h.Lg,by simp[addS,h0],[goesLn b],[],by simp[addS,h0],.inr ⟨b,rfl⟩,by simp,?_⟩<;>grind[addS]
theorem AgD(b:Bl){fr tz:Nat}(h:tz<=b.La.length):(partL' b fr tz).length=tz-fr:=by
 grind[partL']
theorem break_page(b:Bl)(s:LS):(breakS b s).Lh=if b.kind==3 then[goesLn b] else[]:=by
 grind[breakS,addS,flushS]
theorem AtK{b:Bl}{s:LS}{w:List Ln}(h:PInv s w)(h0:1<=s.Lh.length)(h1:s.Lh.length+grp b<=54):PInv (breakS b s) w:=by
 unfold breakS grp at *
 by_cases hk:(b.kind==3)=true
 .simp only [hk,if_true]at h1 |-
  exact BcD (AfI h (.inr rfl) (by simp) (by grind)) rfl b
 .have h2:=AfI h (.inl rfl) (by grind) (by grind)
  simp_all[addS]
theorem AtL{b:Bl}(ho:∀ x∈b.La,OwnLn x):∀ (f fr:Nat)(s:LS)(w:List Ln),PInv s w->b.La.length-fr<f->fr<=b.La.length->AhI b fr (54-s.Lh.length)->PInv (AbQ b f fr s) (w++b.La.drop fr)
 | 0,fr,s,w,_,h,_,_=>by omega
 | f+1,fr,s,w,h,hf,hfr,hr=>by
  have hl:=h.len;have ho':∀ tz,∀ x∈partL' b fr tz,OwnLn x:=fun tz x hx=>ho x (lbh (lbe hx))
  unfold AbQ
  rcases AlR hr hfr with⟨h1,h2⟩|⟨h1,h2,h3⟩
  .grind[partL',AqI]
  .generalize hto:stopL b fr (54-s.Lh.length)=tz at h1 h2 h3 |-
   have hpl:=AgD b (fr:=fr) (Nat.le_of_lt h2);have k1:=AqI h (ho' tz) (by grind);have k2:=AtK (b:=b) k1 (by grind[addS]) (by grind[addS]);have k3:=AtL ho f tz _ _ k2 (by omega) (by omega) (by
    right
    grind[break_page,grp])
   grind[partL',List.take_append_drop]
theorem BhG:OwnLn []:=⟨by decide,by decide⟩
theorem AzK{bs:List Bl}{i:Nat}{b:Bl}{s:LS}{w:List Ln}(h:PInv s w):∃ g:List Ln,(∀ x∈g,x=[])/\PInv (openS bs i b s) (w++g)/\AhI b 0 (54-(openS bs i b s).Lh.length):=by
 have hh:AaH b<=AcK bs i b:=by grind[AcK]
 unfold openS;generalize hs1:turnS bs i b s=s1;have h1:PInv s1 w/\(s1.Lh=[]\/s1.Lh.length+gapN b+AcK bs i b<=54):=by
  subst hs1;unfold turnS;have hn:∀ s:LS,addS s []=s:=fun s=>by simp[addS]
  split
  .have k:=AfI h (.inl rfl) (by grind) (by simpa using h.len)
   rw[hn]at k;exact⟨k,.inl rfl⟩
  grind
 obtain⟨h1,h2⟩:=h1;generalize hs2:firstS i s1=s2;have hp:s2.Lh=s1.Lh/\s2.Lg=s1.Lg:=by grind[firstS]
 have k2:PInv s2 w:=⟨by rw[hp.2]; exact h1.Lg,by grind,by rw[hp.1,hp.2]; exact h1.ex⟩;refine⟨List.replicate (gapN b*min s2.Lh.length 1) [],fun x hx=>List.eq_of_mem_replicate hx,?_,?_⟩
 .have hlen:(s2.Lh++List.replicate (gapN b*min s2.Lh.length 1) ([])).length<=54:=by
   grind[gapN]
  have k3:=AqI k2 (fun x hx=>by grind[BhG]) hlen;exact⟨k3.Lg,k3.len,k3.ex⟩
 .simp only [gapS,lak,lbz]
  .by_cases h0:s1.Lh=[]
   .right
    grind[grp]
   .have:min s2.Lh.length 1=1:=by
     have:1<=s1.Lh.length:=by
      grind
     grind
    grind[A1S]
def bodyTo(bs:List Bl)(i:Nat):List Ln:=(bs.take i).flatMap fun b=>b.La
theorem AqJ{bs:List Bl}(ho:∀ b∈bs,∀ x∈b.La,OwnLn x):∀ i,i<=bs.length->∃ w,PInv (layTo bs i) w/\w.filter AnB=(bodyTo bs i).filter AnB
 | 0,_=>⟨[],⟨by simp[layTo],by simp[layTo],[],[],rfl,.inl rfl,by simp,rfl⟩,rfl⟩
 | i+1,h=>by
  obtain⟨w,h1,h2⟩:=AqJ ho i (by omega);have hi:i<bs.length:=by omega
  simp only[layTo,lad hi];obtain⟨g,g1,g2,g3⟩:=AzK (bs:=bs) (i:=i) h1;have k:=AtL (ho _ (lai hi)) (bs[i].La.length+1) 0 _ _ g2 (by omega) (by omega) g3;have hg:g.filter AnB=[]:=by
   rw[List.filter_eq_nil_iff];intro x hx;rw[g1 x hx]; decide
  grind[bodyTo,lal]
theorem A6P{bs:List Bl}(ho:∀ b∈bs,∀ x∈b.La,OwnLn x) :
  (∀ p∈(layL bs).Lg,1<=p.length/\p.length<=54)/\(layL bs).Lg.flatMap BcB=(bs.flatMap fun b=>b.La).filter AnB:=by
 obtain⟨w,h1,h2⟩:=AqJ ho bs.length (lab _);have hb:bodyTo bs bs.length=bs.flatMap fun b=>b.La:=by simp[bodyTo]
 unfold layL
 by_cases h0:(layTo bs bs.length).Lh≠[]
 .rw [if_pos h0]
  have hn:∀ s:LS,addS s []=s:=fun s=>by simp[addS]
  have k:=AfI h1 (.inl rfl) (by grind) (by simpa using h1.len);rw[hn]at k;obtain⟨pre,body,e1,e2,e3,e4⟩:=k.ex;have hbo:pre=[]/\body=[]:=by simp_all[flushS]
  exact⟨k.Lg,by grind⟩
 .rw [if_neg h0]
  have h0':(layTo bs bs.length).Lh=[]:=by grind
  obtain⟨pre,body,e1,e2,e3,e4⟩:=h1.ex;exact⟨h1.Lg,by grind⟩
theorem more_pc:Pc prog 102 [] (· = .str AbX):=by
 have hr:=AdJ [32] 20 (by simp) (by omega);have hbl:=AbP 20;refine zpIN func102 rfl fun h ρ w=>?_
 simp only[go_sem];refine zpN (hr) ?_;simp only[go_sem]
 repeat refine aqb ?_
 exact zt [0]
theorem A6Q(b:Bl)(hl:b.name.length<1000000):Pc prog 103 [blA b] (· = .str (goesLn b)):=by
 have hr:=AdJ [32] 20 (by simp) (by omega);have hbl:=AbP 20;simp only[blA];refine zpIN func103 rfl fun h ρ w=>?_
 simp only[go_sem];refine zr [.str (Lib.repeatL [32] 20)] AaJ ?_;simp only[go_sem]
 repeat refine And.intro (by first|omega|exact hr.at|exact .inl trivial|rfl|(simp; done)|(simp; omega)) ?_
 apply zgN;simp only[go_sem];exact zt [2]
theorem AtM(b:Bl)(fr k:Nat)(h1:1<=k)(hk:b.kind=3->k<=b.kinds.length)(hn:b.La.length<=100000000)(hf:fr<=100000000)(hk2:k<=100000000):Pc prog 143 [blA b,.int .i64 (fr:Int),.int .i64 (k:Int)] (· = .bool (breaksL b fr k)):=by
 unfold breaksL;simp only[blA]
 cases k1:b.kind==1 with
 | true =>
  simp only[if_true]
  cases d1:decide ((k:Int)-fr>=2)with
  | true =>
   refine zpIN func143 rfl fun h ρ w=>?_
   simp only[go_sem];refine zr [] AaJ ?_;simp only[go_sem,laa]
   repeat refine aqb ?_
   apply zgN;simp only[go_sem,k1,d1];exact zt [6]
  | false =>
   refine zpIN func143 rfl fun h ρ w=>?_
   simp only[go_sem];refine zr [] AaJ ?_;simp only[go_sem,laa]
   repeat refine aqb ?_
   apply zgN;simp only[go_sem,k1,d1];exact zt [6]
 | false =>
  simp only[lan,if_false]
  cases k3:b.kind==3 with
  | false =>
   refine zpIN func143 rfl fun h ρ w=>?_
   simp only[go_sem];refine zr [] AaJ ?_;simp only[go_sem,laa]
   repeat refine aqb ?_
   apply zgN;simp only[go_sem,k1,k3];exact zt [6]
  | true =>
   simp only[if_true];have hkk:=hk (by simpa using k3);have hi:((k:Int)-1).toNat=k-1:=by omega
   have hg:List.getD (b.kinds.map (AV.int .i64)) (k-1) .any=.int .i64 (b.kinds.getD (k-1) 0):=by
    have:k-1<b.kinds.length:=by omega
    simp[List.getD,this]
   have e1:(k:Int)-1=((k-1:Nat):Int):=by omega
   by_cases f0:fr=0
   .have d0:((fr:Int)==0)=true:=by simp[f0]
    simp only[f0,if_true,Int.natCast_zero];rw[f0]at d0
    cases q1:b.kinds.getD (k-1) 0==2 with
    | false =>
     refine zpIN func143 rfl fun h ρ w=>?_
     simp only[go_sem];refine zr [] AaJ ?_;simp only[go_sem,laa]
     repeat refine aqb ?_
     apply zgN;simp only[go_sem,k1,k3,d0,hi,hg,q1,laa]
     repeat refine aqb ?_
     exact zt [6]
    | true =>
     cases d1:decide ((k:Int)-0-1>=2)with
     | false =>
      refine zpIN func143 rfl fun h ρ w=>?_
      simp only[go_sem];refine zr [] AaJ ?_;simp only[go_sem,laa]
      repeat refine aqb ?_
      apply zgN;simp only[go_sem,k1,k3,d0,hi,hg,q1,d1,laa]
      repeat refine aqb ?_
      exact zt [6]
     | true =>
      refine zpIN func143 rfl fun h ρ w=>?_
      simp only[go_sem];refine zr [] AaJ ?_;simp only[go_sem,laa]
      repeat refine aqb ?_
      apply zgN;simp only[go_sem,k1,k3,d0,hi,hg,q1,d1,laa]
      repeat refine aqb ?_
      exact zt [6]
   .have d0:((fr:Int)==0)=false:=by rw[lbd]; omega
    simp only[f0,if_false,Int.sub_zero]
    cases q1:b.kinds.getD (k-1) 0==2 with
    | false =>
     refine zpIN func143 rfl fun h ρ w=>?_
     simp only[go_sem];refine zr [] AaJ ?_;simp only[go_sem,laa]
     repeat refine aqb ?_
     apply zgN;simp only[go_sem,k1,k3,d0,hi,hg,q1,laa]
     repeat refine aqb ?_
     exact zt [6]
    | true =>
     cases d1:decide ((k:Int)-fr>=2)with
     | false =>
      refine zpIN func143 rfl fun h ρ w=>?_
      simp only[go_sem];refine zr [] AaJ ?_;simp only[go_sem,laa]
      repeat refine aqb ?_
      apply zgN;simp only[go_sem,k1,k3,d0,hi,hg,q1,d1,laa]
      repeat refine aqb ?_
      exact zt [6]
     | true =>
      refine zpIN func143 rfl fun h ρ w=>?_
      simp only[go_sem];refine zr [] AaJ ?_;simp only[go_sem,laa]
      repeat refine aqb ?_
      apply zgN;simp only[go_sem,k1,k3,d0,hi,hg,q1,d1,laa]
      repeat refine aqb ?_
      exact zt [6]
