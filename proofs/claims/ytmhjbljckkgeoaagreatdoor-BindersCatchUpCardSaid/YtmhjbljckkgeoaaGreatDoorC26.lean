/- The blocks of a scene. -/
import Derived.Test.YtmhjbljckkgeoaaGreatDoorC25
set_option maxRecDepth 100000
set_option maxHeartbeats 8000000
set_option linter.all false
namespace Go.Proofs.YtmhjbljckkgeoaaGreatDoor
open Av RowKit Proofs.Tryz
def asideT(t:LU):LU:=40::(t++[41])
def newB(p:Pa):Bl :=
 if p.kind==1 then⟨1,wrapL 60 p.text,[],[]⟩ else if p.kind==5 then⟨2,[turnLine p.text],[],[]⟩ else⟨3,[indent 20 p.text],[0],p.text⟩
def moreB(b:Bl)(p:Pa):Bl:=if p.kind==3 then addB b 1 15 (wrapL 30 (asideT p.text)) else addB b 2 10 (wrapL 35 p.text)
def bstep(s:List Bl×Bl)(p:Pa):List Bl×Bl:=if joins p then(s.1,moreB s.2 p) else(s.1++[s.2],newB p)
def AfR(x:Sc):List Bl×Bl:=x.Ld.foldl bstep ([],⟨0,wrapL 60 (headL x),[],[]⟩)
def blocksL(x:Sc):List Bl:=(AfR x).1++[(AfR x).2]
theorem BdG(id e:Nat)(l:LY)(bs:List Bl):(bs.map blA).map (frzC id e l)=bs.map blA:=by
 rw[lbb];rfl
theorem frz_scB(id e:Nat)(l:LY)(x:Sc):frzC id e l (scA x)=scA x:=rfl
theorem AhB(l:List Bl):(flat (l.map blA)).all Av.frozen=true:=by
 induction l<;>grind[flat,cellsOf,blA,Av.frozen]
def XA(b:Bl):AV:=if b.kind==3 then grpA 2 3 b.kind b.Lb.length b.kinds.length b.name else blA b
def LA(b:Bl):LY:=if b.kind==3 then b.Lb.map .str else[]
def KA(b:Bl):LY:=if b.kind==3 then b.kinds.map (.int .i64) else[]
def boT(x:Sc)(dn:List Bl)(cur:Bl):LB:=[.arr 5 [scA x],.arr 4 (dn.map blA++[XA cur]),.arr 1 (LA cur),.arr 1 (KA cur)]
theorem AtK{n id es:Nat}{l:LY}(hid:n<=id){v:AV}(h:lowC n v=true):frz1 id es l v=v:=by
 cases v with
 | sl i off len cap =>
  have hi:=of_decide_eq_true h
  grind[frz1]
 | ptr i off len cap =>
  have hi:=of_decide_eq_true h
  grind[frz1]
 | _=>rfl
theorem A5C{n id es:Nat}{l:LY}(hid:n<=id){r:LY}(h:r.all (lowC n)=true):r.map (frz1 id es l)=r:=by
 conv=>rhs; rw[<- List.map_id r]
 grind[lbe,AtK]
theorem BlF{n id es:Nat}{l:LY}(hid:n<=id){v:AV}(h:lowV n v=true):frz id es l v=v:=by
 cases v with
 | agg r=>simp only[frz,A5C hid (show r.all (lowC n)=true from h)]
 | fn f r=>simp only[frz,A5C hid (show r.all (lowC n)=true from h)]
 | sl i off len cap=>exact AtK hid (show lowC n (.sl i off len cap)=true from h)
 | ptr i off len cap=>exact AtK hid (show lowC n (.ptr i off len cap)=true from h)
 | _=>rfl
theorem AiE{n id es:Nat}{l:LY}(hid:n<=id){e:Env}:∀ {e':Env},wkl n e e'->wkl n (frzE id es l e) e'
 | [],_=>trivial
 | (t,v)::r,h=>⟨⟨h.1.1,by rw[get_frzE,h.1.2,BlF hid h.1.1]⟩,AiE hid h.2⟩
theorem low_bls(n:Nat)(l:List Bl):lowB n (.arr 4 (l.map blA))=true:=AaH (AhB l)
theorem low_sc(n:Nat)(x:Sc):lowB n (.arr 5 [scA x])=true:=rfl
section
variable {c:Cx}{e e':Env}
theorem ArA{x:Sc}{dn:List Bl}{cur:Bl}(hc:c.sto.length<=2)(hw:wkl 2 e e'):Shift c e (boT x dn cur) e' [.arr 5 [scA x],.arr 4 ((dn++[cur]).map blA),.arr 1 [],.arr 1 []]:=by
 have fin:∀ {e0:Env} {s2:LB},wkl 2 e0 e'->Shift c e0 ([.arr 5 [scA x],.arr 4 ((dn++[cur]).map blA)]++s2) e' [.arr 5 [scA x],.arr 4 ((dn++[cur]).map blA),.arr 1 [],.arr 1 []]:=by
  intro e0 s2 hw0;refine Shift.trans (Shift.low 2 hc (by simp) ?_ hw0) (Shift.trans (Lr 1) (Lr 1))<;>grind[low_bls,low_sc]
 unfold boT XA LA KA
 cases hk:cur.kind==3 with
 | false =>
  simp_all
 | true =>
  simp
  refine Shift.trans (Shift.frz 2 rfl (AaD _)) ?_;simp only[List.set_cons_succ,lby,lak,lao,frzB,frz_scB,laf,BdG];simp only[grpA,frzC,frz,frz1,lak,lao,Nat.reduceBEq,lbf,cond_true,cond_false,lce,laz,laa,lay,decide_true,lab,lbu,lbh];have h3:(List.map (frzC 2 1 (cur.Lb.map .str)) (cur.kinds.map (.int .i64)))=cur.kinds.map (.int .i64):=by
   rw[lbb];exact lbe fun _ _=>rfl
  have ht:List.take cur.Lb.length (List.map AV.str cur.Lb)=List.map AV.str cur.Lb:=lae (by simp);rw[h3,ht];refine Shift.trans (Shift.frz 3 rfl (AnS _)) ?_;simp only[List.set_cons_succ,lby,lak,lao,frzB,frz_scB,laf,BdG];simp only[grpA,frzC,frz,frz1,lak,lao,Nat.reduceBEq,lbf,cond_true,cond_false,lce,laz,laa,lay,decide_true,lab,lbu,lbh];have ht2:List.take cur.kinds.length (List.map (AV.int .i64) cur.kinds)=List.map (AV.int .i64) cur.kinds:=lae (by simp);rw[ht2];have:dn.map blA++[.agg [.int .i64 cur.kind,.fz 1 (cur.Lb.map .str),.fz 1 (cur.kinds.map (.int .i64)),.str cur.name]]=(dn++[cur]).map blA:=by simp[blA]
  rw[this,show List.map blA dn++[blA cur]=(dn++[cur]).map blA by simp];exact fin (AiE (by omega) (AiE (by omega) hw))
end
theorem AxH(p:Pa):(newB p).kind=3 ↔ ¬ (p.kind=1\/p.kind=5):=by
 grind[newB]
theorem AjA{x:Sc}{dn:List Bl}{b:Bl}(h:(b.kind==3)=false):boT x dn b=[.arr 5 [scA x],.arr 4 (dn.map blA++[blA b]),.arr 1 [],.arr 1 []]:=by
 grind[boT,XA,LA,KA]
theorem AjB{x:Sc}{dn:List Bl}{b:Bl}(h:(b.kind==3)=true):boT x dn b=[.arr 5 [scA x],.arr 4 (dn.map blA++[grpA 2 3 b.kind b.Lb.length b.kinds.length b.name]),.arr 1 (b.Lb.map .str),.arr 1 (b.kinds.map (.int .i64))]:=by
 grind[boT,XA,LA,KA]
theorem AnU(x:Sc)(dn:List Bl)(b:Bl):(boT x dn b).all (lowB 4)=true:=by
 have h1:=A4X 4 b.Lb;have h2:lowB 4 (.arr 1 (b.kinds.map (.int .i64)))=true:=AaH (AnS _);have h3:=AaH (n:=4) (AhB dn)
 cases h:b.kind==3 with
 | false =>
  rw[AjA h];have:=low_bls 4 (dn++[b]);rw[laf]at this;simp only[las,lba,low_sc,this,lau,laz];have e:[blA b]=List.map blA [b]:=rfl;rw[e,this]; rfl
 | true =>
  rw[AjB h];simp only[las,lba,low_sc,h1,h2,lau,laz];simp only[lowB,flat_append,List.all_append,h3,flat,grpA,cellsOf,lbp,las,lba,lowC,Av.frozen,decide_true,lbh,laz,Nat.reduceLT]
theorem AkM(b:Bl)(p:Pa):(moreB b p).kind=b.kind:=by
 unfold moreB; split <;> rfl
theorem moreB_len(b:Bl)(p:Pa):(moreB b p).Lb.length<=b.Lb.length+p.text.length+4/\(moreB b p).kinds.length<=b.kinds.length+p.text.length+4:=by
 grind[moreB,addB,wrapL_le,asideT]
theorem AtL(p:Pa):(newB p).Lb.length<=p.text.length+4/\(newB p).kinds.length<=1:=by
 grind[wrapL_le,newB]
theorem A7Y{St:Std}(hS:LibOk St)(x:Sc)(hx:SceneOk x)(hp:1<=x.place/\x.place<=3)(ht:1<=x.time/\x.time<=5)(hno:x.no.length<1000000)(hset:x.set.length<10000)(hps:x.Ld.length<=4000):PcH prog St 123 [scA x] (· = .fz 4 ((blocksL x).map blA)):=by
 have hh:=ApZ x hp ht (by omega) hset;have hhl:(headL x).length<2000000:=by
  have l1:=AfE x.place;have l2:=AgA x.time;unfold headL headLine
  split <;> simp <;> omega
 have hnh:=AhM hS (headL x) (by omega);obtain⟨e,hr,he2,he3⟩:=hx.run;simp only[scA]at hh |-;refine zqIN func123 rfl fun h ρ w hg=>?_
 simp only[go_sem];refine zpN (hh) ?_;simp only[go_sem];refine zqN hg (hnh) ?_;simp only[blA];simp only[go_sem,laa];refine AWp.shift (Shift.trans (Lr 1) (Lr 1)) ?_;refine AaC (ι:=Nat×List Bl×Bl×Int) (fun y=>x.Ld.length-y.1)
  (fun y=>[(13,.int .i64 y.1),(12,.int .i64 x.Ld.length),(11,.fz 2 (x.Ld.map paA)),(3,.sl 1 0 (y.2.1.length+1) (y.2.1.length+1))])
  (fun y=>boT x y.2.1 y.2.2.1) (fun y=>y.1<=x.Ld.length/\runL y.2.2.2 (x.Ld.drop y.1)=some e/\((y.2.2.2=2\/y.2.2.2=3\/y.2.2.2=4)->y.2.2.1.kind=3)/\(x.Ld.drop y.1).foldl bstep (y.2.1,y.2.2.1)=AfR x /\
   y.2.1.length<=y.1/\y.2.2.1.Lb.length<=3000000+2100*y.1/\y.2.2.1.kinds.length<=3000000+2100*y.1) (0,[],⟨0,wrapL 60 (headL x),[],[]⟩,0) ⟨by simp,hr,by simp,rfl,by simp,?_,by simp⟩ ?_ ?_
 .have:=(wrapL_le 60 (headL x)).1
  simp only; omega
 .refine Lu ?_ ?_
  .simp only [go_sem]
  .rw [AjA (by rfl)]; rfl
 .rintro ⟨j,dn,cur,l⟩ ⟨g1,g2,g3,g4,g5,g6,g7⟩ J hJ
  simp only at g1 g2 g3 g4 g5 g6 g7 hJ |-
  by_cases gj:j<x.Ld.length
  .have dj:decide ((j:Int)<(x.Ld.length:Int))=true:=by simp; omega
   have hpA:List.getD (List.map paA x.Ld) j .any=.agg [.int .i64 x.Ld[j].kind,.str x.Ld[j].text]:=by simp[List.getD,gj,paA]
   rw[lbl gj]at g2 g4;simp only[runL]at g2;rw[List.foldl_cons]at g4
   split at g2
   rotate_left
   .cases g2
   rename_i hok;simp only[lag]at hok;generalize x.Ld[j]=p at *;have hpl:=AmG hok.1
   cases hj:joins p with
   | true =>
    have hst:bstep (dn,cur) p=(dn,moreB cur p):=by simp[bstep,hj]
    rw[hst]at g4;have hml:=moreB_len cur p;have hmk:=AkM cur p;have hk3:(cur.kind==3)=true:=by
     have hf:=hok.2;simp only[joins,lbi,beq_iff_eq]at hj;simp only[followsL]at hf;have:cur.kind=3:=by
      rcases hj with h|h <;> simp[h]at hf <;> exact g3 (by omega)
     simpa using this
    have G:Grp (fun g L K=>[.arr 5 [scA x],.arr 4 (dn.map blA++[g]),.arr 1 L,.arr 1 K,.arr 2 [.agg [.int .i64 p.kind,.str p.text]]]) (fun g=>dn.map blA++[g]) 1 2 3 (dn.length+1) dn.length :=
     ⟨by omega,fun _ _ _=>rfl,fun _=>by simp,fun _=>by simp[List.getD],fun _ _=>by simp,fun _ _ _ _=>rfl,fun _ _ _=>rfl,fun _ _ _ _=>rfl,fun _ _ _=>rfl,fun _ _ _ _=>rfl⟩
    have htn:(((dn.length+1:Nat):Int)-1).toNat=dn.length:=by omega
    have fin:boT x dn (moreB cur p)=[.arr 5 [scA x],.arr 4 (dn.map blA++[grpA 2 3 (moreB cur p).kind (moreB cur p).Lb.length (moreB cur p).kinds.length (moreB cur p).name]),.arr 1 ((moreB cur p).Lb.map .str),.arr 1 ((moreB cur p).kinds.map (.int .i64))]:=AjB (by rw[hmk]; exact hk3);have hJ':=hJ (j+1,dn,moreB cur p,p.kind) ⟨by simp only; omega,g2,by simp only; intro _; rw[hmk]; simpa using hk3,g4,by simp only; omega,by simp only; omega,by simp only; omega⟩ (by simp only; omega);simp only at hJ';rw[AjB hk3]
    by_cases k3:p.kind=3
    .have q1:(p.kind==1)=false:=by simp[k3]
     have q5:(p.kind==5)=false:=by simp[k3]
     have q2:(p.kind==2)=false:=by simp[k3]
     have q3:(p.kind==3)=true:=by simp[k3]
     have hadd:=AxE hS G cur p.text (by omega) (by omega) (by omega);have hmb:addB cur 1 15 (wrapL 30 (40::(p.text++[41])))=moreB cur p:=by simp[moreB,k3,asideT]
     rw[hmb]at hadd;simp only[grpS]at hadd;apply zgF;simp only[go_sem,dj,hpA,q1,q5,q2,q3,laa]
     repeat refine aqb ?_
     refine AxC [] rfl AaF (by decide) rfl rfl rfl 100 ?_;simp only[go_sem,iniO,KLast,laa,htn]
     repeat refine aqb ?_
     apply zgF;simp only[go_sem];refine zaH hg (hadd) ?_;rintro _ _ ⟨rfl,rfl⟩;apply zgF;simp only[go_sem]
     repeat refine aqb ?_
     rw[ic j];refine ainv hJ' (Shift.trans (Shift.low 4 (e':=[(13,.int .i64 ((j+1:Nat):Int)),(12,.int .i64 x.Ld.length),(11,.fz 2 (x.Ld.map paA)),(3,.sl 1 0 (dn.length+1) (dn.length+1))]) (by simp) (by simp) ?_ ?_) (Lu ?_ ?_))
     .have:=AnU x dn (moreB cur p)
      rw[fin]at this;exact this
     .simp only [go_sem]
     .simp only [go_sem]
     .rw [fin]; rfl
    .have k4:p.kind=4:=by
      simp only[joins,lbi,beq_iff_eq]at hj;omega
     have q1:(p.kind==1)=false:=by simp[k4]
     have q5:(p.kind==5)=false:=by simp[k4]
     have q2:(p.kind==2)=false:=by simp[k4]
     have q3:(p.kind==3)=false:=by simp[k4]
     have q4:(p.kind==4)=true:=by simp[k4]
     have hadd:=AtI hS G cur p.text (by omega) (by omega) (by omega);have hmb:addB cur 2 10 (wrapL 35 p.text)=moreB cur p:=by simp[moreB,k4]
     rw[hmb]at hadd;simp only[grpS]at hadd;apply zgF;simp only[go_sem,dj,hpA,q1,q5,q2,q3,q4,laa]
     repeat refine aqb ?_
     refine AxC [] rfl AaF (by decide) rfl rfl rfl 100 ?_;simp only[go_sem,iniO,KLast,laa,htn]
     repeat refine aqb ?_
     apply zgF;simp only[go_sem];refine zaH hg (hadd) ?_;rintro _ _ ⟨rfl,rfl⟩;apply zgF;simp only[go_sem]
     repeat refine aqb ?_
     rw[ic j];refine ainv hJ' (Shift.trans (Shift.low 4 (e':=[(13,.int .i64 ((j+1:Nat):Int)),(12,.int .i64 x.Ld.length),(11,.fz 2 (x.Ld.map paA)),(3,.sl 1 0 (dn.length+1) (dn.length+1))]) (by simp) (by simp) ?_ ?_) (Lu ?_ ?_))
     .have:=AnU x dn (moreB cur p)
      rw[fin]at this;exact this
     .simp only [go_sem]
     .simp only [go_sem]
     .rw [fin]; rfl
   | false =>
    have hst:bstep (dn,cur) p=(dn++[cur],newB p):=by simp[bstep,hj]
    rw[hst]at g4;have hnl:=AtL p;have hJ':=hJ (j+1,dn++[cur],newB p,p.kind) ⟨by simp only; omega,g2,by
     simp only;intro h;rw[AxH];have hk:=join_no hj;omega,g4,by simp; omega,by simp only; omega,by simp only; omega⟩ (by simp only; omega)
    have hlen1:(dn++[cur]).length+1=dn.length+1+1:=by simp
    simp only[hlen1]at hJ';have hk15:1<=p.kind/\p.kind<=5:=by
     have:=hok.1;simp only[paraOk,lag,laj]at this;exact⟨this.1,this.2.1⟩
    have hkj:=join_no hj;refine AWp.shift (ArA (e':=[(13,.int .i64 (j:Int)),(12,.int .i64 x.Ld.length),(11,.fz 2 (x.Ld.map paA)),(3,.sl 1 0 (dn.length+1) (dn.length+1))]) (by simp) (by simp only[go_sem])) ?_;have hlm:(List.map blA (dn++[cur])).length=dn.length+1:=by simp
    by_cases k1:p.kind=1
    .have q1:(p.kind==1)=true:=by simp[k1]
     have hna:=AtH hS p.text (by omega);have hnb:newB p=⟨1,wrapL 60 p.text,[],[]⟩:=by simp[newB,k1]
     have fin:=AjA (x:=x) (dn:=dn++[cur]) (b:=newB p) (by rw[hnb]; rfl);apply zgF;simp only[go_sem,dj,hpA,q1,hlm,laa]
     repeat refine aqb ?_
     refine zqF hg (hna) ?_;simp only[blA];simp only[go_sem,hlm,laa]
     repeat refine aqb ?_
     rw[hnb]at fin;rw[hnb]at hJ';rw[ic j];refine ainv hJ' (Shift.trans (Shift.low 4 (e':=[(13,.int .i64 ((j+1:Nat):Int)),(12,.int .i64 x.Ld.length),(11,.fz 2 (x.Ld.map paA)),(3,.sl 1 0 (dn.length+1+1) (dn.length+1+1))]) (by simp) (by simp) ?_ ?_) (Lu ?_ ?_))
     .have:=AnU x (dn++[cur]) ⟨1,wrapL 60 p.text,[],[]⟩
      rw[fin]at this;exact this
     .simp only [go_sem]
     .simp only [go_sem]
     .rw [fin]; rfl
    .by_cases k5:p.kind=5
     .have q1:(p.kind==1)=false:=by simp[k5]
      have q5:(p.kind==5)=true:=by simp[k5]
      have hna:=A7V p.text (by omega);have hnb:newB p=⟨2,[turnLine p.text],[],[]⟩:=by simp[newB,k5]
      have fin:=AjA (x:=x) (dn:=dn++[cur]) (b:=newB p) (by rw[hnb]; rfl);apply zgF;simp only[go_sem,dj,hpA,q1,q5,hlm,laa]
      repeat refine aqb ?_
      refine zpF (hna) ?_;simp only[blA];simp only[go_sem,hlm,laa]
      repeat refine aqb ?_
      rw[hnb]at fin;rw[hnb]at hJ';rw[ic j];refine ainv hJ' (Shift.trans (Shift.low 4 (e':=[(13,.int .i64 ((j+1:Nat):Int)),(12,.int .i64 x.Ld.length),(11,.fz 2 (x.Ld.map paA)),(3,.sl 1 0 (dn.length+1+1) (dn.length+1+1))]) (by simp) (by simp) ?_ ?_) (Lu ?_ ?_))
      .have:=AnU x (dn++[cur]) ⟨2,[turnLine p.text],[],[]⟩
       rw[fin]at this;exact this
      .simp only [go_sem]
      .simp only [go_sem]
      .rw [fin]; rfl
     .have k2:p.kind=2:=by omega
      have q1:(p.kind==1)=false:=by simp[k2]
      have q5:(p.kind==5)=false:=by simp[k2]
      have q2:(p.kind==2)=true:=by simp[k2]
      have hnb:newB p=⟨3,[indent 20 p.text],[0],p.text⟩:=by simp[newB,k2]
      have fin:=AjB (x:=x) (dn:=dn++[cur]) (b:=newB p) (by rw[hnb]; rfl);apply zgF;simp only[go_sem,dj,hpA,q1,q5,q2,hlm,laa]
      repeat refine aqb ?_
      refine za (A1I _ _ _ p.text (by omega)) ?_;rintro _ _ ⟨rfl,b5,b6,rfl⟩;simp only[grpA];apply zgN;simp only[go_sem,hlm,laa]
      repeat refine aqb ?_
      rw[hnb]at fin;rw[hnb]at hJ';simp only[lak,lao,lal,laq,lay,grpA]at fin;rw[ic j];refine ainv hJ' (Shift.trans (Shift.low 4 (e':=[(13,.int .i64 ((j+1:Nat):Int)),(12,.int .i64 x.Ld.length),(11,.fz 2 (x.Ld.map paA)),(3,.sl 1 0 (dn.length+1+1) (dn.length+1+1))]) (by simp) (by simp) ?_ ?_) (Lu ?_ ?_))
      .have:=AnU x (dn++[cur]) ⟨3,[indent 20 p.text],[0],p.text⟩
       rw[fin]at this;exact this
      .simp only [go_sem]
      .simp only [go_sem]
      .rw [fin]; rfl
  .have dj:decide ((j:Int)<(x.Ld.length:Int))=false:=by simp; omega
   have hj:j=x.Ld.length:=by omega
   subst hj;rw[List.drop_length]at g4;simp only[List.foldl_nil]at g4;have hbl:blocksL x=dn++[cur]:=by simp[blocksL,<- g4]
   refine AWp.shift (ArA (e':=[(13,.int .i64 (x.Ld.length:Int)),(12,.int .i64 x.Ld.length),(11,.fz 2 (x.Ld.map paA)),(3,.sl 1 0 (dn.length+1) (dn.length+1))]) (by simp) (by simp only[go_sem])) ?_;apply zgF;simp only[go_sem,dj];refine ARet.shift (Shift.freeze 2 (id:=1) rfl rfl (by simp) (lab _) (AhB _)) (aret [2] rfl ⟨?_,rfl⟩)
   simp[resV,Av.get,Av.put,lae,hbl]
end Go.Proofs.YtmhjbljckkgeoaaGreatDoor
namespace Go.Proofs.YtmhjbljckkgeoaaGreatDoor
open Av RowKit Proofs.Tryz
theorem AnV:∀ (ps:List Pa)(s:List Bl×Bl)(B:Nat),(∀ b∈s.1++[s.2],b.Lb.length<=B+3000)->(∀ p∈ps,p.text.length<=2000) ->
  (∀ b∈(ps.foldl bstep s).1++[(ps.foldl bstep s).2],b.Lb.length<=B+3000+2100*ps.length)/\((ps.foldl bstep s).1).length<=s.1.length+ps.length
 | [],s,B,h,_=>by grind
 | p::r,s,B,h,hp=>by
  have hstep:(∀ b∈(bstep s p).1++[(bstep s p).2],b.Lb.length<=(B+2100)+3000)/\(bstep s p).1.length<=s.1.length+1:=by
   grind[bstep,moreB_len,AtL]
  obtain⟨h1,h2⟩:=AnV r (bstep s p) (B+2100) hstep.1 (fun q hq=>hp q (by grind));refine⟨fun b hb=>?_,?_⟩<;>grind
theorem AxI{x:Sc}(hp:∀ p∈x.Ld,p.text.length<=2000)(hh:(headL x).length<2000000)(hl:x.Ld.length<=4000):(∀ b∈blocksL x,b.Lb.length<=11000000)/\(blocksL x).length<=4001:=by
 have:=AnV x.Ld ([],⟨0,wrapL 60 (headL x),[],[]⟩) 2000000 (by
  grind[wrapL_le]) hp
 grind[blocksL,AfR]
def gapN(b:Bl):Nat:=if b.kind==0 then 2 else 1
def AkN(b:Bl):List LU:=List.replicate (gapN b) []++b.Lb
def linesL(x:Sc):List LU:=((blocksL x).map AkN).flatten
def linesTo(bs:List Bl)(i:Nat):List LU:=((bs.take i).map AkN).flatten
theorem AxJ{bs:List Bl}{i:Nat}(h:i<bs.length):linesTo bs (i+1)=linesTo bs i++List.replicate (gapN bs[i]) []++bs[i].Lb:=by
 grind[linesTo,lad,AkN]
structure LineOk(x:Sc):Prop where
 sc:SceneOk x
 place:1<=x.place/\x.place<=3
 time:1<=x.time/\x.time<=5
 no:x.no.length<1000000
 few:x.Ld.length<=4000
theorem A1L{x:Sc}(h:SceneOk x):x.set.length<10000:=by
 have:=h.set
 grind[isSetL,properL]
theorem LineOk.head{x:Sc}(h:LineOk x):(headL x).length<2000000:=by
 have l1:=AfE x.place;have l2:=AgA x.time;have l3:=A1L h.sc;have l4:=h.no
 grind[headL,headLine]
theorem LineOk.bound{x:Sc}(h:LineOk x):(∀ b∈blocksL x,b.Lb.length<=11000000)/\(blocksL x).length<=4001:=by
 obtain⟨e,hr,_,_⟩:=h.sc.run;exact AxI (fun p hp=>AmG (A1J _ _ _ hr p hp)) h.head h.few
theorem AnW{bs:List Bl}(h:∀ b∈bs,b.Lb.length<=11000000):∀ i,i<=bs.length->(linesTo bs i).length<=11000002*i
 | 0,_=>by simp[linesTo]
 | i+1,hi=>by
  have hl:i<bs.length:=by omega
  have ih:=AnW h i (by omega);have hb:=h bs[i] (lac hl);have hg:gapN bs[i]<=2:=by unfold gapN; split <;> omega
  rw[AxJ hl]
  simp
  omega
theorem BdH(x:Sc):linesL x=linesTo (blocksL x) (blocksL x).length:=by grind[linesL,linesTo]
theorem LineOk.Lb{x:Sc}(h:LineOk x):(linesL x).length<=44100000000:=by
 rw[BdH];have:=AnW h.bound.1 _ (lab _);have:=h.bound.2;omega
def nx(n:Nat):Int:=((16*n+54) / 108:Nat)
abbrev Ln:=LU
def AdP:Ln:=[32,32,32,32,32,32,32,32,32,32,32,32,32,32,32,32,32,32,32,32]
theorem A1M:Lib.repeatL [32] 20=AdP:=by decide +kernel
def AbH:Ln:=indent 20 [40,77,79,82,69,41]
def A1N:Ln:=[32,40,67,79,78,84,39,68,41]
def BdI:Ln:=[32,79,77,73,84,84,69,68]
def goesLn(b:Bl):Ln:=indent 20 b.name++A1N
def breaksL(b:Bl)(fr k:Nat):Bool :=
 if b.kind==1 then decide ((k:Int)-fr>=2)&&decide ((b.Lb.length:Int)-k>=2)
 else if b.kind==3 then b.kinds.getD (k-1) 0==2&&(decide ((k:Int)-fr-(if fr=0 then 1 else 0)>=2)&&decide ((b.Lb.length:Int)-k>=2))
 else false
def grp(b:Bl):Nat:=if b.kind==3 then 1 else 0
def firstB(b:Bl):Nat->Nat->Option Nat
 | 0,_=>none
 | n+1,k=>if breaksL b 0 k then some k else firstB b n (k+1)
def AaN(b:Bl):Nat :=
 if b.kind==1&&decide ((b.Lb.length:Int)>3) then 2
 else if b.kind==3&&decide ((b.Lb.length:Int)>4) then
  match firstB b (b.Lb.length-1) 1 with
  | some k=>k+1
  | none=>b.Lb.length
 else b.Lb.length
def AcN(b:Bl)(fr:Nat):Nat->Option Nat
 | 0=>none
 | j+1=>if fr<j+1 then(if breaksL b fr (j+1) then some (j+1) else AcN b fr j) else none
def stopL(b:Bl)(fr room:Nat):Nat :=
 if b.Lb.length-fr<=room then b.Lb.length
 else match AcN b fr (min (fr+room-grp b) (b.Lb.length-1))with
  | some j=>j
  | none=>max (min (fr+room-grp b) (b.Lb.length-1)) (fr+1)
def AbU(bs:List Bl)(i:Nat)(b:Bl):Nat :=
 AaN b+(if b.kind==0 then(match bs[i+1]? with
  | some d=>if d.kind==0 then 0 else 1+AaN d
  | none=>0) else 0)
structure LS where
 Lh:List (List Ln)
 Lg:List Int
 Ll:List Int
 Li:List Ln
 first:Int
def flushS(s:LS):LS:=⟨s.Lh++[s.Li],s.Lg++[s.first],s.Ll,[],-1⟩
def addS(s:LS)(l:List Ln):LS:={ s with Li:=s.Li++l }
def breakS(b:Bl)(s:LS):LS:=addS (flushS (addS s (if b.kind==3 then[AbH] else[]))) (if b.kind==3 then[goesLn b] else[])
def partL'(b:Bl)(fr tz:Nat):List Ln:=(b.Lb.take tz).drop fr
def placeB(b:Bl):Nat->Nat->LS->LS
 | 0,_,s=>s
 | f+1,fr,s =>
  if stopL b fr (54-s.Li.length)=b.Lb.length then addS s (partL' b fr (stopL b fr (54-s.Li.length)))
  else placeB b f (stopL b fr (54-s.Li.length)) (breakS b (addS s (partL' b fr (stopL b fr (54-s.Li.length)))))
def turnS(bs:List Bl)(i:Nat)(b:Bl)(s:LS):LS:=if s.Li≠[]/\s.Li.length+gapN b+AbU bs i b>54 then flushS s else s
def firstS(i:Nat)(s:LS):LS:=if s.Li=[] then{ s with first:=i } else s
def gapS(b:Bl)(s:LS):LS:={ s with Li:=s.Li++List.replicate (gapN b*min s.Li.length 1) [],Ll:=s.Ll++[(s.Lh.length:Int)] }
def openS(bs:List Bl)(i:Nat)(b:Bl)(s:LS):LS:=gapS b (firstS i (turnS bs i b s))
def layTo(bs:List Bl):Nat->LS
 | 0=>⟨[],[],[],[],-1⟩
 | i+1=>match bs[i]? with
  | some b=>placeB b (b.Lb.length+1) 0 (openS bs i b (layTo bs i))
  | none=>layTo bs i
def layL(bs:List Bl):LS:=if(layTo bs bs.length).Li≠[] then flushS (layTo bs bs.length) else layTo bs bs.length
def addedL(l:Ln)(i n:Nat):Bool:=(l==AbH&&i+1==n)||(i==0&&(Lib.hasSuffix l A1N&&Lib.hasPrefix l AdP))
def AqA(l:Ln):Bool:=l != []&&!Lib.hasSuffix l BdI
def saidGo(n:Nat):Nat->List Ln->List Ln
 | _,[]=>[]
 | i,l::r=>if l != []&&(!addedL l i n&&!Lib.hasSuffix l BdI) then l::saidGo n (i+1) r else saidGo n (i+1) r
def BlG(p:List Ln):List Ln:=saidGo p.length 0 p
structure OwnLn(l:Ln):Prop where
 more:l≠AbH
 cont:(Lib.hasSuffix l A1N&&Lib.hasPrefix l AdP)=false
theorem A5D(n:Nat)(post:List Ln):∀ (body:List Ln)(i:Nat),(∀ l∈body,OwnLn l)->saidGo n i (body++post)=body.filter AqA++saidGo n (i+body.length) post
 | [],i,_=>rfl
 | l::r,i,h=>by
  have hl:=h l (by simp);have h1:(l==AbH)=false:=by simpa using hl.more
  have ih:=A5D n post r (i+1) (fun x hx=>h x (by grind));have ha:addedL l i n=false:=by simp[addedL,h1,hl.cont]
  grind[saidGo,AqA]
theorem BdJ(i:Nat):saidGo (i+1) i [AbH]=[]:=by grind[saidGo,addedL]
theorem goes_suf(b:Bl):Lib.hasSuffix (goesLn b) A1N=true:=by
 grind[Lib.hasSuffix,goesLn]
theorem BlH(b:Bl):Lib.hasPrefix (goesLn b) AdP=true:=by
 grind[Lib.hasPrefix,goesLn,indent,A1M]
theorem BdK(n:Nat)(b:Bl)(r:List Ln):saidGo n 0 (goesLn b::r)=saidGo n 1 r:=by
 grind[saidGo,addedL,goes_suf,BlH]
theorem BdL(pre body post:List Ln)(h1:pre=[]\/∃ b,pre=[goesLn b])(h2:∀ l∈body,OwnLn l)(h3:post=[]\/post=[AbH]):BlG (pre++body++post)=body.filter AqA:=by
 unfold BlG;have key:∀ i,i+body.length+post.length=(pre++body++post).length->saidGo (pre++body++post).length i (body++post)=body.filter AqA:=fun i hi=>by
  rw[A5D _ _ _ _ h2]
  rcases h3 with rfl|rfl
  .simp [saidGo]
  .rw [<- hi]
   show _++saidGo (i+body.length+1) (i+body.length) [AbH]=_
   grind[BdJ]
 grind[BdK]
theorem AnX(b:Bl):∀ (n k j:Nat),firstB b n k=some j->k<=j
 | 0,_,_,h=>by cases h
 | n+1,k,j,h=>by
  simp only[firstB]at h
  split at h
  .grind
  .have:=AnX b n (k+1) j h; omega
theorem AmH(b:Bl)(fr:Nat):∀ (n j:Nat),AcN b fr n=some j->fr<j/\j<=n
 | 0,_,h=>by cases h
 | n+1,j,h=>by
  simp only[AcN]at h
  split at h
  .split at h
   .grind
   .have:=AmH b fr n j h; omega
  grind
def AhN(b:Bl)(fr room:Nat):Prop:=b.Lb.length-fr<=room\/1+grp b<=room
theorem A7Z{b:Bl}{room:Nat}(h:AaN b<=room):AhN b 0 room:=by
 unfold AaN at h;unfold AhN grp
 split at h
 .grind
 .split at h
  .split at h
   .rename_i k hk
    have:=AnX b _ _ _ hk
    grind
   omega
  omega
theorem AnY{b:Bl}{fr room:Nat}(h:AhN b fr room)(hf:fr<=b.Lb.length) :
  (stopL b fr room=b.Lb.length/\b.Lb.length-fr<=room)\/(fr<stopL b fr room/\stopL b fr room<b.Lb.length/\stopL b fr room+grp b<=fr+room):=by
 unfold stopL
 by_cases hr:b.Lb.length-fr<=room
 .grind
 .rw [if_neg hr]
  have h2:=h.resolve_left hr
  split
  .rename_i j hj
   have:=AmH b fr _ _ hj;omega
  omega
structure PInv(s:LS)(w:List Ln):Prop where
 Lh:∀ p∈s.Lh,1<=p.length/\p.length<=54
 len:s.Li.length<=54
 ex:∃ pre body,s.Li=pre++body/\(pre=[]\/∃ b,pre=[goesLn b])/\(∀ l∈body,OwnLn l)/\s.Lh.flatMap BlG++body.filter AqA=w.filter AqA
theorem AgB{s:LS}{w post:List Ln}(h:PInv s w)(hp:post=[]\/post=[AbH])(h0:1<=(s.Li++post).length)(h1:(s.Li++post).length<=54):PInv (flushS (addS s post)) w:=by
 obtain⟨pre,body,e1,e2,e3,e4⟩:=h.ex;refine⟨fun p hq=>?_,by simp[flushS],[],[],rfl,.inl rfl,by simp,?_⟩
 .simp only [flushS,addS,lbq,List.mem_singleton]at hq
  rcases hq with hq|rfl
  .exact h.Lh p hq
  omega
 .simp only [flushS,addS,List.flatMap_append,List.flatMap_cons,List.flatMap_nil,lbp,List.filter_nil]
  grind[BdL]
theorem AtM{s:LS}{w l:List Ln}(h:PInv s w)(ho:∀ x∈l,OwnLn x)(hl:(s.Li++l).length<=54):PInv (addS s l) (w++l):=by
 obtain⟨pre,body,e1,e2,e3,e4⟩:=h.ex;refine⟨h.Lh,hl,pre,body++l,by simp[addS,e1],e2,fun x hx=>?_,?_⟩<;>grind[addS]
theorem BlI{s:LS}{w:List Ln}(h:PInv s w)(h0:s.Li=[])(b:Bl):PInv (addS s [goesLn b]) w:=by
 obtain⟨pre,body,e1,e2,e3,e4⟩:=h.ex;have hb:pre=[]/\body=[]:=by grind
 refine⟨h.Lh,by simp[addS,h0],[goesLn b],[],by simp[addS,h0],.inr ⟨b,rfl⟩,by simp,?_⟩<;>grind[addS]
theorem AhC(b:Bl){fr tz:Nat}(h:tz<=b.Lb.length):(partL' b fr tz).length=tz-fr:=by
 grind[partL']
theorem break_page(b:Bl)(s:LS):(breakS b s).Li=if b.kind==3 then[goesLn b] else[]:=by
 grind[breakS,addS,flushS]
theorem AxK{b:Bl}{s:LS}{w:List Ln}(h:PInv s w)(h0:1<=s.Li.length)(h1:s.Li.length+grp b<=54):PInv (breakS b s) w:=by
 unfold breakS grp at *
 by_cases hk:(b.kind==3)=true
 .simp only [hk,if_true]at h1 |-
  exact BlI (AgB h (.inr rfl) (by simp) (by grind)) rfl b
 .have h2:=AgB h (.inl rfl) (by grind) (by grind)
  simp_all[addS]
theorem AxL{b:Bl}(ho:∀ x∈b.Lb,OwnLn x):∀ (f fr:Nat)(s:LS)(w:List Ln),PInv s w->b.Lb.length-fr<f->fr<=b.Lb.length->AhN b fr (54-s.Li.length)->PInv (placeB b f fr s) (w++b.Lb.drop fr)
 | 0,fr,s,w,_,h,_,_=>by omega
 | f+1,fr,s,w,h,hf,hfr,hr=>by
  have hl:=h.len;have ho':∀ tz,∀ x∈partL' b fr tz,OwnLn x:=fun tz x hx=>ho x (lat (lav hx))
  unfold placeB
  rcases AnY hr hfr with⟨h1,h2⟩|⟨h1,h2,h3⟩
  .grind[partL',AtM]
  .generalize hto:stopL b fr (54-s.Li.length)=tz at h1 h2 h3 |-
   have hpl:=AhC b (fr:=fr) (Nat.le_of_lt h2);have k1:=AtM h (ho' tz) (by grind);have k2:=AxK (b:=b) k1 (by grind[addS]) (by grind[addS]);have k3:=AxL ho f tz _ _ k2 (by omega) (by omega) (by
    right
    grind[break_page,grp])
   grind[partL',lbd]
theorem BsI:OwnLn []:=⟨by decide,by decide⟩
theorem AtN{bs:List Bl}{i:Nat}{b:Bl}{s:LS}{w:List Ln}(h:PInv s w):∃ g:List Ln,(∀ x∈g,x=[])/\PInv (openS bs i b s) (w++g)/\AhN b 0 (54-(openS bs i b s).Li.length):=by
 have hh:AaN b<=AbU bs i b:=by grind[AbU]
 unfold openS;generalize hs1:turnS bs i b s=s1;have h1:PInv s1 w/\(s1.Li=[]\/s1.Li.length+gapN b+AbU bs i b<=54):=by
  subst hs1;unfold turnS;have hn:∀ s:LS,addS s []=s:=fun s=>by simp[addS]
  split
  .have k:=AgB h (.inl rfl) (by grind) (by simpa using h.len)
   rw[hn]at k;exact⟨k,.inl rfl⟩
  grind
 obtain⟨h1,h2⟩:=h1;generalize hs2:firstS i s1=s2;have hp:s2.Li=s1.Li/\s2.Lh=s1.Lh:=by grind[firstS]
 have k2:PInv s2 w:=⟨by rw[hp.2]; exact h1.Lh,by grind,by rw[hp.1,hp.2]; exact h1.ex⟩;refine⟨List.replicate (gapN b*min s2.Li.length 1) [],fun x hx=>List.eq_of_mem_replicate hx,?_,?_⟩
 .have hlen:(s2.Li++List.replicate (gapN b*min s2.Li.length 1) ([])).length<=54:=by
   grind[gapN]
  have k3:=AtM k2 (fun x hx=>by grind[BsI]) hlen;exact⟨k3.Lh,k3.len,k3.ex⟩
 .simp only [gapS,lah,lbx]
  .by_cases h0:s1.Li=[]
   .right
    grind[grp]
   .have:min s2.Li.length 1=1:=by
     have:1<=s1.Li.length:=by
      grind
     grind
    grind[A7Z]
def bodyTo(bs:List Bl)(i:Nat):List Ln:=(bs.take i).flatMap fun b=>b.Lb
theorem AnZ{bs:List Bl}(ho:∀ b∈bs,∀ x∈b.Lb,OwnLn x):∀ i,i<=bs.length->∃ w,PInv (layTo bs i) w/\w.filter AqA=(bodyTo bs i).filter AqA
 | 0,_=>⟨[],⟨by simp[layTo],by simp[layTo],[],[],rfl,.inl rfl,by simp,rfl⟩,rfl⟩
 | i+1,h=>by
  obtain⟨w,h1,h2⟩:=AnZ ho i (by omega);have hi:i<bs.length:=by omega
  simp only[layTo,lam hi];obtain⟨g,g1,g2,g3⟩:=AtN (bs:=bs) (i:=i) h1;have k:=AxL (ho _ (lac hi)) (bs[i].Lb.length+1) 0 _ _ g2 (by omega) (by omega) g3;have hg:g.filter AqA=[]:=by
   rw[List.filter_eq_nil_iff];intro x hx;rw[g1 x hx]; decide
  grind[bodyTo,lad]
theorem BdM{bs:List Bl}(ho:∀ b∈bs,∀ x∈b.Lb,OwnLn x) :
  (∀ p∈(layL bs).Lh,1<=p.length/\p.length<=54)/\(layL bs).Lh.flatMap BlG=(bs.flatMap fun b=>b.Lb).filter AqA:=by
 obtain⟨w,h1,h2⟩:=AnZ ho bs.length (lab _);have hb:bodyTo bs bs.length=bs.flatMap fun b=>b.Lb:=by simp[bodyTo]
 unfold layL
 by_cases h0:(layTo bs bs.length).Li≠[]
 .rw [if_pos h0]
  have hn:∀ s:LS,addS s []=s:=fun s=>by simp[addS]
  have k:=AgB h1 (.inl rfl) (by grind) (by simpa using h1.len);rw[hn]at k;obtain⟨pre,body,e1,e2,e3,e4⟩:=k.ex;have hbo:pre=[]/\body=[]:=by simp_all[flushS]
  exact⟨k.Lh,by grind⟩
 .rw [if_neg h0]
  have h0':(layTo bs bs.length).Li=[]:=by grind
  obtain⟨pre,body,e1,e2,e3,e4⟩:=h1.ex;exact⟨h1.Lh,by grind⟩
theorem more_pc:Pc prog 180 [] (· = .str AbH):=by
 have hr:=AdF [32] 20 (by simp) (by omega);have hbl:=AcB 20;refine zpIN func180 rfl fun h ρ w=>?_
 simp only[go_sem];refine zpN (hr) ?_;simp only[go_sem]
 repeat refine aqb ?_
 exact zt [0]
theorem BdN(b:Bl)(hl:b.name.length<1000000):Pc prog 181 [blA b] (· = .str (goesLn b)):=by
 have hr:=AdF [32] 20 (by simp) (by omega);have hbl:=AcB 20;simp only[blA];refine zpIN func181 rfl fun h ρ w=>?_
 simp only[go_sem];refine zr [.str (Lib.repeatL [32] 20)] AaF ?_;simp only[go_sem]
 repeat refine And.intro (by first|omega|exact hr.at|exact .inl trivial|rfl|(simp; done)|(simp; omega)) ?_
 apply zgN;simp only[go_sem];exact zt [2]
theorem AxM(b:Bl)(fr k:Nat)(h1:1<=k)(hk:b.kind=3->k<=b.kinds.length)(hn:b.Lb.length<=100000000)(hf:fr<=100000000)(hk2:k<=100000000):Pc prog 244 [blA b,.int .i64 (fr:Int),.int .i64 (k:Int)] (· = .bool (breaksL b fr k)):=by
 unfold breaksL;simp only[blA]
 cases k1:b.kind==1 with
 | true =>
  simp only[if_true]
  cases d1:decide ((k:Int)-fr>=2)with
  | true =>
   refine zpIN func244 rfl fun h ρ w=>?_
   simp only[go_sem];refine zr [] AaF ?_;simp only[go_sem,laa]
   repeat refine aqb ?_
   apply zgN;simp only[go_sem,k1,d1];exact zt [6]
  | false =>
   refine zpIN func244 rfl fun h ρ w=>?_
   simp only[go_sem];refine zr [] AaF ?_;simp only[go_sem,laa]
   repeat refine aqb ?_
   apply zgN;simp only[go_sem,k1,d1];exact zt [6]
 | false =>
  simp only[lan,if_false]
  cases k3:b.kind==3 with
  | false =>
   refine zpIN func244 rfl fun h ρ w=>?_
   simp only[go_sem];refine zr [] AaF ?_;simp only[go_sem,laa]
   repeat refine aqb ?_
   apply zgN;simp only[go_sem,k1,k3];exact zt [6]
  | true =>
   simp only[if_true];have hkk:=hk (by simpa using k3);have hi:((k:Int)-1).toNat=k-1:=by omega
   have hg:List.getD (b.kinds.map (AV.int .i64)) (k-1) .any=.int .i64 (b.kinds.getD (k-1) 0):=by
    have:k-1<b.kinds.length:=by omega
    simp[List.getD,this]
   have e1:(k:Int)-1=((k-1:Nat):Int):=by omega
   by_cases f0:fr=0
   .have d0:((fr:Int)==0)=true:=by simp[f0]
    simp only[f0,if_true,Int.natCast_zero];rw[f0]at d0
    cases q1:b.kinds.getD (k-1) 0==2 with
    | false =>
     refine zpIN func244 rfl fun h ρ w=>?_
     simp only[go_sem];refine zr [] AaF ?_;simp only[go_sem,laa]
     repeat refine aqb ?_
     apply zgN;simp only[go_sem,k1,k3,d0,hi,hg,q1,laa]
     repeat refine aqb ?_
     exact zt [6]
    | true =>
     cases d1:decide ((k:Int)-0-1>=2)with
     | false =>
      refine zpIN func244 rfl fun h ρ w=>?_
      simp only[go_sem];refine zr [] AaF ?_;simp only[go_sem,laa]
      repeat refine aqb ?_
      apply zgN;simp only[go_sem,k1,k3,d0,hi,hg,q1,d1,laa]
      repeat refine aqb ?_
      exact zt [6]
     | true =>
      refine zpIN func244 rfl fun h ρ w=>?_
      simp only[go_sem];refine zr [] AaF ?_;simp only[go_sem,laa]
      repeat refine aqb ?_
      apply zgN;simp only[go_sem,k1,k3,d0,hi,hg,q1,d1,laa]
      repeat refine aqb ?_
      exact zt [6]
   .have d0:((fr:Int)==0)=false:=by rw[lax]; omega
    simp only[f0,if_false,Int.sub_zero]
    cases q1:b.kinds.getD (k-1) 0==2 with
    | false =>
     refine zpIN func244 rfl fun h ρ w=>?_
     simp only[go_sem];refine zr [] AaF ?_;simp only[go_sem,laa]
     repeat refine aqb ?_
     apply zgN;simp only[go_sem,k1,k3,d0,hi,hg,q1,laa]
     repeat refine aqb ?_
     exact zt [6]
    | true =>
     cases d1:decide ((k:Int)-fr>=2)with
     | false =>
      refine zpIN func244 rfl fun h ρ w=>?_
      simp only[go_sem];refine zr [] AaF ?_;simp only[go_sem,laa]
      repeat refine aqb ?_
      apply zgN;simp only[go_sem,k1,k3,d0,hi,hg,q1,d1,laa]
      repeat refine aqb ?_
      exact zt [6]
     | true =>
      refine zpIN func244 rfl fun h ρ w=>?_
      simp only[go_sem];refine zr [] AaF ?_;simp only[go_sem,laa]
      repeat refine aqb ?_
      apply zgN;simp only[go_sem,k1,k3,d0,hi,hg,q1,d1,laa]
      repeat refine aqb ?_
      exact zt [6]
