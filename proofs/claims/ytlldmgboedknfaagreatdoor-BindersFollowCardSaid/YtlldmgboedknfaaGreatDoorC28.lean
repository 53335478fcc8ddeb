/- The blocks of a scene. -/
import Derived.Test.YtlldmgboedknfaaGreatDoorC27
set_option maxRecDepth 100000
set_option maxHeartbeats 8000000
set_option linter.unusedSimpArgs false
set_option linter.unusedVariables false
namespace Go.Proofs.YtlldmgboedknfaaGreatDoor
open Go Go.Av Go.RowKit _root_.Go.Proofs.Tryz
def asideT(t:List UInt8):List UInt8:=40::(t++[41])
def newB(p:Pa):Bl :=
 if p.kind==1 then⟨1,AbH 60 p.text,[],[]⟩ else if p.kind==5 then⟨2,[turnLine p.text],[],[]⟩ else⟨3,[indent 20 p.text],[0],p.text⟩
def moreB(b:Bl)(p:Pa):Bl:=if p.kind==3 then addB b 1 15 (AbH 30 (asideT p.text)) else addB b 2 10 (AbH 35 p.text)
def bstep(s:List Bl×Bl)(p:Pa):List Bl×Bl:=if joins p then(s.1,moreB s.2 p) else(s.1++[s.2],newB p)
def blocksS(x:Sc):List Bl×Bl:=x.paras.foldl bstep ([],⟨0,AbH 60 (headL x),[],[]⟩)
def blocksL(x:Sc):List Bl:=(blocksS x).1++[(blocksS x).2]
theorem BdI(id e:Nat)(l:List AV)(bs:List Bl):(bs.map blA).map (frzC id e l)=bs.map blA:=by
 rw[List.map_map];apply List.map_congr_left;intro b _;rfl
theorem frz_scB(id e:Nat)(l:List AV)(x:Sc):frzC id e l (scA x)=scA x:=rfl
theorem AhJ(l:List Bl):(flat (l.map blA)).all Av.frozen=true:=by
 induction l with
 | nil=>rfl
 | cons y l ih=>simpa[flat,cellsOf,blA,Av.frozen]using ih
def XA(b:Bl):AV:=if b.kind==3 then grpA 2 3 b.kind b.lines.length b.kinds.length b.name else blA b
def LA(b:Bl):List AV:=if b.kind==3 then b.lines.map .str else[]
def KA(b:Bl):List AV:=if b.kind==3 then b.kinds.map (.int .i64) else[]
def boT(x:Sc)(dn:List Bl)(cur:Bl):List Blk:=[.arr 5 [scA x],.arr 4 (dn.map blA++[XA cur]),.arr 1 (LA cur),.arr 1 (KA cur)]
theorem AuI{n id es:Nat}{l:List AV}(hid:n<=id){v:AV}(h:lowC n v=true):frz1 id es l v=v:=by
 cases v with
 | sl i off len cap =>
  have hi:i<n:=of_decide_eq_true h;have:(i==id)=false:=by simp; omega
  simp[frz1,this]
 | ptr i off len cap =>
  have hi:i<n:=of_decide_eq_true h;have:(i==id)=false:=by simp; omega
  simp[frz1,this]
 | _=>rfl
theorem A4Y{n id es:Nat}{l:List AV}(hid:n<=id){r:List AV}(h:r.all (lowC n)=true):r.map (frz1 id es l)=r:=by
 conv=>rhs; rw[<- List.map_id r]
 exact List.map_congr_left fun x hx=>AuI hid (List.all_eq_true.1 h x hx)
theorem BjL{n id es:Nat}{l:List AV}(hid:n<=id){v:AV}(h:lowV n v=true):frz id es l v=v:=by
 cases v with
 | agg r=>simp only[frz,A4Y hid (show r.all (lowC n)=true from h)]
 | fn f r=>simp only[frz,A4Y hid (show r.all (lowC n)=true from h)]
 | sl i off len cap=>exact AuI hid (show lowC n (.sl i off len cap)=true from h)
 | ptr i off len cap=>exact AuI hid (show lowC n (.ptr i off len cap)=true from h)
 | _=>rfl
theorem A1V{n id es:Nat}{l:List AV}(hid:n<=id){e:Env}:∀ {e':Env},wkl n e e'->wkl n (frzE id es l e) e'
 | [],_=>trivial
 | (t,v)::r,h=>⟨⟨h.1.1,by rw[get_frzE,h.1.2,BjL hid h.1.1]⟩,A1V hid h.2⟩
theorem low_bls(n:Nat)(l:List Bl):lowB n (.arr 4 (l.map blA))=true:=AbL (AhJ l)
theorem low_sc(n:Nat)(x:Sc):lowB n (.arr 5 [scA x])=true:=rfl
section
variable {c:Cx}{e e':Env}
theorem ArV{x:Sc}{dn:List Bl}{cur:Bl}(hc:c.sto.length<=2)(hw:wkl 2 e e'):Shift c e (boT x dn cur) e' [.arr 5 [scA x],.arr 4 ((dn++[cur]).map blA),.arr 1 [],.arr 1 []]:=by
 have fin:∀ {e0:Env} {s2:List Blk},wkl 2 e0 e'->Shift c e0 ([.arr 5 [scA x],.arr 4 ((dn++[cur]).map blA)]++s2) e' [.arr 5 [scA x],.arr 4 ((dn++[cur]).map blA),.arr 1 [],.arr 1 []]:=by
  intro e0 s2 hw0;refine Shift.trans (Shift.low 2 hc (by simp) ?_ hw0) (Shift.trans (Shift.reserve 1) (Shift.reserve 1));simp only[List.cons_append,List.nil_append,List.take_succ_cons,List.take_zero,List.all_cons,List.all_nil,low_bls,low_sc,Bool.and_self]
 unfold boT XA LA KA
 cases hk:cur.kind==3 with
 | false =>
  simp only[Bool.false_eq_true,if_false];have:dn.map blA++[blA cur]=(dn++[cur]).map blA:=by simp
  rw[this];exact fin (s2:=[.arr 1 [],.arr 1 []]) hw
 | true =>
  simp only[if_true];refine Shift.trans (Shift.frz 2 (es:=1) (l:=cur.lines.map .str) rfl (AfR _)) ?_;simp only[List.set_cons_succ,List.set_cons_zero,List.map_cons,List.map_nil,frzB,frz_scB,List.map_append,BdI];simp only[grpA,frzC,frz,frz1,List.map_cons,List.map_nil,Nat.reduceBEq,beq_self_eq_true,cond_true,cond_false,Bool.false_and,Bool.true_and,List.length_map,Nat.zero_add,decide_true,Nat.le_refl,List.drop_zero,Bool.and_self];have h3:(List.map (frzC 2 1 (cur.lines.map .str)) (cur.kinds.map (.int .i64)))=cur.kinds.map (.int .i64):=by
   rw[List.map_map];exact List.map_congr_left fun _ _=>rfl
  have ht:List.take cur.lines.length (List.map AV.str cur.lines)=List.map AV.str cur.lines:=List.take_of_length_le (by simp);rw[h3,ht];refine Shift.trans (Shift.frz 3 (es:=1) (l:=cur.kinds.map (.int .i64)) rfl (AoN _)) ?_;simp only[List.set_cons_succ,List.set_cons_zero,List.map_cons,List.map_nil,frzB,frz_scB,List.map_append,BdI];simp only[grpA,frzC,frz,frz1,List.map_cons,List.map_nil,Nat.reduceBEq,beq_self_eq_true,cond_true,cond_false,Bool.false_and,Bool.true_and,List.length_map,Nat.zero_add,decide_true,Nat.le_refl,List.drop_zero,Bool.and_self];have ht2:List.take cur.kinds.length (List.map (AV.int .i64) cur.kinds)=List.map (AV.int .i64) cur.kinds:=List.take_of_length_le (by simp);rw[ht2];have:dn.map blA++[.agg [.int .i64 cur.kind,.fz 1 (cur.lines.map .str),.fz 1 (cur.kinds.map (.int .i64)),.str cur.name]]=(dn++[cur]).map blA:=by simp[blA]
  rw[this,show List.map blA dn++[blA cur]=(dn++[cur]).map blA by simp];exact fin (s2:=[.dead,.dead]) (A1V (n:=2) (id:=3) (by omega) (A1V (n:=2) (id:=2) (by omega) hw))
end
theorem BdJ(p:Pa):(newB p).kind=3 ↔ ¬ (p.kind=1\/p.kind=5):=by
 unfold newB
 by_cases h1:p.kind=1
 .simp [h1]
 .by_cases h5:p.kind=5
  .simp [h5]
  .simp [h1,h5]
theorem AjJ{x:Sc}{dn:List Bl}{b:Bl}(h:(b.kind==3)=false):boT x dn b=[.arr 5 [scA x],.arr 4 (dn.map blA++[blA b]),.arr 1 [],.arr 1 []]:=by
 simp[boT,XA,LA,KA,h]
theorem AjK{x:Sc}{dn:List Bl}{b:Bl}(h:(b.kind==3)=true):boT x dn b=[.arr 5 [scA x],.arr 4 (dn.map blA++[grpA 2 3 b.kind b.lines.length b.kinds.length b.name]),.arr 1 (b.lines.map .str),.arr 1 (b.kinds.map (.int .i64))]:=by
 simp[boT,XA,LA,KA,h]
theorem AoQ(x:Sc)(dn:List Bl)(b:Bl):(boT x dn b).all (lowB 4)=true:=by
 have h1:=BjE 4 b.lines;have h2:lowB 4 (.arr 1 (b.kinds.map (.int .i64)))=true:=AbL (AoN _);have h3:=AbL (n:=4) (AhJ dn)
 cases h:b.kind==3 with
 | false =>
  rw[AjJ h];have:=low_bls 4 (dn++[b]);rw[List.map_append]at this;simp only[List.all_cons,List.all_nil,low_sc,this,Bool.and_true,Bool.true_and];have e:[blA b]=List.map blA [b]:=rfl;rw[e,this]; rfl
 | true =>
  rw[AjK h];simp only[List.all_cons,List.all_nil,low_sc,h1,h2,Bool.and_true,Bool.true_and];simp only[lowB,flat_append,List.all_append,h3,flat,grpA,cellsOf,List.append_nil,List.all_cons,List.all_nil,lowC,Av.frozen,decide_true,Bool.and_self,Bool.true_and,Nat.reduceLT]
theorem A8A(b:Bl)(p:Pa):(moreB b p).kind=b.kind:=by
 unfold moreB; split <;> rfl
theorem AxU(b:Bl)(p:Pa):(moreB b p).lines.length<=b.lines.length+p.text.length+4/\(moreB b p).kinds.length<=b.kinds.length+p.text.length+4:=by
 unfold moreB addB
 split
 .have:=(AcC 30 (asideT p.text)).1
  simp[asideT]at this |-; omega
 .have:=(AcC 35 p.text).1
  simp at this |-; omega
theorem A4Z(p:Pa):(newB p).lines.length<=p.text.length+4/\(newB p).kinds.length<=1:=by
 have:=(AcC 60 p.text).1;unfold newB
 split
 .simp; omega
 .split <;> simp
theorem A8B{St:Std}(hS:LibOk St)(x:Sc)(hx:SceneOk x)(hp:1<=x.place/\x.place<=3)(ht:1<=x.time/\x.time<=5)(hno:x.no.length<1000000)(hset:x.set.length<10000)(hps:x.paras.length<=4000):PcH prog St 57 [scA x] (· = .fz 4 ((blocksL x).map blA)):=by
 have hh:=AqX x hp ht (by omega) hset;have hhl:(headL x).length<2000000:=by
  have l1:=AkX x.place;have l2:=AoO x.time;unfold headL headLine
  split <;> simp <;> omega
 have hnh:=AhV hS (headL x) (by omega);obtain⟨e,hr,he2,he3⟩:=hx.run;simp only[scA]at hh |-;refine zqIN func57 rfl fun h ρ w hg=>?_
 simp only[go_sem];refine zpN (hh) ?_;simp only[go_sem];refine zqN hg (hnh) ?_;simp only[blA];simp only[go_sem,List.length_map];refine AWp.shift (Shift.trans (Shift.reserve 1) (Shift.reserve 1)) ?_;refine AaI (ι:=Nat×List Bl×Bl×Int) (fun y=>x.paras.length-y.1)
  (fun y=>[(13,.int .i64 y.1),(12,.int .i64 x.paras.length),(11,.fz 2 (x.paras.map paA)),(3,.sl 1 0 (y.2.1.length+1) (y.2.1.length+1))])
  (fun y=>boT x y.2.1 y.2.2.1) (fun y=>y.1<=x.paras.length/\runL y.2.2.2 (x.paras.drop y.1)=some e/\((y.2.2.2=2\/y.2.2.2=3\/y.2.2.2=4)->y.2.2.1.kind=3)/\(x.paras.drop y.1).foldl bstep (y.2.1,y.2.2.1)=blocksS x /\
   y.2.1.length<=y.1/\y.2.2.1.lines.length<=3000000+2100*y.1/\y.2.2.1.kinds.length<=3000000+2100*y.1) (0,[],⟨0,AbH 60 (headL x),[],[]⟩,0) ⟨by simp,hr,by simp,rfl,by simp,?_,by simp⟩ ?_ ?_
 .have:=(AcC 60 (headL x)).1
  simp only; omega
 .refine Shift.weakS ?_ ?_
  .simp only [go_sem]
  .rw [AjJ (by rfl)]; rfl
 .rintro ⟨j,dn,cur,l⟩ ⟨g1,g2,g3,g4,g5,g6,g7⟩ J hJ
  simp only at g1 g2 g3 g4 g5 g6 g7 hJ |-
  by_cases gj:j<x.paras.length
  .have dj:decide ((j:Int)<(x.paras.length:Int))=true:=by simp; omega
   have hpA:List.getD (List.map paA x.paras) j .any=.agg [.int .i64 x.paras[j].kind,.str x.paras[j].text]:=by simp[List.getD,gj,paA]
   rw[List.drop_eq_getElem_cons gj]at g2 g4;simp only[runL]at g2;rw[List.foldl_cons]at g4
   split at g2
   rotate_left
   .cases g2
   rename_i hok;simp only[Bool.and_eq_true]at hok;generalize x.paras[j]=p at *;have hpl:=AuF hok.1
   cases hj:joins p with
   | true =>
    have hst:bstep (dn,cur) p=(dn,moreB cur p):=by simp[bstep,hj]
    rw[hst]at g4;have hml:=AxU cur p;have hmk:=A8A cur p;have hk3:(cur.kind==3)=true:=by
     have hf:=hok.2;simp only[joins,Bool.or_eq_true,beq_iff_eq]at hj;simp only[followsL]at hf;have:cur.kind=3:=by
      rcases hj with h|h <;> simp[h]at hf <;> exact g3 (by omega)
     simpa using this
    have G:Grp (fun g L K=>[.arr 5 [scA x],.arr 4 (dn.map blA++[g]),.arr 1 L,.arr 1 K,.arr 2 [.agg [.int .i64 p.kind,.str p.text]]]) (fun g=>dn.map blA++[g]) 1 2 3 (dn.length+1) dn.length :=
     ⟨by omega,fun _ _ _=>rfl,fun _=>by simp,fun _=>by simp[List.getD],fun _ _=>by simp,fun _ _ _ _=>rfl,fun _ _ _=>rfl,fun _ _ _ _=>rfl,fun _ _ _=>rfl,fun _ _ _ _=>rfl⟩
    have htn:(((dn.length+1:Nat):Int)-1).toNat=dn.length:=by omega
    have fin:boT x dn (moreB cur p)=[.arr 5 [scA x],.arr 4 (dn.map blA++[grpA 2 3 (moreB cur p).kind (moreB cur p).lines.length (moreB cur p).kinds.length (moreB cur p).name]),.arr 1 ((moreB cur p).lines.map .str),.arr 1 ((moreB cur p).kinds.map (.int .i64))]:=AjK (by rw[hmk]; exact hk3);have hJ':=hJ (j+1,dn,moreB cur p,p.kind) ⟨by simp only; omega,g2,by simp only; intro _; rw[hmk]; simpa using hk3,g4,by simp only; omega,by simp only; omega,by simp only; omega⟩ (by simp only; omega);simp only at hJ';rw[AjK hk3]
    by_cases k3:p.kind=3
    .have q1:(p.kind==1)=false:=by simp[k3]
     have q5:(p.kind==5)=false:=by simp[k3]
     have q2:(p.kind==2)=false:=by simp[k3]
     have q3:(p.kind==3)=true:=by simp[k3]
     have hadd:=AxR hS G cur p.text (by omega) (by omega) (by omega);have hmb:addB cur 1 15 (AbH 30 (40::(p.text++[41])))=moreB cur p:=by simp[moreB,k3,asideT]
     rw[hmb]at hadd;simp only[grpS]at hadd;refine zgF ?_;simp only[go_sem,dj,hpA,q1,q5,q2,q3,List.length_map]
     repeat refine aqa ?_
     refine AxP [] rfl mixed (by decide) rfl rfl rfl 100 ?_;simp only[go_sem,iniO,KLast,List.length_map,htn]
     repeat refine aqa ?_
     refine zgF ?_;simp only[go_sem];refine zaH hg (hadd) ?_;rintro _ _ ⟨rfl,rfl⟩;refine zgF ?_;simp only[go_sem]
     repeat refine aqa ?_
     rw[ic j];refine ainv hJ' (Shift.trans (Shift.low 4 (e':=[(13,.int .i64 ((j+1:Nat):Int)),(12,.int .i64 x.paras.length),(11,.fz 2 (x.paras.map paA)),(3,.sl 1 0 (dn.length+1) (dn.length+1))]) (by simp) (by simp) ?_ ?_) (Shift.weakS ?_ ?_))
     .have:=AoQ x dn (moreB cur p)
      rw[fin]at this;exact this
     .simp only [go_sem]
     .simp only [go_sem]
     .rw [fin]; rfl
    .have k4:p.kind=4:=by
      simp only[joins,Bool.or_eq_true,beq_iff_eq]at hj;omega
     have q1:(p.kind==1)=false:=by simp[k4]
     have q5:(p.kind==5)=false:=by simp[k4]
     have q2:(p.kind==2)=false:=by simp[k4]
     have q3:(p.kind==3)=false:=by simp[k4]
     have q4:(p.kind==4)=true:=by simp[k4]
     have hadd:=AuE hS G cur p.text (by omega) (by omega) (by omega);have hmb:addB cur 2 10 (AbH 35 p.text)=moreB cur p:=by simp[moreB,k4]
     rw[hmb]at hadd;simp only[grpS]at hadd;refine zgF ?_;simp only[go_sem,dj,hpA,q1,q5,q2,q3,q4,List.length_map]
     repeat refine aqa ?_
     refine AxP [] rfl mixed (by decide) rfl rfl rfl 100 ?_;simp only[go_sem,iniO,KLast,List.length_map,htn]
     repeat refine aqa ?_
     refine zgF ?_;simp only[go_sem];refine zaH hg (hadd) ?_;rintro _ _ ⟨rfl,rfl⟩;refine zgF ?_;simp only[go_sem]
     repeat refine aqa ?_
     rw[ic j];refine ainv hJ' (Shift.trans (Shift.low 4 (e':=[(13,.int .i64 ((j+1:Nat):Int)),(12,.int .i64 x.paras.length),(11,.fz 2 (x.paras.map paA)),(3,.sl 1 0 (dn.length+1) (dn.length+1))]) (by simp) (by simp) ?_ ?_) (Shift.weakS ?_ ?_))
     .have:=AoQ x dn (moreB cur p)
      rw[fin]at this;exact this
     .simp only [go_sem]
     .simp only [go_sem]
     .rw [fin]; rfl
   | false =>
    have hst:bstep (dn,cur) p=(dn++[cur],newB p):=by simp[bstep,hj]
    rw[hst]at g4;have hnl:=A4Z p;have hJ':=hJ (j+1,dn++[cur],newB p,p.kind) ⟨by simp only; omega,g2,by
     simp only;intro h;rw[BdJ];have hk:=AuH hj;omega,g4,by simp; omega,by simp only; omega,by simp only; omega⟩ (by simp only; omega)
    have hlen1:(dn++[cur]).length+1=dn.length+1+1:=by simp
    simp only[hlen1]at hJ';have hk15:1<=p.kind/\p.kind<=5:=by
     have:=hok.1;simp only[paraOk,Bool.and_eq_true,decide_eq_true_eq]at this;exact⟨this.1,this.2.1⟩
    have hkj:=AuH hj;refine AWp.shift (ArV (e':=[(13,.int .i64 (j:Int)),(12,.int .i64 x.paras.length),(11,.fz 2 (x.paras.map paA)),(3,.sl 1 0 (dn.length+1) (dn.length+1))]) (by simp) (by simp only[go_sem])) ?_;have hlm:(List.map blA (dn++[cur])).length=dn.length+1:=by simp
    by_cases k1:p.kind=1
    .have q1:(p.kind==1)=true:=by simp[k1]
     have hna:=AuD hS p.text (by omega);have hnb:newB p=⟨1,AbH 60 p.text,[],[]⟩:=by simp[newB,k1]
     have fin:=AjJ (x:=x) (dn:=dn++[cur]) (b:=newB p) (by rw[hnb]; rfl);refine zgF ?_;simp only[go_sem,dj,hpA,q1,hlm,List.length_map]
     repeat refine aqa ?_
     refine zqF hg (hna) ?_;simp only[blA];simp only[go_sem,hlm,List.length_map]
     repeat refine aqa ?_
     rw[hnb]at fin;rw[hnb]at hJ';rw[ic j];refine ainv hJ' (Shift.trans (Shift.low 4 (e':=[(13,.int .i64 ((j+1:Nat):Int)),(12,.int .i64 x.paras.length),(11,.fz 2 (x.paras.map paA)),(3,.sl 1 0 (dn.length+1+1) (dn.length+1+1))]) (by simp) (by simp) ?_ ?_) (Shift.weakS ?_ ?_))
     .have:=AoQ x (dn++[cur]) ⟨1,AbH 60 p.text,[],[]⟩
      rw[fin]at this;exact this
     .simp only [go_sem]
     .simp only [go_sem]
     .rw [fin]; rfl
    .by_cases k5:p.kind=5
     .have q1:(p.kind==1)=false:=by simp[k5]
      have q5:(p.kind==5)=true:=by simp[k5]
      have hna:=A7X p.text (by omega);have hnb:newB p=⟨2,[turnLine p.text],[],[]⟩:=by simp[newB,k5]
      have fin:=AjJ (x:=x) (dn:=dn++[cur]) (b:=newB p) (by rw[hnb]; rfl);refine zgF ?_;simp only[go_sem,dj,hpA,q1,q5,hlm,List.length_map]
      repeat refine aqa ?_
      refine zpF (hna) ?_;simp only[blA];simp only[go_sem,hlm,List.length_map]
      repeat refine aqa ?_
      rw[hnb]at fin;rw[hnb]at hJ';rw[ic j];refine ainv hJ' (Shift.trans (Shift.low 4 (e':=[(13,.int .i64 ((j+1:Nat):Int)),(12,.int .i64 x.paras.length),(11,.fz 2 (x.paras.map paA)),(3,.sl 1 0 (dn.length+1+1) (dn.length+1+1))]) (by simp) (by simp) ?_ ?_) (Shift.weakS ?_ ?_))
      .have:=AoQ x (dn++[cur]) ⟨2,[turnLine p.text],[],[]⟩
       rw[fin]at this;exact this
      .simp only [go_sem]
      .simp only [go_sem]
      .rw [fin]; rfl
     .have k2:p.kind=2:=by omega
      have q1:(p.kind==1)=false:=by simp[k2]
      have q5:(p.kind==5)=false:=by simp[k2]
      have q2:(p.kind==2)=true:=by simp[k2]
      have hnb:newB p=⟨3,[indent 20 p.text],[0],p.text⟩:=by simp[newB,k2]
      have fin:=AjK (x:=x) (dn:=dn++[cur]) (b:=newB p) (by rw[hnb]; rfl);refine zgF ?_;simp only[go_sem,dj,hpA,q1,q5,q2,hlm,List.length_map]
      repeat refine aqa ?_
      refine za (A1S _ _ _ p.text (by omega)) ?_;rintro _ _ ⟨rfl,b5,b6,rfl⟩;simp only[grpA];refine zgN ?_;simp only[go_sem,hlm,List.length_map]
      repeat refine aqa ?_
      rw[hnb]at fin;rw[hnb]at hJ';simp only[List.map_cons,List.map_nil,List.length_cons,List.length_nil,Nat.zero_add,grpA]at fin;rw[ic j];refine ainv hJ' (Shift.trans (Shift.low 4 (e':=[(13,.int .i64 ((j+1:Nat):Int)),(12,.int .i64 x.paras.length),(11,.fz 2 (x.paras.map paA)),(3,.sl 1 0 (dn.length+1+1) (dn.length+1+1))]) (by simp) (by simp) ?_ ?_) (Shift.weakS ?_ ?_))
      .have:=AoQ x (dn++[cur]) ⟨3,[indent 20 p.text],[0],p.text⟩
       rw[fin]at this;exact this
      .simp only [go_sem]
      .simp only [go_sem]
      .rw [fin]; rfl
  .have dj:decide ((j:Int)<(x.paras.length:Int))=false:=by simp; omega
   have hj:j=x.paras.length:=by omega
   subst hj;rw[List.drop_length]at g4;simp only[List.foldl_nil]at g4;have hbl:blocksL x=dn++[cur]:=by simp[blocksL,<- g4]
   refine AWp.shift (ArV (e':=[(13,.int .i64 (x.paras.length:Int)),(12,.int .i64 x.paras.length),(11,.fz 2 (x.paras.map paA)),(3,.sl 1 0 (dn.length+1) (dn.length+1))]) (by simp) (by simp only[go_sem])) ?_;refine zgF ?_;simp only[go_sem,dj];refine ARet.shift (Shift.freeze 2 (id:=1) rfl rfl (by simp) (Nat.le_refl _) (AhJ _)) (aret [2] rfl ⟨?_,rfl⟩)
   simp[resV,Av.get,Av.put,List.take_of_length_le,hbl]
end Go.Proofs.YtlldmgboedknfaaGreatDoor
namespace Go.Proofs.YtlldmgboedknfaaGreatDoor
open Go Go.Av Go.RowKit
theorem AoR:∀ (ps:List Pa)(s:List Bl×Bl)(B:Nat),(∀ b∈s.1++[s.2],b.lines.length<=B+3000)->(∀ p∈ps,p.text.length<=2000) ->
  (∀ b∈(ps.foldl bstep s).1++[(ps.foldl bstep s).2],b.lines.length<=B+3000+2100*ps.length)/\((ps.foldl bstep s).1).length<=s.1.length+ps.length
 | [],s,B,h,_=>by simpa using h
 | p::r,s,B,h,hp=>by
  have hpl:=hp p (by simp);have hstep:(∀ b∈(bstep s p).1++[(bstep s p).2],b.lines.length<=(B+2100)+3000)/\(bstep s p).1.length<=s.1.length+1:=by
   unfold bstep
   split
   .refine ⟨fun b hb=>?_,by simp⟩
    rcases List.mem_append.1 hb with hb|hb
    .have:=h b (by simp at hb |-; exact .inl hb); omega
    .rw [List.mem_singleton.1 hb]
     have:=(AxU s.2 p).1;have:=h s.2 (by simp);simp only; omega
   .refine ⟨fun b hb=>?_,by simp⟩
    rcases List.mem_append.1 hb with hb|hb
    .have:=h b hb; omega
    .rw [List.mem_singleton.1 hb]
     have:=(A4Z p).1;simp only; omega
  obtain⟨h1,h2⟩:=AoR r (bstep s p) (B+2100) hstep.1 (fun q hq=>hp q (by simp[hq]));rw[List.foldl_cons];refine⟨fun b hb=>?_,?_⟩
  .have:=h1 b hb
   simp only[List.length_cons]; omega
  .have:=hstep.2
   simp only[List.length_cons]; omega
theorem AxV{x:Sc}(hp:∀ p∈x.paras,p.text.length<=2000)(hh:(headL x).length<2000000)(hl:x.paras.length<=4000):(∀ b∈blocksL x,b.lines.length<=11000000)/\(blocksL x).length<=4001:=by
 have:=AoR x.paras ([],⟨0,AbH 60 (headL x),[],[]⟩) 2000000 (by
  intro b hb
  simp at hb
  subst hb;have:=(AcC 60 (headL x)).1;simp only; omega) hp
 refine⟨fun b hb=>?_,?_⟩
 .have:=this.1 b hb; omega
 .have:=this.2
  simp only[blocksL,blocksS,List.length_append,List.length_cons,List.length_nil]at this |-;omega
def gapN(b:Bl):Nat:=if b.kind==0 then 2 else 1
def blockLines(b:Bl):List (List UInt8):=List.replicate (gapN b) []++b.lines
def linesL(x:Sc):List (List UInt8):=((blocksL x).map blockLines).flatten
def linesTo(bs:List Bl)(i:Nat):List (List UInt8):=((bs.take i).map blockLines).flatten
theorem AxW{bs:List Bl}{i:Nat}(h:i<bs.length):linesTo bs (i+1)=linesTo bs i++List.replicate (gapN bs[i]) []++bs[i].lines:=by
 simp only[linesTo,List.take_succ_eq_append_getElem h,List.map_append,List.flatten_append,List.map_cons,List.map_nil,List.flatten_cons,List.flatten_nil,List.append_nil,blockLines,List.append_assoc]
structure LineOk(x:Sc):Prop where
 sc:SceneOk x
 place:1<=x.place/\x.place<=3
 time:1<=x.time/\x.time<=5
 no:x.no.length<1000000
 few:x.paras.length<=4000
theorem BdK{x:Sc}(h:SceneOk x):x.set.length<10000:=by
 have:=h.set;simp only[isSetL,properL,Bool.and_eq_true,Bool.not_eq_true',decide_eq_false_iff_not]at this;have:=this.1.2.1;omega
theorem LineOk.head{x:Sc}(h:LineOk x):(headL x).length<2000000:=by
 have l1:=AkX x.place;have l2:=AoO x.time;have l3:=BdK h.sc;have l4:=h.no;unfold headL headLine
 split <;> simp <;> omega
theorem LineOk.bound{x:Sc}(h:LineOk x):(∀ b∈blocksL x,b.lines.length<=11000000)/\(blocksL x).length<=4001:=by
 obtain⟨e,hr,_,_⟩:=h.sc.run;exact AxV (fun p hp=>AuF (A1T _ _ _ hr p hp)) h.head h.few
theorem AoS{bs:List Bl}(h:∀ b∈bs,b.lines.length<=11000000):∀ i,i<=bs.length->(linesTo bs i).length<=11000002*i
 | 0,_=>by simp[linesTo]
 | i+1,hi=>by
  have hl:i<bs.length:=by omega
  have ih:=AoS h i (by omega);have hb:=h bs[i] (List.getElem_mem hl);have hg:gapN bs[i]<=2:=by unfold gapN; split <;> omega
  rw[AxW hl];simp only[List.length_append,List.length_replicate];omega
theorem BdL(x:Sc):linesL x=linesTo (blocksL x) (blocksL x).length:=by simp[linesL,linesTo]
theorem LineOk.lines{x:Sc}(h:LineOk x):(linesL x).length<=44100000000:=by
 rw[BdL];have:=AoS h.bound.1 _ (Nat.le_refl _);have:=h.bound.2;omega
def nx(n:Nat):Int:=((16*n+54) / 108:Nat)
abbrev Ln:=List UInt8
def AdP:Ln:=[32,32,32,32,32,32,32,32,32,32,32,32,32,32,32,32,32,32,32,32]
theorem blanks20_eq:Lib.repeatL [32] 20=AdP:=by decide +kernel
def AcD:Ln:=indent 20 [40,77,79,82,69,41]
def A1W:Ln:=[32,40,67,79,78,84,39,68,41]
def A8C:Ln:=[32,79,77,73,84,84,69,68]
def goesLn(b:Bl):Ln:=indent 20 b.name++A1W
def breaksL(b:Bl)(fr k:Nat):Bool :=
 if b.kind==1 then decide ((k:Int)-fr>=2)&&decide ((b.lines.length:Int)-k>=2)
 else if b.kind==3 then b.kinds.getD (k-1) 0==2&&(decide ((k:Int)-fr-(if fr=0 then 1 else 0)>=2)&&decide ((b.lines.length:Int)-k>=2))
 else false
def grp(b:Bl):Nat:=if b.kind==3 then 1 else 0
def AhW(b:Bl):Nat->Nat->Option Nat
 | 0,_=>none
 | n+1,k=>if breaksL b 0 k then some k else AhW b n (k+1)
def AhX(b:Bl):Nat :=
 if b.kind==1&&decide ((b.lines.length:Int)>3) then 2
 else if b.kind==3&&decide ((b.lines.length:Int)>4) then
  match AhW b (b.lines.length-1) 1 with
  | some k=>k+1
  | none=>b.lines.length
 else b.lines.length
def AgL(b:Bl)(fr:Nat):Nat->Option Nat
 | 0=>none
 | j+1=>if fr<j+1 then(if breaksL b fr (j+1) then some (j+1) else AgL b fr j) else none
def stopL(b:Bl)(fr room:Nat):Nat :=
 if b.lines.length-fr<=room then b.lines.length
 else match AgL b fr (min (fr+room-grp b) (b.lines.length-1))with
  | some j=>j
  | none=>max (min (fr+room-grp b) (b.lines.length-1)) (fr+1)
def AdQ(bs:List Bl)(i:Nat)(b:Bl):Nat :=
 AhX b+(if b.kind==0 then(match bs[i+1]? with
  | some d=>if d.kind==0 then 0 else 1+AhX d
  | none=>0) else 0)
structure LS where
 pages:List (List Ln)
 firsts:List Int
 starts:List Int
 page:List Ln
 first:Int
def flushS(s:LS):LS:=⟨s.pages++[s.page],s.firsts++[s.first],s.starts,[],-1⟩
def addS(s:LS)(l:List Ln):LS:={ s with page:=s.page++l }
def breakS(b:Bl)(s:LS):LS:=addS (flushS (addS s (if b.kind==3 then[AcD] else[]))) (if b.kind==3 then[goesLn b] else[])
def partL'(b:Bl)(fr tz:Nat):List Ln:=(b.lines.take tz).drop fr
def placeB(b:Bl):Nat->Nat->LS->LS
 | 0,_,s=>s
 | f+1,fr,s =>
  if stopL b fr (54-s.page.length)=b.lines.length then addS s (partL' b fr (stopL b fr (54-s.page.length)))
  else placeB b f (stopL b fr (54-s.page.length)) (breakS b (addS s (partL' b fr (stopL b fr (54-s.page.length)))))
def turnS(bs:List Bl)(i:Nat)(b:Bl)(s:LS):LS:=if s.page≠[]/\s.page.length+gapN b+AdQ bs i b>54 then flushS s else s
def firstS(i:Nat)(s:LS):LS:=if s.page=[] then{ s with first:=i } else s
def gapS(b:Bl)(s:LS):LS:={ s with page:=s.page++List.replicate (gapN b*min s.page.length 1) [],starts:=s.starts++[(s.pages.length:Int)] }
def openS(bs:List Bl)(i:Nat)(b:Bl)(s:LS):LS:=gapS b (firstS i (turnS bs i b s))
def layTo(bs:List Bl):Nat->LS
 | 0=>⟨[],[],[],[],-1⟩
 | i+1=>match bs[i]? with
  | some b=>placeB b (b.lines.length+1) 0 (openS bs i b (layTo bs i))
  | none=>layTo bs i
def layL(bs:List Bl):LS:=if(layTo bs bs.length).page≠[] then flushS (layTo bs bs.length) else layTo bs bs.length
def addedL(l:Ln)(i n:Nat):Bool:=(l==AcD&&i+1==n)||(i==0&&(Lib.hasSuffix l A1W&&Lib.hasPrefix l AdP))
def keepL(l:Ln):Bool:=l != []&&!Lib.hasSuffix l A8C
def saidGo(n:Nat):Nat->List Ln->List Ln
 | _,[]=>[]
 | i,l::r=>if l != []&&(!addedL l i n&&!Lib.hasSuffix l A8C) then l::saidGo n (i+1) r else saidGo n (i+1) r
def BjM(p:List Ln):List Ln:=saidGo p.length 0 p
structure OwnLn(l:Ln):Prop where
 more:l≠AcD
 cont:(Lib.hasSuffix l A1W&&Lib.hasPrefix l AdP)=false
theorem A5A(n:Nat)(post:List Ln):∀ (body:List Ln)(i:Nat),(∀ l∈body,OwnLn l)->saidGo n i (body++post)=body.filter keepL++saidGo n (i+body.length) post
 | [],i,_=>rfl
 | l::r,i,h=>by
  have hl:=h l (by simp);have h1:(l==AcD)=false:=by simpa using hl.more
  have ih:=A5A n post r (i+1) (fun x hx=>h x (by simp[hx]));have ha:addedL l i n=false:=by simp[addedL,h1,hl.cont]
  simp only[List.cons_append,saidGo,ha,ih,Bool.not_false,Bool.true_and,List.filter_cons,keepL,List.length_cons];rw[show i+(r.length+1)=i+1+r.length by omega]
  by_cases hk:(l != []&&!Lib.hasSuffix l A8C)=true
  .simp only [hk,if_true,List.cons_append]
  .simp only [hk,if_false]
   rfl
theorem BdM(i:Nat):saidGo (i+1) i [AcD]=[]:=by simp[saidGo,addedL]
theorem goes_suf(b:Bl):Lib.hasSuffix (goesLn b) A1W=true:=by
 simp[Lib.hasSuffix,goesLn,List.isSuffixOf_iff_suffix]
theorem BjN(b:Bl):Lib.hasPrefix (goesLn b) AdP=true:=by
 simp only[Lib.hasPrefix,goesLn,indent,blanks20_eq,List.isPrefixOf_iff_prefix,List.append_assoc];exact List.prefix_append _ _
theorem BdN(n:Nat)(b:Bl)(r:List Ln):saidGo n 0 (goesLn b::r)=saidGo n 1 r:=by
 simp[saidGo,addedL,goes_suf,BjN]
theorem BdO(pre body post:List Ln)(h1:pre=[]\/∃ b,pre=[goesLn b])(h2:∀ l∈body,OwnLn l)(h3:post=[]\/post=[AcD]):BjM (pre++body++post)=body.filter keepL:=by
 unfold BjM;have key:∀ i,i+body.length+post.length=(pre++body++post).length->saidGo (pre++body++post).length i (body++post)=body.filter keepL:=fun i hi=>by
  rw[A5A _ _ _ _ h2]
  rcases h3 with rfl|rfl
  .simp [saidGo]
  .rw [<- hi]
   show _++saidGo (i+body.length+1) (i+body.length) [AcD]=_
   rw[BdM]; simp
 rcases h1 with rfl|⟨b,rfl⟩
 .exact key 0 (by simp)
 .rw [List.append_assoc]
  show saidGo _ 0 (goesLn b::(body++post))=_
  rw[BdN];have:=key 1 (by simp; omega)
  simpa only [List.append_assoc,List.cons_append,List.nil_append]using this
theorem AxX(b:Bl):∀ (n k j:Nat),AhW b n k=some j->k<=j
 | 0,_,_,h=>by cases h
 | n+1,k,j,h=>by
  simp only[AhW]at h
  split at h
  .simp at h; omega
  .have:=AxX b n (k+1) j h; omega
theorem A5B(b:Bl)(fr:Nat):∀ (n j:Nat),AgL b fr n=some j->fr<j/\j<=n
 | 0,_,h=>by cases h
 | n+1,j,h=>by
  simp only[AgL]at h
  split at h
  .split at h
   .simp at h; omega
   .have:=A5B b fr n j h; omega
  .cases h
def AhY(b:Bl)(fr room:Nat):Prop:=b.lines.length-fr<=room\/1+grp b<=room
theorem A8D{b:Bl}{room:Nat}(h:AhX b<=room):AhY b 0 room:=by
 unfold AhX at h;unfold AhY grp
 split at h
 .rename_i hk
  simp only[Bool.and_eq_true,beq_iff_eq]at hk
  simp[hk.1]; omega
 .split at h
  .split at h
   .rename_i k hk
    have:=AxX b _ _ _ hk
    split <;> omega
   .omega
  .omega
theorem AoT{b:Bl}{fr room:Nat}(h:AhY b fr room)(hf:fr<=b.lines.length) :
  (stopL b fr room=b.lines.length/\b.lines.length-fr<=room)\/(fr<stopL b fr room/\stopL b fr room<b.lines.length/\stopL b fr room+grp b<=fr+room):=by
 unfold stopL
 by_cases hr:b.lines.length-fr<=room
 .rw [if_pos hr]; exact .inl ⟨rfl,hr⟩
 .rw [if_neg hr]
  right
  have h2:1+grp b<=room:=h.resolve_left hr
  split
  .rename_i j hj
   have:=A5B b fr _ _ hj;omega
  .omega
structure PInv(s:LS)(w:List Ln):Prop where
 pages:∀ p∈s.pages,1<=p.length/\p.length<=54
 len:s.page.length<=54
 ex:∃ pre body,s.page=pre++body/\(pre=[]\/∃ b,pre=[goesLn b])/\(∀ l∈body,OwnLn l)/\s.pages.flatMap BjM++body.filter keepL=w.filter keepL
theorem AgM{s:LS}{w post:List Ln}(h:PInv s w)(hp:post=[]\/post=[AcD])(h0:1<=(s.page++post).length)(h1:(s.page++post).length<=54):PInv (flushS (addS s post)) w:=by
 obtain⟨pre,body,e1,e2,e3,e4⟩:=h.ex;refine⟨fun p hq=>?_,by simp[flushS],[],[],rfl,.inl rfl,by simp,?_⟩
 .simp only [flushS,addS,List.mem_append,List.mem_singleton]at hq
  rcases hq with hq|rfl
  .exact h.pages p hq
  .exact ⟨h0,h1⟩
 .simp only [flushS,addS,List.flatMap_append,List.flatMap_cons,List.flatMap_nil,List.append_nil,List.filter_nil]
  rw[e1,BdO pre body post e2 e3 hp,e4]
theorem AuJ{s:LS}{w l:List Ln}(h:PInv s w)(ho:∀ x∈l,OwnLn x)(hl:(s.page++l).length<=54):PInv (addS s l) (w++l):=by
 obtain⟨pre,body,e1,e2,e3,e4⟩:=h.ex;refine⟨h.pages,hl,pre,body++l,by simp[addS,e1],e2,fun x hx=>?_,?_⟩
 .rcases List.mem_append.1 hx with hx|hx
  .exact e3 x hx
  .exact ho x hx
 .simp only [addS,List.filter_append,<- e4,List.append_assoc]
theorem BjO{s:LS}{w:List Ln}(h:PInv s w)(h0:s.page=[])(b:Bl):PInv (addS s [goesLn b]) w:=by
 obtain⟨pre,body,e1,e2,e3,e4⟩:=h.ex;rw[h0]at e1;have hb:pre=[]/\body=[]:=by simpa using e1.symm
 refine⟨h.pages,by simp[addS,h0],[goesLn b],[],by simp[addS,h0],.inr ⟨b,rfl⟩,by simp,?_⟩;rw[<- e4,hb.2]; rfl
theorem AhK(b:Bl){fr tz:Nat}(h:tz<=b.lines.length):(partL' b fr tz).length=tz-fr:=by
 simp[partL',Nat.min_eq_left h]
theorem ArW(b:Bl)(s:LS):(breakS b s).page=if b.kind==3 then[goesLn b] else[]:=by
 simp[breakS,addS,flushS]
theorem AxY{b:Bl}{s:LS}{w:List Ln}(h:PInv s w)(h0:1<=s.page.length)(h1:s.page.length+grp b<=54):PInv (breakS b s) w:=by
 unfold breakS grp at *
 by_cases hk:(b.kind==3)=true
 .simp only [hk,if_true]at h1 |-
  exact BjO (AgM h (.inr rfl) (by simp) (by simpa using h1)) rfl b
 .have hk:(b.kind==3)=false:=by simpa using hk
  simp only[hk,if_false,Bool.false_eq_true,Nat.add_zero]at h1 |-;have h2:=AgM h (post:=[]) (.inl rfl) (by simpa using h0) (by simpa using h1);have:∀ s:LS,addS s []=s:=fun s=>by simp[addS]
  rw[this]at h2 |-
  rwa [this]
theorem AxZ{b:Bl}(ho:∀ x∈b.lines,OwnLn x):∀ (f fr:Nat)(s:LS)(w:List Ln),PInv s w->b.lines.length-fr<f->fr<=b.lines.length->AhY b fr (54-s.page.length)->PInv (placeB b f fr s) (w++b.lines.drop fr)
 | 0,fr,s,w,_,h,_,_=>by omega
 | f+1,fr,s,w,h,hf,hfr,hr=>by
  have hl:=h.len;have ho':∀ tz,∀ x∈partL' b fr tz,OwnLn x:=fun tz x hx=>ho x (List.mem_of_mem_take (List.mem_of_mem_drop hx))
  unfold placeB
  rcases AoT hr hfr with⟨h1,h2⟩|⟨h1,h2,h3⟩
  .rw [if_pos h1,h1]
   have hpl:=AhK b (fr:=fr) (Nat.le_refl b.lines.length);have:partL' b fr b.lines.length=b.lines.drop fr:=by simp[partL']
   have k:=AuJ h (ho' b.lines.length) (by rw[List.length_append,hpl]; omega)
   rwa [this]at k |-
  .rw [if_neg (by omega)]
   generalize hto:stopL b fr (54-s.page.length)=tz at h1 h2 h3 |-;have hpl:=AhK b (fr:=fr) (Nat.le_of_lt h2);have k1:=AuJ h (ho' tz) (by rw[List.length_append,hpl]; unfold grp at h3; split at h3 <;> omega);have k2:=AxY (b:=b) k1 (by simp only[addS,List.length_append,hpl]; omega) (by simp only[addS,List.length_append,hpl]; omega);have k3:=AxZ ho f tz _ _ k2 (by omega) (by omega) (by
    right
    rw[ArW];unfold grp
    split <;> simp)
   have:w++partL' b fr tz++b.lines.drop tz=w++b.lines.drop fr:=by
    rw[List.append_assoc]
    congr 1
    have e:b.lines.drop fr=((b.lines.take tz)++b.lines.drop tz).drop fr:=by rw[List.take_append_drop]
    rw[e,List.drop_append,partL'];have:fr-(List.take tz b.lines).length=0:=by simp; omega
    rw[this]; rfl
   rwa [this]at k3
theorem BpU:OwnLn []:=⟨by decide,by decide⟩
theorem AuK{bs:List Bl}{i:Nat}{b:Bl}{s:LS}{w:List Ln}(h:PInv s w):∃ g:List Ln,(∀ x∈g,x=[])/\PInv (openS bs i b s) (w++g)/\AhY b 0 (54-(openS bs i b s).page.length):=by
 have hh:AhX b<=AdQ bs i b:=by unfold AdQ; omega
 unfold openS;generalize hs1:turnS bs i b s=s1;have h1:PInv s1 w/\(s1.page=[]\/s1.page.length+gapN b+AdQ bs i b<=54):=by
  subst hs1;unfold turnS;have hn:∀ s:LS,addS s []=s:=fun s=>by simp[addS]
  split
  .rename_i hc
   have:1<=s.page.length:=by
    cases hq:s.page with
    | nil=>exact(hc.1 hq).elim
    | cons a r=>simp
   have k:=AgM h (post:=[]) (.inl rfl) (by simpa using this) (by simpa using h.len);rw[hn]at k;exact⟨k,.inl rfl⟩
  .rename_i hc
   refine⟨h,?_⟩
   by_cases h0:s.page=[]
   .exact .inl h0
   .right
    have:¬ s.page.length+gapN b+AdQ bs i b>54:=fun e=>hc ⟨h0,e⟩
    omega
 obtain⟨h1,h2⟩:=h1;generalize hs2:firstS i s1=s2;have hp:s2.page=s1.page/\s2.pages=s1.pages:=by subst hs2; unfold firstS; split <;> exact⟨rfl,rfl⟩
 have k2:PInv s2 w:=⟨by rw[hp.2]; exact h1.pages,by rw[hp.1]; exact h1.len,by rw[hp.1,hp.2]; exact h1.ex⟩;refine⟨List.replicate (gapN b*min s2.page.length 1) [],fun x hx=>List.eq_of_mem_replicate hx,?_,?_⟩
 .have hlen:(s2.page++List.replicate (gapN b*min s2.page.length 1) ([]:Ln)).length<=54:=by
   rw[List.length_append,List.length_replicate]
   rcases h2 with h2|h2
   .rw [hp.1,h2]; simp
   .rw [hp.1]
    have:gapN b*min s1.page.length 1<=gapN b:=by
     have:min s1.page.length 1<=1:=Nat.min_le_right _ _
     calc gapN b*min s1.page.length 1<=gapN b*1:=Nat.mul_le_mul_left _ this
      _=gapN b:=Nat.mul_one _
    omega
  have k3:=AuJ k2 (l:=List.replicate (gapN b*min s2.page.length 1) []) (fun x hx=>by rw[List.eq_of_mem_replicate hx]; exact BpU) hlen;exact⟨k3.pages,k3.len,k3.ex⟩
 .simp only [gapS,List.length_append,List.length_replicate]
  rcases h2 with h2|h2
  .right
   rw[hp.1,h2];unfold grp
   split <;> simp
  .by_cases h0:s1.page=[]
   .right
    rw[hp.1,h0];unfold grp
    split <;> simp
   .have:min s2.page.length 1=1:=by
     have:1<=s1.page.length:=by
      cases hq:s1.page with
      | nil=>exact(h0 hq).elim
      | cons a r=>simp
     rw[hp.1]; omega
    rw[this,hp.1,Nat.mul_one];exact A8D (by omega)
def bodyTo(bs:List Bl)(i:Nat):List Ln:=(bs.take i).flatMap fun b=>b.lines
theorem AuL{bs:List Bl}(ho:∀ b∈bs,∀ x∈b.lines,OwnLn x):∀ i,i<=bs.length->∃ w,PInv (layTo bs i) w/\w.filter keepL=(bodyTo bs i).filter keepL
 | 0,_=>⟨[],⟨by simp[layTo],by simp[layTo],[],[],rfl,.inl rfl,by simp,rfl⟩,rfl⟩
 | i+1,h=>by
  obtain⟨w,h1,h2⟩:=AuL ho i (by omega);have hi:i<bs.length:=by omega
  simp only[layTo,List.getElem?_eq_getElem hi];obtain⟨g,g1,g2,g3⟩:=AuK (bs:=bs) (i:=i) (b:=bs[i]) h1;have k:=AxZ (ho _ (List.getElem_mem hi)) (bs[i].lines.length+1) 0 _ _ g2 (by omega) (by omega) g3;refine⟨_,k,?_⟩;have hg:g.filter keepL=[]:=by
   rw[List.filter_eq_nil_iff];intro x hx;rw[g1 x hx]; decide
  simp only[List.filter_append,hg,List.append_nil,List.drop_zero,h2,bodyTo,List.take_succ_eq_append_getElem hi,List.flatMap_append,List.flatMap_cons,List.flatMap_nil]
theorem BdP{bs:List Bl}(ho:∀ b∈bs,∀ x∈b.lines,OwnLn x) :
  (∀ p∈(layL bs).pages,1<=p.length/\p.length<=54)/\(layL bs).pages.flatMap BjM=(bs.flatMap fun b=>b.lines).filter keepL:=by
 obtain⟨w,h1,h2⟩:=AuL ho bs.length (Nat.le_refl _);have hb:bodyTo bs bs.length=bs.flatMap fun b=>b.lines:=by simp[bodyTo]
 rw[hb]at h2;unfold layL
 by_cases h0:(layTo bs bs.length).page≠[]
 .rw [if_pos h0]
  have hn:∀ s:LS,addS s []=s:=fun s=>by simp[addS]
  have:1<=(layTo bs bs.length).page.length:=by
   cases hq:(layTo bs bs.length).page with
   | nil=>exact(h0 hq).elim
   | cons a r=>simp
  have k:=AgM h1 (post:=[]) (.inl rfl) (by simpa using this) (by simpa using h1.len);rw[hn]at k;obtain⟨pre,body,e1,e2,e3,e4⟩:=k.ex;have hbo:pre=[]/\body=[]:=by simpa[flushS]using e1.symm
  rw[hbo.2]at e4;exact⟨k.pages,by rw[<- h2,<- e4]; simp⟩
 .rw [if_neg h0]
  have h0':(layTo bs bs.length).page=[]:=by simpa using h0
  obtain⟨pre,body,e1,e2,e3,e4⟩:=h1.ex;rw[h0']at e1;have hbo:pre=[]/\body=[]:=by simpa using e1.symm
  rw[hbo.2]at e4;exact⟨h1.pages,by rw[<- h2,<- e4]; simp⟩
