/- The blocks of a scene, as the reference tells them: walked. -/
import Derived.Test.YtccfklnmolggiaaGreatDoorZ33
set_option maxRecDepth 100000
set_option maxHeartbeats 8000000
set_option linter.all false
namespace Go.Proofs.YtccfklnmolggiaaGreatDoor
open Av RowKit Proofs.Tryz
def grpR(il ik a b:Nat):AV:=.agg [.int .i64 2,.sl il 0 a a,.sl ik 0 b b]
def XR(b:Bl):AV:=if b.kind==3 then grpR 2 3 b.La.length b.kinds.length else rbA b
def LR(b:Bl):LY:=if b.kind==3 then b.La.map .str else[]
def KR(b:Bl):LY:=if b.kind==3 then(b.kinds.map (·==2)).map .bool else[]
def boR(x:Sc)(dn:List Bl)(cur:Bl):LB:=[.arr 5 [scA x],.arr 3 (dn.map rbA++[XR cur]),.arr 1 (LR cur),.arr 1 (KR cur)]
theorem AfL(l:List Bool):(flat (l.map AV.bool)).all Av.frozen=true:=by
 induction l<;>grind[flat,cellsOf,Av.frozen]
theorem AiT(l:List Bl):(flat (l.map rbA)).all Av.frozen=true:=by
 induction l<;>grind[flat,cellsOf,rbA,Av.frozen]
theorem A8O(id e:Nat)(l:LY)(bs:List Bl):(bs.map rbA).map (frzC id e l)=bs.map rbA:=by
 rw[List.map_map];exact lcc fun _ _=>rfl
theorem low_rbs(n:Nat)(l:List Bl):lowB n (.arr 3 (l.map rbA))=true:=AaD (AiT l)
theorem AhQ{x:Sc}{dn:List Bl}{b:Bl}(h:(b.kind==3)=false):boR x dn b=[.arr 5 [scA x],.arr 3 (dn.map rbA++[rbA b]),.arr 1 [],.arr 1 []]:=by
 grind[boR,XR,LR,KR]
theorem AhR{x:Sc}{dn:List Bl}{b:Bl}(h:(b.kind==3)=true):boR x dn b=[.arr 5 [scA x],.arr 3 (dn.map rbA++[grpR 2 3 b.La.length b.kinds.length]),.arr 1 (b.La.map .str),.arr 1 ((b.kinds.map (·==2)).map .bool)]:=by
 grind[boR,XR,LR,KR]
theorem AxD(x:Sc)(dn:List Bl)(b:Bl):(boR x dn b).all (lowB 4)=true:=by
 have h1:=AgB 4 b.La;have h2:lowB 4 (.arr 1 ((b.kinds.map (·==2)).map .bool))=true:=AaD (AfL _);have h3:=AaD (n:=4) (AiT dn)
 cases h:b.kind==3 with
 | false =>
  rw[AhQ h];have:=low_rbs 4 (dn++[b]);rw[lap]at this;have e:[rbA b]=List.map rbA [b]:=rfl;simp only[laz,List.all_nil,low_sc,lbw,lbn];rw[e,this]; rfl
 | true =>
  rw[AhR h];simp only[laz,List.all_nil,low_sc,h1,h2,lbw,lbn];simp only[lowB,flat_append,List.all_append,h3,flat,grpR,cellsOf,lbg,laz,List.all_nil,lowC,Av.frozen,decide_true,lbo,lbn,Nat.reduceLT]
section
variable {c:Cx}{e e':Env}
theorem AmK{x:Sc}{dn:List Bl}{cur:Bl}(hc:c.sto.length<=2)(hw:wkl 2 e e'):Shift c e (boR x dn cur) e' [.arr 5 [scA x],.arr 3 ((dn++[cur]).map rbA),.arr 1 [],.arr 1 []]:=by
 have fin:∀ {e0:Env} {s2:LB},wkl 2 e0 e'->Shift c e0 ([.arr 5 [scA x],.arr 3 ((dn++[cur]).map rbA)]++s2) e' [.arr 5 [scA x],.arr 3 ((dn++[cur]).map rbA),.arr 1 [],.arr 1 []]:=by
  intro e0 s2 hw0;refine Shift.trans (Shift.low 2 hc (by simp) ?_ hw0) (Shift.trans (Lr 1) (Lr 1))<;>grind[low_rbs,low_sc]
 unfold boR XR LR KR
 cases hk:cur.kind==3 with
 | false =>
  simp_all
 | true =>
  simp only[if_true];refine Shift.trans (Shift.frz 2 rfl (AbN _)) ?_;simp only[List.set_cons_succ,lbs,lah,laq,frzB,frz_scB,lap,A8O];simp only[grpR,frzC,frz,frz1,lah,laq,Nat.reduceBEq,lbi,lav,lba,Bool.false_and,lbn,laa,lau,decide_true,lab,List.drop_zero,lbo];have h3:(List.map (frzC 2 1 (cur.La.map .str)) ((cur.kinds.map (·==2)).map .bool))=(cur.kinds.map (·==2)).map .bool:=by
   rw[List.map_map];exact lcc fun _ _=>rfl
  have ht:List.take cur.La.length (List.map AV.str cur.La)=List.map AV.str cur.La:=lag (by simp);rw[h3,ht];refine Shift.trans (Shift.frz 3 rfl (AfL _)) ?_;simp only[List.set_cons_succ,lbs,lah,laq,frzB,frz_scB,lap,A8O];simp only[grpR,frzC,frz,frz1,lah,laq,Nat.reduceBEq,lbi,lav,lba,Bool.false_and,lbn,laa,lau,decide_true,lab,List.drop_zero,lbo];have ht2:List.take cur.kinds.length (List.map AV.bool (cur.kinds.map (·==2)))=List.map AV.bool (cur.kinds.map (·==2)):=lag (by simp);rw[ht2];have:dn.map rbA++[.agg [.int .i64 2,.fz 1 (cur.La.map .str),.fz 1 ((cur.kinds.map (·==2)).map .bool)]]=(dn++[cur]).map rbA:=by simp_all[rbA,spB,kR]
  rw[this,show List.map rbA dn++[rbA cur]=(dn++[cur]).map rbA by simp];exact fin (AgS (by omega) (AgS (by omega) hw))
end
theorem AxE{n:Nat}{a b:LY}(h:toC n a b):∀ l:LY,toC n (l++a) (l++b)
 | []=>h
 | _::r=>⟨.refl,AxE h r⟩
theorem AoH{c:Cx}{e:Env}{s:LB}(k:Int)(ds:List Bl)(ls:List LU)(h1:s.getD 1 .dead=.arr 3 (ds.map rbA++[.agg [.int .i64 k,.fz 1 (ls.map .str),.raw (.slice none 0 0)]]))(h2:s.getD 2 .dead=.arr 1 []) :
  Shift c e s e (s.set 1 (.arr 3 (ds.map rbA++[.agg [.int .i64 k,.fz 1 (ls.map .str),.fz 1 []]]))):=by
 refine Shift.cellsAt 1 2 _ h1 h2 (by simp) (fun x hx=>?_) ?_
 .rcases List.mem_append.1 hx with hx|hx
  .obtain ⟨b,_,rfl⟩:=List.mem_map.1 hx
   rfl
  .rw [List.mem_singleton.1 hx]; rfl
 .rw [flat_append,flat_append]
  exact AxE (show toC 2 [.int .i64 k,.fz 1 (ls.map .str),.raw (.slice none 0 0)] [.int .i64 k,.fz 1 (ls.map .str),.fz 1 []] from⟨.refl,.refl,.fz,trivial⟩) _
theorem BdI:(TurnL.all fun t=>decide (t.length<=50))=true:=by decide +kernel
theorem AqT{t:LU}(h:∀ c∈t,AbJ c=true):spOk t/\AeX t:=by
 have key:∀ c:UInt8,(!AbJ c||(Lib.isSp c==(c==32)&&decide (c.toNat<128)))=true:=fun c=>BkC (p:=fun c=>!AbJ c||(Lib.isSp c==(c==32)&&decide (c.toNat<128))) (by decide +kernel) c
 refine⟨fun c hc=>?_,fun c hc=>?_⟩<;>grind
theorem AxF{St:Std}(hS:LibR St)(x:Sc)(hd:SceneD x):PcH prog St 70 [scA x] (· = .fz 3 ((blocksL x).map rbA)):=by
 have hx:=hd.line;have hp:=hx.place;have ht:=hx.time;have hps:x.Lc.length<=60:=hd.len;have hset:=AwM hx.sc;have hno:=hx.no;have hh:=AuH x hp ht (by omega) hset;have hhp:=AqT (AoE hd);have hhl:(headL x).length<100000:=by
  have l1:=AeJ x.place;have l2:=AfH x.time;have:=AfK hd.no;unfold headL headLine
  split <;> simp <;> omega
 have hw0:=AhP hS (headL x) 60 (by omega) (by omega) hhl hhp.1 hhp.2;obtain⟨e,hr,he2,he3⟩:=hd.run;have hall:=hd.all;simp only[scA]at hh |-;refine zqIN func70 rfl fun h ρ w hg=>?_
 simp only[go_sem];refine zpN (hh) ?_;simp only[go_sem];refine zqN hg (hw0) ?_;simp only[go_sem,laa];refine AWp.shift (Shift.trans (Shift.cells 1 1 [.agg [.int .i64 0,.fz 1 ((wrapL 60 (headL x)).map .str),.fz 1 []]] rfl rfl (by simp[cellsOf]) ⟨.refl,.refl,.fz,trivial⟩) (Lr 1)) ?_;refine AaI (ι:=Nat×List Bl×Bl×Int) (fun y=>x.Lc.length-y.1)
  (fun y=>[(16,.int .i64 y.1),(15,.int .i64 x.Lc.length),(14,.fz 2 (x.Lc.map paA)),(3,.sl 1 0 (y.2.1.length+1) (y.2.1.length+1))])
  (fun y=>boR x y.2.1 y.2.2.1) (fun y=>y.1<=x.Lc.length/\runL y.2.2.2 (x.Lc.drop y.1)=some e/\((y.2.2.2=2\/y.2.2.2=3\/y.2.2.2=4)->y.2.2.1.kind=3)/\(x.Lc.drop y.1).foldl bstep (y.2.1,y.2.2.1)=AeU x /\
   y.2.1.length<=y.1/\y.2.2.1.La.length<=3000000+2100*y.1/\y.2.2.1.kinds.length<=3000000+2100*y.1) (0,[],⟨0,wrapL 60 (headL x),[],[]⟩,0) ⟨by simp,hr,by simp,rfl,by simp,?_,by simp⟩ ?_ ?_
 .have:=(wrapL_le 60 (headL x)).1
  simp only; omega
 .refine Lp ?_ ?_
  .simp only [go_sem]
  .rw [AhQ (by rfl)]; rfl
 .rintro ⟨j,dn,cur,l⟩ ⟨g1,g2,g3,g4,g5,g6,g7⟩ J hJ
  simp only at g1 g2 g3 g4 g5 g6 g7 hJ |-
  by_cases gj:j<x.Lc.length
  .have dj:decide ((j:Int)<(x.Lc.length:Int))=true:=by simp; omega
   have hpA:List.getD (List.map paA x.Lc) j .any=.agg [.int .i64 x.Lc[j].kind,.str x.Lc[j].text]:=by simp[List.getD,gj,paA]
   have hdp:=hall x.Lc[j] (lai gj);rw[lbc gj]at g2 g4;simp only[runL]at g2;rw[List.foldl_cons]at g4
   split at g2
   rotate_left
   .cases g2
   rename_i hok;simp only[lac]at hok;generalize x.Lc[j]=p at *;have hpl:=AgC hok.1;have hpp:=AgF hdp;have hsp:=AqT hpp;have htn:(((dn.length+1:Nat):Int)-1).toNat=dn.length:=by omega
   have hsa:spOk (asideT p.text)/\AeX (asideT p.text):=AqT fun c hc=>by
    simp only[asideT,List.mem_cons,List.mem_append,List.mem_nil_iff,or_false]at hc
    rcases hc with rfl|hc|rfl
    .rfl
    .exact hpp c hc
    .rfl
   have hal:(asideT p.text).length=p.text.length+2:=by simp[asideT]
   have hwa:=AhP hS (asideT p.text) 30 (by omega) (by omega) (by omega) hsa.1 hsa.2;have hw35:=AhP hS p.text 35 (by omega) (by omega) (by omega) hsp.1 hsp.2;have hw60:=AhP hS p.text 60 (by omega) (by omega) (by omega) hsp.1 hsp.2;have lea:=wrapL_le 30 (asideT p.text);have le35:=wrapL_le 35 p.text;have hia:=AiS 15 (by omega) (wrapL 30 (asideT p.text)) (by omega) (fun l h=>by have:=lea.2 l h; omega);have hi35:=AiS 10 (by omega) (wrapL 35 p.text) (by omega) (fun l h=>by have:=le35.2 l h; omega)
   cases hj:joins p with
   | true =>
    have hst:bstep (dn,cur) p=(dn,moreB cur p):=by simp[bstep,hj]
    rw[hst]at g4;have hml:=moreB_len cur p;have hmk:=AiL cur p;have hk3:(cur.kind==3)=true:=by
     have hf:=hok.2;simp only[joins,lbj,lbx]at hj;simp only[followsL]at hf;have:cur.kind=3:=by
      rcases hj with h|h <;> simp[h]at hf <;> exact g3 (by omega)
     simpa using this
    have fin:boR x dn (moreB cur p)=[.arr 5 [scA x],.arr 3 (dn.map rbA++[grpR 2 3 (moreB cur p).La.length (moreB cur p).kinds.length]),.arr 1 ((moreB cur p).La.map .str),.arr 1 (((moreB cur p).kinds.map (·==2)).map .bool)]:=AhR (by rw[hmk]; exact hk3);have hJ':=hJ (j+1,dn,moreB cur p,p.kind) ⟨by simp only; omega,g2,by simp only; intro _; rw[hmk]; simpa using hk3,g4,by simp only; omega,by simp only; omega,by simp only; omega⟩ (by simp only; omega);simp only at hJ';rw[AhR hk3];have q1:(p.kind==1)=false:=by
     simp only[joins,lbj,lbx]at hj
     rcases hj with h|h <;> rw[h] <;> rfl
    have q5:(p.kind==5)=false:=by
     simp only[joins,lbj,lbx]at hj
     rcases hj with h|h <;> rw[h] <;> rfl
    have q2:(p.kind==2)=false:=by
     simp only[joins,lbj,lbx]at hj
     rcases hj with h|h <;> rw[h] <;> rfl
    have hadd:∃ ls:List LU,ls.length<=3000/\(moreB cur p).La=cur.La++ls/\(moreB cur p).kinds.map (·==2)=cur.kinds.map (·==2)++List.replicate ls.length (p.kind==4)/\(((p.kind==4)=true/\ls=(wrapL 35 p.text).map (indent 10))\/((p.kind==4)=false/\ls=(wrapL 30 (asideT p.text)).map (indent 15))):=by
     by_cases k4:p.kind=4
     .refine ⟨(wrapL 35 p.text).map (indent 10),by simp; omega,?_,?_,.inl ⟨by simp[k4],rfl⟩⟩
      .simp [moreB,addB,k4]
      .simp [moreB,addB,k4]
     .have k3:p.kind=3:=by
       simp only[joins,lbj,lbx]at hj;omega
      refine⟨(wrapL 30 (asideT p.text)).map (indent 15),by simp; omega,?_,?_,.inr ⟨by simp[k3],rfl⟩⟩
      .simp [moreB,addB,k3]
      .simp [moreB,addB,k3]
    obtain⟨ls,hls,hl1,hl2,hl3⟩:=hadd;have hkl:(moreB cur p).kinds.length=cur.kinds.length+ls.length:=by
     have:=congrArg List.length hl2
     simpa using this
    rw[hl1,hl2,hkl,lak]at fin;apply zgF;simp only[go_sem,dj,hpA,q1,q5,q2,htn,laa]
    repeat refine aqb ?_
    refine zqF hg (hwa) ?_;simp only[go_sem,laa];refine AcH (hia) rfl rfl rfl (goF rfl 13 ?_);simp only[go_sem];have hG:∀ g,List.getD (dn.map rbA++[g]) dn.length .any=g:=fun g=>by simp[List.getD]
    have hSt:∀ g g',List.set (dn.map rbA++[g]) dn.length g'=dn.map rbA++[g']:=fun g g'=>by simp
    have hGl:∀ g,(dn.map rbA++[g]).length=dn.length+1:=fun g=>by simp
    refine acut (ι:=Unit) (fun _=>[(7,.fz 1 (ls.map .str)),(6,.ptr 1 (dn.length+1) dn.length 0),(5,.ptr 4 1 0 0),(16,.int .i64 (j:Int)),(15,.int .i64 x.Lc.length),(14,.fz 2 (x.Lc.map paA)),(3,.sl 1 0 (dn.length+1) (dn.length+1))])
     (fun _=>[.arr 5 [scA x],.arr 3 (dn.map rbA++[grpR 2 3 cur.La.length cur.kinds.length]),.arr 1 (cur.La.map .str),.arr 1 ((cur.kinds.map (·==2)).map .bool),.arr 2 [.agg [.int .i64 p.kind,.str p.text]]]) (fun _=>True) ?_ ?_
    .intro Jc hJc
     have fc:=hJc () trivial
     rcases hl3 with⟨k4,rfl⟩|⟨k4,rfl⟩
     .apply zgF
      simp only[go_sem,k4];refine zqF hg (hw35) ?_;simp only[go_sem,laa];refine zpF (hi35) ?_;simp only[go_sem];refine ainv fc (Lp ?_ rfl);simp only[go_sem]
     .apply zgF
      simp only[go_sem,k4];refine ainv fc (Lp ?_ rfl);simp only[go_sem]
    .rintro ⟨⟩ _
     simp only[grpR];apply zgF;simp only[go_sem,hG,hSt,hGl,laa]
     repeat refine aqb ?_
     refine AaI (ι:=Nat) (fun i=>ls.length-i)
      (fun i=>[(51,.int .i64 i),(50,.int .i64 ls.length),(6,.ptr 1 (dn.length+1) dn.length 0),(5,.ptr 4 1 0 0),(16,.int .i64 (j:Int)),(15,.int .i64 x.Lc.length),(14,.fz 2 (x.Lc.map paA)),(3,.sl 1 0 (dn.length+1) (dn.length+1))])
      (fun i=>[.arr 5 [scA x],.arr 3 (dn.map rbA++[grpR 2 3 (cur.La.length+ls.length) (cur.kinds.length+i)]),.arr 1 ((cur.La++ls).map .str),.arr 1 ((cur.kinds.map (·==2)++List.replicate i (p.kind==4)).map .bool),.arr 2 [.agg [.int .i64 p.kind,.str p.text]]])
      (fun i=>i<=ls.length) 0 (by omega) ?_ ?_
     .refine Lp ?_ (by simp[grpR])
      simp only[go_sem]
     .intro i gi J2 hJ2
      have hkll:((cur.kinds.map (·==2)++List.replicate i (p.kind==4)).map AV.bool).length=cur.kinds.length+i:=by simp
      by_cases hi:i<ls.length
      .have di:decide ((i:Int)<(ls.length:Int))=true:=by simp; omega
       have hfin2:=hJ2 (i+1) (by omega) (by omega);simp only[grpR]at hfin2 |-;apply zgF;simp only[go_sem,di];refine zr [] AaJ ?_;simp only[go_sem,hG,hSt,hGl,hkll,laa]
       repeat refine aqb ?_
       apply zgF;simp only[go_sem]
       repeat refine aqb ?_
       rw[ic i];refine ainv hfin2 (Lp ?_ ?_)
       .simp only [go_sem]
       .simp [List.replicate_succ',Nat.add_assoc]
      .have di:decide ((i:Int)<(ls.length:Int))=false:=by simp; omega
       have hi2:i=ls.length:=by omega
       subst hi2;apply zgF;simp only[go_sem,di]
       repeat refine aqb ?_
       rw[ic j];refine ainv hJ' (Shift.trans (Shift.low 4 (e':=[(16,.int .i64 ((j+1:Nat):Int)),(15,.int .i64 x.Lc.length),(14,.fz 2 (x.Lc.map paA)),(3,.sl 1 0 (dn.length+1) (dn.length+1))]) (by simp) (by simp) ?_ ?_) (Lp ?_ ?_))
       .have:=AxD x dn (moreB cur p)
        rw[fin]at this;exact this
       .simp only [go_sem]
       .simp only [go_sem]
       .rw [fin]; rfl
   | false =>
    have hst:bstep (dn,cur) p=(dn++[cur],newB p):=by simp[bstep,hj]
    rw[hst]at g4;have hnl:=AqH p;have hJ':=hJ (j+1,dn++[cur],newB p,p.kind) ⟨by simp only; omega,g2,by
     simp only;intro h;rw[AtH];have hk:=join_no hj;omega,g4,by simp; omega,by simp only; omega,by simp only; omega⟩ (by simp only; omega)
    have hlen1:(dn++[cur]).length+1=dn.length+1+1:=by simp
    simp only[hlen1]at hJ';have hk15:1<=p.kind/\p.kind<=5:=hdp.kind;have hkj:=join_no hj;refine AWp.shift (AmK (e':=[(16,.int .i64 (j:Int)),(15,.int .i64 x.Lc.length),(14,.fz 2 (x.Lc.map paA)),(3,.sl 1 0 (dn.length+1) (dn.length+1))]) (by simp) (by simp only[go_sem])) ?_;have hlm:(List.map rbA (dn++[cur])).length=dn.length+1:=by simp
    by_cases k1:p.kind=1
    .have q1:(p.kind==1)=true:=by simp[k1]
     have hnb:newB p=⟨1,wrapL 60 p.text,[],[]⟩:=by simp[newB,k1]
     have fin:=AhQ (x:=x) (dn:=dn++[cur]) (b:=newB p) (by rw[hnb]; rfl);rw[hnb]at fin hJ';apply zgF;simp only[go_sem,dj,hpA,q1,hlm,laa]
     repeat refine aqb ?_
     refine zqF hg (hw60) ?_;simp only[go_sem,hlm,laa]
     repeat refine aqb ?_
     rw[ic j];refine ainv hJ' (Shift.trans (AoH 1 (dn++[cur]) (wrapL 60 p.text) rfl rfl) (Shift.trans (Shift.low 4 (e':=[(16,.int .i64 ((j+1:Nat):Int)),(15,.int .i64 x.Lc.length),(14,.fz 2 (x.Lc.map paA)),(3,.sl 1 0 (dn.length+1+1) (dn.length+1+1))]) (by simp) (by simp) ?_ ?_) (Lp ?_ ?_)))
     .have:=AxD x (dn++[cur]) ⟨1,wrapL 60 p.text,[],[]⟩
      rw[fin]at this;exact this
     .simp only [go_sem]
     .simp only [go_sem]
     .rw [fin]; rfl
    .by_cases k5:p.kind=5
     .have q1:(p.kind==1)=false:=by simp[k5]
      have q5:(p.kind==5)=true:=by simp[k5]
      have h40:p.text.length<=50:=by
       have:=List.all_eq_true.1 BdI p.text (hdp.turn k5)
       simpa using this
      have e60:(60:Int)-(p.text.length:Int)-1=((60-(p.text.length+1):Nat):Int):=by omega
      have hit:=AiS (60-(p.text.length+1)) (by omega) [p.text++[58]] (by simp) (fun l h=>by rw[List.mem_singleton.1 h]; simp; omega);simp only[lah,laq]at hit;have hnb:newB p=⟨2,[turnLine p.text],[],[]⟩:=by simp[newB,k5]
      have fin:=AhQ (x:=x) (dn:=dn++[cur]) (b:=newB p) (by rw[hnb]; rfl);rw[hnb]at fin hJ';apply zgF;simp only[go_sem,dj,hpA,q1,q5,hlm,e60,laa]
      repeat refine aqb ?_
      refine zpF (hit) ?_;simp only[go_sem,hlm,laa]
      repeat refine aqb ?_
      rw[ic j];refine ainv hJ' (Shift.trans (AoH 5 (dn++[cur]) [turnLine p.text] rfl rfl) (Shift.trans (Shift.low 4 (e':=[(16,.int .i64 ((j+1:Nat):Int)),(15,.int .i64 x.Lc.length),(14,.fz 2 (x.Lc.map paA)),(3,.sl 1 0 (dn.length+1+1) (dn.length+1+1))]) (by simp) (by simp) ?_ ?_) (Lp ?_ ?_)))
      .have:=AxD x (dn++[cur]) ⟨2,[turnLine p.text],[],[]⟩
       rw[fin]at this;exact this
      .simp only [go_sem]
      .simp only [go_sem]
      .rw [fin]; rfl
     .have k2:p.kind=2:=by omega
      have q1:(p.kind==1)=false:=by simp[k2]
      have q5:(p.kind==5)=false:=by simp[k2]
      have q2:(p.kind==2)=true:=by simp[k2]
      have hnb:newB p=⟨3,[indent 20 p.text],[0],p.text⟩:=by simp[newB,k2]
      have fin:=AhR (x:=x) (dn:=dn++[cur]) (b:=newB p) (by rw[hnb]; rfl);rw[hnb]at fin hJ';have hio:=A2K 20 (by omega) [p.text] (by simp) (fun l h=>by rw[List.mem_singleton.1 h]; omega) (by simp) [.arr 5 [scA x],.arr 3 ((dn++[cur]).map rbA),.arr 1 [],.arr 1 [],.arr 2 [.agg [.int .i64 p.kind,.str p.text]]];simp only[lah,laq,laf,lar,lau,Nat.reduceAdd,las,lbm,scA]at hio;apply zgF;simp only[go_sem,dj,hpA,q1,q5,q2,hlm,laa]
      repeat refine aqb ?_
      refine za (hio) ?_;rintro _ _ ⟨rfl,rfl⟩;apply zgN;simp only[go_sem,hlm,laa]
      repeat refine aqb ?_
      rw[ic j];refine ainv hJ' (Shift.trans (Shift.ren [0,1,5,6] rfl) (Lp ?_ ?_))
      .simp only[renE,go_sem,renV,renC,ren1]
       repeat(first|rfl|refine And.intro rfl ?_)
      .rw [fin]
       show[Blk.arr 5 [scA x],Blk.arr 3 ((List.map rbA (dn++[cur])++[AV.agg [AV.int IntKind.i64 2,AV.sl 5 0 1 1,AV.sl 6 0 1 1]]).map (renC [0,1,5,6])),Blk.arr 1 [AV.str (indent 20 p.text)],Blk.arr 1 [AV.bool false]]=_
       rw[lap,AcT (f:=rbA) (fun _=>rfl)];rfl
  .have dj:decide ((j:Int)<(x.Lc.length:Int))=false:=by simp; omega
   have hj:j=x.Lc.length:=by omega
   subst hj;rw[List.drop_length]at g4;simp only[List.foldl_nil]at g4;have hbl:blocksL x=dn++[cur]:=by simp[blocksL,<- g4]
   refine AWp.shift (AmK (e':=[(16,.int .i64 (x.Lc.length:Int)),(15,.int .i64 x.Lc.length),(14,.fz 2 (x.Lc.map paA)),(3,.sl 1 0 (dn.length+1) (dn.length+1))]) (by simp) (by simp only[go_sem])) ?_;apply zgF;simp only[go_sem,dj];refine ARet.shift (Shift.freeze 2 (id:=1) rfl rfl (by simp) (lab _) (AiT _)) (aret [2] rfl ⟨?_,rfl⟩)
   simp[resV,Av.get,Av.put,lag,hbl]
end Go.Proofs.YtccfklnmolggiaaGreatDoor
namespace Go.Proofs.YtccfklnmolggiaaGreatDoor
open Av RowKit Proofs.Tryz
structure Sht(S:Nat->LY->LY->LB)(is ip ic:Nat):Prop where
 hs:∀ n L K,(S n L K).getD is .dead=.arr 1 [.agg [.sl ip 0 n n]]
 hp:∀ n L K,(S n L K).getD ip .dead=.arr 1 L
 hc:∀ n L K,(S n L K).getD ic .dead=.arr 1 K
 hss:∀ n m L K,(S n L K).set is (.arr 1 [.agg [.sl ip 0 m m]])=S m L K
 hps:∀ n L L' K,(S n L K).set ip (.arr 1 L')=S n L' K
 hcs:∀ n L K K',(S n L K).set ic (.arr 1 K')=S n L K'
 his:∀ n L K,is<(S n L K).length
 hip:∀ n L K,ip<(S n L K).length
 ne1:is≠ic
 ne2:ip≠ic
def shS(S:Nat->LY->LY->LB)(ic:Nat)(dn:List (List Ln))(cur:List Ln):LB:=S (dn.length+1) (dn.map pgA++[.sl ic 0 cur.length cur.length]) (cur.map .str)
theorem A8P{S:Nat->LY->LY->LB}{is ip ic:Nat}(G:Sht S is ip ic)(dn:List (List Ln))(cur ls:List Ln)(h1:dn.length<=1000000000)(h2:cur.length<=100000000)(h3:ls.length<=100000000) :
  Ct prog 111 [.ptr is 1 0 0,.fz 1 (ls.map .str)] (shS S ic dn cur) (fun r s=>r=.tup []/\s=shS S ic dn (cur++ls)):=by
 obtain⟨hs,hp,hc,hss,hps,hcs,his,hip,ne1,ne2⟩:=G;have hk:((dn.length+1:Nat):Int)-1=(dn.length:Int):=by omega
 have hG:∀ g,List.getD (dn.map pgA++[g]) dn.length .any=g:=fun g=>by simp[List.getD]
 have hS:∀ g g',List.set (dn.map pgA++[g]) dn.length g'=dn.map pgA++[g']:=fun g g'=>by simp
 simp only[shS];refine zcIB func111 rfl fun h ρ w=>?_
 simp only[go_sem,hs,hp,hk,laa]
 repeat refine aqb ?_
 refine A8N (ic) [] AaJ (by decide) rfl rfl 100 ?_;simp only[go_sem,hs,hp,hc,hss,hps,hcs,hG,hS,ckb,isApp,appOk,laa]
 repeat refine And.intro (by first|omega|exact his _ _ _|exact hip _ _ _|exact ne1|exact ne2|exact .inl trivial|rfl|(simp; done)|(simp; omega)) ?_
 apply zgB;simp only[go_sem];exact aret [] rfl ⟨rfl,by simp⟩
theorem BhZ{S:Nat->LY->LY->LB}{is ip ic:Nat}(G:Sht S is ip ic)(dn:List (List Ln))(cur ls:List Ln)(il:Nat)(hil:∀ n L K,(S n L K).getD il .dead=.arr 1 (ls.map .str))(hne:il≠ic)(hlt:∀ n L K,il<(S n L K).length)(h1:dn.length<=1000000000)(h2:cur.length<=100000000)(h3:ls.length<=100000000) :
  Ct prog 111 [.ptr is 1 0 0,.sl il 0 ls.length ls.length] (shS S ic dn cur) (fun r s=>r=.tup []/\s=shS S ic dn (cur++ls)):=by
 obtain⟨hs,hp,hc,hss,hps,hcs,his,hip,ne1,ne2⟩:=G;have hk:((dn.length+1:Nat):Int)-1=(dn.length:Int):=by omega
 have hG:∀ g,List.getD (dn.map pgA++[g]) dn.length .any=g:=fun g=>by simp[List.getD]
 have hS:∀ g g',List.set (dn.map pgA++[g]) dn.length g'=dn.map pgA++[g']:=fun g g'=>by simp
 simp only[shS];refine zcIB func111 rfl fun h ρ w=>?_
 simp only[go_sem,hs,hp,hk,laa]
 repeat refine aqb ?_
 refine A8N (ic) [] AaJ (by decide) rfl rfl 100 ?_;simp only[go_sem,hs,hp,hc,hil,hss,hps,hcs,hG,hS,ckb,isApp,appOk,laa]
 repeat refine And.intro (by first|omega|exact his _ _ _|exact hip _ _ _|exact ne1|exact ne2|exact hne|exact hlt _ _ _|exact .inl trivial|rfl|(simp; done)|(simp; omega)) ?_
 apply zgB;simp only[go_sem];exact aret [] rfl ⟨rfl,by rw[lag (by simp)]; simp⟩
theorem AqU{S:Nat->LY->LY->LB}{is ip ic:Nat}(G:Sht S is ip ic)(dn:List (List Ln))(cur:List Ln)(h1:dn.length<=1000000)(h2:∀ p∈dn,p.length<=54)(h3:cur.length<=54) :
  Ct prog 109 [.ptr is 1 0 0] (shS S ic dn cur) (fun r s=>r=.int .i64 ((54-cur.length:Nat):Int)/\s=shS S ic dn cur):=by
 have hr:=BhX (dn++[cur]) (by simp; omega) (fun p hp=>by
  rcases List.mem_append.1 hp with hp|hp
  .exact h2 p hp
  .rw [List.mem_singleton.1 hp]; exact h3)
 rw[room_snoc]at hr;have e1:bor 2 (shS S ic dn cur) (.sl ip 0 (dn.length+1) (dn.length+1))=.fz 1 ((dn++[cur]).map pgA):=by
  rw[AnM];simp only[shS,G.hp];have hm:(dn.map pgA).map (borC 1 (shS S ic dn cur))=dn.map pgA:=by
   rw[List.map_map]; exact lcc fun _ _=>rfl
  have hc:borC 1 (shS S ic dn cur) (.sl ic 0 cur.length cur.length)=pgA cur:=by
   show bor 1 (shS S ic dn cur) (.sl ic 0 cur.length cur.length)=_
   rw[AnM];simp only[shS,G.hc];have hm2:(cur.map AV.str).map (borC 0 (shS S ic dn cur))=cur.map AV.str:=by
    rw[List.map_map]; exact lcc fun _ _=>rfl
   simp only[shS]at hm2;simp only[laa,lau,decide_true,lab,lbo,lav,List.drop_zero];rw[lag (by simp),hm2];rfl
  simp only[shS]at hm hc;simp only[lak,laa,laf,lar,lau,decide_true,lab,lbo,lav,List.drop_zero];rw[lag (by simp),lap,lap,hm]
  simp[hc]
 have e2:([AV.ptr is 1 0 0]).map (borF 2 (shS S ic dn cur))=[.pin 1 [.agg [.fz 1 ((dn++[cur]).map pgA)]] 0 0]:=by
  have hb:(shS S ic dn cur).getD is .dead=.arr 1 [.agg [.sl ip 0 (dn.length+1) (dn.length+1)]]:=G.hs _ _ _;simp only[lah,laq,borF,borP,hb,borC,e1];rfl
 exact Ct.borrowF (P:=prog) (f:=109) (args:=[.ptr is 1 0 0]) 2 (shS S ic dn cur) (by rw[e2]; exact hr) (by rintro r rfl; rfl)
end Go.Proofs.YtccfklnmolggiaaGreatDoor
namespace Go.Proofs.YtccfklnmolggiaaGreatDoor
open Av RowKit
def TF(st tp b5:Blk):Bool->Blk->Nat->LY->LY->LB
 | true,_,n,L,K=>[.arr 1 [.agg [.sl 3 0 n n]],st,tp,.arr 1 L,.arr 1 K,b5]
 | false,X,n,L,K=>[.arr 1 [.agg [.sl 3 0 n n]],st,tp,.arr 1 L,X,b5,.arr 1 K]
def icF:Bool->Nat
 | true=>4
 | false=>6
theorem AuI(st tp b5:Blk)(f:Bool)(X:Blk):Sht (TF st tp b5 f X) 0 3 (icF f):=by
 cases f <;> exact⟨fun _ _ _=>rfl,fun _ _ _=>rfl,fun _ _ _=>rfl,fun _ _ _ _=>rfl,fun _ _ _ _=>rfl,fun _ _ _ _=>rfl,fun _ _ _=>by simp[TF],fun _ _ _=>by simp[TF],by decide,by decide⟩
def tabP(st tp b5:Blk)(f:Bool)(X:Blk)(dn:List (List Ln))(cur:List Ln):LB:=shS (TF st tp b5 f X) (icF f) dn cur
structure Quiet(b:Blk):Prop where
 frz:∀ id l,4<=id->frzB id 1 l b=b
 low:lowB 4 b=true
theorem quiet_dead:Quiet .dead:=⟨fun _ _ _=>rfl,rfl⟩
theorem A8Q:Quiet (.arr 1 []):=⟨fun _ _ _=>rfl,rfl⟩
theorem A8R{n m:Nat}(h:n<=m){v:AV}(hv:lowV n v=true):lowV m v=true:=by
 cases v with
 | agg r=>exact AnY h (show r.all (lowC n)=true from hv)
 | fn f r=>exact AnY h (show r.all (lowC n)=true from hv)
 | sl i off len cap=>exact AhK h (show lowC n (.sl i off len cap)=true from hv)
 | ptr i a j off=>exact AhK h (show lowC n (.ptr i a j off)=true from hv)
 | mp i=>exact AhK h (show lowC n (.mp i)=true from hv)
 | _=>first|exact hv|rfl
theorem AqV{n m:Nat}(h:n<=m){e:Env}:∀ {e':Env},wkl n e e'->wkl m e e'
 | [],_=>trivial
 | (t,v)::r,hw=>⟨⟨A8R h hw.1.1,hw.1.2⟩,AqV h hw.2⟩
theorem BiA{st tp b5 X:Blk}(h1:Quiet st)(h2:Quiet tp)(h3:Quiet b5)(dn:List (List Ln))(cur:List Ln):(tabP st tp b5 true X dn cur).all (lowB 6)=true:=by
 have a1:=AdA (show 4<=6 by omega) h1.low;have a2:=AdA (show 4<=6 by omega) h2.low;have a3:=AdA (show 4<=6 by omega) h3.low;have a4:lowB 6 (.arr 1 (cur.map .str))=true:=AaD (AdE _);have a5:=AaD (n:=6) (AiN dn);simp only[tabP,shS,TF,icF,laz,List.all_nil,a1,a2,a3,a4,lbw,lbn];simp only[lowB,flat_append,List.all_append,a5,lbn];rfl
section
variable {c:Cx}{e e':Env}{st tp b5 X:Blk}
theorem AxG(h1:Quiet st)(h2:Quiet tp)(h3:Quiet b5)(hX:Quiet X)(hc:c.sto.length<=6)(f:Bool)(dn:List (List Ln))(cur:List Ln)(hw:wkl 4 e e') :
  ∃ X',Quiet X'/\Shift c e (tabP st tp b5 f X dn cur) e' [.arr 1 [.agg [.sl 3 0 (dn.length+1) (dn.length+1)]],st,tp,.arr 1 ((dn++[cur]).map pgA),X',b5]:=by
 have ht:List.take cur.length (List.map AV.str cur)=List.map AV.str cur:=lag (by simp);have hdn:∀ id l,(dn.map pgA).map (frzC id 1 l)=dn.map pgA:=fun id l=>AqN (fun _=>rfl) dn
 have hlw:∀ Y,Quiet Y->([Blk.arr 1 [.agg [.sl 3 0 (dn.length+1) (dn.length+1)]],st,tp,.arr 1 ((dn++[cur]).map pgA),Y,b5]).all (lowB 6)=true:=fun Y hY=>by
  have a1:=AdA (show 4<=6 by omega) h1.low;have a2:=AdA (show 4<=6 by omega) h2.low;have a3:=AdA (show 4<=6 by omega) h3.low;have a4:=AdA (show 4<=6 by omega) hY.low;have a5:lowB 6 (.arr 1 ((dn++[cur]).map pgA))=true:=AaD (AiN _);simp only[laz,List.all_nil,a1,a2,a3,a4,a5,lbw,lbn];rfl
 cases f with
 | true =>
  refine⟨.dead,quiet_dead,Shift.trans (Shift.frz 4 rfl (AdE _)) ?_⟩;have e1:((tabP st tp b5 true X dn cur).set 4 .dead).map (frzB 4 1 (cur.map .str))=[.arr 1 [.agg [.sl 3 0 (dn.length+1) (dn.length+1)]],st,tp,.arr 1 ((dn++[cur]).map pgA),.dead,b5]:=by
   show[Blk.arr 1 [.agg [.sl 3 0 (dn.length+1) (dn.length+1)]],frzB 4 1 (cur.map .str) st,frzB 4 1 (cur.map .str) tp,.arr 1 ((dn.map pgA++[AV.sl 4 0 cur.length cur.length]).map (frzC 4 1 (cur.map .str))),.dead,frzB 4 1 (cur.map .str) b5]=_
   rw[h1.frz 4 _ (by omega),h2.frz 4 _ (by omega),h3.frz 4 _ (by omega),lap,hdn]
   simp_all[frzC,frz1,pgA]
  rw[e1];exact Shift.low 6 hc (by simp) (hlw _ quiet_dead) (AqV (by omega) (AgS (by omega) hw))
 | false =>
  refine⟨X,hX,Shift.trans (Shift.frz 6 rfl (AdE _)) ?_⟩;have e1:((tabP st tp b5 false X dn cur).set 6 .dead).map (frzB 6 1 (cur.map .str))=[.arr 1 [.agg [.sl 3 0 (dn.length+1) (dn.length+1)]],st,tp,.arr 1 ((dn++[cur]).map pgA),X,b5,.dead]:=by
   show[Blk.arr 1 [.agg [.sl 3 0 (dn.length+1) (dn.length+1)]],frzB 6 1 (cur.map .str) st,frzB 6 1 (cur.map .str) tp,.arr 1 ((dn.map pgA++[AV.sl 6 0 cur.length cur.length]).map (frzC 6 1 (cur.map .str))),frzB 6 1 (cur.map .str) X,frzB 6 1 (cur.map .str) b5,.dead]=_
   rw[h1.frz 6 _ (by omega),h2.frz 6 _ (by omega),h3.frz 6 _ (by omega),hX.frz 6 _ (by omega),lap,hdn]
   simp_all[frzC,frz1,pgA]
  rw[e1];exact Shift.low 6 hc (by simp) (hlw _ hX) (AqV (by omega) (AgS (by omega) hw))
theorem AgU(ps:List (List Ln)){n:Nat}(hn:n=ps.length+1):Shift c e [.arr 1 [.agg [.sl 3 0 n n]],st,tp,.arr 1 (ps.map pgA++[.raw (.slice none 0 0)]),X,b5] e (tabP st tp b5 false X ps []):=by
 subst hn;refine Shift.trans (Shift.cells 3 1 (ps.map pgA++[.sl 6 0 0 0]) rfl (by simp) (fun x hx=>?_) ?_) Shift.refl
 .rcases List.mem_append.1 hx with hx|hx
  .obtain ⟨b,_,rfl⟩:=List.mem_map.1 hx
   rfl
  .rw [List.mem_singleton.1 hx]; rfl
 .rw [flat_append,flat_append]
  exact AxE (show toC 6 [.raw (.slice none 0 0)] [.sl 6 0 0 0] from⟨.sl,trivial⟩) _
theorem AuJ{k:List It}(h1:Quiet st)(h2:Quiet tp)(h3:Quiet b5)(hX:Quiet X)(hc:c.sto.length<=6)(f:Bool)(dn:List (List Ln))(cur:List Ln)(hw:wkl 4 e e')
  (h:∀ X',Quiet X'->AWp c k e' [.arr 1 [.agg [.sl 3 0 (dn.length+1) (dn.length+1)]],st,tp,.arr 1 ((dn++[cur]).map pgA),X',b5]):AWp c k e (tabP st tp b5 f X dn cur):=by
 obtain⟨X',q,hs⟩:=AxG h1 h2 h3 hX hc f dn cur hw;exact AWp.shift hs (h X' q)
end
