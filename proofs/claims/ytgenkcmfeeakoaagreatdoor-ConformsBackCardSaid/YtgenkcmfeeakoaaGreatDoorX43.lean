/- Pages with their first scenes, as the reference tells them. -/
import Derived.Test.YtgenkcmfeeakoaaGreatDoorX42
set_option maxRecDepth 100000
set_option maxHeartbeats 4000000
set_option linter.all false
namespace Go.Proofs.YtgenkcmfeeakoaaGreatDoor
open Av RowKit Proofs.Tryz
theorem AcR{n id m es:Nat}{s:LB}{l:LA}(hb:s.getD id .dead=.arr es l)(hl:m=l.length):bor (n+1) s (.sl id 0 m m)=.fz es (l.map (borC n s)):=by
 grind[bor_sl]
theorem borC_sl(n:Nat)(s:LB)(a b c d:Nat):borC n s (.sl a b c d)=bor n s (.sl a b c d):=rfl
theorem AhN{α:Type}{n:Nat}{s:LB}{f:α->AV}(h:∀ x,borC n s (f x)=f x)(xs:List α):(xs.map f).map (borC n s)=xs.map f:=by
 simp_all
theorem ByS(ss:List (List Bl))(hh:HdOk ss)(hb:∀ l∈ss,∀ b∈l,LdOk b)(ho:∀ b∈ss.flatten,∀ x∈b.Lb,OwnLn x)(hpl:∀ g,g<=ss.flatten.length->(layTo ss.flatten g).Lh.length<=80000)(h1:ss.length<=1000000)(h2:∀ l∈ss,l.length<=1000000) :
  Pc prog 65 [ssA ss] (· = .tup [.fz 1 ((layL ss.flatten).Lh.map pgA),.fz 1 ((stsL ss ss.length).map (.int .i64)),.fz 1 ((tpsL ss ss.length).map .bool)]):=by
 refine Pc.mono (Pc.ofOwn 2 (ByR ss hh hb ho hpl h1 h2)) ?_;rintro _ ⟨_,_,⟨o,e1,rfl,rfl⟩,rfl⟩;have b1:bor 2 (tabL (stsL ss ss.length) (tpsL ss ss.length) o) (.sl 1 0 ss.length ss.length)=.fz 1 ((stsL ss ss.length).map (.int .i64)):=by
  rw[AcR (A4Q _ _ o).1 (by rw[laa,stsL_len]),AhN (fun _=>rfl)]
 have b2:bor 2 (tabL (stsL ss ss.length) (tpsL ss ss.length) o) (.sl 2 0 ss.length ss.length)=.fz 1 ((tpsL ss ss.length).map .bool):=by
  rw[AcR (A4Q _ _ o).2 (by rw[laa,tpsL_len]),AhN (fun _=>rfl)]
 have b3:bor 2 (tabL (stsL ss ss.length) (tpsL ss ss.length) o) (.sl 3 0 (toO o).length (toO o).length)=.fz 1 ((toO o).map pgA):=by
  cases o with
  | none=>rfl
  | some x =>
   have hg:(tabL (stsL ss ss.length) (tpsL ss ss.length) (some x)).getD 3 .dead=.arr 1 (x.1.map pgA++[.sl 4 0 x.2.length x.2.length]):=rfl;have hg4:(tabL (stsL ss ss.length) (tpsL ss ss.length) (some x)).getD 4 .dead=.arr 1 (x.2.map .str):=rfl;rw[AcR hg (by simp[toO]),lak,AhN (fun _=>rfl)];have e:borC 1 (tabL (stsL ss ss.length) (tpsL ss ss.length) (some x)) (.sl 4 0 x.2.length x.2.length)=pgA x.2:=by
    rw[borC_sl,AcR hg4 (by simp),AhN (fun _=>rfl)];rfl
   simp only[lal,las,e,toO,lak]
 simp only[borV,lal,las,borC_sl];rw[b1,b2,b3,e1]
def enA(p:LU×List Bl):AV:=.agg [.str p.1,.fz 3 (p.2.map rbA)]
def AdF(fi:List LU)(ps:List (List Ln)):LA:=(List.range ps.length).map fun i=>.agg [.str (fi.getD i []),.fz 1 ((ps.getD i []).map .str)]
theorem AfV(fi:List LU)(ps:List (List Ln)):(AdF fi ps).length=ps.length:=by simp[AdF]
theorem AkQ(fi:List LU)(ps:List (List Ln)){i:Nat}(h:i<ps.length):List.getD (AdF fi ps) i .any=.agg [.str (fi.getD i []),.fz 1 ((ps.getD i []).map .str)]:=by
 grind[AdF]
theorem BkB(fi:List LU)(ps:List (List Ln)){i:Nat}(h:i<ps.length)(hf:fi.length=ps.length)(x:LU):(AdF fi ps).set i (.agg [.str x,.fz 1 ((ps.getD i []).map .str)])=AdF (fi.set i x) ps:=by
 refine lbz fun j=>?_<;>grind[AdF]
def rowsT(ps:List (List Ln))(j:Nat):LA:=(ps.take j).map (fun p=>.agg [.str [],.fz 1 (p.map .str)])++List.replicate (ps.length-j) (.agg [.str [],.raw (.slice none 0 0)])
theorem BkC(ps:List (List Ln)){j:Nat}(h:j<=ps.length):(rowsT ps j).length=ps.length:=by grind[rowsT]
theorem BkD(ps:List (List Ln)):rowsT ps ps.length=AdF (List.replicate ps.length []) ps:=by
 refine lbz fun j=>?_
 all_goals grind[rowsT,AdF]
theorem BkE(ps:List (List Ln)){j:Nat}(h:j<ps.length):List.getD (rowsT ps j) j .any=.agg [.str [],.raw (.slice none 0 0)]:=by
 grind[rowsT]
theorem BkF(ps:List (List Ln)){j:Nat}(h:j<ps.length):(rowsT ps j).set j (.agg [.str [],.fz 1 (ps[j].map .str)])=rowsT ps (j+1):=by
 have hl:(ps.take j).length=j:=by grind
 rw[rowsT,List.set_append_right _ _ (by grind),laa,hl,Nat.sub_self,show ps.length-j=(ps.length-(j+1))+1 by omega,List.replicate_succ,List.set_cons_zero,rowsT,laf h,lak,lbu];rfl
def ssE(es:List (LU×List Bl)):List (List Bl):=es.map (·.2)
structure PgOk(es:List (LU×List Bl)):Prop where
 hd:HdOk (ssE es)
 ld:∀ e∈es,∀ b∈e.2,LdOk b
 own:∀ b∈(ssE es).flatten,∀ x∈b.Lb,OwnLn x
 few:∀ g,g<=(ssE es).flatten.length->(layTo (ssE es).flatten g).Lh.length<=80000
 n:es.length<=1000000
 m:∀ e∈es,e.2.length<=1000000
def fiR(es:List (LU×List Bl))(k:Nat):List LU:=fiTo (ssE es).flatten (hxR (ssE es)) (fun k=>(es.getD k ([],[])).1) (layL (ssE es).flatten).Lh.length k
theorem BrM{bs:List Bl}(hb:∀ b∈bs,BrkOk b){i j:Nat}(hij:i<=j)(hj:j<=bs.length):(toQ (layTo bs i)).length<=(toQ (layTo bs j)).length:=by
 induction hij with
 | refl=>omega
 | @step m hm ih =>
  obtain⟨m1,e1,e2⟩:=A0H bs m bs[m] (layTo bs m);obtain⟨m2,p1,p2⟩:=AjF bs[m] (bs[m].Lb.length+1) 0 (openS bs m bs[m] (layTo bs m))
  grind[openS,layTo,gapS,firstS,lay_ne,toQ]
theorem AbY{α:Type}{f:α->AV}(h:∀ x,(cellsOf (f x)).all Av.frozen=true)(l:List α):(flat (l.map f)).all Av.frozen=true:=by
 induction l<;>grind[flat]
theorem AqQ(fi:List LU)(ps:List (List Ln)):(flat (AdF fi ps)).all Av.frozen=true:=AbY (fun _=>rfl) _
theorem BbQ(es:List (LU×List Bl))(h:PgOk es) :
  Ct prog 27 [.fz 2 (es.map enA)] [] (fun r s=>r=.sl 0 0 (layL (ssE es).flatten).Lh.length (layL (ssE es).flatten).Lh.length/\s=[.arr 2 (AdF (fiR es es.length) (layL (ssE es).flatten).Lh)]):=by
 have hlaid:=ByS (ssE es) h.hd (fun l hl b hb=>by
  obtain⟨e,he,rfl⟩:=List.mem_map.1 hl;exact h.ld e he b hb) h.own h.few (by simpa[ssE]using h.n) (fun l hl=>by
  obtain⟨e,he,rfl⟩:=List.mem_map.1 hl;exact h.m e he)
 have hn:=h.n;have hsa:ssA (ssE es)=.fz 1 (es.map fun e=>.fz 3 (e.2.map rbA)):=by simp[ssA,ssE,Function.comp_def]
 have hsl:(ssE es).length=es.length:=by simp[ssE]
 rw[hsa,hsl]at hlaid;have hbk:∀ b∈(ssE es).flatten,BrkOk b:=fun b hq=>by
  obtain⟨l,hl,hbl⟩:=List.mem_flatten.1 hq;obtain⟨e,he,rfl⟩:=List.mem_map.1 hl;exact(h.ld e he b hbl).brk
 have hpn:(layL (ssE es).flatten).Lh.length<=90000:=by
  rw[<- A4K];have:=h.few _ (lad _);unfold toQ
  split
  .omega
  .rw [lah,lam,lap]; omega
 have hst:∀ k,k<es.length->List.getD ((tpsL (ssE es) es.length).map AV.bool) k .any=.bool (tpR (ssE es).flatten (hxR (ssE es) k)):=fun k hk=>by simp[tpsL,hk,List.getD]
 have hsi:∀ k,k<es.length->List.getD ((stsL (ssE es) es.length).map (AV.int .i64)) k .any=.int .i64 ((stR (ssE es).flatten (hxR (ssE es) k)+1:Nat):Int):=fun k hk=>by simp[stsL,hk,List.getD]
 have hss:∀ k,k<es.length->stR (ssE es).flatten (hxR (ssE es) k)<(layL (ssE es).flatten).Lh.length:=fun k hk=>by
  have hkm:k<(ssE es).length:=by rw[hsl]; exact hk
  obtain⟨b,r,e,e0,_⟩:=h.hd _ (lac hkm);have hl0:0<(ssE es)[k].length:=by rw[e]; simp
  have hfa:=BjT hkm hl0;have hb0:(ssE es)[k][0]=b:=by simp only[e,List.getElem_cons_zero]
  rw[hb0,Nat.add_zero]at hfa;obtain⟨hlt,hel⟩:=List.getElem?_eq_some_iff.1 hfa;have:=AtM hbk hlt (by rw[hel]; exact e0);have g:=BrM hbk (i:=hxR (ssE es) k+1) (Nat.succ_le_of_lt hlt) (lad _);rw[A4K]at g;omega
 refine zcIF func27 rfl fun h ρ w=>?_
 simp only[go_sem,laa];refine AaE (ι:=Nat) (fun j=>es.length-j) (fun j=>[(16,.int .i64 j),(15,.int .i64 es.length),(14,.fz 2 (es.map enA)),(3,.sl 0 0 j j),(0,.fz 2 (es.map enA))])
  (fun j=>[.arr 1 ((es.take j).map fun e=>.fz 3 (e.2.map rbA))]) (fun j=>j<=es.length) 0 (by omega) ?_ ?_
 .refine Shift.trans (Ls 3 1 rfl) (Lt ?_ (by rfl))
  simp only[go_sem]
 .intro j g1 J hJ
  by_cases gj:j<es.length
  .have dj:decide ((j:Int)<(es.length:Int))=true:=by simp; omega
   have hg':List.getD (es.map enA) j .any=.agg [.str es[j].1,.fz 3 (es[j].2.map rbA)]:=by simp[List.getD,gj,enA]
   have hlt:(List.take j es).length=j:=by simp; omega
   have hJ2:=hJ (j+1) (by omega) (by omega);rw[laf gj]at hJ2;apply zgF;simp only[go_sem,dj,hg',laa,hlt]
   repeat refine aqg ?_
   refine ainv hJ2 (Shift.trans (Shift.low 1 (e':=[(16,.int .i64 ((j+1:Nat):Int)),(15,.int .i64 es.length),(14,.fz 2 (es.map enA)),(3,.sl 0 0 (j+1) (j+1)),(0,.fz 2 (es.map enA))]) (by simp) (by simp) ?_ ?_) (Lt ?_ ?_))
   .have:=AbY (f:=fun e:LU×List Bl=>AV.fz 3 (e.2.map rbA)) (fun _=>rfl) (es.take j++[es[j]])
    rw[lak]at this
    show(lowB 1 (.arr 1 _)&&true)=true
    rw[lax];exact AaD this
   .rw [show((j+1:Nat):Int)=(j:Int)+1 by omega]
    simp only[go_sem]
   .simp only [go_sem]
   .rw [lak]
    rfl
  .have dj:decide ((j:Int)<(es.length:Int))=false:=by simp; omega
   have hj:j=es.length:=by omega
   subst hj;clear hJ;rw[laz];generalize hps:(layL (ssE es).flatten).Lh=ps at *;refine AWp.shift (Shift.trans (Shift.freeze 3 (id:=0) rfl rfl (by simp) (lad _) (AbY (fun _=>rfl) _)) (Shift.low 0 (e':=[(16,.int .i64 (es.length:Int)),(15,.int .i64 es.length),(3,.fz 1 (es.map fun e=>.fz 3 (e.2.map rbA))),(0,.fz 2 (es.map enA))]) (by simp) (by simp) rfl ?_)) ?_
   .simp only[go_sem]
    rw[laj (by simp)]
   .apply zgF
    simp only[go_sem,dj];refine zpF (hlaid) ?_;simp only[go_sem,laa]
    repeat refine aqg ?_
    refine AaE (ι:=Nat) (fun j=>ps.length-j) (fun j=>[(37,.int .i64 j),(36,.int .i64 ps.length),(35,.fz 1 (ps.map pgA)),(9,.sl 0 0 ps.length ps.length),(8,.fz 1 ((tpsL (ssE es) es.length).map .bool)),(7,.fz 1 ((stsL (ssE es) es.length).map (.int .i64))),(0,.fz 2 (es.map enA))])
     (fun j=>[.arr 2 (rowsT ps j)]) (fun j=>j<=ps.length) 0 (by omega) ?_ ?_
    .refine Lt ?_ (by simp[rowsT])
     simp only[go_sem]
    .intro j g2 J hJ
     by_cases gj:j<ps.length
     .have dj:decide ((j:Int)<(ps.length:Int))=true:=by simp; omega
      have hg':List.getD (ps.map pgA) j .any=.fz 1 (ps[j].map .str):=by simp[List.getD,gj,pgA]
      have hgt:=BkE ps gj;have hsx:=BkF ps gj;have hlx:=BkC ps g2;apply zgF;simp only[go_sem,dj,hg',hgt,hsx,hlx,laa]
      repeat refine aqg ?_
      rw[ic j];refine ainv (hJ (j+1) (by omega) (by omega)) (Lr ?_);simp only[go_sem]
     .have dj:decide ((j:Int)<(ps.length:Int))=false:=by simp; omega
      have hj:j=ps.length:=by omega
      subst hj;clear hJ;rw[BkD];apply zgF;simp only[go_sem,dj,laa];refine AaE (ι:=Nat) (fun k=>es.length-k) (fun k=>[(50,.int .i64 k),(49,.int .i64 es.length),(48,.fz 2 (es.map enA)),(9,.sl 0 0 ps.length ps.length),(8,.fz 1 ((tpsL (ssE es) es.length).map .bool)),(7,.fz 1 ((stsL (ssE es) es.length).map (.int .i64)))])
       (fun k=>[.arr 2 (AdF (fiR es k) ps)]) (fun k=>k<=es.length) 0 (by omega) ?_ ?_
      .refine Lt ?_ (by simp[fiR,fiTo,hps])
       simp only[go_sem]
      .intro k g3 J hJ
       have hfl:(fiR es k).length=ps.length:=by unfold fiR; rw[fiTo_len,hps]
       have hrl:=AfV (fiR es k) ps
       by_cases gk:k<es.length
       .have dk:decide ((k:Int)<(es.length:Int))=true:=by simp; omega
        have hg':List.getD (es.map enA) k .any=.agg [.str es[k].1,.fz 3 (es[k].2.map rbA)]:=by simp[List.getD,gk,enA]
        have h1:=hst k gk;have h2:=hsi k gk;have h3:=hss k gk;have hJ2:=hJ (k+1) (by omega) (by omega);have hfs:fiR es (k+1)=if tpR (ssE es).flatten (hxR (ssE es) k) then(fiR es k).set (stR (ssE es).flatten (hxR (ssE es) k)) es[k].1 else fiR es k:=by
         unfold fiR;rw[fiTo]
         simp[List.getD,gk]
        cases ht:tpR (ssE es).flatten (hxR (ssE es) k)with
        | false =>
         rw[ht]at h1 hfs;rw[hfs]at hJ2;apply zgF;simp only[go_sem,dk,hg',h1,stsL_len,tpsL_len,laa]
         repeat refine aqg ?_
         refine ainv hJ2 (Shift.trans (Shift.low 1 (e':=[(50,.int .i64 ((k:Int)+1)),(49,.int .i64 es.length),(48,.fz 2 (es.map enA)),(9,.sl 0 0 ps.length ps.length),(8,.fz 1 ((tpsL (ssE es) es.length).map .bool)),(7,.fz 1 ((stsL (ssE es) es.length).map (.int .i64)))]) (by simp) (by simp) ?_ ?_) (Lt ?_ rfl))
         .show (lowB 1 (.arr 2 _)&&true)=true
          rw[lax];exact AaD (AqQ _ _)
         .simp only[go_sem]
         .simp only [go_sem]
          rfl
        | true =>
         rw[ht]at h1 hfs;rw[hfs]at hJ2;simp only[if_true]at hJ2;have e1:(((stR (ssE es).flatten (hxR (ssE es) k)+1:Nat):Int)-1).toNat=stR (ssE es).flatten (hxR (ssE es) k):=by omega
         have hrg:=AkQ (fiR es k) ps h3;have hrs:=BkB (fiR es k) ps h3 hfl es[k].1;generalize stR (ssE es).flatten (hxR (ssE es) k)=sx at *;apply zgF;simp only[go_sem,dk,hg',h1,stsL_len,tpsL_len,laa]
         repeat refine aqg ?_
         refine zr [] AaI ?_;simp only[go_sem,h2,e1,hrg,hrs,hrl,stsL_len,laa]
         repeat refine aqg ?_
         apply zgF;simp only[go_sem]
         repeat refine aqg ?_
         refine ainv hJ2 (Shift.trans (Shift.low 1 (e':=[(50,.int .i64 ((k:Int)+1)),(49,.int .i64 es.length),(48,.fz 2 (es.map enA)),(9,.sl 0 0 ps.length ps.length),(8,.fz 1 ((tpsL (ssE es) es.length).map .bool)),(7,.fz 1 ((stsL (ssE es) es.length).map (.int .i64)))]) (by simp) (by simp) ?_ ?_) (Lt ?_ rfl))
         .show (lowB 1 (.arr 2 _)&&true)=true
          rw[lax];exact AaD (AqQ _ _)
         .simp only[go_sem]
         .simp only [go_sem]
          rfl
       .have dk:decide ((k:Int)<(es.length:Int))=false:=by simp; omega
        have hk:k=es.length:=by omega
        subst hk;apply zgF;simp only[go_sem,dk];exact zt [2]
end Go.Proofs.YtgenkcmfeeakoaaGreatDoor
namespace Go.Proofs.YtgenkcmfeeakoaaGreatDoor
open Av RowKit Proofs.Tryz
def setD(i:Nat):LA:=(List.range 256).map fun k=>AV.bool ((DIG.take i).any fun c=>c.toNat==k)
theorem setD_len(i:Nat):(setD i).length=256:=by simp[setD]
theorem setD_one(i:Nat):(setD i).all Av.one=true:=by grind[setD,Av.one]
theorem setD_take(i:Nat):List.take 256 (setD i)=setD i:=by grind[laj,setD]
theorem BtW(i:Nat)(hi:i<10):DIG.getD i 0=UInt8.ofNat (48+i)/\(DIG.getD i 0).toNat=48+i:=by
 have:∀ i:Fin 10,DIG.getD i.1 0=UInt8.ofNat (48+i.1)/\(DIG.getD i.1 0).toNat=48+i.1:=by decide +kernel
 exact this ⟨i,hi⟩
theorem BrN(i:Nat)(hi:i<10):(setD i).set (48+i) (.bool true)=setD (i+1):=by
 have hd:=BtW i hi;have hl:i<DIG.length:=by simp_all[DIG]
 refine List.ext_getElem (by simp[setD]) fun k h1 h2=>?_
 simp only[List.getElem_set,setD,List.getElem_map,List.getElem_range]
 grind[laf]
theorem BrO(c:UInt8):List.getD (setD 10) c.toNat .any=.bool (digB c):=by
 have hc:=c.toNat_lt;have h:=A7O (p:=fun c=>digB c==((DIG.take 10).any fun d=>d.toNat==c.toNat)) (by decide +kernel) c
 grind[setD]
theorem tsSet:tsize prog 214=256:=by kernel_rfl
theorem unSet:prog.underlying 214=some (.array 256 4):=by simp_all
theorem zaSet:zav prog 214=setD 0:=by kernel_rfl
theorem BkG(c:UInt8)(r:LU):caps (c::r)=if digB c=true then caps r else c::r:=by
 grind[caps,List.dropWhile_cons]
theorem A8R:∀ (l pre post:LA),putCells (pre++l++post) pre.length l=pre++l++post
 | [],_,_=>rfl
 | v::r,pre,post=>by
  have e:(pre++v::r++post).set pre.length v=(pre++[v])++r++post:=by simp
  have ih:=A8R r (pre++[v]) post;rw[lah]at ih
  show putCells ((pre++v::r++post).set pre.length v) (pre.length+1) r=_
  rw[e];exact ih.trans (by simp)
theorem A8S:∀ (l pre old:LA),old.length=l.length->putCells (pre++old) pre.length l=pre++l
 | [],_,old,h=>by
  have:=lbw h;subst this; rfl
 | v::r,pre,old,h=>by
  match old,h with
  | o::old,h =>
   have e:(pre++o::old).set pre.length v=(pre++[v])++old:=by simp
   have ih:=A8S r (pre++[v]) old (by simpa using h);rw[lah]at ih
   show putCells ((pre++o::old).set pre.length v) (pre.length+1) r=_
   rw[e];exact ih.trans (by simp)
theorem ByT:putCells (setD 0) 0 (setD 10)=setD 10:=A8S (setD 10) [] (setD 0) (by grind[setD_len])
theorem put_all(l:LA):putCells l 0 l=l:=by
 have:=A8R l [] []
 grind
section strict
attribute [local instance] trUp
def BkH:=@BmW trUp
theorem A4R:Pc prog 163 [.str DIG] (· = .tup [.agg (setD 10),.bool true]):=by
 refine AcP (AbT func163 rfl ntmps163 hB163 (by simp) fun h ρ w=>goBU rfl 300 ?_);simp only[go_sem,tsSet,zaSet,unSet,setD_len,setD_one];refine BhC (ι:=Nat) (κ:=Unit) (fun i=>10-i) (fun i=>[(4,.int .i64 i),(2,.ptr 0 1 0 0),(0,.str DIG),(3,.bool false)]) (fun i=>[.arr 256 [.agg (setD i)]]) (fun i=>i<=10)
  (fun _=>[(2,.ptr 0 1 0 0),(0,.str DIG),(3,.bool false)]) (fun _=>[.arr 256 [.agg (setD 10)]]) (fun _=>True) 0 (by omega) ?_ ?_ ?_
 .refine Lr ?_
  simp only[go_sem]
 .rintro - -
  refine goBU rfl 300 ?_;simp only[go_sem,unSet,tsSet,setD_len];rw[setD_take,put_all];refine⟨setD_len 10,setD_one 10,B0S [.cell 2 214,.tmp 3] rfl [.agg (setD 10),.bool true] ⟨?_,rfl,trivial⟩ ⟨rfl,rfl⟩⟩;simp only[go_sem,sideIs,unSet,tsSet,setD_len,setD_take]
 .intro i g1 J Q hJ hQ
  have hdl:DIG.length=10:=rfl
  by_cases gi:i<10
  .have di:decide ((i:Int)<10)=true:=by simp; omega
   obtain⟨d1,d2⟩:=BtW i gi;have hset:=BrN i gi;have hfin:=hJ (i+1) (by omega) (by omega);refine goBU rfl 300 ?_;simp only[go_sem,di,d2,hset,setD_len,hdl,unSet,tsSet];refine⟨by omega,by omega,fun h=>by omega,fun _=>⟨by omega,by omega,by omega,by omega,by omega,?_⟩⟩;rw[ic i];refine BhD hfin (Lr ?_);simp only[go_sem]
  .have hi:i=10:=by omega
   subst hi;have hfin:=hQ () trivial;refine goBU rfl 300 ?_;simp only[go_sem,hdl];refine BhD hfin (Lr ?_);simp only[go_sem]
theorem AmI(c:UInt8):Ct prog 214 [.ptr 0 1 0 0,.int .u8 (c.toNat:Int)] [.arr 256 [.agg (setD 10)]] (fun r s=>r=.bool (digB c)/\s=[.arr 256 [.agg (setD 10)]]):=by
 have hg:=BrO c;have hc:=c.toNat_lt;refine AbT func214 rfl ntmps214 hB214 (by simp) fun h ρ w=>goBU rfl 300 ?_
 simp only[go_sem,hg,setD_len,unSet,tsSet];exact⟨by omega,by omega,by omega,AkD [4] rfl ⟨rfl,rfl⟩⟩
theorem BkI(s:LU)(hs:s.length<1000000):Ct prog 164 [.str s,.ptr 0 1 0 0] [.arr 256 [.agg (setD 10)]] (fun r s'=>r=.str (caps s)/\s'=[.arr 256 [.agg (setD 10)]]):=by
 refine AbT func164 rfl ntmps164 hB164 (by simp) fun h ρ w=>goBU rfl 300 ?_
 simp only[go_sem];refine BhC (ι:=LU) (κ:=Unit) (fun t=>t.length) (fun t=>[(0,.str t),(1,.ptr 0 1 0 0)]) (fun _=>[.arr 256 [.agg (setD 10)]]) (fun t=>caps t=caps s/\t.length<=s.length)
  (fun _=>[(0,.str (caps s))]) (fun _=>[.arr 256 [.agg (setD 10)]]) (fun _=>True) s ⟨rfl,lad _⟩ ?_ ?_ ?_
 .refine Lr ?_
  simp only[go_sem]
 .rintro - -
  refine goBU rfl 300 ?_;simp only[go_sem];exact AkD [4] rfl ⟨rfl,rfl⟩
 .rintro t ⟨g1,g2⟩ J Q hJ hQ
  have hq:=hQ () trivial
  cases t with
  | nil =>
   have e:caps s=[]:=g1.symm;rw[e]at hq;refine goBU rfl 300 ?_;simp only[go_sem];refine BhD hq (Lr ?_);simp only[go_sem]
  | cons c r =>
   have hcc:=BkG c r;have hlr:r.length+1<=s.length:=g2;have h0:(c::r).getD 0 0=c:=rfl;have htk:List.take r.length r=r:=laz
   cases hd:digB c with
   | true =>
    rw[hd,if_pos rfl,g1]at hcc;have hj:=hJ r ⟨hcc.symm,by omega⟩ (by simp);have hct:=AmI c;rw[hd]at hct;refine goBU rfl 300 ?_;simp only[go_sem,h0];refine⟨fun _=>⟨by omega,?_⟩,fun h=>by omega⟩;refine BkH hct rfl rfl ?_;rintro _ _ ⟨rfl,rfl⟩;refine goBU rfl 300 ?_;simp only[go_sem]
    repeat refine aj ?_
    refine BhD hj (Lr ?_);simp only[go_sem,htk]
   | false =>
    rw[hd,if_neg (by simp),g1]at hcc;rw[hcc]at hq;have hct:=AmI c;rw[hd]at hct;refine goBU rfl 300 ?_;simp only[go_sem,h0];refine⟨fun _=>⟨by omega,?_⟩,fun h=>by omega⟩;refine BkH hct rfl rfl ?_;rintro _ _ ⟨rfl,rfl⟩;refine goBU rfl 300 ?_;simp only[go_sem];refine BhD hq (Lr ?_);simp only[go_sem]
theorem A0Q(s:LU)(hs:s.length<1000000):Pc prog 115 [.str s,.str DIG] (· = .str (caps s)):=by
 have hdl:DIG.length=10:=rfl;have hdn:(DIG==[])=false:=rfl
 by_cases h0:s=[]
 .subst h0
  have e:caps []=[]:=rfl;rw[e];refine AcP (AbT func115 rfl ntmps115 hB115 (by simp) fun h ρ w=>goBU rfl 300 ?_);simp only[go_sem];exact AkD [4] rfl ⟨rfl,rfl⟩
 .have e0:(s==[])=false:=by simpa using h0
  refine AcP (AbT func115 rfl ntmps115 hB115 (by simp) fun h ρ w=>goBU rfl 300 ?_);simp only[go_sem,e0,hdl,hdn];refine AdI (A4R) rfl rfl rfl ?_;refine goBU rfl 300 ?_;simp only[go_sem,tsSet,zaSet,unSet,setD_len,setD_one,put_all,setD_take];rw[ByT];refine BkH (BkI s hs) rfl rfl ?_;rintro _ _ ⟨rfl,rfl⟩;refine goBU rfl 300 ?_;simp only[go_sem];exact AkD [4] rfl ⟨rfl,rfl⟩
theorem AtR(s:LU)(hs:s.length<1000000):Pc prog 58 [.str s] (· = .tup [.str (digs s),.str (caps s)]):=by
 have hl:(digs s).length+(caps s).length=s.length:=by rw[<- lah,<- AbF]
 have htk:List.take (digs s).length s=digs s:=by
  have h:=List.takeWhile_append_dropWhile (p:=digB) (l:=s)
  conv=>lhs; arg 2; rw[<- h]
  exact List.take_left
 have e1:((s.length:Int)-((caps s).length:Int)).toNat=(digs s).length:=by omega
 refine AcP (AbT func58 rfl ntmps58 hB58 (by simp) fun h ρ w=>goBU rfl 300 ?_);simp only[go_sem];refine AdI (A0Q s hs) rfl rfl rfl ?_;refine goBU rfl 300 ?_;simp only[go_sem,e1,htk];refine⟨by omega,by omega,by omega,by omega,?_⟩;refine AkD [2,3] rfl ⟨?_,rfl⟩
 simp[resV,Av.get]
theorem BbR(a b:LU)(ha:numberL a=true)(hb:numberL b=true):Pc prog 38 [.str a,.str b] (· = .int .i64 (compareN a b)):=by
 have h1:=AaN ha;have h2:=AaN hb;have hor:=B0U (cmpI (pN a) (pN b)) (Lib.compareBytes (caps a) (caps b));refine AcP (AbT func38 rfl ntmps38 hB38 (by simp) fun h ρ w=>goBU rfl 300 ?_);simp only[go_sem];refine AdI (AtR a (by omega)) rfl rfl rfl ?_;refine goBU rfl 300 ?_;simp only[go_sem];refine AdI (AtR b (by omega)) rfl rfl rfl ?_;refine goBU rfl 300 ?_;simp only[go_sem];refine AdI (A7R (digs a) (pN a) h1.1.2 (AfJ h1.1)) rfl rfl rfl ?_;refine goBU rfl 300 ?_;simp only[go_sem];refine AdI (A7R (digs b) (pN b) h2.1.2 (AfJ h2.1)) rfl rfl rfl ?_;refine goBU rfl 300 ?_;simp only[go_sem];refine AdI (AyV (pN a) (pN b)) rfl rfl rfl ?_;refine goBU rfl 300 ?_;simp only[go_sem];refine AdI (AyT (caps a) (caps b)) rfl rfl rfl ?_;refine goBU rfl 300 ?_;simp only[go_sem];refine AdI (hor) rfl rfl rfl ?_;refine goBU rfl 300 ?_;simp only[go_sem];exact AkD [4] rfl ⟨rfl,rfl⟩
abbrev En:={ p:LU×List Bl // numberL p.1=true }
def enB(p:En):AV:=enA p.1
theorem A4S(a b:LU)(v u:Value)(ha:numberL a=true)(hb:numberL b=true)(hv:v.oneCell'=true)(hu:u.oneCell'=true):Pc prog 69 [.agg [.str a,.raw v],.agg [.str b,.raw u]] (· = .int .i64 (compareN a b)):=by
 refine AcP (AbT func69 rfl ntmps69 hB69 (by simp) fun h ρ w=>goBU rfl 300 ?_);simp only[go_sem,hv,hu];refine AdI (BbR a b ha hb) rfl rfl rfl ?_;refine goBU rfl 300 ?_;simp only[go_sem];exact AkD [4] rfl ⟨rfl,rfl⟩
theorem A0R{h:Mem}{ρ:Go.Av.Own}{s:LB}{x:En}{vs:List Value}(r:RL h (Lf ρ s) false vs (cellsOf (enB x))):∃ v,vs=[.string ⟨x.1.1.toArray⟩,v]:=by
 cases r with|cons a0 r =>
 cases r with|cons a1 r =>
 cases r
 have e0:=AbG a0
 simp_all
theorem AwK(h:Mem)(ρ:Go.Av.Own)(s:LB)(x y:En)(vs us:List Value)(r1:RL h (Lf ρ s) false vs (cellsOf (enB x)))(r2:RL h (Lf ρ s) false us (cellsOf (enB y)))(o1:∀ v∈vs,v.oneCell'=true)(o2:∀ v∈us,v.oneCell'=true)(W:World) :
  Calls prog 69 #[.agg vs.toArray,.agg us.toArray] W fun e w'=>e=.returned (.int .i64 (compareN x.1.1 y.1.1)) /\ @Same trUp W w':=by
 obtain⟨v,rfl⟩:=A0R r1;obtain⟨u,rfl⟩:=A0R r2;simp only[List.mem_cons,List.not_mem_nil,or_false,forall_eq_or_imp,forall_eq]at o1 o2;have hp:=A4S x.1.1 y.1.1 v u x.2 y.2 o1.2 o2.2;have hq:=@Pc.calls trUp _ _ _ _ hp W ( [.agg [.string ⟨x.1.1.toArray⟩,v].toArray,.agg [.string ⟨y.1.1.toArray⟩,u].toArray]) fun h=>.cons (.agg _ _ (.cons (.str _) (.cons (.raw _) .nil))) (.cons (.agg _ _ (.cons (.str _) (.cons (.raw _) .nil))) .nil)
 refine Calls.mono hq ?_;rintro e w' ⟨⟨v,h',rfl,rv⟩,hs⟩;refine⟨?_,hs⟩
 cases rv with|int=>rfl
end strict
theorem ByU:Go.Sort.SWO (Go.Proofs.ltOf fun x y:En=>compareN x.1.1 y.1.1):=by
 have e:∀ x y:En,Go.Proofs.ltOf (fun x y:En=>compareN x.1.1 y.1.1) x y=true ↔ nLt x.1.1 y.1.1:=fun x y=>by
  grind[Go.Proofs.ltOf,compareN_lt]
 have e':∀ x y:En,Go.Proofs.ltOf (fun x y:En=>compareN x.1.1 y.1.1) x y=false ↔ ¬ nLt x.1.1 y.1.1:=fun x y=>by
  grind
 refine⟨fun x=>(e' x x).2 (nLt_irrefl _),fun x y z h1 h2=>(e x z).2 (nLt_trans ((e x y).1 h1) ((e y z).1 h2)),fun x y z h1 h2=>(e' x z).2 fun h=>?_⟩<;>grind[nLt_trans,number_eq,ApB]
theorem BkJ{s:LB}{bid:Nat}{l:List En}(hs:s[bid]? = some (.arr 2 (l.map enB)))(hl:l.length<1000000) :
  Ct prog 68 [.sl bid 0 l.length l.length,.fn (.func 69) []] s (fun r s'=>r=.tup []/\∃ l':List En,s'=s.set bid (.arr 2 (l'.map enB))/\l'.Perm l/\l'.Pairwise (fun x y=>¬ nLt y.1.1 x.1.1)):=by
 have h:=BwZ Tryz.sortEn Tryz.isAgg129 Tryz.sizeOf129 hB68 enB (by decide) (fun _=>rfl) (fun x y:En=>compareN x.1.1 y.1.1) ByU hB69 AwK hs (by omega);refine⟨h.1,fun hh ρ w vs m r=>(h.2 hh ρ w vs m r).mono ?_⟩;rintro e w' ⟨v,r,s1,h',ρ',h1,⟨h2,l',h3,h4,h5⟩,h6⟩;exact⟨v,r,s1,h',ρ',h1,⟨h2,l',h3,h4,h5.imp fun hh=>by rwa [compareN_lt]at hh⟩,h6⟩
end Go.Proofs.YtgenkcmfeeakoaaGreatDoor
namespace Go.Proofs.YtgenkcmfeeakoaaGreatDoor
open Av RowKit Proofs.Tryz
theorem BkK{S:Std}(hS:LibOk S){a:LU}(ha:a=[]\/numberL a=true):PcH prog S 59 [.str (digs a)] (· = .tup [.int .i64 (pA a),.any]):=by
 by_cases h0:a=[]
 .subst h0
  exact AxW hS
 .have hn:=ha.resolve_left h0
  have hp:pA a=pN a:=if_neg h0;rw[hp];refine⟨hB59,fun h w vs' hg hm hv=>?_⟩;have:=AoL _ h vs' hv;subst this;have hl:=AaZ hn;refine(Any.strconv_Atoi Tryz.lays172 ⟨(digs a).toArray⟩ (pN a) (by simp[ByteArray.size]; omega) (AfJ (AaN hn).1) w).mono ?_;rintro e w' ⟨rfl,t,h2⟩;have hs:Same w w':=h2▸AfK (Lib.bytesWorld_below _ _ _);exact⟨_,_,h,rfl,rfl,fun b o v e=>⟨hs.cell (hm b o v e).1,(hm b o v e).2⟩,fun _ _ _ x=>x,fun b o e n=>(n e).elim,hs,.tup [_,_] [_,_] (.cons (.int _ _) (.cons (.any _) .nil))⟩
theorem BrP{a:LU}(ha:a=[]\/numberL a=true){n:Nat}(hn:n<=5):(candR a n).length<=2/\∀ x∈candR a n,x.length<=100:=by
 have hp:=BwX ha;have i1:(Lib.itoa (pA a+1)).length<=4:=by
  grind[big_not,itoa_dig3,AjT]
 have i0:(Lib.itoa (pA a)).length<=4:=by
  grind[itoa_dig3,AjT]
 have hl:=AlD n;have hc:(caps a).length<=5:=by
  rcases ha with rfl|ha
  .simp [caps]
  simp_all[AaZ]
 grind[above_len,candR]
theorem BkL{p:LU->Bool}{l:List LU}{j:Nat}(hj:j<l.length)(h:(l.take j).all (fun x=>!p x)=true) :
  (p l[j]=true->l.find? p=some l[j])/\(p l[j]=false->(l.take (j+1)).all (fun x=>!p x)=true):=by
 refine⟨fun h1=>?_,fun h1=>?_⟩<;>grind[List.find?_eq_some_iff_append,lbc,lbs]
theorem AhO{S:Std}(hS:LibOk S)(a b:LU)(ha:a=[]\/numberL a=true)(hb:b=[]\/numberL b=true):PcH prog S 23 [.str a,.str b] (· = .tup [.str (AaS a b),.bool (AaS a b != [])]):=by
 have hal:a.length<1000000:=by
  rcases ha with rfl|ha
  .simp
  .have:=(AaN ha).2.1; omega
 have hp:=BwX ha;have hcl:=BgW a;have hcap:∀ x∈caps a,x.toNat<=90:=by
  rcases ha with rfl|ha
  .intro x hx; simp[caps]at hx
  .exact BtB (AaZ ha).2.2.2
 have hc5:(caps a).length<=5:=by
  rcases ha with rfl|ha
  .simp [caps]
  .exact (AaZ ha).2.2.1
 refine zqIF func23 rfl fun h ρ w hg=>?_
 simp only[go_sem];refine zpF (AbM a hal) ?_;simp only[go_sem];refine zqF hg (BkK hS ha) ?_;simp only[go_sem];refine AaE (ι:=Nat) (fun n=>6-n) (fun n=>[(10,.int .i64 n),(8,.int .i64 (pA a)),(7,.str (caps a)),(0,.str a),(1,.str b)]) (fun _=>[]) (fun n=>n<=6/\AaS a b=betR a b (6-n) n) 0 ⟨by omega,(BtJ ha hb 6 0 (by omega)).symm⟩ ?_ ?_
 .refine Lr ?_
  simp only[go_sem]
 .rintro n ⟨g1,g2⟩ J hJ
  by_cases gn:n<6
  .have dn:decide ((n:Int)<=5)=true:=by simp; omega
   have hN:=hJ (n+1);clear hJ;obtain⟨hcl2,hcx⟩:=BrP ha (show n<=5 by omega);refine goF rfl 19 ?_;simp only[go_sem,dn];refine acut (ι:=Unit) (fun _=>[(11,.fz 1 ((candR a n).map .str)),(10,.int .i64 n),(8,.int .i64 (pA a)),(7,.str (caps a)),(0,.str a),(1,.str b)]) (fun _=>[]) (fun _=>True) ?_ ?_
   .intro J2 hJ2
    have hfin:=hJ2 () trivial;clear hJ2
    by_cases hn0:n=0
    .have d0:((n:Int)==0)=true:=by simp[hn0]
     rw[show candR a n=[Lib.itoa (pA a+1)] by rw[candR,if_pos hn0]]at hfin hcx;apply zgF;simp only[go_sem,d0]
     repeat refine aqg ?_
     refine zqF hg (AdP hS (pA a+1) (by omega) (by omega)) ?_;simp only[go_sem]
     repeat refine aqg ?_
     refine ainv hfin (Shift.trans (Shift.freeze 11 (id:=0) rfl rfl (by simp) (lad _) (AaH [_])) (Shift.low 0 (by simp) (by simp) rfl (by simp only[go_sem])))
    .have d0:((n:Int)==0)=false:=by simp; omega
     have hlow:(aboveL [] n != [])=true:=by
      have e:aboveL [] n=lowestL n:=by unfold aboveL; rw[if_pos (by simp; omega)]; simp
      have:=lowest_ne (n:=n);rw[e]; simpa using this
     have elow:aboveL [] n=lowestL n:=by unfold aboveL; rw[if_pos (by simp; omega)]; simp
     have hc2:=AlT [] n (by omega) (by omega) (by simp) (by simp);rw[hlow,elow]at hc2
     by_cases hab:aboveL (caps a) n=[]
     .have dab:(aboveL (caps a) n != [])=false:=by simp[hab]
      rw[show candR a n=[Lib.itoa (pA a+1)++lowestL n] by rw[candR,if_neg hn0,if_neg (by simpa using hab)]; rfl]at hfin hcx;have hx:=hcx _ (List.mem_singleton.2 rfl);simp only[lah]at hx;apply zgF;simp only[go_sem,d0];refine zpF (AlT (caps a) n (by omega) (by omega) (by omega) hcap) ?_;simp only[go_sem,dab];refine zpF (hc2) ?_;simp only[go_sem]
      repeat refine aqg ?_
      refine zqF hg (AdP hS (pA a+1) (by omega) (by omega)) ?_;simp only[go_sem]
      repeat refine aqg ?_
      refine ainv hfin (Shift.trans (Shift.freeze 11 (id:=0) rfl rfl (by simp) (lad _) (AaH [_])) (Shift.low 0 (by simp) (by simp) rfl (by simp only[go_sem])))
     .have dab:(aboveL (caps a) n != [])=true:=by simp[hab]
      rw[show candR a n=[Lib.itoa (pA a)++aboveL (caps a) n,Lib.itoa (pA a+1)++lowestL n] by rw[candR,if_neg hn0,if_pos hab]; rfl]at hfin hcx;have hx:=hcx _ (List.mem_cons_self ..);have hy:=hcx _ (List.mem_cons_of_mem _ (List.mem_cons_self ..));simp only[lah]at hx hy;apply zgF;simp only[go_sem,d0];refine zpF (AlT (caps a) n (by omega) (by omega) (by omega) hcap) ?_;simp only[go_sem,dab]
      repeat refine aqg ?_
      refine zqF hg (AdP hS (pA a) (by omega) (by omega)) ?_;simp only[go_sem]
      repeat refine aqg ?_
      refine zpF (hc2) ?_;simp only[go_sem]
      repeat refine aqg ?_
      refine zqF hg (AdP hS (pA a+1) (by omega) (by omega)) ?_;simp only[go_sem]
      repeat refine aqg ?_
      refine ainv hfin (Shift.trans (Shift.freeze 11 (id:=0) rfl rfl (by simp) (lad _) (AaH [_,_])) (Shift.low 0 (by simp) (by simp) rfl (by simp only[go_sem])))
   .rintro - -
    have hstop:(candR a n).find? (fitR b)=none->AaS a b=betR a b (6-(n+1)) (n+1):=fun e=>by
     rw[g2,show 6-n=(6-(n+1))+1 by omega,betR,e]
    have hgot:∀ x,(candR a n).find? (fitR b)=some x->AaS a b=x:=fun x e=>by
     rw[g2,show 6-n=(6-(n+1))+1 by omega,betR,e]
    generalize candR a n=cs at *;apply zgF;simp only[go_sem,laa];refine AaE (ι:=Nat) (fun j=>cs.length-j) (fun j=>[(70,.int .i64 j),(69,.int .i64 cs.length),(68,.fz 1 (cs.map .str)),(10,.int .i64 n),(8,.int .i64 (pA a)),(7,.str (caps a)),(0,.str a),(1,.str b)]) (fun _=>[]) (fun j=>j<=cs.length/\(cs.take j).all (fun x=>!fitR b x)=true) 0 ⟨by omega,by simp⟩ ?_ ?_
    .refine Lr ?_
     simp only[go_sem]
    .rintro j ⟨k1,k2⟩ J2 hJ2
     by_cases gj:j<cs.length
     .have dj:decide ((j:Int)<(cs.length:Int))=true:=by simp; omega
      have hg':List.getD (cs.map AV.str) j .any=.str cs[j]:=by simp[List.getD,gj]
      have hxl:=hcx cs[j] (lac gj);obtain⟨f1,f2⟩:=BkL gj k2;have hagain:=fun e=>hJ2 (j+1) ⟨by omega,f2 e⟩ (by omega)
      have hyes:=fun e=>hgot _ (f1 e)
      clear hJ2 f1 f2;generalize cs[j]=x at *;unfold fitR at hagain hyes
      cases d1:numberL x with
      | false =>
       have hJ3:=hagain (by rw[d1]; rfl);apply zgF;simp only[go_sem,dj,hg',laa]
       repeat refine aqg ?_
       refine zpF (AbX x (by omega)) ?_;simp only[go_sem,d1]
       repeat refine aqg ?_
       rw[ic j];refine ainv hJ3 (Lr ?_);simp only[go_sem]
      | true =>
       have hxne:(x != [])=true:=by
        have:x≠[]:=fun e=>by subst e; exact absurd d1 (by decide)
        simpa using this
       by_cases hb0:b=[]
       .have db:(b==[])=true:=by simp[hb0]
        have e:=hyes (by rw[d1,db]; rfl);rw[e];apply zgF;simp only[go_sem,dj,hg',laa]
        repeat refine aqg ?_
        refine zpF (AbX x (by omega)) ?_;simp only[go_sem,d1,db];rw[hxne];exact zt [4,5]
       .have db:(b==[])=false:=by simp[hb0]
        have hbn:=hb.resolve_left hb0
        cases d2:decide (compareN x b<0)with
        | true =>
         have e:=hyes (by rw[d1,db,d2]; rfl);rw[e];apply zgF;simp only[go_sem,dj,hg',laa]
         repeat refine aqg ?_
         refine zpF (AbX x (by omega)) ?_;simp only[go_sem,d1,db];refine zpF (AeK x b d1 hbn) ?_;simp only[go_sem,d1,db,d2];rw[hxne];exact zt [4,5]
        | false =>
         have hJ3:=hagain (by rw[d1,db,d2]; rfl);apply zgF;simp only[go_sem,dj,hg',laa]
         repeat refine aqg ?_
         refine zpF (AbX x (by omega)) ?_;simp only[go_sem,d1,db];refine zpF (AeK x b d1 hbn) ?_;simp only[go_sem,d1,db,d2]
         repeat refine aqg ?_
         rw[ic j];refine ainv hJ3 (Lr ?_);simp only[go_sem]
     .have dj:decide ((j:Int)<(cs.length:Int))=false:=by simp; omega
      have hj:j=cs.length:=by omega
      rw[hj,laz]at k2;have hN2:=hN ⟨by omega,hstop (by
       rw[List.find?_eq_none];intro x hx
       simpa using List.all_eq_true.1 k2 x hx)⟩ (by omega)
      apply zgF;simp only[go_sem,dj]
      repeat refine aqg ?_
      rw[ic n];refine ainv hN2 (Lr ?_);simp only[go_sem]
  .have dn:decide ((n:Int)<=5)=false:=by simp; omega
   have e:betR a b (6-n) n=[]:=by rw[show 6-n=0 by omega]; rfl
   rw[g2,e];apply zgF;simp only[go_sem,dn];exact zt [4,5]
