/- tag.Sheets. -/
import Derived.Test.YtnfkjpihaficbaaGreatDoorK45
set_option maxRecDepth 100000
set_option maxHeartbeats 16000000
set_option linter.unusedSimpArgs false
set_option linter.unusedVariables false
namespace Go.Proofs.YtnfkjpihaficbaaGreatDoor
open Go Go.Av Go.RowKit _root_.Go.Proofs.Tryz
theorem BkG(l:List Mn)(i:Nat)(h:i<l.length):(l.map mnA).getD i .any=.agg [.int .i64 l[i].rule,.int .i64 l[i].scene,.int .i64 l[i].para,.int .i64 l[i].at',.int .i64 l[i].n,.int .i64 l[i].c]:=by simp[List.getD,h,mnA]
theorem BaH{α:Type}(N:List α)(c d:α):(N++[c]).getD N.length d=c:=by simp[List.getD]
theorem BeR{α:Type}(N:List α)(c d:α):(N++[c]).set N.length d=N++[d]:=by simp
def NA(x:Sr)(i:Nat):List NMap:=(x.scenes.take i).map fun y=>cuesN y.paras y.paras.length
theorem BmQ(x:Sr){i:Nat}(h:i<=x.scenes.length):(NA x i).length=i:=by simp[NA]; omega
theorem NA_all(x:Sr):NA x x.scenes.length=AvB x:=by simp[NA,AvB]
theorem BkH(x:Sr){i:Nat}(h:i<x.scenes.length):NA x (i+1)=NA x i++[cuesN x.scenes[i].paras x.scenes[i].paras.length]:=by
 unfold NA;rw[List.take_add_one,List.getElem?_eq_getElem h,List.map_append];rfl
theorem NI.last{T0 T:List Blk}{b n:Nat}{ids:List Nat}{N:List NMap}{c:NMap}{v:Nat}(h:NI T0 T b n ids (N++[c]))(hv:ids[N.length]? = some v) :
  T[v]? = some (.mp (ndM c))/\∀ U:List Blk,U.all (lowB (T.length+U.length))=true->∀ c':NMap,NI T0 ((T++U).set v (.mp (ndM c'))) b n ids (N++[c']):=by
 refine⟨?_,fun U hU c'=>?_⟩
 .have:=h.maps _ _ hv
  rwa [BaH]at this
 .have:=(h.app hU).put hv c'
  rwa [BeR]at this
def MnOk(rs:List Ru)(x:Sr):Prop:=rusC rs=0/\(mnAll rs x).length<=20000
def BkI(x:Sr)(rs:List Ru)(ts:List Tg)(T0:List Blk)(r:AV)(T:List Blk):Prop :=
 (∃ n:Int,n≠0/\¬ (MnOk rs x/\TagsOk x ts)/\r=.tup [.raw (.slice none 0 0),.int .i64 n]/\Ext T0 T) \/
 (MnOk rs x/\TagsOk x ts/\∃ (o:Nat) (R:List Shr),r=.tup [.sl o 0 R.length R.length,.int .i64 0]/\OI T0 T o R/\Ext T0 T/\R.length=x.scenes.length /\
  ∀ i (h:i<x.scenes.length) (h2:i<R.length),R[i].no=x.scenes[i].no/\ArX ((needA x rs ts ts.length).getD i []) R[i].l/\R[i].l.length<=12)
theorem A3Q{S:Std}(hS:LibOk S)(x:Sr)(hx:StoryOk x)(rs:List Ru)(hr:∀ r∈rs,RuOk r)(hrl:rs.length<=4)(ts:List Tg)(htl:ts.length<=4)(hte:∀ t∈ts,t.el.name.length<1000000)(T0:List Blk)(hT0:T0.all (lowB T0.length)=true) :
  CtH prog S 11 [srA x,.fz 5 (rs.map ruA),.fz 4 (ts.map tgA)] T0 (BkI x rs ts T0):=by
 have h1:=ArR hS x hx rs hr (by omega);have h2:=ArY hS x hx ts htl hte;have h4:=AnS x hx;have hxl:=hx.len;have hA:=fun k=>A1L hx rs ts k
 have hK:=A9Y rs ts;have hpl:∀ y∈x.scenes,y.paras.length<100000:=fun y hy=>(AhJ hx y hy).1
 unfold mnV at h1;simp only[srA]at h1 h2 h4 |-
 by_cases hc:rusC rs=0
 rotate_left
 .have dc:(rusC rs != 0)=true:=by simpa using hc
  rw[dc,cond_true]at h1;refine zdIB func11 rfl fun h ρ w hg=>?_
  simp only[go_sem];refine zqB hg (h1) ?_;simp only[go_sem,dc];exact aret [6,7] rfl (.inl ⟨rusC rs,hc,fun h=>hc h.1.1,rfl,fun k b e=>e⟩)
 have dc:(rusC rs != 0)=false:=by simpa using hc
 rw[dc,cond_false]at h1
 by_cases h20:(mnAll rs x).length>20000
 .rw [decide_eq_true h20,cond_true]at h1
  refine zdIB func11 rfl fun h ρ w hg=>?_
  simp only[go_sem];refine zqB hg (h1) ?_;simp only[go_sem];exact aret [6,7] rfl (.inl ⟨2,by decide,fun h=>by have:=h.1.2; omega,rfl,fun k b e=>e⟩)
 rw[decide_eq_false h20,cond_false]at h1;have hmn:MnOk rs x:=⟨hc,by omega⟩;have hin:=A1J rs x;have hstep:=AjL x rs;have hA0:needA x rs ts 0=needM x rs (mnAll rs x).length:=rfl;have hM0:needM x rs 0=AvB x:=rfl;have hAlen:=fun k=>AvG hpl rs ts k
 have hM20:(mnAll rs x).length<=20000:=by omega
 generalize mnAll rs x=MM at *;refine zdIB func11 rfl fun h ρ w hg=>?_
 simp only[go_sem];refine zqB hg (h1) ?_;simp only[go_sem];refine zeH hg (h2) ?_;rintro _ ⟨nt,rfl,hnt⟩
 by_cases hn0:nt=0
 rotate_left
 .have dn:(nt != 0)=true:=by simpa using hn0
  refine zgB ?_;simp only[go_sem,dn];exact aret [6,7] rfl (.inl ⟨nt,hn0,fun h=>hn0 (hnt.2 h.2),rfl,fun k b e=>e⟩)
 subst hn0;have htg:=hnt.1 rfl;refine zgB ?_;simp only[go_sem,List.length_map]
 repeat refine ai ?_
 have hst:NI T0 (T0++[.arr 1 (cellsN [] x.scenes.length)]) T0.length x.scenes.length [] (NA x 0):=by
  refine⟨fun k b e=>AbU e _,by simp,rfl,by simp,.nil,Nat.le_refl _,by simp,by simp,A1D hT0 (ApX (by simp) _)⟩
 refine AaC (ι:=Nat×List Blk×List Nat) (fun y=>x.scenes.length-y.1)
  (fun y=>[(50,.int .i64 y.1),(49,.int .i64 x.scenes.length),(48,.fz 5 (x.scenes.map scA)),(11,.sl T0.length 0 x.scenes.length x.scenes.length),(8,.fz 6 (MM.map mnA)),(3,.pin 2 [.agg [.str x.title,.fz 5 (x.scenes.map scA)]] 0 0),(2,.fz 4 (ts.map tgA)),(1,.fz 5 (rs.map ruA))])
  (fun y=>y.2.1) (fun y=>y.1<=x.scenes.length/\y.2.2.length=y.1/\NI T0 y.2.1 T0.length x.scenes.length y.2.2 (NA x y.1)) (0,_,[]) ⟨Nat.zero_le _,rfl,hst⟩ ?_ ?_
 .refine Shift.weakS ?_ ?_
  .simp only [go_sem,List.length_map]
   try rfl
  .simp only [cellsN,List.map_nil,List.nil_append,List.length_nil,Nat.sub_zero]
   try rfl
 clear hst;obtain⟨b,hb⟩:∃ b,b=T0.length:=⟨_,rfl⟩;rw[<- hb];rintro⟨i,T,ids⟩ ⟨g1,g2,g3⟩ J hJ;simp only at g1 g2 g3 hJ |-
 by_cases gi:i<x.scenes.length
 .have di:decide ((i:Int)<(x.scenes.length:Int))=true:=by simp; omega
  have p2:=AdL x.scenes i gi;have hyl:=hpl _ (List.getElem_mem gi);have hna:=BkH x gi;have hfin:=fun T' ids' a c=>hJ (i+1,T',ids') ⟨gi,a,c⟩ (by simp only; omega)
  simp only at hfin;rw[hna]at hfin;clear hJ hna;generalize x.scenes[i]=y at *;have hbo:=fun U=>AdQ g3.arr U
  have hcl:=AeK g3.few;have hp:=NI.push g3 (by omega) (y:=.arr 5 [scA y]) (fun m=>AaD (by simp[flat,cellsOf,scA,Av.frozen]));have hbs:∀ (U:List Blk) (Y:Blk),(T++U).set b Y=T.set b Y++U:=fun U Y=>List.set_append_left _ _ (AeV g3.arr)
  have hnl:=A3P (ids:=ids) (n:=x.scenes.length) (by omega);simp only[scA]at hp;rw[g2]at hp hnl;refine zgB ?_;simp only[go_sem,di,p2,hbo,hcl,hbs,hnl,set_gt,gt_at,gt_at0,st_at,st_at0,List.length_map,List.append_assoc,List.cons_append,List.nil_append,List.length_append,List.length_cons,List.length_nil,Nat.zero_add,List.set_cons_zero,List.set_cons_succ,List.getD_cons_zero,List.getD_cons_succ]
  repeat refine ai ?_
  have hv:(ids++[T.length+1])[(NA x i).length]? = some (T.length+1):=by
   rw[BmQ x (by omega),<- g2]
   simp
  have hil:(ids++[T.length+1]).length=i+1:=by simp[g2]
  have hcell:(cellsN (ids++[T.length+1]) x.scenes.length).getD i .any=.mp (T.length+1):=by
   rw[AiM (by omega)]
   simp[<- g2]
  generalize ids++[T.length+1]=ids2 at *;generalize T.length+1=v at *;refine AaC (ι:=Nat×List Blk) (fun z=>y.paras.length-z.1)
   (fun z=>[(62,.int .i64 z.1),(61,.int .i64 y.paras.length),(60,.fz 2 (y.paras.map paA)),(12,.int .i64 i),(50,.int .i64 i),(49,.int .i64 x.scenes.length),(48,.fz 5 (x.scenes.map scA)),(11,.sl b 0 x.scenes.length x.scenes.length),(8,.fz 6 (MM.map mnA)),(3,.pin 2 [.agg [.str x.title,.fz 5 (x.scenes.map scA)]] 0 0),(2,.fz 4 (ts.map tgA)),(1,.fz 5 (rs.map ruA))])
   (fun z=>z.2) (fun z=>z.1<=y.paras.length/\NI T0 z.2 b x.scenes.length ids2 (NA x i++[cuesN y.paras z.1])) (0,_) ⟨Nat.zero_le _,hp⟩ ?_ ?_
  .refine Shift.weakS ?_ rfl
   simp only[go_sem,List.length_map]
   try rfl
  clear hp hbo hbs hcl g3;rintro⟨j,T⟩ ⟨k1,k3⟩ J2 hJ2;simp only at k1 k3 hJ2 |-
  by_cases gj:j<y.paras.length
  rotate_left
  .have dj:decide ((j:Int)<(y.paras.length:Int))=false:=by simp; omega
   have hje:j=y.paras.length:=by omega
   subst hje;have hf:=hfin T ids2 hil k3;clear hJ2 hfin;refine zgB ?_;simp only[go_sem,dj]
   repeat refine ai ?_
   rw[ic i];refine ainv hf (Shift.weakS ?_ rfl);simp only[go_sem]
  have dj:decide ((j:Int)<(y.paras.length:Int))=true:=by simp; omega
  have p3:=AwT y.paras j gj;have hcs:=AjK y.paras j gj;have hfin2:=fun T' c=>hJ2 (j+1,T') ⟨gj,c⟩ (by simp only; omega)
  simp only at hfin2;rw[hcs]at hfin2;clear hJ2 hcs hfin;generalize cuesN y.paras j=es at *;generalize y.paras[j]=p at *;obtain⟨l1,l2⟩:=k3.last hv;have hbo:=fun U=>AdQ k3.arr U
  have hvo:=fun U=>AdQ l1 U
  have hcl:=AeK k3.few
  by_cases gk:p.kind=2
  .have dk:(p.kind==2)=true:=by simpa using gk
   have hfind:=AgO ⟨11,p.text⟩ es 0;have hput:=AxW es ⟨11,p.text⟩ (1,false);have hce:cueN es p=tput es ⟨11,p.text⟩ (1,false):=by
    unfold cueN;rw[if_pos gk]
   rw[hce]at hfin2;have hf:=hfin2 _ (l2 [.arr 2 [paA p],.arr 2 [elA ⟨11,p.text⟩]] (by
    simp only[List.all_cons,List.all_nil,Bool.and_true,Bool.and_eq_true];exact⟨AaD (by simp[flat,cellsOf,paA,Av.frozen]),AaD (by simp[flat,cellsOf,elA,Av.frozen])⟩) (tput es ⟨11,p.text⟩ (1,false)))
   simp only[paA,elA]at hf;simp only[elA,ndV,ndA,Nat.zero_add]at hfind hput
   cases ht:tix (⟨11,p.text⟩:El) es with
   | none =>
    rw[ht]at hfind hput;simp only at hfind hput;refine zgB ?_;simp only[go_sem,dj,p3,dk,gt_at,gt_at0,st_at,st_at0,List.length_map,List.append_assoc,List.cons_append,List.nil_append,List.length_append,List.length_cons,List.length_nil,Nat.zero_add,List.set_cons_zero,List.set_cons_succ,List.getD_cons_zero,List.getD_cons_succ]
    repeat refine ai ?_
    refine zr [] mixed ?_;simp only[go_sem,hbo,hvo,hcl,hcell,hfind,gt_at,gt_at0,st_at,st_at0,List.length_map,List.append_assoc,List.cons_append,List.nil_append,List.length_append,List.length_cons,List.length_nil,Nat.zero_add,List.set_cons_zero,List.set_cons_succ,List.getD_cons_zero,List.getD_cons_succ,<- hput]
    repeat refine ai ?_
    refine zgB ?_;simp only[go_sem]
    repeat refine ai ?_
    rw[ic j];refine ainv hf (Shift.weakS ?_ rfl);simp only[go_sem]
   | some i1 =>
    rw[ht]at hfind hput;simp only at hfind hput;refine zgB ?_;simp only[go_sem,dj,p3,dk,gt_at,gt_at0,st_at,st_at0,List.length_map,List.append_assoc,List.cons_append,List.nil_append,List.length_append,List.length_cons,List.length_nil,Nat.zero_add,List.set_cons_zero,List.set_cons_succ,List.getD_cons_zero,List.getD_cons_succ]
    repeat refine ai ?_
    refine zr [] mixed ?_;simp only[go_sem,hbo,hvo,hcl,hcell,hfind,gt_at,gt_at0,st_at,st_at0,List.length_map,List.append_assoc,List.cons_append,List.nil_append,List.length_append,List.length_cons,List.length_nil,Nat.zero_add,List.set_cons_zero,List.set_cons_succ,List.getD_cons_zero,List.getD_cons_succ,<- hput]
    repeat refine ai ?_
    refine zgB ?_;simp only[go_sem]
    repeat refine ai ?_
    rw[ic j];refine ainv hf (Shift.weakS ?_ rfl);simp only[go_sem]
  .have dk:(p.kind==2)=false:=by simpa using gk
   have hce:cueN es p=es:=by
    unfold cueN;rw[if_neg gk]
   rw[hce]at hfin2;have hf:=hfin2 _ (k3.more (y:=.arr 2 [paA p]) (fun m=>AaD (by simp[flat,cellsOf,paA,Av.frozen])));simp only[paA]at hf;refine zgB ?_;simp only[go_sem,dj,p3,dk,gt_at,gt_at0,st_at,st_at0,List.length_map,List.append_assoc,List.cons_append,List.nil_append,List.length_append,List.length_cons,List.length_nil,Nat.zero_add,List.set_cons_zero,List.set_cons_succ,List.getD_cons_zero,List.getD_cons_succ]
   repeat refine ai ?_
   rw[ic j];refine ainv hf (Shift.weakS ?_ rfl);simp only[go_sem]
 have di:decide ((i:Int)<(x.scenes.length:Int))=false:=by simp; omega
 have hie:i=x.scenes.length:=by omega
 subst hie;clear hJ;rw[NA_all,<- hM0]at g3;refine zgB ?_;simp only[go_sem,di,List.length_map];refine AaC (ι:=Nat×List Blk) (fun z=>MM.length-z.1)
  (fun z=>[(83,.int .i64 z.1),(82,.int .i64 MM.length),(81,.fz 6 (MM.map mnA)),(11,.sl b 0 x.scenes.length x.scenes.length),(8,.fz 6 (MM.map mnA)),(3,.pin 2 [.agg [.str x.title,.fz 5 (x.scenes.map scA)]] 0 0),(2,.fz 4 (ts.map tgA)),(1,.fz 5 (rs.map ruA))])
  (fun z=>z.2) (fun z=>z.1<=MM.length/\NI T0 z.2 b x.scenes.length ids (needM x rs z.1)) (0,T) ⟨Nat.zero_le _,g3⟩ ?_ ?_
 .refine Shift.weakS ?_ rfl
  simp only[go_sem,List.length_map]
  try rfl
 clear g3;rintro⟨k,T⟩ ⟨k1,k3⟩ J hJ;simp only at k1 k3 hJ |-
 by_cases gk:k<MM.length
 .have dk:decide ((k:Int)<(MM.length:Int))=true:=by simp; omega
  have p3:=BkG MM k gk;have hst:=hstep k gk;obtain⟨m1,m2⟩:=hin _ (List.getElem_mem gk);have hfin2:=fun T' c=>hJ (k+1,T') ⟨gk,c⟩ (by simp only; omega)
  simp only at hfin2;rw[hst]at hfin2;clear hJ hst;generalize needM x rs k=N at *;generalize MM[k]=m at *;have p4:=ArQ rs m.rule m1;have hrg:rs.getD m.rule ru00=rs[m.rule]:=by simp[List.getD,m1]
  have hid:ids[m.scene]? = some ids[m.scene]:=List.getElem?_eq_getElem (by omega);have hcell:=AiM (n:=x.scenes.length) (show m.scene<ids.length by omega);generalize ids[m.scene]=v at *;have l1:=k3.maps _ _ hid;have hbo:=fun U=>AdQ k3.arr U
  have hvo:=fun U=>AdQ l1 U
  have hcl:=AeK k3.few;unfold BkB A9X at hfin2;rw[hrg]at hfin2;have hf:=hfin2 _ ((k3.app (U:=[.arr 6 [mnA m],.arr 2 [elA rs[m.rule].el]]) (by
    simp only[List.all_cons,List.all_nil,Bool.and_true,Bool.and_eq_true];exact⟨AaD (by simp[flat,cellsOf,mnA,Av.frozen]),AaD (by simp[flat,cellsOf,elA,Av.frozen])⟩)).put hid _)
  generalize N.getD m.scene []=es at *;generalize rs[m.rule]=q at *;obtain⟨⟨ek,en⟩,pt,inn,st⟩:=q;simp only at hf;have hfind:=AgO ⟨ek,en⟩ es 0;have hput:=AxW es ⟨ek,en⟩ (if((tval (⟨ek,en⟩:El) es).getD (0,false)).1<m.c then m.c else((tval (⟨ek,en⟩:El) es).getD (0,false)).1,false);simp only[mnA,elA]at hf;simp only[ruA]at p4;simp only[elA,ndV,ndA,Nat.zero_add]at hfind hput
  cases ht:tix (⟨ek,en⟩:El) es with
  | none =>
   have htv:=A6U ht;rw[ht]at hfind hput;rw[htv]at hput hf;simp only[Option.getD_none]at hfind hput hf;refine zgB ?_;simp only[go_sem,dk,p3,p4,gt_at,gt_at0,st_at,st_at0,List.length_map,List.append_assoc,List.cons_append,List.nil_append,List.length_append,List.length_cons,List.length_nil,Nat.zero_add,List.set_cons_zero,List.set_cons_succ,List.getD_cons_zero,List.getD_cons_succ]
   repeat refine ai ?_
   refine zr [] mixed ?_;simp only[go_sem,hbo,hvo,hcl,hcell,hfind,gt_at,gt_at0,st_at,st_at0,List.length_map,List.append_assoc,List.cons_append,List.nil_append,List.length_append,List.length_cons,List.length_nil,Nat.zero_add,List.set_cons_zero,List.set_cons_succ,List.getD_cons_zero,List.getD_cons_succ,<- hput]
   repeat refine ai ?_
   refine zgB ?_;simp only[go_sem]
   repeat refine ai ?_
   rw[ic k];refine ainv hf (Shift.weakS ?_ rfl);simp only[go_sem]
  | some i1 =>
   obtain⟨v1,_,htv⟩:=AiA ht;rw[ht]at hfind hput;rw[htv]at hput hf hfind;simp only[Option.getD_some]at hfind hput hf;refine zgB ?_;simp only[go_sem,dk,p3,p4,gt_at,gt_at0,st_at,st_at0,List.length_map,List.append_assoc,List.cons_append,List.nil_append,List.length_append,List.length_cons,List.length_nil,Nat.zero_add,List.set_cons_zero,List.set_cons_succ,List.getD_cons_zero,List.getD_cons_succ]
   repeat refine ai ?_
   refine zr [] mixed ?_;simp only[go_sem,hbo,hvo,hcl,hcell,hfind,gt_at,gt_at0,st_at,st_at0,List.length_map,List.append_assoc,List.cons_append,List.nil_append,List.length_append,List.length_cons,List.length_nil,Nat.zero_add,List.set_cons_zero,List.set_cons_succ,List.getD_cons_zero,List.getD_cons_succ,<- hput]
   repeat refine ai ?_
   refine zgB ?_;simp only[go_sem]
   repeat refine ai ?_
   rw[ic k];refine ainv hf (Shift.weakS ?_ rfl);simp only[go_sem]
 have dk:decide ((k:Int)<(MM.length:Int))=false:=by simp; omega
 have hke:k=MM.length:=by omega
 subst hke;clear hJ;rw[<- hA0]at k3;refine zgB ?_;simp only[go_sem,dk];refine za (h4 _) ?_;rintro _ _ ⟨rfl,rfl⟩;have hpid:∀ id∈ids,id≠T.length:=fun id hid e=>by have:=k3.lt id hid; omega
 have hpb:b≠T.length:=fun e=>by have:=AeV k3.arr; omega
 have hpm:(T++[Blk.mp (scMF 0 x.scenes)])[T.length]? = some (.mp (scMF 0 x.scenes)):=by simp
 have k4:=k3.more (y:=.mp (scMF 0 x.scenes)) (fun m=>low_scM m 0 _);clear k3;generalize T++[Blk.mp (scMF 0 x.scenes)]=T' at *;generalize T.length=pm at *;refine zgB ?_;simp only[go_sem,List.length_map];refine AaC (ι:=Nat×List Blk) (fun z=>ts.length-z.1)
  (fun z=>[(117,.int .i64 z.1),(116,.int .i64 ts.length),(115,.fz 4 (ts.map tgA)),(20,.mp pm),(11,.sl b 0 x.scenes.length x.scenes.length),(8,.fz 6 (MM.map mnA)),(3,.pin 2 [.agg [.str x.title,.fz 5 (x.scenes.map scA)]] 0 0),(2,.fz 4 (ts.map tgA)),(1,.fz 5 (rs.map ruA))])
  (fun z=>z.2) (fun z=>z.1<=ts.length/\NI T0 z.2 b x.scenes.length ids (needA x rs ts z.1)/\z.2[pm]? = some (.mp (scMF 0 x.scenes))) (0,T') ⟨Nat.zero_le _,k4,hpm⟩ ?_ ?_
 .refine Shift.weakS ?_ rfl
  simp only[go_sem,List.length_map]
  try rfl
 clear k4 hpm;rintro⟨k,T⟩ ⟨k1,k3,kp⟩ J hJ;simp only at k1 k3 kp hJ |-
 by_cases gk:k<ts.length
 .have dk:decide ((k:Int)<(ts.length:Int))=true:=by simp; omega
  have p3:=BaD ts k gk;have hst:=AjM x rs ts k gk;obtain⟨q,hq,hqs⟩:=htg.at' _ (List.getElem_mem gk);have m0:=AnL hx hq hqs;have hix:noIx x ts[k].scene=q:=by rw[<- hqs]; exact BkD hx hq
  have hfin2:=fun T' c d=>hJ (k+1,T') ⟨gk,c,d⟩ (by simp only; omega)
  simp only at hfin2;rw[hst]at hfin2;unfold BkC at hfin2;rw[hix]at hfin2;clear hJ hst hix;generalize needA x rs ts k=N at *;generalize ts[k]=t at *;have hid:ids[q]? = some ids[q]:=List.getElem?_eq_getElem (by omega);have hvp:=hpid _ (List.mem_of_getElem? hid);have hcell:=AiM (n:=x.scenes.length) (show q<ids.length by omega);generalize ids[q]=v at *;have l1:=k3.maps _ _ hid;have hbo:=fun U=>AdQ k3.arr U
  have hvo:=fun U=>AdQ l1 U
  have hpo:=fun U=>AdQ kp U
  have hcl:=AeK k3.few;have hf:=hfin2 _ ((k3.app (U:=[.arr 4 [tgA t]]) (by
    simp only[List.all_cons,List.all_nil,Bool.and_true];exact AaD (by simp[flat,cellsOf,tgA,Av.frozen]))).put hid _) (AcJ (AbU kp _) hvp _)
  generalize N.getD q []=es at *;obtain⟨sc,⟨ek,en⟩,tn⟩:=t;have hfind:=AgO ⟨ek,en⟩ es 0;have hput:=AxW es ⟨ek,en⟩ (tn,true);have hfind2:=AgO ⟨ek,en⟩ (tput es ⟨ek,en⟩ (tn,true)) 0;have hdel:=BjS (tput es ⟨ek,en⟩ (tn,true)) ⟨ek,en⟩;obtain⟨i2,ht2⟩:=BaF es ⟨ek,en⟩ (tn,true);have hvl:∀ U,v<(T++U).length:=fun U=>by
   have:=AeV l1;rw[List.length_append];omega
  have hvs:∀ (U:List Blk) (Y:Blk),((T++U).set v Y).getD v .dead=Y:=fun U Y=>AiL (hvl U) Y
  have hbv:∀ (U:List Blk) (Y:Blk),((T++U).set v Y).getD b .dead=.arr 1 (cellsN ids x.scenes.length):=fun U Y=>AeU (AcJ (AbU k3.arr U) (AhP l1 k3.arr (by simp)) Y)
  have hsl:∀ (U:List Blk) (Y:Blk),((T++U).set v Y).getD T.length .dead=U.getD 0 .dead:=fun U Y=>by
   rw[List.getD_eq_getElem?_getD,List.getElem?_set_ne (by have:=AeV l1; omega),<- List.getD_eq_getElem?_getD,gt_at0]
  rw[ht2]at hfind2 hdel;simp only[tgA]at hf;simp only[elA,ndV,ndA,Nat.zero_add]at hfind hput hfind2 hdel
  by_cases gn:tn=0
  .have dn:(tn==0)=true:=by simpa using gn
   unfold AnX at hf;rw[if_pos gn]at hf;simp only at hf hput
   cases ht:tix (⟨ek,en⟩:El) es with
   | none =>
    rw[ht]at hfind hput;simp only at hfind hput;refine zgB ?_;simp only[go_sem,dk,p3,m0,hpo,gt_at,gt_at0,st_at,st_at0,List.length_map,List.append_assoc,List.cons_append,List.nil_append,List.length_append,List.length_cons,List.length_nil,Nat.zero_add,List.set_cons_zero,List.set_cons_succ,List.getD_cons_zero,List.getD_cons_succ]
    repeat refine ai ?_
    refine zr [] mixed ?_;simp only[go_sem,hbo,hvo,hcl,hcell,hfind,gt_at,gt_at0,st_at,st_at0,List.length_map,List.append_assoc,List.cons_append,List.nil_append,List.length_append,List.length_cons,List.length_nil,Nat.zero_add,List.set_cons_zero,List.set_cons_succ,List.getD_cons_zero,List.getD_cons_succ,<- hput]
    repeat refine ai ?_
    refine zgB ?_;simp only[go_sem,dn,hsl]
    repeat refine ai ?_
    refine zr [] mixed ?_;simp only[go_sem,hsl,hbv,hvs,hcl,hcell,hfind2,<- hdel,List.set_set,List.length_map,List.append_assoc,List.cons_append,List.nil_append,List.length_append,List.length_cons,List.length_nil,Nat.zero_add,List.set_cons_zero,List.set_cons_succ,List.getD_cons_zero,List.getD_cons_succ]
    repeat refine ai ?_
    refine zgB ?_;simp only[go_sem]
    repeat refine ai ?_
    rw[ic k];refine ainv hf (Shift.weakS ?_ rfl);simp only[go_sem]
   | some i1 =>
    rw[ht]at hfind hput;simp only at hfind hput;refine zgB ?_;simp only[go_sem,dk,p3,m0,hpo,gt_at,gt_at0,st_at,st_at0,List.length_map,List.append_assoc,List.cons_append,List.nil_append,List.length_append,List.length_cons,List.length_nil,Nat.zero_add,List.set_cons_zero,List.set_cons_succ,List.getD_cons_zero,List.getD_cons_succ]
    repeat refine ai ?_
    refine zr [] mixed ?_;simp only[go_sem,hbo,hvo,hcl,hcell,hfind,gt_at,gt_at0,st_at,st_at0,List.length_map,List.append_assoc,List.cons_append,List.nil_append,List.length_append,List.length_cons,List.length_nil,Nat.zero_add,List.set_cons_zero,List.set_cons_succ,List.getD_cons_zero,List.getD_cons_succ,<- hput]
    repeat refine ai ?_
    refine zgB ?_;simp only[go_sem,dn,hsl]
    repeat refine ai ?_
    refine zr [] mixed ?_;simp only[go_sem,hsl,hbv,hvs,hcl,hcell,hfind2,<- hdel,List.set_set,List.length_map,List.append_assoc,List.cons_append,List.nil_append,List.length_append,List.length_cons,List.length_nil,Nat.zero_add,List.set_cons_zero,List.set_cons_succ,List.getD_cons_zero,List.getD_cons_succ]
    repeat refine ai ?_
    refine zgB ?_;simp only[go_sem]
    repeat refine ai ?_
    rw[ic k];refine ainv hf (Shift.weakS ?_ rfl);simp only[go_sem]
  .have dn:(tn==0)=false:=by simpa using gn
   unfold AnX at hf;rw[if_neg gn]at hf;simp only at hf hput
   cases ht:tix (⟨ek,en⟩:El) es with
   | none =>
    rw[ht]at hfind hput;simp only at hfind hput;refine zgB ?_;simp only[go_sem,dk,p3,m0,hpo,gt_at,gt_at0,st_at,st_at0,List.length_map,List.append_assoc,List.cons_append,List.nil_append,List.length_append,List.length_cons,List.length_nil,Nat.zero_add,List.set_cons_zero,List.set_cons_succ,List.getD_cons_zero,List.getD_cons_succ]
    repeat refine ai ?_
    refine zr [] mixed ?_;simp only[go_sem,hbo,hvo,hcl,hcell,hfind,gt_at,gt_at0,st_at,st_at0,List.length_map,List.append_assoc,List.cons_append,List.nil_append,List.length_append,List.length_cons,List.length_nil,Nat.zero_add,List.set_cons_zero,List.set_cons_succ,List.getD_cons_zero,List.getD_cons_succ,<- hput]
    repeat refine ai ?_
    refine zgB ?_;simp only[go_sem,dn,hsl]
    repeat refine ai ?_
    rw[ic k];refine ainv hf (Shift.weakS ?_ rfl);simp only[go_sem]
   | some i1 =>
    rw[ht]at hfind hput;simp only at hfind hput;refine zgB ?_;simp only[go_sem,dk,p3,m0,hpo,gt_at,gt_at0,st_at,st_at0,List.length_map,List.append_assoc,List.cons_append,List.nil_append,List.length_append,List.length_cons,List.length_nil,Nat.zero_add,List.set_cons_zero,List.set_cons_succ,List.getD_cons_zero,List.getD_cons_succ]
    repeat refine ai ?_
    refine zr [] mixed ?_;simp only[go_sem,hbo,hvo,hcl,hcell,hfind,gt_at,gt_at0,st_at,st_at0,List.length_map,List.append_assoc,List.cons_append,List.nil_append,List.length_append,List.length_cons,List.length_nil,Nat.zero_add,List.set_cons_zero,List.set_cons_succ,List.getD_cons_zero,List.getD_cons_succ,<- hput]
    repeat refine ai ?_
    refine zgB ?_;simp only[go_sem,dn,hsl]
    repeat refine ai ?_
    rw[ic k];refine ainv hf (Shift.weakS ?_ rfl);simp only[go_sem]
 have dk:decide ((k:Int)<(ts.length:Int))=false:=by simp; omega
 have hke:k=ts.length:=by omega
 subst hke;clear hJ kp hpid hpb;have hAt:=fun i=>(hA ts.length).at' i
 have hAl:=fun i=>AyG (hAlen ts.length) i
 generalize hN:needA x rs ts ts.length=N at *;refine zgB ?_;simp only[go_sem,dk,List.length_map];have hend:(T++[Blk.arr 2 []])[T.length]? = some (.arr 2 []):=by simp
 have k4:=k3.more (y:=.arr 2 []) (fun m=>rfl);have hTl:=k3.ext.len;clear k3;refine AaC (ι:=Nat×List Blk×List Shr) (fun z=>x.scenes.length-z.1)
  (fun z=>[(149,.int .i64 z.1),(148,.int .i64 x.scenes.length),(147,.fz 5 (x.scenes.map scA)),(24,.sl T.length 0 z.2.2.length z.2.2.length),(11,.sl b 0 x.scenes.length x.scenes.length),(8,.fz 6 (MM.map mnA)),(3,.pin 2 [.agg [.str x.title,.fz 5 (x.scenes.map scA)]] 0 0),(2,.fz 4 (ts.map tgA)),(1,.fz 5 (rs.map ruA))])
  (fun z=>z.2.1) (fun z=>z.1<=x.scenes.length/\z.2.2.length=z.1/\NI T0 z.2.1 b x.scenes.length ids N/\OI T0 z.2.1 T.length z.2.2/\∀ i (h:i<x.scenes.length) (h2:i<z.2.2.length),z.2.2[i].no=x.scenes[i].no/\ArX (N.getD i []) z.2.2[i].l/\z.2.2[i].l.length<=12) (0,T++[.arr 2 []],[]) ⟨Nat.zero_le _,rfl,k4,⟨hend,hTl,by simp⟩,by simp⟩ ?_ ?_
 .refine Shift.trans (Shift.nilsl 24 2 rfl) (Shift.weakS ?_ rfl)
  simp only[go_sem,List.length_map]
  try rfl
 clear k4 hend;generalize T.length=o at *;rintro⟨i,T,R⟩ ⟨g1,g2,g3,g4,g5⟩ J hJ;simp only at g1 g2 g3 g4 g5 hJ |-
 by_cases gi:i<x.scenes.length
 rotate_left
 .have di:decide ((i:Int)<(x.scenes.length:Int))=false:=by simp; omega
  have hie:i=x.scenes.length:=by omega
  subst hie;clear hJ;refine zgB ?_;simp only[go_sem,di];exact aret [6,7] rfl (.inr ⟨hmn,htg,o,R,rfl,g4,g3.ext,g2,by rw[hN]; exact g5⟩)
 have di:decide ((i:Int)<(x.scenes.length:Int))=true:=by simp; omega
 have p2:=AdL x.scenes i gi;have hfin:=fun T' R' a c d e=>hJ (i+1,T',R') ⟨gi,a,c,d,e⟩ (by simp only; omega)
 simp only at hfin;clear hJ;obtain⟨y,hy⟩:∃ y,y=x.scenes[i]:=⟨_,rfl⟩;rw[<- hy]at p2;have hid:ids[i]? = some ids[i]:=List.getElem?_eq_getElem (by omega);have hcell:=AiM (n:=x.scenes.length) (show i<ids.length by omega);generalize ids[i]=v at *;obtain⟨hu,hkeys⟩:=hAt i;have h12:=BkA hu hkeys;obtain⟨es,hes⟩:∃ es,es=N.getD i []:=⟨_,rfl⟩;have h13:=hAl i;rw[<- hes]at hu h12 h13;have g6:=g3.more (y:=.arr 5 [scA y]) (fun m=>AaD (by simp[flat,cellsOf,scA,Av.frozen]));have g7:=g4.app [.arr 5 [scA y]];have gy:(T++[Blk.arr 5 [scA y]])[T.length]? = some (.arr 5 [scA y]):=by simp
 have l1:=g6.maps _ _ hid;rw[<- hes]at l1;have hlv:=AyC es;have dl:decide (((lvs (ndM es)).length:Int)>400)=false:=by
  rw[hlv]
  simp
  omega
 have hbo:=AeU g6.arr;have hvo:=AeU l1;have hcl:=AeK g6.few;simp only[scA]at g6 g7 gy hbo hvo l1;refine zgB ?_;simp only[go_sem,di,p2,hbo,hvo,hcl,hcell,dl,gt_at,gt_at0,st_at,st_at0,List.length_map,List.append_assoc,List.cons_append,List.nil_append,List.length_append,List.length_cons,List.length_nil,Nat.zero_add,List.set_cons_zero,List.set_cons_succ,List.getD_cons_zero,List.getD_cons_succ]
 repeat refine ai ?_
 generalize T++[Blk.arr 5 [.agg [.str y.no,.int .i64 y.place,.str y.set,.int .i64 y.time,.fz 2 (y.paras.map paA)]]]=T1 at *;generalize T.length=yp at *;clear g3 g4 hbo hvo;refine za (AyE v T1) ?_;rintro _ _ ⟨rfl,rfl⟩;have hw:(T1++[Blk.arr 1 [.mp v]]).all (lowB (T1++[Blk.arr 1 [.mp v]]).length)=true:=A1D g6.low (by
  have:=AeV l1;simp only[lowB,flat,cellsOf,List.append_nil,List.all_cons,List.all_nil,Bool.and_true,lowC,decide_eq_true_eq];omega)
 have hsf:=AoJ (S:=S) es hu (by omega) (by omega) (T1++[Blk.arr 1 [.mp v]]) T1.length v (by simp) (AbU l1 _) hw;have g8:=g6.app (U:=[Blk.arr 1 [.mp v]]) (by
  have:=AeV l1;simp only[lowB,flat,cellsOf,List.append_nil,List.all_cons,List.all_nil,Bool.and_true,lowC,decide_eq_true_eq,List.length_cons,List.length_nil];omega)
 have g9:=g7.app [Blk.arr 1 [.mp v]];have gz:=AbU gy [Blk.arr 1 [.mp v]];generalize T1++[Blk.arr 1 [.mp v]]=W at *;refine zgB ?_;simp only[go_sem];refine zaH hg (hsf) ?_;rintro _ _ ⟨l,hl1,hl2,rfl,rfl⟩;have hWq:(apT W (l.map ndA))[W.length+1]? = some (.arr 4 (l.map ndA)):=by
  unfold apT;rw[List.getElem?_append_right (by omega),Nat.add_sub_cancel_left];rfl
 have g10:NI T0 (apT W (l.map ndA)) b x.scenes.length ids N:=g8.app (U:=[_,_]) (by
  have h:=ArZ hw l;unfold apT at h;rw[List.all_append,Bool.and_eq_true]at h;exact h.2)
 have g11:OI T0 (apT W (l.map ndA)) o R:=g9.app _;have gx:(apT W (l.map ndA))[yp]? = _:=AbU gz _;have hq0:T0.length<=W.length+1:=by have:=g8.ext.len; omega
 clear g6 g7 g8 g9 gy gz hsf hw;generalize apT W (l.map ndA)=T2 at *;generalize W.length+1=qi at *;have g12:=g11.app [.arr 2 [shRow ⟨y.no,l,qi⟩]];have g13:=g12.push (q:=⟨y.no,l,qi⟩) hq0 (AbU hWq _);have hlt:∀ p∈R++[(⟨y.no,l,qi⟩:Shr)],Shr.id p<(T2++[Blk.arr 2 [shRow ⟨y.no,l,qi⟩]]).length:=fun p hp=>by
  rcases List.mem_append.1 hp with hp|hp
  .exact AeV (g12.rows p hp).2
  .rw [List.mem_singleton.1 hp]
   exact AeV (AbU hWq [Blk.arr 2 [shRow ⟨y.no,l,qi⟩]])
 have g14:=(g10.app (U:=[.arr 2 [shRow ⟨y.no,l,qi⟩]]) (by
  have h:=AsB (R:=[(⟨y.no,l,qi⟩:Shr)]) (m:=T2.length+1) (fun p hp=>by
   rw[List.mem_singleton.1 hp];have:=AeV hWq;simp only;omega)
  simp only[List.all_cons,List.all_nil,Bool.and_true,List.length_cons,List.length_nil];exact h)).other g12.out (by decide) g12.new (l':=(R++[(⟨y.no,l,qi⟩:Shr)]).map shRow) (AsB hlt)
 rw[List.map_append,List.map_cons,List.map_nil]at g14;have hf:=hfin _ (R++[(⟨y.no,l,qi⟩:Shr)]) (by simp[g2]) g14 g13 (fun j hj h2=>by
  by_cases hji:j<R.length
  .rw [List.getElem_append_left hji]
   exact g5 j hj hji
  .have hje:j=i:=by simp at h2; omega
   subst hje;rw[List.getElem_append_right (by omega)];simp only[g2,Nat.sub_self,List.getElem_cons_zero];rw[<- hy,<- hes];exact⟨rfl,hl1,hl2⟩)
 clear hfin g13 g14 g5;have hbo:=fun U=>AdQ g11.out U
 have hxo:=AeU gx;have hxo2:=fun U=>AdQ gx U
 simp only[shRow,List.length_append,List.length_cons,List.length_nil,Nat.zero_add]at hf;refine zgN ?_;simp only[go_sem,hbo,hxo,hxo2,gt_at,gt_at0,st_at,st_at0,List.length_map,List.append_assoc,List.cons_append,List.nil_append,List.length_append,List.length_cons,List.length_nil,Nat.zero_add,List.set_cons_zero,List.set_cons_succ,List.getD_cons_zero,List.getD_cons_succ]
 repeat refine ai ?_
 rw[ic i];refine ainv hf (Shift.weakS ?_ rfl);simp only[go_sem]
theorem AkG(p:Fa->Bool):∀ l:List Fa,(l.filter p).length+(l.filter fun x=>!p x).length=l.length
 | []=>rfl
 | a::l=>by
  have ih:=AkG p l
  cases h:p a <;> simp[h] <;> omega
theorem AiN(kf:Fa->Nat):∀ (ord:List Nat)(fs:List Fa),ord.Nodup->(ord.flatMap (factsAt kf fs)).length<=fs.length
 | [],fs,_=>by simp
 | i::r,fs,hn=>by
  rw[List.nodup_cons]at hn;have ih:=AiN kf r (fs.filter fun f=>!(kf f==i)) hn.2;have e:r.flatMap (factsAt kf fs)=r.flatMap (factsAt kf (fs.filter fun f=>!(kf f==i))):=by
   have:∀ k∈r,factsAt kf fs k=factsAt kf (fs.filter fun f=>!(kf f==i)) k:=fun k hk=>by
    unfold factsAt;rw[List.filter_filter];refine List.filter_congr fun f _=>?_
    by_cases h:kf f=k
    .have hne:kf f≠i:=fun h2=>hn.1 (by rw[<- h2,h]; exact hk)
     simp[h]
     intro h3;exact hne (h.trans h3)
    .have:(kf f==k)=false:=by simpa using h
     simp[this]
   clear ih hn
   induction r with
   | nil=>rfl
   | cons a r ih =>
    rw[List.flatMap_cons,List.flatMap_cons,this a (by simp),ih fun k hk=>this k (by simp[hk])]
  have h2:(factsAt kf fs i).length+(fs.filter fun f=>!(kf f==i)).length=fs.length:=by
   exact AkG (fun f=>kf f==i) fs
  rw[List.flatMap_cons,List.length_append,e];omega
theorem A1N(kf:Fa->Nat)(fs:List Fa)(ord:List Nat)(hn:ord.Nodup)(j:Nat):(esAt kf fs ord j).length<=fs.length:=by
 refine Nat.le_trans (BcW _) ?_;exact AiN kf _ fs (hn.sublist (List.take_sublist _ _))
theorem BaI(kf:Fa->Nat)(fs:List Fa)(ord:List Nat)(j:Nat):AbX (esAt kf fs ord j):=AmV _
theorem BaJ(b0 b1 b2 b3 B:Blk)(hlow:∀ b∈[b0,b1,b2,b3,B],lowB 8 b=true)(n i:Nat)(es:LMap)(hu:AbX es)(hl:es.length<=12) :
  Ct prog 66 [.int .i64 i,.mp 7,.ptr 4 1 0 0,.ptr 5 1 0 0] [b0,b1,b2,b3,.arr 1 [.int .i64 n],.arr 1 [.raw (.slice none 0 0)],B,.mp (lkM es)]
   (fun r s=>(i≠n/\r=.bool true/\s=[b0,b1,b2,b3,.arr 1 [.int .i64 n],.arr 1 [.raw (.slice none 0 0)],B,.mp (lkM es)]) \/
    (i=n/\r=.bool false/\∃ l seen,AdZ es l/\s=[b0,b1,b2,b3,.arr 1 [.int .i64 n],.arr 1 [.sl 9 0 l.length l.length],B,.mp (lkM es),.it 7 es.length seen,.arr 4 (l.map lookA)])):=by
 simp only[List.mem_cons,List.not_mem_nil,or_false,forall_eq_or_imp,forall_eq]at hlow;obtain⟨l0,l1,l2,l3,l4⟩:=hlow;have hs:=A9S es hu hl [b0,b1,b2,b3,.arr 1 [.int .i64 n],.arr 1 [.raw (.slice none 0 0)],B,.mp (lkM es)] 7 rfl (by
  simp only[List.all_cons,List.all_nil,List.length_cons,List.length_nil,Nat.zero_add,Nat.reduceAdd,l0,l1,l2,l3,l4,low_lkM,Bool.and_true,Bool.true_and];rfl)
 by_cases hin:i=n
 .subst hin
  have d1:((i:Int)==(i:Int))=true:=by simp
  have d2:((i:Int) != (i:Int))=false:=by simp
  refine zcIB func66 rfl fun h ρ w=>?_
  simp only[go_sem,d1,d2]
  repeat refine aj ?_
  refine za (hs) ?_;rintro _ _ ⟨l,seen,h1,rfl,rfl⟩;refine zgB ?_;simp only[go_sem,d1,d2]
  repeat refine aqn ?_
  exact aret [6] rfl (by first|exact .inr ⟨rfl,rfl,l,seen,h1,rfl⟩|exact⟨rfl,l,seen,h1,rfl⟩|exact .inr ⟨rfl,l,seen,h1,rfl⟩)
 .have d1:((i:Int)==(n:Int))=false:=by simp; omega
  have d2:((i:Int) != (n:Int))=true:=by simp; omega
  refine zcIB func66 rfl fun h ρ w=>?_
  simp only[go_sem,d1,d2]
  repeat refine aj ?_
  exact aret [6] rfl (.inl ⟨hin,rfl,rfl⟩)
theorem AvH(σ:List Nat):∀ l:List Lk,(l.map lookA).map (renC σ)=l.map lookA
 | []=>rfl
 | a::l=>by
  rw[List.map_cons,List.map_cons,AvH σ l];rfl
def looksAt(x:Sr)(js:List Jm)(fs:List Fa)(n:Nat):LMap:=esAt (kfN x) fs (ordL x js) ((ordL x js).idxOf n+1)
theorem BaK{S:Std}(hS:LibOk S)(x:Sr)(hx:StoryOk x)(js:List Jm)(hj:JumpsOk x js)(fs:List Fa)(hf:FactsOk x fs)(n:Nat)(hn:n<x.scenes.length) :
  CtH prog S 21 [srA x,.fz 4 (js.map jmA),.fz 5 (fs.map faA),.str x.scenes[n].no] [] (fun r s=>∃ l,AdZ (looksAt x js fs n) l/\r=.tup [.sl 0 0 l.length l.length,.int .i64 0]/\s=[.arr 4 (l.map lookA)]):=by
 have hlen:=hx.len;have hfl:=hf.len;have hperm:=AnP hx hj;have hnd:(ordL x js).Nodup:=hperm.symm.nodup List.nodup_range;have hol:(ordL x js).length=x.scenes.length:=by rw[hperm.length_eq,List.length_range]
 have hno:n∈ordL x js:=hperm.mem_iff.2 (List.mem_range.2 hn);have hm:=AnL hx hn rfl;have h1:=A3K hS x hx js hj fs hf;simp only[srA]at h1 |-;refine zdIB func21 rfl fun h ρ w hg=>?_
 simp only[go_sem]
 repeat refine ak ?_
 refine zaH hg (h1) ?_;rintro _ _ ⟨gs,TG,rfl,rfl,hG⟩;simp only[A9K];refine zgB ?_;simp only[go_sem,hm]
 repeat refine ak ?_
 have hE:=BeQ (S:=S) (kfN x) fs (by omega) (ordL x js) (by omega) gs TG hG 1 2 6 (by omega) (by omega) 66 [.ptr 4 1 0 0,.ptr 5 1 0 0] rfl
  (fun j T R=>T=[.arr 3 [.agg [.fz 1 ((ordL x js).map inA),.mp 1,.mp 2]],.mp (scMF 0 x.scenes),.mp (gfF gs),.arr 3 [.agg [.fz 1 ((ordL x js).map inA),.mp 1,.mp 2]],.arr 1 [.int .i64 n],.arr 1 [.raw (.slice none 0 0)]]/\R=[]/\n ∉ (ordL x js).take j)
  (fun T R=>∃ l seen,AdZ (looksAt x js fs n) l/\T=[.arr 3 [.agg [.fz 1 ((ordL x js).map inA),.mp 1,.mp 2]],.mp (scMF 0 x.scenes),.mp (gfF gs),.arr 3 [.agg [.fz 1 ((ordL x js).map inA),.mp 1,.mp 2]],.arr 1 [.int .i64 n],.arr 1 [.sl 9 0 l.length l.length]]/\R=[.it 7 (looksAt x js fs n).length seen,.arr 4 (l.map lookA)])
  (by
   rintro j _ _ ⟨rfl,rfl,_⟩;refine⟨rfl,rfl,?_,rfl⟩;simp only[List.all_cons,List.all_nil,low_scM,low_gfF,Bool.and_true,Bool.true_and];rfl)
  (by
   rintro j hjl _ _ ⟨rfl,rfl,hnj⟩;have hl1:=BaJ (.arr 3 [.agg [.fz 1 ((ordL x js).map inA),.mp 1,.mp 2]]) (.mp (scMF 0 x.scenes)) (.mp (gfF gs)) (.arr 3 [.agg [.fz 1 ((ordL x js).map inA),.mp 1,.mp 2]]) (B0 (ordL x js) 1 2) (by
    simp only[List.mem_cons,List.not_mem_nil,or_false,forall_eq_or_imp,forall_eq,low_scM,low_gfF,true_and];exact⟨rfl,rfl,rfl⟩) n ((ordL x js)[j]) (esAt (kfN x) fs (ordL x js) (j+1)) (BaI _ _ _ _) (Nat.le_trans (A1N _ _ _ hnd _) (by omega))
   refine CtH.imp (hl1.toH (g:=S)) ?_;rintro r s (⟨q1,rfl,rfl⟩|⟨q1,rfl,l,seen,q2,rfl⟩)
   .refine ⟨_,[],rfl,.inl ⟨rfl,rfl,rfl,?_⟩⟩
    rw[List.take_succ_eq_append_getElem hjl,List.mem_append,List.mem_singleton];rintro(q|q)
    .exact hnj q
    .exact q1 q.symm
   .have hix:(ordL x js).idxOf n=j:=by rw[<- q1]; exact hnd.idxOf_getElem j hjl
    have hla:looksAt x js fs n=esAt (kfN x) fs (ordL x js) (j+1):=by unfold looksAt; rw[hix]
    exact⟨_,_,rfl,.inr ⟨rfl,l,seen,by rw[hla]; exact q2,rfl,by rw[hla]⟩⟩)
  _ ⟨rfl,rfl,by simp⟩
 refine zaH hg (hE) ?_;rintro _ _ ⟨rfl,T,R,es,rfl,(⟨_,_,hT⟩|⟨l,seen,hl,rfl,rfl⟩)⟩
 .rw [List.take_of_length_le (Nat.le_refl _)]at hT
  exact absurd hno hT
 simp only[List.cons_append,List.nil_append];refine zgB ?_;simp only[go_sem];refine ARet.shift (Shift.ren [9] rfl) (aret [8,9] rfl ⟨l,hl,rfl,?_⟩)
 show[Blk.arr 4 ((l.map lookA).map (renC [9]))]=_
 rw[AvH]
