/- Draws: a board. -/
import Derived.Test.YtooohdocabpblaaGreatDoorV25
set_option maxRecDepth 100000
set_option maxHeartbeats 4000000
set_option linter.all false
namespace Go.Proofs.YtooohdocabpblaaGreatDoor
open Av RowKit Proofs.Tryz
structure BoardOk(p:Plan)(l:List BDay):Prop where
 few:l.length<=10
 days:∀ d∈l,0<=d.day/\d.day<=100/\d.Lb≠[]/\d.Lb.length<=9
 ord:l.Pairwise fun a b=>a.day<b.day
 Lb:(l.flatMap (·.Lb)).Nodup/\∀ x∈l.flatMap (·.Lb),x∈p.strips.map (·.scene)
theorem ArB{c:Cx}{e e':Env}{s:LB}(U V:LB)(hs:s=U++V)(hc:c.sto.length<=U.length)(hU:U.all (lowB U.length)=true)(hw:wkl U.length e e'):Shift c e s e' U:=by
 subst hs;have:=AeG (c:=c) (e:=e) (e':=e') [] U V rfl (by simpa using hc) rfl (by simpa using hU) (by simpa using hw)
 simpa using this
theorem AmR(id e:Nat)(L:LA)(l:List BDay):(l.map bdayA).map (frzC id e L)=l.map bdayA:=List.map_map.trans (lbl fun _ _=>rfl)
theorem AmS(id e:Nat)(L:LA)(l:List LU):(l.map AV.str).map (frzC id e L)=l.map AV.str:=List.map_map.trans (lbl fun _ _=>rfl)
theorem lowS'(L:List Int)(k:Int)(n:Nat):lowB n (.arr 2 [str L k])=true:=rfl
def sN(p:Plan)(j:Nat):LU:=(p.strips.map (·.scene)).getD j []
def AkZ(L:List Int)(k:Int)(days:List BDay)(sc:List LU):LB :=
 [.arr 2 [str L k],.arr 1 [.agg [.raw (.slice none 0 0)]],.arr 1 [.agg [.sl 4 0 days.length days.length]],.arr 2 [.agg [kI 0,.sl 5 0 sc.length sc.length]],.arr 2 (days.map bdayA),.arr 1 (sc.map .str)]
structure Going(p:Plan)(o:List Nat)(i:Nat)(dy:Int)(days:List BDay)(sc:List LU):Prop where
 day:0<=dy/\dy<=4+7*(days.length:Int)
 few:days.length+sc.length<=i
 each:∀ d∈days,0<=d.day/\d.day<dy/\d.Lb≠[]
 ord:days.Pairwise fun a b=>a.day<b.day
 flat:∃ q:List Nat,q.Sublist (o.take i)/\days.flatMap (·.Lb)++sc=q.map (sN p)
theorem Going.skip{p:Plan}{o:List Nat}{i:Nat}{dy:Int}{days:List BDay}{sc:List LU}(h:Going p o i dy days sc):Going p o (i+1) dy days sc:=by
 obtain⟨q,q1,q2⟩:=h.flat;exact⟨h.day,by have:=h.few; omega,h.each,h.ord,q,q1.trans (List.take_sublist_take_left (by omega)),q2⟩
theorem Going.scene{p:Plan}{o:List Nat}{i:Nat}{dy:Int}{days:List BDay}{sc:List LU}(h:Going p o i dy days sc)(hi:i<o.length):Going p o (i+1) dy days (sc++[sN p o[i]]):=by
 obtain⟨q,q1,q2⟩:=h.flat;refine⟨h.day,by have:=h.few; simp; omega,h.each,h.ord,q++[o[i]],?_,?_⟩
 .rw [lag hi]
  exact q1.append (List.Sublist.refl _)
 .rw [<- lab,q2,lav]; rfl
theorem Going.close{p:Plan}{o:List Nat}{i:Nat}{dy v:Int}{days:List BDay}{sc:List LU}(h:Going p o i dy days sc)(hs:sc≠[])(h1:1<=v)(h2:v<=7):Going p o i (dy+v) (days++[⟨dy,sc⟩]) []:=by
 have hl:=List.length_pos_iff.2 hs;refine⟨⟨by have:=h.day; omega,by have:=h.day; simp; omega⟩,by have:=h.few; simp; omega,fun d hd=>?_,List.pairwise_append.2 ⟨h.ord,by simp,fun a ha b hb=>?_⟩,?_⟩
 .rcases List.mem_append.1 hd with hd|hd
  .have:=h.each d hd; exact⟨this.1,by omega,this.2.2⟩
  .rw [List.mem_singleton.1 hd]; exact⟨h.day.1,by simp only; omega,hs⟩
 .rw [List.mem_singleton.1 hb]; exact(h.each a ha).2.1
 .obtain ⟨q,q1,q2⟩:=h.flat
  exact⟨q,q1,by simpa using q2⟩
theorem AgY{α β:Type}{f:α->β}:∀ {l:List α},(∀ a∈l,∀ b∈l,f a=f b->a=b)->l.Nodup->(l.map f).Nodup
 | [],_,_=>.nil
 | x::l,h,hn=>by
  rw[List.nodup_cons]at hn;rw[lak,List.nodup_cons];refine⟨fun hm=>?_,AgY (fun a ha b hb=>h a (by simp[ha]) b (by simp[hb])) hn.2⟩;obtain⟨y,hy,he⟩:=List.mem_map.1 hm;have:=h y (by simp[hy]) x (by simp) he;subst this;exact hn.1 hy
theorem Going.ok{p:Plan}{o:List Nat}{i:Nat}{dy:Int}{days:List BDay}(h:Going p o i dy days [])(hp:p.strips.length<=9)(hn:(p.strips.map (·.scene)).Nodup)(ho:o.Perm (List.range p.strips.length))(hi:i<=9):BoardOk p days:=by
 obtain⟨q,q1,q2⟩:=h.flat;have hsub:q.Sublist o:=q1.trans (List.take_sublist _ _);have hqn:q.Nodup:=hsub.nodup (ho.nodup_iff.2 List.nodup_range);have hql:∀ j∈q,j<(p.strips.map (·.scene)).length:=fun j hj=>by
  have:=(ho.mem_iff).1 (hsub.subset hj)
  simpa using this
 have hinj:∀ a∈q,∀ b∈q,sN p a=sN p b->a=b:=fun a ha b hb hab=>by
  have h1:=hql a ha;have h2:=hql b hb;simp only[sN,lam,las h1,las h2,Option.getD_some]at hab
  rcases Nat.lt_trichotomy a b with hlt|he|hlt
  .exact absurd hab (List.pairwise_iff_getElem.1 hn a b h1 h2 hlt)
  .exact he
  .exact absurd hab.symm (List.pairwise_iff_getElem.1 hn b a h2 h1 hlt)
 rw[lbn]at q2;have hfew:=h.few;have hlen:(days.flatMap (·.Lb)).length<=9:=by
  rw[q2,laa];have:=q1.length_le;have:=List.length_take_le i o;omega
 refine⟨by simp at hfew; omega,fun d hd=>?_,h.ord,?_,?_⟩
 .have h1:=h.each d hd
  have hday:=h.day;refine⟨h1.1,by simp at hfew; omega,h1.2.2,?_⟩;have:d.Lb.length<=(days.flatMap (·.Lb)).length:=by
   obtain⟨l1,l2,rfl⟩:=List.append_of_mem hd;simp only[List.flatMap_append,List.flatMap_cons,lat];omega
  omega
 .rw [q2]
  exact AgY hinj hqn
 .rw [q2]
  intro x hx;obtain⟨j,hj,rfl⟩:=List.mem_map.1 hx;have h1:=hql j hj;simp only[sN,lam,las h1,Option.getD_some];exact lae h1
theorem A1B(L:List Int)(k:Int)(p:Plan)(h3:0<=k)(h4:k<=800000)(hp:p.strips.length<=9)(hn:(p.strips.map (·.scene)).Nodup) :
  Mc prog 6 2 (str L k) [.agg (planC p)] (fun r s=>∃ (l:List BDay) (k':Int),r=boardA l/\BoardOk p l/\s=str L k'/\k<=k'/\k'<=k+1000):=by
 simp only[planC];refine AcT func6 rfl ntmps6 hB6 (by simp) fun h ρ w=>goB rfl 5 ?_
 simp only[go_sem];apply zgF;simp only[go_sem];refine zm 0 (AaX L k 0 4 (by omega) (by omega) (by omega) (by omega) (by omega)) ?_;rintro _ _ ⟨⟨dy0,rfl,d1,d2⟩,rfl⟩;apply zgF;simp only[go_sem,laa];refine zm 0 (A1A L (k+1) p.strips.length (by omega) (by omega) (by omega)) ?_;rintro _ _ ⟨o,k1,rfl,ho,rfl,k11,k12⟩;have hol:o.length=p.strips.length:=by rw[ho.length_eq,List.length_range]
 apply zgF;simp only[go_sem,laa];refine AWp.shift (Shift.cells 2 2 [.agg [.sl 4 0 0 0]] rfl rfl (by simp[cellsOf]) ⟨.sl,trivial⟩) ?_;refine AWp.shift (Shift.cells 3 1 [.agg [kI 0,.sl 5 0 0 0]] rfl rfl (by simp[cellsOf]) ⟨.refl,.sl,trivial⟩) ?_;rw[hol];refine AbA (ι:=Nat×Int×Int×List BDay×List LU) (κ:=Int×Int×List BDay×List LU) (fun x=>o.length-x.1)
  (fun x=>[(18,kI x.1),(17,kI p.strips.length),(16,.fz 1 (o.map inA)),(6,kI x.2.2.1),(7,.ptr 3 1 0 0),(3,.pin 14 [.agg (planC p)] 0 0),(5,.ptr 2 1 0 0),(4,.ptr 1 1 0 0),(0,.ptr 0 1 0 0)])
  (fun x=>AkZ L x.2.1 x.2.2.2.1 x.2.2.2.2)
  (fun x=>x.1<=o.length/\k1<=x.2.1/\x.2.1<=k1+4*x.1/\Going p o x.1 x.2.2.1 x.2.2.2.1 x.2.2.2.2)
  (fun x=>[(6,kI x.2.1),(7,.ptr 3 1 0 0),(3,.pin 14 [.agg (planC p)] 0 0),(5,.ptr 2 1 0 0),(4,.ptr 1 1 0 0),(0,.ptr 0 1 0 0)])
  (fun x=>AkZ L x.1 x.2.2.1 x.2.2.2)
  (fun x=>k1<=x.1/\x.1<=k1+40/\Going p o o.length x.2.1 x.2.2.1 x.2.2.2)
  (0,k1,dy0,[],[]) ⟨by simp,by simp,by simp,⟨by simp; omega,by simp,by simp,.nil,[],by simp,rfl⟩⟩ ?_ ?_ ?_
 .refine Lg ?_ rfl
  simp only[go_sem,planC]
  try rfl
 .rintro ⟨k2,dy,days,sc⟩ ⟨q1,q2,q3⟩
  simp only at q1 q2 q3 |-;have qd:=q3.day;have qf:=q3.few
  by_cases hsc:sc=[]
  .subst hsc
   have h1:decide ((([]:List LU).length:Int)>0)=false:=by simp
   simp only[AkZ];refine AWp.shift (Shift.frz 4 rfl (AlX days)) ?_;simp only[go_sem,↓AbK,↓AbW,↓AmR,↓AmS,frzE,frz,frz1,frzC,frzB,laa,lal,laf (show(days.map bdayA).length<=days.length by simp)];apply zgF;simp only[go_sem,h1,laa]
   repeat refine aqf ?_
   exact AlS [.cell 4 41] rfl [_] ⟨by simp only[go_sem,sideIs],trivial⟩ ⟨_,_,rfl,⟨days,k2,rfl,q3.ok hp hn ho (by omega),rfl,by omega,by omega⟩,rfl,rfl⟩
  .have hlp:=List.length_pos_iff.2 hsc
   have h1:decide ((sc.length:Int)>0)=true:=by simp; omega
   simp only[AkZ];refine AWp.shift (Shift.frz 5 rfl (AcU sc)) ?_;simp only[go_sem,↓AbK,↓AbW,↓AmR,↓AmS,frzE,frz,frz1,frzC,frzB,laa,lal,laf (show(sc.map AV.str).length<=sc.length by simp)];apply zgF;simp only[go_sem,h1,laa]
   repeat refine aqa ?_
   have e3:days.map bdayA++[.agg [kI dy,.fz 1 (sc.map .str)]]=(days++[(⟨dy,sc⟩:BDay)]).map bdayA:=by simp[bdayA]
   rw[e3,AhB days (⟨dy,sc⟩:BDay)];have q6:=q3.close hsc (v:=1) (by omega) (by omega);generalize days++[(⟨dy,sc⟩:BDay)]=days2 at q6 |-;refine ARet.shift (Shift.frz 4 rfl (AlX days2)) ?_;simp only[go_sem,↓AbK,↓AbW,↓AmR,↓AmS,frzE,frz,frz1,frzC,frzB,laa,lal,laf (show(days2.map bdayA).length<=days2.length by simp)];exact AlS [.cell 4 41] rfl [_] ⟨by simp only[go_sem,sideIs],trivial⟩ ⟨_,_,rfl,⟨days2,k2,rfl,q6.ok hp hn ho (by omega),rfl,by omega,by omega⟩,rfl,rfl⟩
 .rintro ⟨i,k2,dy,days,sc⟩ ⟨q1,q2,q3,q4⟩ J Q hJ hQ
  simp only at q1 q2 q3 q4 hJ hQ |-;have qd:=q4.day;have qf:=q4.few
  by_cases gi:i<o.length
  .have di:decide ((i:Int)<(p.strips.length:Int))=true:=by simp; omega
   have p1:=AmQ o i gi;have hoi:o[i]<p.strips.length:=by
    have:=(ho.mem_iff).1 (lae gi)
    simpa using this
   have hst:=AcH p.strips hoi;have hsN:p.strips[o[i]].scene=sN p o[i]:=by simp[sN,List.getD,hoi]
   apply zgF;simp only[AkZ];simp only[go_sem,di,p1,laa]
   repeat refine aqf ?_
   refine zm 0 (AdI L k2 7 (by omega) (by omega) (by omega) (by omega)) ?_;rintro _ _ ⟨⟨b,rfl⟩,rfl⟩
   cases b with
   | true =>
    apply zgF;simp only[go_sem]
    repeat refine aqf ?_
    refine ainv (hJ (i+1,k2+1,dy,days,sc) ⟨by simp only; omega,by simp only; omega,by simp only; omega,q4.skip⟩ (by simp only; omega)) (Lg ?_ rfl);simp only[go_sem,planC];rfl
   | false =>
    simp only[planC];apply zgF;simp only[go_sem];refine zr [] AaL ?_;simp only[go_sem,hst,stripA,hsN,laa]
    repeat refine aqa ?_
    have e3:sc.map AV.str++[.str (sN p o[i])]=(sc++[sN p o[i]]).map .str:=by simp
    rw[e3,AhB sc (sN p o[i])];have q5:=q4.scene gi;have hne2:sc++[sN p o[i]]≠[]:=by simp
    have hl2:(sc++[sN p o[i]]).length<=20:=by simp; omega
    generalize sc++[sN p o[i]]=sc2 at q5 hne2 hl2 |-;apply zgF;simp only[go_sem];refine zm 0 (AdI L (k2+1) 3 (by omega) (by omega) (by omega) (by omega)) ?_;rintro _ _ ⟨⟨b,rfl⟩,rfl⟩
    cases b with
    | true =>
     refine AWp.shift (Shift.frz 5 rfl (AcU sc2)) ?_;simp only[go_sem,↓AbK,↓AbW,↓AmR,↓AmS,frzE,frz,frz1,frzC,frzB,laa,lal,laf (show(sc2.map AV.str).length<=sc2.length by simp)];apply zgF;simp only[go_sem,laa]
     repeat refine aqa ?_
     refine zm 0 (AaM L (k2+1+1) [1,1,1,2,3,7] (by decide) (by decide) (by omega) (by omega)) ?_;rintro _ _ ⟨⟨v,hv,rfl⟩,rfl⟩;have pv:1<=v/\v<=7:=(show ∀ x∈[(1:Int),1,1,2,3,7],1<=x/\x<=7 by decide) v hv;have e4:days.map bdayA++[.agg [kI dy,.fz 1 (sc2.map .str)]]=(days++[(⟨dy,sc2⟩:BDay)]).map bdayA:=by simp[bdayA]
     apply zgF;simp only[go_sem]
     repeat refine aqf ?_
     rw[e4,AhB days (⟨dy,sc2⟩:BDay)];have q6:=q5.close hne2 pv.1 pv.2;generalize days++[(⟨dy,sc2⟩:BDay)]=days2 at q6 |-;refine ainv (hJ (i+1,k2+1+1+1,dy+v,days2,[]) ⟨by simp only; omega,by simp only; omega,by simp only; omega,q6⟩ (by simp only; omega))
      (Shift.trans (ArB (e':=[(18,kI (i+1:Nat)),(17,kI p.strips.length),(16,.fz 1 (o.map inA)),(6,kI (dy+v)),(7,.ptr 3 1 0 0),(3,.pin 14 [.agg (planC p)] 0 0),(5,.ptr 2 1 0 0),(4,.ptr 1 1 0 0),(0,.ptr 0 1 0 0)]) [.arr 2 [str L (k2+1+1+1)],.arr 1 [.agg [.raw (.slice none 0 0)]],.arr 1 [.agg [.sl 4 0 days2.length days2.length]],.arr 2 [.agg [kI 0,.raw (.slice none 0 0)]],.arr 2 (days2.map bdayA)] [.dead] rfl (by simp) (by
       simp only[lay,List.all_nil,lowS',show ∀ n,lowB n (.arr 2 (days2.map bdayA))=true from fun n=>AbV (AlX _),Bool.true_and,lbg];rfl) ?_) (Shift.trans (Shift.cells 3 1 [.agg [kI 0,.sl 5 0 0 0]] rfl rfl (by simp[cellsOf]) ⟨.refl,.sl,trivial⟩) (Lg ?_ rfl)))
     .simp only [go_sem,planC]
      rfl
     .simp only [go_sem,planC]
    | false =>
     apply zgF;simp only[go_sem]
     repeat refine aqf ?_
     refine ainv (hJ (i+1,k2+1+1,dy,days,sc2) ⟨by simp only; omega,by simp only; omega,by simp only; omega,q5⟩ (by simp only; omega)) (Lg ?_ rfl);simp only[go_sem,planC];rfl
  .have di:decide ((i:Int)<(p.strips.length:Int))=false:=by simp; omega
   have hie:i=o.length:=by omega
   subst hie;apply zgF;simp only[AkZ];simp only[go_sem,di];refine ainv (hQ (k2,dy,days,sc) ⟨by simp only; omega,by simp only; omega,q4⟩) (Lg ?_ rfl);simp only[go_sem]
theorem A1C(a b:Nat):∀ {l:List BDay},(∀ d∈l,d.Lb.length<=a)->l.length<=b->(l.flatMap (·.Lb)).length<=a*b:=by
 intro l hl hb;refine Nat.le_trans ?_ (Nat.mul_le_mul_left a hb);clear hb
 induction l with
 | nil=>simp
 | cons d l ih =>
  have h1:=hl d (by simp);have h2:=ih fun x hx=>hl x (by simp[hx])
  simp only[List.flatMap_cons,lat,lan,Nat.mul_succ];omega
theorem AdK{T:LB}{n m:Nat}(h:T.all (lowB n)=true)(hm:n<=m):T.all (lowB m)=true:=by
 rw[law]at h |-;exact fun x hx=>AsB hm (h x hx)
theorem AmT{S:Std}(l:List BDay)(hfew:l.length<=10)(hd:∀ d∈l,0<=d.day/\d.day<=100/\d.Lb≠[]/\d.Lb.length<=9)(ho:l.Pairwise fun a b=>a.day<b.day)(hn:(l.flatMap (·.Lb)).Nodup)
  (T0:LB) (hT:T0.all (lowB T0.length)=true) (f:FuncId) (caps:LA) (hcaps:caps.all (lowC T0.length)=true)
  (hcall:∀ x∈l.flatMap (·.Lb),∀ V,CtH prog S f ([.str x]++caps) (T0++V) (fun r s=>r=kI 0/\s=T0++V)) :
  CtH prog S 80 [boardA l,.fn (.func f) caps] T0 (fun r s=>r=kI 0/\∃ V,s=T0++V):=by
 have d1:decide ((l.length:Int)>150)=false:=by simp; omega
 simp only[boardA];refine zdIB func80 rfl fun h ρ w hg=>?_
 simp only[go_sem,d1,laa];refine AbP (ι:=Nat) (fun i=>l.length-i) (fun i=>[(19,kI i),(18,kI l.length),(17,.fz 2 (l.map bdayA)),(5,.mp T0.length),(2,.pin 1 [.agg [.fz 2 (l.map bdayA)]] 0 0),(1,.fn (.func f) caps)])
  (fun i=>T0++[.mp (boolM ((l.take i).flatMap (·.Lb)))]) (fun i=>i<=l.length) 0 (by simp) ?_ ?_
 .refine Lg ?_ rfl
  simp only[go_sem]
  try rfl
 intro i g1 J hJ
 by_cases hi:i<l.length
 .have di:decide ((i:Int)<(l.length:Int))=true:=by simp; omega
  have q1:=AbZ l hi;obtain⟨b1,b2,b3,b4⟩:=hd _ (lae hi);have hfin:=hJ (i+1) (by omega) (by omega);have htk:(l.take (i+1)).flatMap (·.Lb)=(l.take i).flatMap (·.Lb)++l[i].Lb:=by
   rw[lag hi,List.flatMap_append]; simp
  rw[htk]at hfin;have dz:((l[i].Lb.length:Int)==0)=false:=by
   have:=List.length_pos_iff.2 b3;exact beq_eq_false_iff_ne.2 (by omega)
  apply zgB;simp only[go_sem,di,q1,bdayA,strA,gt_at0,st_at0,gt_at,st_at,lab,laa]
  repeat refine aqf ?_
  refine zpB (AeR _ _ _ b1 (show l[i].day<=2000 by omega)) ?_;simp only[go_sem,gt_at0,gt_at];have hsub:∀ x∈l[i].Lb,x∈l.flatMap (·.Lb):=fun x hx=>List.mem_flatMap.2 ⟨_,lae hi,hx⟩
  have hnd:((l.take i).flatMap (·.Lb)++l[i].Lb).Nodup:=by
   rw[<- htk];refine hn.sublist ?_
   conv=>rhs; rw[<- List.take_append_drop (i+1) l,List.flatMap_append]
   exact List.sublist_append_left _ _
  have hpl:((l.take i).flatMap (·.Lb)).length<=90:=A1C 9 10 (fun d h=>(hd d (lbb h)).2.2.2) (by simp; omega)
  rcases Nat.eq_zero_or_pos i with h0|h0
  case' inl =>
   have hgt:decide ((i:Int)>0)=false:=by simp; omega
   refine zr [] AaL ?_;simp only[go_sem,hgt,gt_at0,st_at0,gt_at,st_at,lab,laa];apply zgB;simp only[go_sem,dz,gt_at0,st_at0,gt_at,st_at,lab,laa]
  case' inr =>
   have hgt:decide ((i:Int)>0)=true:=by simp; omega
   have p2:=AbZ l (show i-1<l.length by omega);have ho2:=List.pairwise_iff_getElem.1 ho (i-1) i (by omega) hi (by omega);have dl:decide (l[i].day<=(l[i-1]).day)=false:=by simp; omega
   have e1:(i:Int)-1=((i-1:Nat):Int):=by omega
   refine zr [] AaL ?_;simp only[go_sem,hgt,e1,p2,bdayA,strA,dl,gt_at0,st_at0,gt_at,st_at,lab,laa]
   repeat refine aqf ?_
   apply zgB;simp only[go_sem,dz,gt_at0,st_at0,gt_at,st_at,lab,laa]
  all_goals
   generalize (l.take i).flatMap (·.Lb)=pre at hfin hnd hpl |-;generalize l[i]=d at *;refine AbA (ι:=Nat) (κ:=Unit) (fun j=>d.Lb.length-j)
    (fun j=>[(52,kI j),(51,kI d.Lb.length),(50,.fz 1 (d.Lb.map .str)),(19,kI i),(18,kI l.length),(17,.fz 2 (l.map bdayA)),(5,.mp T0.length),(2,.pin 1 [.agg [.fz 2 (l.map bdayA)]] 0 0),(1,.fn (.func f) caps)])
    (fun j=>T0++[.mp (boolM (pre++d.Lb.take j)),.arr 2 [.agg [kI d.day,.fz 1 (d.Lb.map .str)]]]) (fun j=>j<=d.Lb.length)
    (fun _=>[(19,kI i),(18,kI l.length),(17,.fz 2 (l.map bdayA)),(5,.mp T0.length),(2,.pin 1 [.agg [.fz 2 (l.map bdayA)]] 0 0),(1,.fn (.func f) caps)]) (fun _=>T0++[.mp (boolM (pre++d.Lb))]) (fun _=>True) 0 (by simp) ?_ ?_ ?_
   .refine Lg ?_ (by simp)
    simp only[go_sem]
    try rfl
   .rintro ⟨⟩ -
    apply zgB;simp only[go_sem]
    repeat refine aqf ?_
    rw[ic i];refine ainv hfin (Lg ?_ rfl);simp only[go_sem]
    try rfl
   .intro j gj K Q hK hQ
    by_cases hj:j<d.Lb.length
    .have dj:decide ((j:Int)<(d.Lb.length:Int))=true:=by simp; omega
     have p3:=AdU d.Lb hj;have hx:=hcall _ (hsub _ (lae hj));have hnx:d.Lb[j] ∉ pre++d.Lb.take j:=by
      have h1:pre++d.Lb=(pre++d.Lb.take j)++d.Lb.drop j:=by rw[lab,List.take_append_drop]
      rw[h1,List.drop_eq_getElem_cons hj,List.nodup_append]at hnd;exact fun hm=>hnd.2.2 _ hm _ (List.Mem.head _) rfl
     have f1:=AcI _ 0 _ hnx;have hfj:=hK (j+1) (by omega) (by omega);simp only[lag hj,<- lab,AbQ]at hfj;have hlen:(boolM (pre++d.Lb.take j)).length<=1000:=by simp[boolM]; omega
     generalize boolM (pre++d.Lb.take j)=M at f1 hfj hlen |-;generalize d.Lb[j]=x at *;apply zgB;simp only[go_sem,dj,p3,gt_at0,st_at0,gt_at,st_at,lab,laa]
     repeat refine aqf ?_
     refine zaH hg (hx _) ?_;rintro _ _ ⟨rfl,rfl⟩;apply zgB;simp only[go_sem,f1,gt_at0,st_at0,gt_at,st_at,lab,laa]
     repeat refine aqf ?_
     rw[ic j];refine ainv hfj (Lg ?_ (by simp));simp only[go_sem]
     try rfl
    .have dj:decide ((j:Int)<(d.Lb.length:Int))=false:=by simp; omega
     have e2:d.Lb.take j=d.Lb:=laf (by omega);have hfj:=hQ () trivial;rw[e2];have lB:=AbC (T0.length+1) (pre++d.Lb);apply zgB;simp only[go_sem,dj];refine ainv hfj (AaC (T0++[.mp (boolM (pre++d.Lb))]) [_] (by simp; rfl) (by simp) (by
      rw[lat,lbd,List.length_singleton,lay,lB,AdK hT (by omega)]; rfl) ?_)
     simp only[go_sem];exact⟨by omega,AuE (by omega) hcaps⟩
 .have di:decide ((i:Int)<(l.length:Int))=false:=by simp; omega
  apply zgB;simp only[go_sem,di];exact aret [4] rfl ⟨rfl,_,rfl⟩
theorem AfD(k:LU):∀ (i n:Nat)(l:List Strip),k∈l.map (·.scene)->∃ j,mfind .string (.str k) (stripM i l) n=some (some (n+j,kI (i+j:Nat)))/\∃ h:j<l.length,(l[j]).scene=k
 | _,_,[],h=>by simp at h
 | i,n,x::l,h=>by
  by_cases h1:k=x.scene
  .subst h1
   exact⟨0,by simp[stripM,mfind,keyEq],by simp,rfl⟩
  .obtain ⟨j,hj,h2,h3⟩:=AfD k (i+1) (n+1) l (by simpa[h1]using h)
   have h4:(k==x.scene)=false:=by simpa using h1
   refine⟨j+1,?_,by simp; omega,by simpa using h3⟩;simp only[stripM,mfind,keyEq,h4];rw[hj,show n+1+j=n+(j+1) by omega,show i+1+j=i+(j+1) by omega]
theorem undD:prog.underlying 82=some (.pointer 145):=by kernel_rfl
theorem tsD:tsize prog 82=1:=by kernel_rfl
def dkT(p:Plan)(dr:List (AV×AV))(T:LB):LB:=.mp (stripM 0 p.strips)::.mp (siteM p.crew.sites)::.mp dr::deskB p p.strips.length::T
theorem A1D(p:Plan)(dr:List (AV×AV))(T V:LB)(x:LU)(hx:x∈p.strips.map (·.scene))(b:Nat)(hb:(dkT p dr T)[b]? = some (.arr 1 [.ptr 3 1 0 0])) :
  Ct prog 81 [.str x,.ptr b 1 0 0] (dkT p dr T++V) (fun r s=>r=kI 0/\s=dkT p dr T++V):=by
 obtain⟨j,f1,-⟩:=AfD x 0 0 _ hx;have hg:=AxE hb V;simp only[dkT,deskB,planC,lah,lax]at hg |-;refine zcIN func81 rfl fun h ρ w=>?_
 simp only[go_sem,undD,tsD,hg,f1];exact zt [3]
theorem AjW{S:Std}(p:Plan)(dr:List (AV×AV))(T:LB)(l:List BDay)(ok:BoardOk p l)(hlow:(dkT p dr T).all (lowB (dkT p dr T).length)=true) :
  CtH prog S 40 [.ptr 3 1 0 0,boardA l] (dkT p dr T) (fun r s=>r=kI 0/\∃ V,s=dkT p dr T++V):=by
 have hl0:4<=(dkT p dr T).length:=by simp[dkT]
 have hc:=AmT (S:=S) l ok.few (fun d hd=>ok.days d hd) ok.ord ok.Lb.1 (dkT p dr T++[.arr 1 [.ptr 3 1 0 0],.arr 1 [.agg [.fz 2 (l.map bdayA)]]]) (by
   rw[lbd,AdK hlow (by simp)];simp only[lay,List.all_nil,lowB,flat,cellsOf,lowC,Av.frozen,lbn,lat,lan,lbm,lbg,Bool.true_and,lar];omega) 81 [.ptr (dkT p dr T).length 1 0 0] (by
   simp only[lay,List.all_nil,lowC,lat,lan,lbm,lbg,lar];omega) (fun x hx V=>(A1D p dr (T++[.arr 1 [.ptr 3 1 0 0],.arr 1 [.agg [.fz 2 (l.map bdayA)]]]) V x (ok.Lb.2 x hx) (dkT p dr T).length (by
    show(dkT p dr T++_)[(dkT p dr T).length]? = _
    simp)).toH)
 simp only[boardA]at hc |-;generalize dkT p dr T=D at hc hl0 |-;refine zdIN func40 rfl fun h ρ w hg=>?_
 simp only[go_sem,undD,tsD,gt_at0,gt_at,lab,laa];refine zaH hg (hc) ?_;rintro _ _ ⟨rfl,V,rfl⟩;apply zgN;simp only[go_sem,lab];exact aret [4] rfl ⟨rfl,_,rfl⟩
theorem AlA:(AaW 3).all (fun l=>decide ((AdW l).Pairwise fun a b=>¬ (a.kind=b.kind/\a.name=b.name))&&decide ((AdW l).length<=3))=true:=by decide +kernel
theorem PlanOk.desk{p:Plan}(ok:PlanOk p):DeskOk p:=by
 obtain⟨nn,-⟩:=AcA ok.Lb (by decide);obtain⟨ns,-⟩:=AcA ok.crew.sites.2.2.1 (by decide);have hl:∀ s∈p.strips,(s.looks.Pairwise fun a b=>¬ (a.kind=b.kind/\a.name=b.name))/\s.looks.length<=3:=fun s hs=>by
  obtain⟨l0,h0,e⟩:=(ok.strips s hs).looks;have:=List.all_eq_true.1 AlA l0 h0;rw[lac,lar,lar]at this;rw[e]; exact this
 exact⟨by have:=ok.few; omega,by have:=ok.crew.sites.2.1; omega,nn,ns,fun s hs=>(hl s hs).1,fun s hs=>by have:=(hl s hs).2; omega⟩
def tailT(p:Plan):LB:=.arr 1 (rowL 7 p.strips.length)::.arr 1 (rowL 8 p.strips.length)::mapsT p.strips
theorem AsN(p:Plan):deskT p p.strips p.crew.sites=dkT p [] (tailT p):=rfl
theorem dk_len(p:Plan)(dr:List (AV×AV)):(dkT p dr (tailT p)).length=6+3*p.strips.length:=by
 simp[dkT,tailT,AfT]; omega
theorem AyB(p:Plan):∀ m,6+3*p.strips.length<=m->(dkT p [] (tailT p)).all (lowB m)=true:=fun m h=>by
 rw[<- AsN,deskT,lbd,AoR (AeI _ _ _) (AoQ _ _) h,AhN];rfl
theorem AsO{S:Std}(hS:LibOk S)(p:Plan)(ok:PlanOk p)(l:List BDay)(okb:BoardOk p l) :
  CtH prog S 21 [.agg (planC p),.fz 1 [boardA l]] [] (fun r s=>r=.tup [.ptr 3 1 0 0,kI 0]/\s=dkT p [] (tailT p)):=by
 have hch:=AjV hS p ok;have hnd:=AkU p ok.desk;have hl:=AyB p _ (lal _);have hlen:=dk_len p [];have hbf:=AjW (S:=S) p [] (tailT p++[.arr 1 [boardA l]]) l okb (by
  show(dkT p [] (tailT p)++[_]).all (lowB (dkT p [] (tailT p)++[_]).length)=true
  rw[lbd,lat,AyB p _ (by rw[dk_len]; omega)]
  simp[lowB,boardA,flat,cellsOf,lowC,Av.frozen])
 rw[AsN]at hnd;have e0:dkT p [] (tailT p++[.arr 1 [boardA l]])=dkT p [] (tailT p)++[.arr 1 [boardA l]]:=rfl;rw[e0]at hbf;simp only[planC,boardA]at hch hnd hbf |-;generalize dkT p [] (tailT p)=D at hnd hbf hl hlen |-;refine zdIB func21 rfl fun h ρ w hg=>?_
 simp only[go_sem];refine zqB hg (hch) ?_;simp only[go_sem];refine za (hnd) ?_;rintro _ _ ⟨rfl,hs2⟩;rw[hs2];apply zgB;simp only[go_sem];refine AbP (ι:=Nat) (fun i=>1-i) (fun i=>[(20,kI i),(19,kI 1),(18,.fz 1 [.agg [.fz 2 (l.map bdayA)]]),(7,.ptr 3 1 0 0)])
  (fun _=>D) (fun i=>i<=1) 0 (by simp) ?_ ?_
 .refine Lg ?_ rfl
  simp only[go_sem]
  try rfl
 intro i g1 J hJ
 by_cases hi:i<1
 .have h0:i=0:=by omega
  subst h0;have hfin:=hJ 1 (by omega) (by omega);apply zgB;simp only[go_sem,gt_at0,st_at0,gt_at,st_at,lab,laa];refine zaH hg (hbf) ?_;rintro _ _ ⟨rfl,V,hs3⟩;rw[hs3];apply zgB;simp only[go_sem]
  repeat refine aqf ?_
  refine ainv hfin (AaC D ([.arr 1 [.agg [.fz 2 (l.map bdayA)]]]++V) (by simp) (by simp) (by rw[hlen]; exact hl) ?_);simp only[go_sem];omega
 .have di:decide ((i:Int)<1)=false:=by simp; omega
  apply zgB;simp only[go_sem,di];exact zt [4,5]
end Go.Proofs.YtooohdocabpblaaGreatDoor
namespace Go.Av
open RowKit
variable [Tr]
theorem CtH.impG{P:Program}{g:Std}{f:FuncId}{args:LA}{s:LB}{p q:AV->LB->Prop}(h:CtH P g f args s p)(hpq:∀ r s',p r s'->q r s'):CtH P g f args s q :=
 ⟨h.1,fun hh ρ w vs hg m r=>(h.2 hh ρ w vs hg m r).mono fun en w' ⟨v,r,s1,h',ρ',e,hp,rest⟩=>⟨v,r,s1,h',ρ',e,hpq _ _ hp,rest⟩⟩
end Go.Av
namespace Go.Proofs.YtooohdocabpblaaGreatDoor
open Av RowKit Proofs.Tryz
theorem ApB{p:Plan}(hn:(p.strips.map (·.scene)).Nodup){st:Strip}(hs:st∈p.strips):∃ j,∃ h:j<p.strips.length,p.strips[j]=st/\mfind .string (.str st.scene) (stripM 0 p.strips) 0=some (some (j,kI j)):=by
 obtain⟨j,f1,hj,e⟩:=AfD st.scene 0 0 p.strips (List.mem_map.2 ⟨_,hs,rfl⟩);simp only[lbc]at f1;refine⟨j,hj,?_,f1⟩;obtain⟨q,hq,rfl⟩:=List.getElem_of_mem hs;have h1:(p.strips.map (·.scene))[j]'(by simpa using hj)=(p.strips.map (·.scene))[q]'(by simpa using hq):=by simpa using e
 have:j=q:=(List.getElem_inj hn).1 h1;subst this; rfl
theorem AgN{S:Std}(p:Plan)(dr:List (AV×AV))(T:LB)(hn:(p.strips.map (·.scene)).Nodup)(st:Strip)(hs:st∈p.strips)(hp:p.strips.length<=1000) :
  CtH prog S 41 [.ptr 3 1 0 0,.str st.scene] (dkT p dr T) (fun r s=>r=stripA st/\∃ V,s=dkT p dr T++V):=by
 obtain⟨j,hj,e,f1⟩:=ApB hn hs;have h1:=AcH p.strips hj;rw[e]at h1;simp only[dkT,deskB,planC,stripA,strA,lah,lax]at h1 |-;refine zdIN func41 rfl fun h ρ w hg=>?_
 simp only[go_sem];refine zr [] AaL ?_;simp only[go_sem,undD,tsD,f1,h1,laa]
 repeat refine aqf ?_
 simp only[go_sem,undD,tsD,f1,h1,gt_at0,st_at0,gt_at,st_at,lab,laa];apply zgN;simp only[go_sem];exact AlS [.cell 4 61] rfl [stripA st] ⟨by simp only[go_sem,sideIs,gt_at0,stripA,strA],trivial⟩ ⟨rfl,_,rfl⟩
abbrev Evs:=List (Int×LU)
def dsStep(k:LU)(acc:List Int)(e:Int×LU):List Int:=if e.2=k/\acc.getLast?≠some e.1 then acc++[e.1] else acc
def dsOf(ev:Evs)(k:LU):List Int:=ev.foldl (dsStep k) []
theorem dsOf_snoc(ev:Evs)(e:Int×LU)(k:LU):dsOf (ev++[e]) k=dsStep k (dsOf ev k) e:=by simp[dsOf]
theorem AsP(ev:Evs)(k:LU):(dsOf ev k).length<=ev.length:=by
 have h:∀ (ev:Evs) (acc:List Int),(ev.foldl (dsStep k) acc).length<=acc.length+ev.length:=by
  intro ev
  induction ev with
  | nil=>simp
  | cons e r ih =>
   intro acc;rw[List.foldl_cons];have h1:=ih (dsStep k acc e);have h2:(dsStep k acc e).length<=acc.length+1:=by unfold dsStep; split <;> simp
   simp only[lan];omega
 have:=h ev []
 simpa[dsOf]using this
structure Wg where
 key:LU
 at':Nat
 ds:List Int
def wM(n:Nat)(gs:List Wg):List (AV×AV):=gs.map fun g=>(.str g.key,.sl (n+(g.at'+1)) 0 g.ds.length g.ds.length)
abbrev iA(l:List Int):LA:=l.map fun v=>kI v
structure WkOk(ev:Evs)(gs:List Wg)(S:LB):Prop where
 blk:∀ g∈gs,S[g.at']? = some (.arr 1 (iA g.ds))
 ne:gs.Pairwise fun x y=>x.at'≠y.at'
 keys:(gs.map (·.key)).Nodup
 ds:∀ g∈gs,g.ds=dsOf ev g.key/\g.ds≠[]
 all:∀ k,dsOf ev k≠[]->k∈gs.map (·.key)
theorem WkOk.nil:WkOk [] [] []:=⟨by simp,.nil,.nil,by simp,by simp[dsOf]⟩
theorem WkOk.lt{ev:Evs}{gs:List Wg}{S:LB}(h:WkOk ev gs S){g:Wg}(hg:g∈gs):g.at'<S.length:=(List.getElem?_eq_some_iff.1 (h.blk g hg)).1
theorem WkOk.app{ev:Evs}{gs:List Wg}{S:LB}(h:WkOk ev gs S)(V:LB):WkOk ev gs (S++V) :=
 ⟨fun g hg=>by rw[lao (h.lt hg)]; exact h.blk g hg,h.ne,h.keys,h.ds,h.all⟩
theorem AyC(k:LU)(m:Nat):∀ (gs:List Wg)(n:Nat),(mfind .string (.str k) (wM m gs) n=some none/\k ∉ gs.map (·.key))\/∃ i g,mfind .string (.str k) (wM m gs) n=some (some (n+i,.sl (m+(g.at'+1)) 0 g.ds.length g.ds.length))/\gs[i]? = some g/\g.key=k
 | [],n=>.inl ⟨rfl,by simp⟩
 | g::r,n=>by
  simp only[wM,lak,mfind,keyEq]
  cases hb:k==g.key with
  | true =>
   refine .inr ⟨0,g,by simp,by simp,?_⟩;have:k=g.key:=by simpa using hb
   exact this.symm
  | false =>
   have hb':k≠g.key:=by simpa using hb
   rcases AyC k m r (n+1)with⟨h,h'⟩|⟨i,g',h1,h2,h3⟩
   .exact .inl ⟨h,by simp only[lbf,not_or]; exact⟨hb',h'⟩⟩
   .refine .inr ⟨i+1,g',?_,by simpa using h2,h3⟩
    simp only;rw[show n+(i+1)=n+1+i by omega];exact h1
theorem A5Z(m:Nat)(gs:List Wg)(k:LU)(a:Nat)(ds:List Int):wM m (gs++[⟨k,a,ds⟩])=wM m gs++[(.str k,.sl (m+(a+1)) 0 ds.length ds.length)]:=by simp[wM]
theorem A8Y(m:Nat)(gs:List Wg)(i:Nat)(g:Wg):wM m (gs.set i g)=(wM m gs).set i (.str g.key,.sl (m+(g.at'+1)) 0 g.ds.length g.ds.length):=by simp[wM,List.map_set]
theorem WkOk.skip{ev:Evs}{gs:List Wg}{S:LB}(h:WkOk ev gs S){g:Wg}(hg:g∈gs){d:Int}(hd:g.ds.getLast? = some d):WkOk (ev++[(d,g.key)]) gs S:=by
 have h1:=(h.ds g hg).1;have same:∀ k,dsOf (ev++[(d,g.key)]) k=dsOf ev k:=fun k=>by
  rw[dsOf_snoc,dsStep,if_neg];rintro⟨hk,h2⟩;simp only at hk h2;subst hk;exact h2 (by rw[<- h1,hd])
 exact⟨h.blk,h.ne,h.keys,fun x hx=>by rw[same]; exact h.ds x hx,fun k hk=>by rw[same]at hk; exact h.all k hk⟩
theorem WkOk.push{ev:Evs}{gs:List Wg}{S:LB}(h:WkOk ev gs S){k:LU}(hk:k ∉ gs.map (·.key))(d:Int):WkOk (ev++[(d,k)]) (gs++[⟨k,S.length,[d]⟩]) (S++[.arr 1 (iA [d])]):=by
 have h0:dsOf ev k=[]:=Classical.byContradiction fun hc=>hk (h.all k hc)
 have hs:∀ k',dsOf (ev++[(d,k)]) k'=if k=k' then[d] else dsOf ev k':=fun k'=>by
  rw[dsOf_snoc,dsStep]
  by_cases e:k=k'
  .subst e; simp[h0]
  .simp [e]
 refine⟨fun g hg=>?_,?_,?_,fun g hg=>?_,fun k' hk'=>?_⟩
 .rcases List.mem_append.1 hg with hg|hg
  .rw [lao (h.lt hg)]; exact h.blk g hg
  .rw [List.mem_singleton.1 hg]; simp
 .refine List.pairwise_append.2 ⟨h.ne,by simp,fun x hx y hy=>?_⟩
  rw[List.mem_singleton.1 hy];have:=h.lt hx;simp only; omega
 .rw [lav,List.nodup_append]
  exact⟨h.keys,by simp,fun a ha b hb=>by simp only[lak,List.map_nil,List.mem_singleton]at hb; subst hb; exact fun e=>hk (e▸ha)⟩
 .rcases List.mem_append.1 hg with hg|hg
  .have hne:k≠g.key:=fun e=>hk (e▸List.mem_map.2 ⟨g,hg,rfl⟩)
   rw[hs,if_neg hne];exact h.ds g hg
  .rw [List.mem_singleton.1 hg,hs,if_pos rfl]
   simp
 .rw [hs]at hk'
  rw[lav,List.mem_append]
  by_cases e:k=k'
  .exact .inr (by simp[e])
  .rw [if_neg e]at hk'
   exact .inl (h.all k' hk')
theorem WkOk.put{ev:Evs}{gs:List Wg}{S:LB}(h:WkOk ev gs S){i:Nat}{g:Wg}(hi:gs[i]? = some g){d:Int}(hd:g.ds.getLast?≠some d) :
  WkOk (ev++[(d,g.key)]) (gs.set i ⟨g.key,g.at',g.ds++[d]⟩) (S.set g.at' (.arr 1 (iA (g.ds++[d])))):=by
 have hgm:=laj hi;obtain⟨hil,hig⟩:=List.getElem?_eq_some_iff.1 hi;have h1:=(h.ds g hgm).1;have hs:∀ k',dsOf (ev++[(d,g.key)]) k'=if g.key=k' then g.ds++[d] else dsOf ev k':=fun k'=>by
  rw[dsOf_snoc,dsStep]
  by_cases e:g.key=k'
  .subst e; rw[<- h1]; simp[hd]
  .simp [e]
 have hkeys:(gs.set i ⟨g.key,g.at',g.ds++[d]⟩).map (·.key)=gs.map (·.key):=by
  rw[List.map_set];refine List.ext_getElem (by simp) fun n h2 h3=>?_
  rw[List.getElem_set]
  split
  .rename_i e; subst e; simp[hig]
  .rfl
 have hats:(gs.set i ⟨g.key,g.at',g.ds++[d]⟩).map (·.at')=gs.map (·.at'):=by
  rw[List.map_set];refine List.ext_getElem (by simp) fun n h2 h3=>?_
  rw[List.getElem_set]
  split
  .rename_i e; subst e; simp[hig]
  .rfl
 have hnd:(gs.map (·.at')).Nodup:=List.pairwise_map.2 h.ne;have hother:∀ x∈gs.set i ⟨g.key,g.at',g.ds++[d]⟩,x=⟨g.key,g.at',g.ds++[d]⟩\/(x∈gs/\x.at'≠g.at'/\x.key≠g.key):=fun x hx=>by
  obtain⟨n,hn,rfl⟩:=List.getElem_of_mem hx;rw[List.getElem_set]
  split
  .exact .inl rfl
  .rename_i e
   have hn':n<gs.length:=by simpa using hn
   refine .inr ⟨lae hn',fun e2=>e ?_,fun e2=>e ?_⟩
   .exact ((List.getElem_inj (i:=n) (j:=i) (h₀:=by simpa using hn') (h₁:=by simpa using hil) hnd).1 (by simpa[hig]using e2)).symm
   .exact ((List.getElem_inj (i:=n) (j:=i) (h₀:=by simpa using hn') (h₁:=by simpa using hil) h.keys).1 (by simpa[hig]using e2)).symm
 refine⟨fun x hx=>?_,?_,by rw[hkeys]; exact h.keys,fun x hx=>?_,fun k' hk'=>?_⟩
 .rcases hother x hx with rfl|⟨hx,h2,-⟩
  .rw [List.getElem?_set_self (h.lt hgm)]
  .rw [lba (Ne.symm h2)]; exact h.blk x hx
 .have:=hnd
  rw[<- hats]at this;exact List.pairwise_map.1 this
 .rcases hother x hx with rfl|⟨hx,-,h3⟩
  .rw [hs,if_pos rfl]; simp
  .rw [hs,if_neg (Ne.symm h3)]; exact h.ds x hx
 .rw [hkeys]
  rw[hs]at hk'
  by_cases e:g.key=k'
  .exact List.mem_map.2 ⟨g,hgm,e⟩
  .rw [if_neg e]at hk'
   exact h.all k' hk'
def wF(gs:List Wg):List (AV×AV):=gs.map fun g=>(.str g.key,.fz 1 (iA g.ds))
theorem A3C(n:Nat)(gs:List Wg):lowB n (.mp (wF gs))=true:=by simp[lowB,wF,lowV,lowC,Av.frozen]
theorem AyD:∀ l:List Int,(flat (iA l)).all Av.frozen=true
 | []=>rfl
 | a::l=>by
  have:=AyD l;simp only[iA,lak,flat,cellsOf,lah,lax,lay,Av.frozen,Bool.true_and]at this |-;exact this
theorem A6A(id:Nat)(L:LA)(l:List Int):(iA l).map (frzC id 1 L)=iA l:=List.map_map.trans (lbl fun _ _=>rfl)
theorem frzD{D:LB}(h:D.all (lowB D.length)=true){id:Nat}(hi:D.length<=id)(L:LA):D.map (frzB id 1 L)=D:=by
 have:∀ b∈D,frzB id 1 L b=b:=fun b hb=>AsD hi (List.all_eq_true.1 h b hb)
 clear h hi
 induction D with
 | nil=>rfl
 | cons a r ih=>rw[lak,this a (by simp),ih fun b hb=>this b (by simp[hb])]
theorem AyE{c:Cx}{D:LB}(hD:D.all (lowB D.length)=true)(hc:c.sto.length<=D.length+1)(E0:Env)(hE:∀ id l,D.length<=id->frzE id 1 l E0=E0)(hw:wkl (D.length+1) E0 E0) :
  ∀ (gs done:List Wg) (S:LB),(∀ g∈gs,S[g.at']? = some (.arr 1 (iA g.ds)))->gs.Pairwise (fun x y=>x.at'≠y.at') ->
  Shift c E0 (D++(.mp (wF done++wM D.length gs)::S)) E0 (D++[.mp (wF (done++gs))])
 | [],done,S,_,_=>by
  rw[show wM D.length []=[] from rfl,lbn,lbn];refine AaC (s:=D++(Blk.mp (wF done)::S)) (D++[.mp (wF done)]) S (by simp) (by simpa using hc) ?_ (by simpa using hw);rw[lat,lbd,AdK hD (by omega),lay,A3C];rfl
 | g::r,done,S,hb,hn=>by
  have hg:=hb g (by simp);rw[List.pairwise_cons]at hn;have hs:(D++(Blk.mp (wF done++wM D.length (g::r))::S)).getD (D.length+(g.at'+1)) .dead=.arr 1 (iA g.ds):=by
   rw[gt_at,List.getD_cons_succ,lam,hg]; rfl
  have sh:=Shift.frz (c:=c) (en:=E0) (D.length+(g.at'+1)) hs (AyD _);rw[hE _ _ (by omega)]at sh;have hr:∀ y∈r,y.at'≠g.at':=fun y hy=>Ne.symm (hn.1 y hy)
  have e1:((D++(Blk.mp (wF done++wM D.length (g::r))::S)).set (D.length+(g.at'+1)) .dead).map (frzB (D.length+(g.at'+1)) 1 (iA g.ds))=D++(.mp (wF (done++[g])++wM D.length r)::(S.set g.at' .dead).map (frzB (D.length+(g.at'+1)) 1 (iA g.ds))):=by
   rw[st_at,List.set_cons_succ,lav,frzD hD (by omega),lak]
   congr 2
   simp only[frzB,lav];have e2:wM D.length (g::r)=(.str g.key,.sl (D.length+(g.at'+1)) 0 g.ds.length g.ds.length)::wM D.length r:=rfl;have e3:wF (done++[g])=wF done++[(.str g.key,.fz 1 (iA g.ds))]:=by simp[wF]
   have e4:(wF done).map (fun x=>(x.1,frz (D.length+(g.at'+1)) 1 (iA g.ds) x.2))=wF done:=by
    simp only[wF,List.map_map];exact lbl fun _ _=>rfl
   have e5:(wM D.length r).map (fun x=>(x.1,frz (D.length+(g.at'+1)) 1 (iA g.ds) x.2))=wM D.length r:=by
    simp only[wM,List.map_map];refine lbl fun y hy=>?_
    have h1:((D.length+(y.at'+1))==(D.length+(g.at'+1)))=false:=by
     have:=hr y hy
     simp; omega
    simp[frz,frz1,h1]
   rw[e2,e3,e4,lak,e5,lab]
   congr 2
   simp only[frz,frz1,beq_self_eq_true,laa,lbc,decide_true,lal,Bool.and_self,lai,List.drop_zero];rw[laf (by simp)];rfl
  rw[e1]at sh;have ih:=AyE hD hc E0 hE hw r (done++[g]) ((S.set g.at' .dead).map (frzB (D.length+(g.at'+1)) 1 (iA g.ds))) (fun y hy=>by
   rw[lbh,lba (hn.1 y hy),hb y (by simp[hy])];simp only[lbr,frzB,A6A]) hn.2
  rw[lab]at ih;exact Shift.trans sh ih
