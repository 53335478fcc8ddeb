/- Layout, whose pages are memory of one's own. -/
import Derived.Test.YtccfklnmolggiaaGreatDoorZ29
set_option maxRecDepth 100000
set_option maxHeartbeats 4000000
set_option linter.all false
namespace Go.Proofs.YtccfklnmolggiaaGreatDoor
open Av RowKit Proofs.Tryz
theorem BhO(n:Nat)(b:Blk):mpOk (shB n b)=mpOk b:=by cases b <;> rfl
theorem A7P(n:Nat):∀ (ps:List (List Ln))(k:Nat),(pgsW k ps).map (shC n)=pgsW (k+n) ps
 | [],_=>rfl
 | p::r,k=>by
  simp only[pgsW,lah,A7P n r (k+1)];rw[show k+1+n=k+n+1 by omega];rfl
theorem BeR(n:Nat)(p:List Ln):shB n (pgB p)=pgB p:=by
 simp only[pgB,shB,List.map_map]
 congr 1
def PgT(s:LB)(a b:Nat)(ps:List (List Ln)):Prop:=s[a]? = some (.arr 1 (pgsW b ps))/\(∀ j (h:j<ps.length),s[b+j]? = some (pgB ps[j]))/\a<b
theorem PgT.app{s a b ps}(h:PgT s a b ps)(U:LB):PgT (s++U) a b ps:=⟨AaV h.1 U,fun j hj=>AaV (h.2.1 j hj) U,h.2.2⟩
theorem PgT.lift{s a b ps}(h:PgT s a b ps)(T:LB):PgT (T++s.map (shB T.length)) (a+T.length) (b+T.length) ps:=by
 refine⟨?_,fun j hj=>?_,by have:=h.2.2; omega⟩
 .rw [lay (by omega),Nat.add_sub_cancel,lbf,h.1]
  simp only[lca,shB,A7P]
 .rw [lay (by omega),show b+T.length+j-T.length=b+j by omega,lbf,h.2.1 j hj]
  simp only[lca,BeR]
theorem A7Q:∀ (ps:List (List Ln))(k i:Nat)(h:i<ps.length),List.getD (pgsW k ps) i .any=pgW (k+i) ps[i]
 | [],_,_,h=>by simp at h
 | p::r,k,0,_=>rfl
 | p::r,k,i+1,h=>by
  have:=A7Q r (k+1) i (by simpa using h);simp only[pgsW,List.getD_cons_succ,this,List.getElem_cons_succ];rw[show k+1+i=k+(i+1) by omega]
def pgIW:Nat->Nat->List (List Ln)->LY
 | _,_,[]=>[]
 | b,i,p::r=>.agg [.int .i64 ((i+1:Nat):Int),pgW b p]::pgIW (b+1) (i+1) r
theorem pgIW_len:∀ (l:List (List Ln))(b j:Nat),(pgIW b j l).length=l.length
 | [],_,_=>rfl
 | _::r,b,j=>by simp[pgIW,pgIW_len r (b+1) (j+1)]
theorem pgIW_snoc:∀ (l:List (List Ln))(b j:Nat)(p:List Ln),pgIW b j (l++[p])=pgIW b j l++[.agg [.int .i64 ((j+l.length+1:Nat):Int),pgW (b+l.length) p]]
 | [],b,j,p=>rfl
 | q::r,b,j,p=>by
  have:=pgIW_snoc r (b+1) (j+1) p;simp only[las,pgIW,this,laf];rw[show j+1+r.length+1=j+(r.length+1)+1 by omega,show b+1+r.length=b+(r.length+1) by omega]
structure LoT(lo:Nat)(T:LB)(o b:Nat)(ps:List (List Ln)):Prop where
 row:T[o]? = some (.arr 2 (pgIW b 0 ps))
 pg:∀ j (h:j<ps.length),T[b+j]? = some (pgB ps[j])
 lo1:lo<=o
 lo2:lo<=b
theorem A7R{St:Std}(hS:LibOk St)(x:Sr)(h:LayOk x):CtH prog St 24 [srA x] [] (fun r s=>(∃ f g hd,r=.tup [.agg [.sl 8 0 (layL (allB x.Lb)).Lg.length (layL (allB x.Lb)).Lg.length,.fz 1 f,.fz 1 g],.fz 1 hd])/\s.all mpOk=true/\PgT s 8 13 (layL (allB x.Lb)).Lg):=by
 have hlk:=AwN _ _ _ h.ok.ok h.ok.many;have h5:=h.few;have hfit:=h.fit;have hbl:=h.bl;obtain⟨ti,xs⟩:=x;simp only at hlk h5 hfit hbl;have hbd:=AtQ hlk;have hal:allTo xs xs.length=allB xs:=by unfold allTo; rw[lbt]
 have hcost:=A7N (bs:=allB xs) (fun b hb=>by
  obtain⟨y,hy,hb⟩:=List.mem_flatMap.1 hb;exact(hlk y hy).bound.1 b hb) _ (lab _)
 have hall:=hbd xs.length (lab _);rw[hal]at hall;have hlay:=fun T=>(BhN (allB xs) hfit hbl (by omega) (by omega)).liftN rfl (fun _ _ h=>h.2.1) T
 simp only[srA]at |-;refine zdIF func24 rfl fun h ρ w hg=>?_
 simp only[go_sem,laa];refine AaI (ι:=Nat) (fun i=>xs.length-i) (fun i=>[(11,.int .i64 i),(10,.int .i64 xs.length),(9,.fz 5 (xs.map scA)),(4,.sl 2 0 (allTo xs i).length (allTo xs i).length),(5,.sl 3 0 i i),(2,.ptr 1 1 0 0),(1,.ptr 0 1 0 0)])
  (fun i=>[.arr 2 [.agg [.str ti,.fz 5 (xs.map scA)]],.arr 3 [.agg [.raw (.slice none 0 0),.raw (.slice none 0 0),.raw (.slice none 0 0)]],.arr 4 ((allTo xs i).map blA),.arr 1 ((headsTo xs i).map (.int .i64))]) (fun i=>i<=xs.length) 0 (by omega) ?_ ?_
 .refine Shift.trans (Ll 4 4 rfl) (Shift.trans (Ll 5 1 rfl) (Lp ?_ rfl))
  simp only[go_sem];rfl
 .intro i g1 J hJ
  by_cases gi:i<xs.length
  .have di:decide ((i:Int)<(xs.length:Int))=true:=by simp; omega
   have hg':List.getD (List.map scA xs) i .any=.agg [.str xs[i].no,.int .i64 xs[i].place,.str xs[i].set,.int .i64 xs[i].time,.fz 2 (xs[i].Lc.map paA)]:=by simp[List.getD,gi,scA]
   have hx:=hlk _ (lai gi);have hbk:=A1Q hS xs[i] hx.sc hx.place hx.time hx.no (AwM hx.sc) hx.few;have hb1:=hbd i g1;have hb2:=hx.bound.2;have hhl:=AlY xs i;have fin:=hJ (i+1) (by omega) (by omega);rw[AnZ gi,AtR]at fin;simp only[scA]at hbk;apply zgF;simp only[go_sem,di,hg',hhl,laa]
   repeat refine aqb ?_
   refine zqF hg (hbk) ?_;simp only[go_sem,laa,hhl]
   repeat refine aqb ?_
   rw[ic i];refine ainv fin ?_;refine Shift.trans (Shift.low 4 (by simp) (by simp) ?_ (e':=[(11,.int .i64 ((i+1:Nat):Int)),(10,.int .i64 xs.length),(9,.fz 5 (xs.map scA)),(4,.sl 2 0 ((allTo xs i).length+(blocksL xs[i]).length) ((allTo xs i).length+(blocksL xs[i]).length)),(5,.sl 3 0 (i+1) (i+1)),(2,.ptr 1 1 0 0),(1,.ptr 0 1 0 0)]) ?_) (Lp ?_ ?_)
   .have e1:=AaD (n:=4) (AdD (allTo xs i))
    have e2:=AaD (n:=4) (AdD (blocksL xs[i]));have e3:=AaD (n:=4) (AcL (headsTo xs i));simp only[go_sem,lowB,flat_append,List.all_append,e1,e2,e3]
    first|rfl|simp[flat,cellsOf,lowC,Av.frozen]
   .simp only [go_sem]
   .simp only[go_sem]
   .simp
  .have di:decide ((i:Int)<(xs.length:Int))=false:=by simp; omega
   have hi:i=xs.length:=by omega
   subst hi;rw[hal];have hhl:=AlY xs xs.length;generalize headsTo xs xs.length=hs at hhl |-;refine AWp.shift (Shift.trans (Shift.freeze 4 (id:=2) rfl rfl (by simp) (lab _) (AdD _)) (Shift.freeze 5 (id:=3) rfl rfl (by simp[hhl]) (lab _) (AcL _))) ?_;simp only[List.drop_zero,List.set_cons_succ,lbs,put];have t1:List.take (allB xs).length (List.map blA (allB xs))=List.map blA (allB xs):=lag (by simp);have t2:List.take xs.length (List.map (AV.int .i64) hs)=List.map (AV.int .i64) hs:=lag (by simp[hhl]);rw[t1,t2];apply zgF;simp only[go_sem,di];refine za (hlay _) ?_;rintro _ _ ⟨_,s',⟨rfl,hmp,b0,b1,b2,b3,b5,b6,b7,b8,hs'⟩,rfl,rfl⟩;simp only[shV,sh1,lah,laq,las,lbm,laf,lar];apply zgF;simp only[go_sem]
   repeat refine And.intro (by first|omega|exact .inl trivial|exact .inl (.inl trivial)|rfl|(simp; done)|(simp; omega)) ?_
   refine AbU [.cell 2 63,.tmp 3] rfl [.agg [.sl 8 0 (layL (allB xs)).Lg.length (layL (allB xs)).Lg.length,.fz 1 ((layL (allB xs)).Ld.map (.int .i64)),.fz 1 ((layL (allB xs)).Lk.map (.int .i64))],.fz 1 (hs.map (.int .i64))] ⟨by simp only[go_sem,sideIs],rfl,trivial⟩ ⟨⟨_,_,_,rfl⟩,?_,?_⟩
   .have e1:(s'.map (shB 4)).all mpOk=true:=by
     rw[List.all_map];rw[lbv]at hmp |-;exact fun b hb=>by rw[Function.comp,BhO]; exact hmp b hb
    first|exact e1|(simp only[laz,e1]; rfl)
   .subst hs'
    refine⟨?_,fun j hj=>?_,by omega⟩
    .show some (shB 4 (.arr 1 (pgsW 9 _)))=_
     simp only[shB,A7P]
    .rw [show 13+j=j+13 by omega]
     show(List.map (shB 4) ((layL (allB xs)).Lg.map pgB))[j]? = _
     rw[lbf,lbf,lad hj];simp only[lca,BeR]
theorem AlZ{St:Std}(hS:LibOk St)(x:Sr)(h:LayOk x)(hn:(layL (allB x.Lb)).Lg.length<=1000000000000)(T0:LB):CtH prog St 7 [srA x] T0 (fun r T=>∃ o b,r=.tup [.sl o 0 (layL (allB x.Lb)).Lg.length (layL (allB x.Lb)).Lg.length,.int .i64 0]/\LoT T0.length T o b (layL (allB x.Lb)).Lg/\Ext T0 T):=by
 have hck:=AeG hS x h.ok;have hla:=fun T=>(A7R hS x h).liftN rfl (fun _ _ h=>h.2.1) T
 obtain⟨ti,xs⟩:=x;simp only[srA]at hck hla hn |-;generalize (layL (allB xs)).Lg=ps at hla hn |-;refine zdIN func7 rfl fun h ρ w hg=>?_
 simp only[go_sem,gt_at,gt_at0,st_at,st_at0,gd_end,st_end,lae];refine zqN hg (hck) ?_;simp only[go_sem,gt_at,gt_at0,st_at,st_at0,gd_end,st_end,lae];refine zaH hg (hla _) ?_;rintro _ _ ⟨_,s',⟨⟨f,g,hd,rfl⟩,_,hP⟩,rfl,rfl⟩;have hP1:=hP.lift (T0++[.arr 2 [.agg [.str ti,.fz 5 (xs.map scA)]]]);have hE:Ext T0 ((T0++[Blk.arr 2 [.agg [.str ti,.fz 5 (xs.map scA)]]])++s'.map (shB (T0++[Blk.arr 2 [.agg [.str ti,.fz 5 (xs.map scA)]]]).length)):=((Ext.refl T0).app _).app _;have hl0:(T0++[Blk.arr 2 [.agg [.str ti,.fz 5 (xs.map scA)]]]).length=T0.length+1:=by simp
 simp only[shV,shC,sh1,lah,laq];rw[hl0]at hP1 |-;rw[hl0]at hE;clear hck hla hP;generalize (T0++[Blk.arr 2 [.agg [.str ti,.fz 5 (xs.map scA)]]])++s'.map (shB (T0.length+1))=T1 at *;obtain⟨a,ha⟩:∃ a,a=8+(T0.length+1):=⟨_,rfl⟩;obtain⟨b,hb⟩:∃ b,b=13+(T0.length+1):=⟨_,rfl⟩;rw[<- ha,<- hb]at hP1;rw[<- ha];have k1:=AcB hP1.1;have hpl:(pgsW b ps).length=ps.length:=pgsW_len _ _;have hel:=hE.len;apply zgN;simp only[go_sem,k1,hpl,gt_at,gt_at0,st_at,st_at0,gd_end,st_end,lae]
 repeat refine And.intro (by first|omega|exact .inl trivial|exact .inl (.inl trivial)|rfl|(simp; done)|(simp; omega)) ?_
 refine AaI (ι:=Nat×LB) (fun y=>ps.length-y.1)
  (fun y=>[(23,.int .i64 y.1),(22,.int .i64 ps.length),(21,.sl a 0 ps.length ps.length),(7,.sl (T1.length+1) 0 y.1 y.1),(3,.int .i64 0)])
  (fun y=>y.2) (fun y=>y.1<=ps.length/\PgT y.2 a b ps/\y.2[T1.length+1]? = some (.arr 2 (pgIW b 0 (ps.take y.1)))/\Ext T0 y.2)
  (0,(T1++[.arr 3 [.agg [.sl a 0 ps.length ps.length,.fz 1 f,.fz 1 g]]])++[.arr 2 []]) ⟨lbq _,(hP1.app _).app _,?_,(hE.app _).app _⟩ ?_ ?_
 .rw [lay (by simp)]
  simp[pgIW]
 .refine Shift.trans (Ll 7 2 rfl) (Lp ?_ rfl)
  have:(T1++[Blk.arr 3 [AV.agg [AV.sl a 0 ps.length ps.length,AV.fz 1 f,AV.fz 1 g]]]).length=T1.length+1:=by simp
  simp only[this,go_sem]
 have hlo:=AcG hP1.1;have haT:T0.length<=a/\T0.length<=b:=⟨by omega,by omega⟩;obtain⟨c,hc⟩:∃ c,T1.length+1=c:=⟨_,rfl⟩;have hca:a<c/\T0.length<=c:=⟨by omega,by omega⟩;rw[hc];clear ha hb k1 hE hP1 hel hl0 hlo hc;clear T1;rintro⟨i,T⟩ ⟨g1,g2,g3,g4⟩ J hJ;simp only at g1 g2 g3 g4 hJ |-
 by_cases gi:i<ps.length
 .have di:decide ((i:Int)<(ps.length:Int))=true:=by simp; omega
  have hg':=A7Q ps b i gi;have k1:=AbC g2.1;have k2:=AcB g3;have k3:∀ U Y,(T++U).set c Y=T.set c Y++U:=fun U Y=>AhL (AcG g3) U Y
  have htl:(List.take i ps).length=i:=by simp; omega
  have hql:(pgIW b 0 (ps.take i)).length=i:=by rw[pgIW_len,htl]
  have hsn:pgIW b 0 (List.take i ps)++[.agg [.int .i64 ((i+1:Nat):Int),pgW (b+i) ps[i]]]=pgIW b 0 (List.take (i+1) ps):=by
   rw[lal gi,pgIW_snoc,htl,lau]
  have hE2:∀ (k:Nat) (z:Blk),T[k]? = some z->k≠c->∀ Y U,(T.set c Y++U)[k]? = some z:=fun k z hz hk Y U=>AaV (AbE hz (Ne.symm hk) Y) U
  have hne:∀ j (h:j<ps.length),b+j≠c:=fun j hj e=>by
   have h1:=g2.2.1 j hj;rw[e,g3]at h1;simp only[lam,pgB,Blk.arr.injEq]at h1;omega
  have hfin:=fun U=>hJ (i+1,T.set c (.arr 2 (pgIW b 0 (ps.take (i+1))))++U) ⟨by simp only; omega,⟨hE2 _ _ g2.1 (by omega) _ _,fun j hj=>hE2 _ _ (g2.2.1 j hj) (hne j hj) _ _,g2.2.2⟩,AaV (AbV (AcG g3) _) U,(g4.set (by omega) _).app U⟩ (by simp only; omega)
  clear hJ;simp only[pgW]at hg' hsn;apply zgN;simp only[go_sem,di,k1,k2,k3,hg',hpl,hql,gt_at,gt_at0,st_at,st_at0,gd_end,st_end,lae]
  repeat refine And.intro (by first|omega|exact .inl trivial|exact .inl (.inl trivial)|rfl|(simp; done)|(simp; omega)) ?_
  rw[ic i];have fin:=hfin [.arr 2 [.agg [.int .i64 ((i+1:Nat):Int),.sl (b+i) 0 ps[i].length ps[i].length]]];rw[<- hsn]at fin;refine ainv fin (Lp ?_ rfl);simp only[go_sem]
 .have di:decide ((i:Int)<(ps.length:Int))=false:=by simp; omega
  have hi:i=ps.length:=by omega
  subst hi;rw[lbt]at g3;clear hJ;apply zgN;simp only[go_sem,di];exact aret [2,3] rfl ⟨c,b,rfl,⟨g3,g2.2.1,by omega,haT.2⟩,g4⟩
end Go.Proofs.YtccfklnmolggiaaGreatDoor
namespace Go.Proofs.YtccfklnmolggiaaGreatDoor
open Av RowKit
theorem BeS:∀ a b:LU,Lib.compareBytes a b=(if bytesLess a b then -1 else if bytesLess b a then 1 else 0)
 | [],[]=>rfl
 | [],_::_=>rfl
 | _::_,[]=>rfl
 | a::x,b::y=>by
  have ih:=BeS x y;simp only[Lib.compareBytes,bytesLess,lbj,lao,lac,lbx]
  by_cases h1:a<b
  .simp [h1]
  .by_cases h2:b<a
   .have h3:¬ a=b:=fun e=>by subst e; exact h1 h2
    simp[h1,h2,h3]
   .have h3:a=b:=by
     have e1:=UInt8.not_lt.1 h1;have e2:=UInt8.not_lt.1 h2;exact UInt8.le_antisymm e2 e1
    subst h3
    simp[UInt8.lt_irrefl,ih]
theorem AtS:∀ a:LU,bytesLess a a=false
 | []=>rfl
 | a::x=>by simp[bytesLess,AtS x]
theorem AzS:∀ a b c:LU,bytesLess a b=true->bytesLess b c=true->bytesLess a c=true
 | [],[],c,h1,_=>by omega
 | _,_::_,[],_,h2=>by cases h2
 | _::_,[],_,h1,_=>by cases h1
 | [],_::_,_::_,_,_=>rfl
 | a::x,b::y,c::z,h1,h2=>by
  simp only[bytesLess,lbj,lao,lac,lbx]at h1 h2 |-
  rcases h1 with h1|⟨e1,h1⟩
  .rcases h2 with h2|⟨e2,h2⟩
   .exact .inl (UInt8.lt_trans h1 h2)
   .subst e2; exact .inl h1
  .subst e1
   rcases h2 with h2|⟨e2,h2⟩
   .exact .inl h2
   .subst e2; exact .inr ⟨rfl,AzS x y z h1 h2⟩
theorem AzT:∀ a b:LU,bytesLess a b=false->bytesLess b a=false->a=b
 | [],[],_,_=>rfl
 | [],_::_,h1,_=>by cases h1
 | _::_,[],_,h2=>by cases h2
 | a::x,b::y,h1,h2=>by
  simp only[bytesLess,Bool.or_eq_false_iff,lbu,Bool.and_eq_false_imp,lbx]at h1 h2;have h3:a=b:=UInt8.le_antisymm (UInt8.not_lt.1 h2.1) (UInt8.not_lt.1 h1.1);subst h3;rw[AzT x y (h1.2 rfl) (h2.2 rfl)]
theorem cb_lt{a b:LU}:Lib.compareBytes a b<0 ↔ bytesLess a b=true:=by
 grind[BeS]
theorem BhP{a b:Int}:cmpI a b<0 ↔ a<b:=by
 grind[cmpI]
theorem cmpI_zero{a b:Int}:cmpI a b=0 ↔ a=b:=by
 grind[cmpI]
structure Ordr{α:Type}(lt:α->α->Prop):Prop where
 irrefl:∀ x,¬ lt x x
 trans:∀ x y z,lt x y->lt y z->lt x z
 total:∀ x y,¬ lt x y->¬ lt y x->x=y
section
variable {α:Type}{lt:α->α->Prop}(O:Ordr lt)
include O
end
section
variable {α:Type}(lt:α->α->Prop)(d:α)
variable {lt d}
end
def nLt(a b:LU):Prop:=pN a<pN b\/(pN a=pN b/\bytesLess (caps a) (caps b)=true)
theorem AwS{a b:LU}:compareN a b<0 ↔ nLt a b:=by
 grind[compareN,nLt,orI,cb_lt,cmpI_zero,BhP]
theorem A1X(a:LU):¬ nLt a a:=by
 rintro(h|⟨_,h⟩)
 all_goals grind[AtS]
theorem A7S{a b c:LU}(h1:nLt a b)(h2:nLt b c):nLt a c:=by
 rcases h1 with h1|⟨e1,h1⟩ <;> rcases h2 with h2|⟨e2,h2⟩
 .exact .inl (by omega)
 .exact .inl (by omega)
 .exact .inl (by omega)
 .exact .inr ⟨e1.trans e2,AzS _ _ _ h1 h2⟩
theorem BhQ{a b:LU}(h1:¬ nLt a b)(h2:¬ nLt b a):pN a=pN b/\caps a=caps b:=by
 grind[nLt,AzT]
theorem AdM{c:UInt8}(h:digB c=true):48<=c.toNat/\c.toNat<=57:=by
 grind[digB,digI]
theorem AcM{c:UInt8}{r:LU}{acc:Nat}(h:digB c=true):Lib.decFrom acc (c::r)=Lib.decFrom (acc*10+(c.toNat-48)) r:=by
 grind[Lib.decFrom,AyS]
theorem u8_eq{c:UInt8}{n:Nat}(h:c.toNat=n)(hn:n<256):c=UInt8.ofNat n:=by
 apply UInt8.toNat_inj.1
 simp
 omega
theorem BjZ{s:LU}(h:okD s):∃ n:Nat,Lib.decFrom 0 (digs s)=some n/\pN s=n:=by
 obtain⟨n,hn⟩:=AdT (digs s) 0 (AeQ s);have h1:=h.1;have ha:=AeQ s;have key:Lib.atoi (digs s)=some (n:Int):=by
  cases hq:digs s with
  | nil=>grind
  | cons b r =>
   rw[hq]at hn ha
   simp at ha
   have hb:=AdM ha.1;have b1:(b==45)=false:=by
    rw[lbd];rintro rfl
    grind
   have b2:(b==43)=false:=by
    rw[lbd];rintro rfl
    grind
   grind[Lib.atoi,Lib.decNat]
 grind[pN]
theorem AtT{a:LU}(h:numberL a=true):digs a=dig3 (pN a)/\0<=pN a/\pN a<=999:=by
 obtain⟨hd,hl3,_,_⟩:=AfY h;have hall:=AeQ a;have hz:digs a=[48]\/((digs a).getD 0 0).toNat≠48:=by
  grind[numberL,AeF]
 have h1:=hd.1;obtain⟨n,hn,hp⟩:=BjZ hd;generalize digs a=l at *
 match l,hall,hl3,h1,hz,hn with
 | [x],hall,_,_,_,hn =>
  simp at hall
  have b:=AdM hall;rw[AcM hall]at hn;have e:n=x.toNat-48:=by have:=Option.some.inj hn; omega
  grind[u8_eq,dig3]
 | [x,y],hall,_,_,hz,hn =>
  simp at hall
  have b:=AdM hall.1;have b2:=AdM hall.2;rw[AcM hall.1,AcM hall.2]at hn;have e:n=(x.toNat-48)*10+(y.toNat-48):=by have:=Option.some.inj hn; omega
  grind[u8_eq,dig3]
 | [x,y,z],hall,_,_,hz,hn =>
  simp at hall
  have b:=AdM hall.1;have b2:=AdM hall.2.1;have b3:=AdM hall.2.2;have hx0:x.toNat≠48:=by
   grind
  rw[AcM hall.1,AcM hall.2.1,AcM hall.2.2]at hn;have e:n=((x.toNat-48)*10+(y.toNat-48))*10+(z.toNat-48):=by have:=Option.some.inj hn; omega
  have d1:(pN a).toNat=((x.toNat-48)*10+(y.toNat-48))*10+(z.toNat-48):=by omega
  have hx:=u8_eq (c:=x) (n:=48+(pN a).toNat / 100) (by omega) (by omega);have hy:=u8_eq (c:=y) (n:=48+(pN a).toNat / 10%10) (by omega) (by omega);have hz:=u8_eq (c:=z) (n:=48+(pN a).toNat%10) (by omega) (by omega)
  grind[dig3]
theorem A7T{a b:LU}(ha:numberL a=true)(hb:numberL b=true)(h:pN a=pN b/\caps a=caps b):a=b:=by
 rw[AeF a,AeF b,(AtT ha).1,(AtT hb).1,h.1,h.2]
end Go.Proofs.YtccfklnmolggiaaGreatDoor
namespace Go.Proofs.YtccfklnmolggiaaGreatDoor
open Av RowKit Proofs.Tryz
theorem AwT:Pc prog 48 [.str [73,78,84,46]] (· = .bool false):=by
 have e0:digI (73:UInt8).toNat=false:=by decide
 have e1:capI (73:UInt8).toNat=true:=by decide
 have e2:capI (78:UInt8).toNat=true:=by decide
 have e3:capI (84:UInt8).toNat=true:=by decide
 have e4:capI (46:UInt8).toNat=false:=by decide
 refine AbG (AaZ func48 rfl ntmps48 hB48 (by simp) fun h ρ w=>go rfl 200 ?_);simp only[go_sem];refine AbD (around (zgN ?_));simp only[go_sem];refine zpN (AcJ _) ?_;simp only[go_sem,e0];refine AbD (around (zgN ?_));simp only[go_sem];refine zpN (AaO _) ?_;simp only[go_sem,e1];refine AdQ (around (zgN ?_));simp only[go_sem];refine zpN (AaO _) ?_;simp only[go_sem,e2];refine AdQ (around (zgN ?_));simp only[go_sem];refine zpN (AaO _) ?_;simp only[go_sem,e3];refine AdQ (around (zgN ?_));simp only[go_sem];refine zpN (AaO _) ?_;simp only[go_sem,e4];exact aret [2] rfl ⟨by simp[resV,Av.get],rfl⟩
theorem AtU(a b:LU)(l:LY)(hl:l.length<1000)(hn:(b==a)=false):Pc prog 188 [.fz 1 (.str a::.str b::l),.str b] (· = .int .i64 1):=by
 refine AbG (AaZ func188 rfl ntmps188 hB188 (by simp) fun h ρ w=>go rfl 200 ?_);have d0:decide ((0:Int)<((l.length+1+1:Nat):Int))=true:=by simp; omega
 have d1:decide ((1:Int)<((l.length+1+1:Nat):Int))=true:=by simp; omega
 simp only[go_sem];refine AbD (around (zgN ?_));simp only[go_sem,hn,d0,d1]
 repeat refine ao ?_
 refine AdQ (around (zgN ?_));simp only[go_sem,d0,d1]
 repeat refine ao ?_
 exact aret [4] rfl ⟨by simp[resV,Av.get],rfl⟩
theorem AzU:Lib.cut [73,78,84,46,32,72,65,76,76,32,45,32,68,65,89] [32]=([73,78,84,46],[72,65,76,76,32,45,32,68,65,89],true):=by decide
theorem A7U:Lib.lastIndex [72,65,76,76,32,45,32,68,65,89] [32,45,32]=4:=by decide
theorem BcK:isSetL [72,65,76,76]=true:=by decide
def sceneE:AV:=.agg [.str [],.int .i64 1,.str [72,65,76,76],.int .i64 1,.raw (.slice none 0 0)]
theorem AmA{S:Std}(hS:LibOk S):PcH prog S 155 [.str [73,78,84,46,32,72,65,76,76,32,45,32,68,65,89]] (· = .tup [sceneE,.int .i64 0]):=by
 refine AbW (AdH func155 rfl ntmps155 hB155 (by simp) fun h ρ w hg=>go rfl 200 ?_);simp only[go_sem];refine zqN hg (A4X hS [73,78,84,46,32,72,65,76,76,32,45,32,68,65,89] [32] (by decide)) ?_;rw[AzU];simp only[go_sem];refine AcH AwT rfl rfl rfl (zgN ?_);simp only[go_sem];refine zqN hg (A4X hS [73,78,84,46,32,72,65,76,76,32,45,32,68,65,89] [32] (by decide)) ?_;rw[AzU];simp only[go_sem];refine zpN (AsG _ _ (by decide)) ?_;rw[A7U];simp only[go_sem];refine AcH place_pc rfl rfl rfl (zgN ?_);simp only[go_sem,placeW];refine zpN (AtU _ _ _ (by decide) (by decide)) ?_;simp only[go_sem];refine zr [.fz 1 AhF,.int .i64 1] AaJ ?_;simp only[go_sem,AhF];refine⟨time_pc.at,?_⟩;have dayI:=AtU [] [68,65,89] [.str [78,73,71,72,84],.str [68,65,87,78],.str [68,85,83,75],.str [76,65,84,69,82]] (by decide) (by decide);refine⟨dayI.at,rfl,rfl,?_⟩;apply zgN;simp only[go_sem];refine zqN hg (AlA hS [72,65,76,76] (by decide)) ?_;rw[BcK];simp only[go_sem];refine AbU [.cell 2 58,.tmp 3] rfl [sceneE,.int .i64 0] ⟨?_,rfl,trivial⟩ ⟨rfl,rfl⟩;simp only[go_sem,sideIs,sceneE]
 trace_state
theorem t35:((35:UInt8).toNat:Int)=35:=rfl
theorem t82:((82:UInt8).toNat:Int)=82:=rfl
theorem pre_head:Lib.trimPrefix [35,32,73,78,84,46,32,72,65,76,76,32,45,32,68,65,89] [35,32]=[73,78,84,46,32,72,65,76,76,32,45,32,68,65,89]:=by decide
theorem BcL:Lib.hasPrefix [35,32,73,78,84,46,32,72,65,76,76,32,45,32,68,65,89] [35,32]=true:=by decide
def T0(k:Int):LB:=[.arr 2 [.agg [.str [],.raw (.slice none 0 0)]],.arr 3 [.agg [.str [84],.raw (.slice none 0 0),.int .i64 k]]]
theorem BcM:Ct prog 72 [.ptr 1 1 0 0,.str []] (T0 0) (fun r s=>r=.bool true/\s=T0 1):=by
 refine zcIN func72 rfl fun h ρ w=>?_
 simp only[go_sem,T0];exact zt [4]
def T1(k:Int):LB:=[.arr 2 [.agg [.str [],.raw (.slice none 0 0)]],.arr 3 [.agg [.str [84],.sl 3 0 1 1,.int .i64 k]],
 .arr 5 [.agg [.str [],.int .i64 1,.str [72,65,76,76],.int .i64 1,.raw (.slice none 0 0)]],.arr 5 [.agg [.str [],.int .i64 1,.str [72,65,76,76],.int .i64 1,.raw (.slice none 0 0)]]]
theorem A1Y{S:Std}(hS:LibOk S):CtH prog S 118 [.ptr 1 1 0 0,.str [35,32,73,78,84,46,32,72,65,76,76,32,45,32,68,65,89]] (T0 1) (fun r s=>r=.bool true/\s=T1 3):=by
 refine zdIN func118 rfl fun h ρ w hg=>?_
 simp only[go_sem,T0,t35];refine zpN (AiX _ _) ?_;rw[pre_head,BcL];simp only[go_sem];refine zqN hg (AmA hS) ?_;simp only[go_sem,sceneE];refine zr [] AaJ ?_;simp only[go_sem];apply zgN;simp only[go_sem];exact zt [4]
theorem BcN{S:Std}(hS:LibOk S):CtH prog S 72 [.ptr 1 1 0 0,.str [35,32,73,78,84,46,32,72,65,76,76,32,45,32,68,65,89]] (T0 1) (fun r s=>r=.bool true/\s=T1 3):=by
 refine zdIN func72 rfl fun h ρ w hg=>?_
 simp only[go_sem,T0];refine zaH hg (A1Y hS) ?_;rintro _ _ ⟨rfl,rfl⟩;apply zgN;simp only[go_sem];exact zt [4]
theorem BcO:Ct prog 72 [.ptr 1 1 0 0,.str []] (T1 3) (fun r s=>r=.bool true/\s=T1 2):=by
 refine zcIN func72 rfl fun h ρ w=>?_
 simp only[go_sem,T1];exact zt [4]
def T2:LB:=[.arr 2 [.agg [.str [],.raw (.slice none 0 0)]],.arr 3 [.agg [.str [84],.sl 3 0 1 1,.int .i64 3]],
 .arr 5 [.agg [.str [],.int .i64 1,.str [72,65,76,76],.int .i64 1,.raw (.slice none 0 0)]],.arr 5 [.agg [.str [],.int .i64 1,.str [72,65,76,76],.int .i64 1,.sl 5 0 1 1]],
 .arr 2 [.agg [.int .i64 1,.str [82,97,105,110,46]]],.arr 2 [.agg [.int .i64 1,.str [82,97,105,110,46]]]]
theorem BkA:Ct prog 154 [.ptr 1 1 0 0,.int .i64 1,.str [82,97,105,110,46]] (T1 2) (fun r s=>s=T2):=by
 refine zcIN func154 rfl fun h ρ w=>?_
 simp only[go_sem,T1];refine zr [] AaJ ?_;simp only[go_sem];apply zgN;simp only[go_sem];refine⟨.inl trivial,aret [] rfl rfl⟩
theorem A1Z{S:Std}(hS:LibOk S):CtH prog S 118 [.ptr 1 1 0 0,.str [82,97,105,110,46]] (T1 2) (fun r s=>r=.bool true/\s=T2):=by
 refine zdIN func118 rfl fun h ρ w hg=>?_
 simp only[go_sem,T1,t82];refine ArV BkA rfl rfl ?_;rintro r _ rfl;apply zgN;simp only[go_sem];exact zt [4]
theorem BcP{S:Std}(hS:LibOk S):CtH prog S 72 [.ptr 1 1 0 0,.str [82,97,105,110,46]] (T1 2) (fun r s=>r=.bool true/\s=T2):=by
 refine zdIN func72 rfl fun h ρ w hg=>?_
 simp only[go_sem,T1];refine zaH hg (A1Z hS) ?_;rintro _ _ ⟨rfl,rfl⟩;apply zgN;simp only[go_sem];exact zt [4]
theorem BhR:plainL [84]=true:=by decide
def scriptA:AV:=.agg [.str [84],.fz 5 [sceneA]]
theorem A2A{S:Std}(hS:LibOk S):PcH prog S 19 [scriptA] (· = .int .i64 0):=by
 refine zqIN func19 rfl fun h ρ w hg=>?_
 simp only[go_sem,scriptA,sceneA];refine zqN hg (AcF hS [84] (by decide)) ?_;rw[BhR];simp only[go_sem];refine AbD (around (zgN ?_));simp only[go_sem];refine AdQ (around (zgN ?_));simp only[go_sem];refine AbD (around (zgN ?_));simp only[go_sem];refine zqN hg (A6E hS) ?_;simp only[go_sem];refine AdQ (around (zgN ?_));simp only[go_sem];exact zt [2]
theorem BkB:∃ i,prog.info? 109=some i/\i.zero=some (.agg #[.pointer none,.slice none 0 0]):=Option.map_eq_some_iff.1 (show(prog.info? 109).map (·.zero)=some (some (.agg #[.pointer none,.slice none 0 0])) by kernel_rfl)
theorem AwU{S:Std}(hS:LibOk S):PcH prog S 74 [scriptA] (· = .str [116,105,116,108,101,58,32,84,10,10,35,32,73,78,84,46,32,72,65,76,76,32,45,32,68,65,89,10,10,82,97,105,110,46,10]):=by
 refine AbW (AiE func74 rfl ntmps74 hB74 (by simp) fun h ρ w hg hm=>go rfl 9 ?_);obtain⟨i,hi,hz⟩:=BkB;simp only[go_sem,scriptA,sceneA];refine BeC (T:=109) (t:=3) rfl rfl rfl ntmps74 (by decide) hi hz 5 ?_;intro b hb;apply zgN;simp only[go_sem];refine AsC AkZ rfl rfl rfl rfl (by decide) (zgN ?_);simp only[go_sem];refine AbD (around (zgN ?_));simp only[go_sem];refine AcH A1L rfl rfl rfl (zgN ?_);simp only[go_sem];refine AsC AkZ rfl rfl rfl rfl (by decide) (zgN ?_);simp only[go_sem];refine AbD (around (zgN ?_));simp only[go_sem];refine AsC AkZ rfl rfl rfl rfl (by decide) (zgN ?_);simp only[go_sem];refine AcH BhB rfl rfl rfl (zgN ?_);simp only[go_sem];refine AsC AkZ rfl rfl rfl rfl (by decide) (zgN ?_);simp only[go_sem];refine ApM rfl (around (zgN ?_));simp only[go_sem];refine ApM rfl (around (zgN ?_));simp only[go_sem];refine A4J AyJ rfl rfl rfl hm rfl rfl (zgN ?_);simp only[go_sem];exact zt [2]
theorem A2B:splitL [116,105,116,108,101,58,32,84,10,10,35,32,73,78,84,46,32,72,65,76,76,32,45,32,68,65,89,10,10,82,97,105,110,46,10] [10] =
  [[116,105,116,108,101,58,32,84],[],[35,32,73,78,84,46,32,72,65,76,76,32,45,32,68,65,89],[],[82,97,105,110,46],[]]:=by decide
theorem pre_title:Lib.trimPrefix [116,105,116,108,101,58,32,84] [116,105,116,108,101,58,32]=[84]:=by decide
theorem A7V:Lib.hasPrefix [116,105,116,108,101,58,32,84] [116,105,116,108,101,58,32]=true:=by decide
theorem BcQ{S:Std}(hS:LibOk S):PcH prog S 38 [.str [116,105,116,108,101,58,32,84,10,10,35,32,73,78,84,46,32,72,65,76,76,32,45,32,68,65,89,10,10,82,97,105,110,46,10]] (· = .tup [scriptA,.int .i64 0,.int .i64 0]):=by
 refine zqIN func38 rfl fun h ρ w hg=>?_
 simp only[go_sem];refine zqN hg (A4Y hS _ [10] (by decide) (by decide)) ?_;rw[A2B];simp only[go_sem];refine AbD (around (zgN ?_));simp only[go_sem];refine zpN (AiX _ _) ?_;rw[pre_title,A7V];simp only[go_sem];refine AdQ (around (zgN ?_));simp only[go_sem];refine ArV BcM rfl rfl ?_;rintro _ _ ⟨rfl,rfl⟩;apply zgN;simp only[go_sem];refine AdQ (around (zgN ?_));simp only[go_sem];refine zaH hg (BcN hS) ?_;rintro _ _ ⟨rfl,rfl⟩;apply zgN;simp only[go_sem];refine AdQ (around (zgN ?_));simp only[go_sem];refine ArV BcO rfl rfl ?_;rintro _ _ ⟨rfl,rfl⟩;apply zgN;simp only[go_sem];refine AdQ (around (zgN ?_));simp only[go_sem];refine zaH hg (BcP hS) ?_;rintro _ _ ⟨rfl,rfl⟩;apply zgN;simp only[go_sem];refine AWp.shift (Lo (e':=[(27,.int .i64 5),(26,.int .i64 5),(25,.fz 1 [.str [116,105,116,108,101,58,32,84],.str [],.str [35,32,73,78,84,46,32,72,65,76,76,32,45,32,68,65,89],.str [],.str [82,97,105,110,46]]),
  (7,.ptr 1 1 0 0),(6,.int .i64 5),(5,.fz 1 [.str [116,105,116,108,101,58,32,84],.str [],.str [35,32,73,78,84,46,32,72,65,76,76,32,45,32,68,65,89],.str [],.str [82,97,105,110,46],.str []]),
  (2,.ptr 0 1 0 0),(0,.str [116,105,116,108,101,58,32,84,10,10,35,32,73,78,84,46,32,72,65,76,76,32,45,32,68,65,89,10,10,82,97,105,110,46,10])]) ?_) ?_
 .simp only [go_sem]
 refine AWp.shift (Shift.frz 5 rfl rfl) ?_;refine AWp.shift (Shift.frz 3 rfl rfl) ?_;simp only[T2,frzE,frzB,frzC,frz,frz1,Bool.cond_true,Bool.cond_false,go_sem];refine AdQ (around (zgN ?_));simp only[go_sem];refine zqN hg (A2A hS) ?_;simp only[go_sem];refine zqN hg (AwU hS) ?_;simp only[go_sem];refine AbU [.cell 2 28,.tmp 3,.tmp 4] rfl [scriptA,.int .i64 0,.int .i64 0] ⟨?_,rfl,rfl,trivial⟩ ⟨rfl,rfl⟩;simp only[go_sem,sideIs,scriptA,sceneA]
theorem AwV{S:Std}(hS:LibOk S):PcH prog S 14 [] (· = .bool true):=by
 refine zqIN func14 rfl fun h ρ w hg=>?_
 simp only[go_sem];refine zqN hg (BcQ hS) ?_;simp only[go_sem,scriptA];exact zt [0]
theorem BkC{p:UInt8->Bool}(h:∀ n:Fin 256,p (UInt8.ofNat n.1)=true)(c:UInt8):p c=true:=by
 have h1:=c.toNat_lt;have h2:=h ⟨c.toNat,h1⟩
 simp_all
end Go.Proofs.YtccfklnmolggiaaGreatDoor
namespace Go.Av
open RowKit
variable [Tr]
variable {c:Cx}{s:LB}
end Go.Av
namespace Go.Av
open RowKit
variable [Tr]
theorem Agr.rfl'{n id:Nat}{s:LB}:Agr n id s s:=fun _ _ _=>rfl
def AzV(c:Cx)(n:Nat)(f:FuncId)(args:LY)(id:Nat)(s:LB)(K:AV->LB->Prop):Prop :=
 ∃ post:AV->LB->Prop,(AaB c.P f=true/\∀ h ρ w vs,Mine h ρ s w->Later c.h c.ρ c.sto c.w h ρ s w->RL h (Lf ρ s) false vs args->Calls c.P f vs.toArray w fun en w' =>
  ∃ v r s' h' ρ',en=.returned v/\post r s'/\Mine h' ρ' s' w'/\Later h ρ s w h' ρ' s' w'/\RV h' (Lf ρ' s') false v r)/\(∃ r s',post r s')/\∀ r s',post r s'->Agr n id s s'/\K r s'
section
variable {cx:Cx}{ops:Array Oper}{s:LB}{K:Env->LB->Prop}{im:List Nat}{n0 id:Nat}
end
section
variable {c:Cx}{k:List It}{e:Env}{s:LB}
mutual
def dxn(c:Cx)(all:List Oper)(im:List Nat)(n0 id:Nat)(k:List It):Nat->List Oper->LY->Env->LB->Prop
 | _,[],_,e,s=>AWp c k e s
 | 0,_::_,_,_,_=>False
 | n+1,o::r,cs,e,s=>bif im.contains (rix all (o::r)) then
   (match o.guard,xop false true c.P e s o.op with
    | none,.call f args=>AzV c n0 f args id s (fun v s'=>dxn c all im n0 id k n r cs (put e o.dst v) s')
    | _,_=>False)
  else dck (reader o.op&&!blind o.op) n0 id e o.op/\dxnc c all im n0 id k n (dgrd c all s o r cs e o.guard)
def dxnc(c:Cx)(all:List Oper)(im:List Nat)(n0 id:Nat)(k:List It):Nat->Dn->Prop
 | n,.go r cs e s=>dxn c all im n0 id k n r cs e s
 | n,.two b r cs e r' cs' e' s=>dbrn c all im n0 id k n b r cs e r' cs' e' s
 | n,.side p r cs e s=>p/\dxn c all im n0 id k n r cs e s
 | _,.fail=>False
def dbrn(c:Cx)(all:List Oper)(im:List Nat)(n0 id:Nat)(k:List It):Nat->Bool->List Oper->LY->Env->List Oper->LY->Env->LB->Prop
 | 0,_,_,_,_,_,_,_,_=>False
 | n+1,b,r,cs,e,r',cs',e',s=>(b=true->dxn c all im n0 id k n r cs e s)/\(b=false->dxn c all im n0 id k n r' cs' e' s)
end
theorem icc{n:Nat}{f:FuncId}{args:LY}{post:AV->LB->Prop}{K:AV->LB->Prop}{id:Nat}(hc:Ct c.P f args s post)(hin:∃ r s',post r s')(hk:∀ r s',post r s'->Agr n id s s'/\K r s'):AzV c n f args id s K :=
 ⟨post,⟨hc.1,fun h ρ w vs m l rr=>hc.2 h ρ w vs m rr⟩,hin,hk⟩
end
