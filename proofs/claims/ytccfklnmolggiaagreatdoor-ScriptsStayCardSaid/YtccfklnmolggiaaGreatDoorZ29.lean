/- A copy of a script in memory of one's own, over any table. -/
import Derived.Test.YtccfklnmolggiaaGreatDoorZ28
set_option maxRecDepth 100000
set_option maxHeartbeats 8000000
set_option linter.all false
namespace Go.Proofs.YtccfklnmolggiaaGreatDoor
open Av RowKit Proofs.Tryz
theorem AaV{T:LB}{k:Nat}{b:Blk}(h:T[k]? = some b)(U:LB):(T++U)[k]? = some b:=by
 rw[lat (List.getElem?_eq_some_iff.1 h).1]; exact h
theorem AbE{T:LB}{k j:Nat}{b:Blk}(h:T[k]? = some b)(hj:j≠k)(y:Blk):(T.set j y)[k]? = some b:=by
 rw[lax hj]; exact h
theorem AbV{T:LB}{k:Nat}(h:k<T.length)(y:Blk):(T.set k y)[k]? = some y:=by
 rw[List.getElem?_set_self h]
theorem AcG{T:LB}{k:Nat}{b:Blk}(h:T[k]? = some b):k<T.length:=(List.getElem?_eq_some_iff.1 h).1
theorem AhL{T:LB}{k:Nat}(h:k<T.length)(U:LB)(y:Blk):(T++U).set k y=T.set k y++U:=List.set_append_left _ _ h
def Ext(T0 T:LB):Prop:=∀ (k:Nat)(b:Blk),T0[k]? = some b->T[k]? = some b
theorem Ext.refl(T:LB):Ext T T:=fun _ _ h=>h
theorem Ext.app{T0 T:LB}(h:Ext T0 T)(U:LB):Ext T0 (T++U):=fun k b e=>AaV (h k b e) U
theorem Ext.set{T0 T:LB}(h:Ext T0 T){j:Nat}(hj:T0.length<=j)(y:Blk):Ext T0 (T.set j y):=fun k b e=>AbE (h k b e) (by have:=AcG e; omega) y
theorem Ext.trans{T0 T T':LB}(h:Ext T0 T)(h':Ext T T'):Ext T0 T':=fun k b e=>h' k b (h k b e)
theorem Ext.len{T0 T:LB}(h:Ext T0 T):T0.length<=T.length:=by
 by_cases h0:T0.length=0
 .omega
 .have:=AcG (h (T0.length-1) T0[T0.length-1] (by rw[lad]))
  omega
def rowQ(q:Sc×Nat):AV:=scH q.2 q.1
structure OwnR(lo hi:Nat)(T:LB)(a:Nat)(R:List (Sc×Nat)):Prop where
 sc:T[a]? = some (.arr 5 (R.map rowQ))
 la:lo<=a
 ha:a<hi
 lt:∀ q∈R,lo<=q.2/\q.2<hi
 row:∀ q∈R,q.1.Lc≠[]->T[q.2]? = some (.arr 2 (q.1.Lc.map paA))
 dis:R.Pairwise fun p q=>p.2≠q.2
theorem OwnR.app{lo hi T a R}(h:OwnR lo hi T a R)(U:LB):OwnR lo hi (T++U) a R :=
 ⟨AaV h.sc U,h.la,h.ha,h.lt,fun q hq hn=>AaV (h.row q hq hn) U,h.dis⟩
theorem OwnR.wide{lo hi lo' hi' T a R}(h:OwnR lo hi T a R)(h1:lo'<=lo)(h2:hi<=hi'):OwnR lo' hi' T a R :=
 ⟨h.sc,by have:=h.la; omega,by have:=h.ha; omega,fun q hq=>by have:=h.lt q hq; omega,h.row,h.dis⟩
theorem OwnR.below{lo hi T a R}(h:OwnR lo hi T a R){j:Nat}(hj:j<lo)(b:Blk):OwnR lo hi (T.set j b) a R :=
 ⟨AbE h.sc (by have:=h.la; omega) b,h.la,h.ha,h.lt,fun q hq hn=>AbE (h.row q hq hn) (by have:=h.lt q hq; omega) b,h.dis⟩
theorem OwnR.push{lo hi hi' T a R}(h:OwnR lo hi T a R)(hh:hi<=hi')(x:Sc)(id:Nat)(h1:hi<=id)(h2:id<hi')(hb:x.Lc≠[]->T[id]? = some (.arr 2 (x.Lc.map paA))) :
  OwnR lo hi' (T.set a (.arr 5 ((R++[(x,id)]).map rowQ))) a (R++[(x,id)]):=by
 have hl:=h.la;have hh2:=h.ha;have key:∀ q:Sc×Nat,q.1.Lc≠[]->T[q.2]? = some (.arr 2 (q.1.Lc.map paA))->(T.set a (.arr 5 ((R++[(x,id)]).map rowQ)))[q.2]? = some (.arr 2 (q.1.Lc.map paA)):=fun q _ hq=>AbE hq (by
  rintro e;rw[<- e,h.sc]at hq
  simp at hq) _
 refine⟨AbV (AcG h.sc) _,hl,by omega,fun q hq=>?_,fun q hq hn=>?_,?_⟩
 .rcases List.mem_append.1 hq with hq|hq
  .have:=h.lt q hq; omega
  .rw [lcf]at hq; subst hq; simp only; omega
 .rcases List.mem_append.1 hq with hq|hq
  .exact key q hn (h.row q hq hn)
  .rw [lcf]at hq; subst hq; exact key (x,id) hn (hb hn)
 .rw [List.pairwise_append]
  refine⟨h.dis,List.pairwise_singleton _ _,fun p hp q hq=>?_⟩;rw[lcf]at hq;subst hq;have:=h.lt p hp;simp only; omega
theorem A7K{lo hi T a R}(h:OwnR lo hi T a R){q:Sc×Nat}(hq:q∈R):OwnL lo hi T 2 (cellP q.2 q.1) (q.1.Lc.map paA):=by
 unfold cellP
 cases he:q.1.Lc.isEmpty with
 | true =>
  have:q.1.Lc=[]:=List.isEmpty_iff.1 he;rw[this];exact .inl ⟨rfl,.inr rfl⟩
 | false =>
  have hn:q.1.Lc≠[]:=fun e=>by rw[e]at he; cases he
  have:=h.lt q hq;exact .inr ⟨q.2,by simp,this.1,this.2,h.row q hq hn⟩
theorem OwnR.shape{lo hi T a R}(h:OwnR lo hi T a R)(h1:R.length<=100000)(h2:∀ q∈R,q.1.Lc.length<=200000000):ScsS lo hi T (.sl a 0 R.length R.length):=by
 refine⟨R.map rowQ,.inr ⟨a,by simp,h.la,h.ha,h.sc⟩,by simpa using h1,fun r hr=>?_⟩;obtain⟨q,hq,rfl⟩:=List.mem_map.1 hr;exact⟨q.1,cellP q.2 q.1,rfl,q.1.Lc,A7K h hq,h2 q hq⟩
theorem A1U(sto:LB)(p:Pa)(ps:List Pa)(hl:(p::ps).length<=100000):Ct prog 50 [.fz 2 ((p::ps).map paA)] sto (fun r s=>r=.sl sto.length 0 (p::ps).length (p::ps).length/\s=sto++[.arr 2 ((p::ps).map paA)]):=by
 simp only[laf]at hl;refine zcIN func50 rfl fun h ρ w=>?_
 simp only[go_sem,gd_end,st_end,paA];refine⟨by simp,by simp; omega,by simp; omega,aret [2] rfl ⟨by simp[resV,Av.get,paA],rfl⟩⟩
theorem AiO(T0:LB)(ti:LU)(xs:List Sc)(hl:xs.length<=1000)(hp:∀ y∈xs,y.Lc.length<=100000) :
  Ct prog 20 [.agg [.str ti,.fz 5 (xs.map scA)]] T0 (fun r T=>∃ a R,r=.agg [.str ti,.sl a 0 xs.length xs.length]/\OwnR T0.length T.length T a R/\R.map Prod.fst=xs/\Ext T0 T):=by
 refine zcIN func20 rfl fun h ρ w=>?_
 simp only[go_sem,laa,gt_at,gt_at0,st_at,st_at0,lae];refine AaI (ι:=Nat×LB×List (Sc×Nat)) (fun y=>xs.length-y.1)
  (fun y=>[(12,.int .i64 y.1),(11,.int .i64 xs.length),(10,.fz 5 (xs.map scA)),(3,.ptr (T0.length+2) 1 0 0),(2,.ptr (T0.length+1) 1 0 0)])
  (fun y=>y.2.1) (fun y=>y.1<=xs.length/\OwnR (T0.length+3) y.2.1.length y.2.1 (T0.length+3) y.2.2/\y.2.2.map Prod.fst=xs.take y.1/\Ext T0 y.2.1/\y.2.1[T0.length+2]? = some (.arr 2 [.agg [.str ti,.sl (T0.length+3) 0 y.1 y.1]])/\y.2.1[T0.length+1]? = some (.arr 2 [.agg [.str [],.raw (.slice none 0 0)]]))
  (0,T0++[.arr 2 [.agg [.str ti,.fz 5 (xs.map scA)]],.arr 2 [.agg [.str [],.raw (.slice none 0 0)]],.arr 2 [.agg [.str ti,.sl (T0.length+3) 0 0 0]],.arr 5 []],[]) ⟨lbq _,⟨by simp,by simp,by simp,by simp,by simp,.nil⟩,by simp,(Ext.refl T0).app _,by simp,by simp⟩ ?_ ?_
 .refine Shift.trans (Shift.cells (es:=2) (l:=[.agg [.str ti,.raw (.slice none 0 0)]]) (T0.length+2) 5 [.agg [.str ti,.sl (T0.length+3) 0 0 0]] (by rw[gt_at]; rfl) rfl (by simp[cellsOf]) ?_) (Lp ?_ ?_)
  .refine ⟨.refl,?_,trivial⟩
   have:(T0++[Blk.arr 2 [AV.agg [AV.str ti,AV.fz 5 (List.map scA xs)]],Blk.arr 2 [AV.agg [AV.str [],AV.raw (Value.slice none 0 0)]],Blk.arr 2 [AV.agg [AV.str ti,AV.raw (Value.slice none 0 0)]]]).length=T0.length+3:=by simp
   rw[this];exact .sl
  .simp only [go_sem]
   try simp
  .rw [lae,st_at]
   rfl
 rintro⟨i,T,R⟩ ⟨g1,g2,g3,g4,g5,g6⟩ J hJ;simp only at g1 g2 g3 g4 g5 g6 hJ |-
 by_cases gi:i<xs.length
 .have di:decide ((i:Int)<(xs.length:Int))=true:=by simp; omega
  have hg':List.getD (List.map scA xs) i .any=.agg [.str xs[i].no,.int .i64 xs[i].place,.str xs[i].set,.int .i64 xs[i].time,.fz 2 (xs[i].Lc.map paA)]:=by simp[List.getD,gi,scA]
  have htk:xs.take (i+1)=xs.take i++[xs[i]]:=lal gi;have hRl:R.length=i:=by
   have:=congrArg List.length g3;simp only[laa,List.length_take]at this;omega
  have hpl:=hp _ (lai gi);generalize xs[i]=x at hg' htk hpl;have k1:=g2.sc;have hlt:=AcG g5;have ka:=AcG k1;have f1:∀ U,(T++U).getD (T0.length+2) .dead=.arr 2 [.agg [.str ti,.sl (T0.length+3) 0 i i]]:=AcB g5;have f2:∀ U,(T++U).getD (T0.length+3) .dead=.arr 5 (R.map rowQ):=AcB k1;have f3:∀ U Y,(T++U).set (T0.length+3) Y=T.set (T0.length+3) Y++U:=fun U Y=>AhL ka U Y
  have f4:∀ U Y,(T.set (T0.length+3) Y++U).getD (T0.length+2) .dead=.arr 2 [.agg [.str ti,.sl (T0.length+3) 0 i i]]:=fun U Y=>AcB (AbE g5 (by omega) Y) U
  have f5:∀ U Y Z,(T.set (T0.length+3) Y++U).set (T0.length+2) Z=(T.set (T0.length+3) Y).set (T0.length+2) Z++U:=fun U Y Z=>AhL (by rw[lbp]; exact hlt) U Z
  have hfin:∀ (id:Nat) (U:LB),T.length<=id->id<(T++U).length->(x.Lc≠[]->(T++U)[id]? = some (.arr 2 (x.Lc.map paA)))->_:=fun id U h1 h2 h3 =>
   hJ (i+1,(T.set (T0.length+3) (.arr 5 (R.map rowQ++[rowQ (x,id)]))).set (T0.length+2) (.arr 2 [.agg [.str ti,.sl (T0.length+3) 0 (i+1) (i+1)]])++U,R++[(x,id)]) ⟨by simp only; omega,by
    have h4:=(g2.app U).push (hi':=(T++U).length) (by simp) x id h1 h2 h3;have h5:=h4.below (j:=T0.length+2) (by omega) (.arr 2 [.agg [.str ti,.sl (T0.length+3) 0 (i+1) (i+1)]]);simp only[lap,lah,laq]at h5 |-;rw[AhL ka,AhL (by rw[lbp]; exact hlt)]at h5;refine h5.wide (lab _) ?_
    simp,by simp only[lap,lah,laq,g3,htk],by
    refine Ext.app (Ext.set (Ext.set g4 (by omega) _) (by omega) _) _,by
    simp only;exact AaV (AbV (by rw[lbp]; exact hlt) _) U,by
    simp only;exact AaV (AbE (AbE g6 (by omega) _) (by omega) _) U⟩ (by simp only; omega)
  clear hJ;have hlr:(R.map rowQ).length=i:=by simpa using hRl
  generalize hB:T0.length=B at *
  cases hps:x.Lc with
  | nil =>
   have hcl:=A7J [] (by simp);rw[hps]at hg' hfin;simp only[laq]at hg' hcl;have hce:∀ id,rowQ (x,id)=.agg [.str x.no,.int .i64 x.place,.str x.set,.int .i64 x.time,.fz 2 []]:=fun id=>by simp[rowQ,scH,cellP,hps]
   apply zgN;simp only[go_sem,di,hg',gd_end,st_end,laa]
   repeat refine aqb ?_
   refine zpN (hcl) ?_;simp only[go_sem,f1,f2,f3,f4,f5,hlr,gd_end,st_end,gt_at,gt_at0,st_at,st_at0,laa,lae]
   repeat refine And.intro (by first|omega|exact .inl trivial|exact .inl (.inl trivial)|rfl|(simp; done)|(simp; omega)) ?_
   rw[ic i];have fin:=hfin T.length [.arr 5 [.agg [.str x.no,.int .i64 x.place,.str x.set,.int .i64 x.time,.fz 2 []]],.arr 5 [.agg [.str x.no,.int .i64 x.place,.str x.set,.int .i64 x.time,.fz 2 []]]] (lab _) (by simp) (fun h=>absurd rfl h);simp only[hce]at fin;refine ainv fin (Lp ?_ rfl);simp only[go_sem]
  | cons p r =>
   have hcl:=fun sto=>A1U sto p r (by rw[<- hps]; exact hpl)
   rw[hps]at hg' hfin hpl;simp only[lah]at hg' hcl hfin;have hce:∀ id,rowQ (x,id)=.agg [.str x.no,.int .i64 x.place,.str x.set,.int .i64 x.time,.sl id 0 (p::r).length (p::r).length]:=fun id=>by simp[rowQ,scH,cellP,hps]
   apply zgN;simp only[go_sem,di,hg',gd_end,st_end,laa]
   repeat refine aqb ?_
   refine za (hcl _) ?_;rintro _ _ ⟨rfl,rfl⟩;apply zgN;simp only[go_sem,f1,f2,f3,f4,f5,hlr,gd_end,st_end,gt_at,gt_at0,st_at,st_at0,laa,lae]
   repeat refine And.intro (by first|omega|exact .inl trivial|exact .inl (.inl trivial)|rfl|(simp; done)|(simp; omega)) ?_
   rw[ic i];have fin:=hfin (T.length+1) [.arr 5 [.agg [.str x.no,.int .i64 x.place,.str x.set,.int .i64 x.time,.sl (T.length+1) 0 (r.length+1) (r.length+1)]],.arr 2 (paA p::r.map paA),.arr 5 [.agg [.str x.no,.int .i64 x.place,.str x.set,.int .i64 x.time,.sl (T.length+1) 0 (r.length+1) (r.length+1)]]] (by omega) (by simp) (fun _=>by rw[lay (by omega),Nat.add_sub_cancel_left]; rfl);simp only[hce,laf]at fin;refine ainv fin (Lp ?_ rfl);simp only[go_sem]
 .have di:decide ((i:Int)<(xs.length:Int))=false:=by simp; omega
  have hi:i=xs.length:=by omega
  subst hi;have k5:=AbC g5;have k6:=AbC g6;have k7:∀ Z,(T.set (T0.length+1) Z).getD (T0.length+1) .dead=Z:=fun Z=>AbC (AbV (AcG g6) Z)
  clear hJ;apply zgN;simp only[go_sem,di,k5,k6];refine AbU [.cell 2 28] rfl [_] ⟨by simp only[go_sem,sideIs,k7],trivial⟩ ⟨T0.length+3,R,rfl,?_,?_,?_⟩
  .rw [lbp]
   exact(g2.below (by omega) _).wide (by omega) (lab _)
  .rw [g3,lbt]
  .exact g4.set (by omega) _
def paSp:Pa:=⟨1,[115,112,111,105,108,116]⟩
theorem A7L(l:List Pa)(i:Nat)(q:Pa):(l.map paA).set i (.agg [.int .i64 q.kind,.str q.text])=(l.set i q).map paA:=by
 rw[List.map_set]; rfl
theorem A7M(l:List Pa)(i:Nat)(h:i<l.length):List.getD (l.map paA) i .any=.agg [.int .i64 l[i].kind,.str l[i].text]:=by simp[List.getD,h,paA]
theorem AqO{l:LY}{i:Nat}(h:i<l.length):List.getD l i .any=l[i]:=by simp[List.getD,h]
theorem AjW(T0:LB)(ti:LU)(u:AV)(lo hi:Nat)(hh:hi<=T0.length)(h0:ScsS lo hi T0 u):Ct prog 12 [.agg [.str ti,u]] T0 (fun _ T=>Out lo hi T0 T):=by
 obtain⟨rows0,h1,h2,h3⟩:=id h0
 rcases h1 with⟨rfl,rfl|rfl⟩|⟨id0,rfl,h4,h5,h6⟩
 .refine zcIN func12 rfl fun h ρ w=>?_
  simp only[go_sem,gt_at,gt_at0,gd_end];refine AbD (around ?_);apply zgN;simp only[go_sem,gt_at,gt_at0,gd_end];refine AbD (around ?_);apply zgN;simp only[go_sem,gt_at,gt_at0,gd_end];exact aret [] rfl (Out.refl.app _)
 .refine zcIN func12 rfl fun h ρ w=>?_
  simp only[go_sem,gt_at,gt_at0,gd_end];refine AbD (around ?_);apply zgN;simp only[go_sem,gt_at,gt_at0,gd_end];refine AbD (around ?_);apply zgN;simp only[go_sem,gt_at,gt_at0,gd_end];exact aret [] rfl (Out.refl.app _)
 .have k0:=AcB h6
  generalize hn:rows0.length=n at *;have hn':=hn.symm;refine zcIN func12 rfl fun h ρ w=>?_
  simp only[go_sem,gt_at,gt_at0,gd_end,k0];refine⟨hn',?_⟩;clear h3 h6 k0 hn hn';clear rows0;refine AaI (ι:=Nat×LB) (fun y=>n-y.1)
   (fun y=>[(9,.int .i64 y.1),(8,.int .i64 n),(7,.sl id0 0 n n),(1,.ptr T0.length 1 0 0)])
   (fun y=>y.2) (fun y=>y.1<=n/\ScsS lo hi y.2 (.sl id0 0 n n)/\Out lo hi T0 y.2/\y.2[T0.length]? = some (.arr 2 [.agg [.str ti,.sl id0 0 n n]]))
   (0,T0++[.arr 2 [.agg [.str ti,.sl id0 0 n n]]]) ⟨lbq _,h0.app _,Out.refl.app _,by simp⟩ ?_ ?_
  .refine Lp ?_ rfl
   simp only[go_sem]
  rintro⟨i,T⟩ ⟨g1,g2,g3,g4⟩ J hJ;simp only at g1 g2 g3 g4 hJ |-;obtain⟨rows,e1,e2,e3⟩:=id g2
  rcases e1 with⟨_,e1|e1⟩|⟨id',e1,e4,e5,e6⟩
  .cases e1
  .cases e1
  simp only[AV.sl.injEq,true_and]at e1;obtain⟨rfl,e1,_⟩:=e1
  by_cases gi:i<n
  .have di:decide ((i:Int)<(n:Int))=true:=by simp; omega
   have gr:i<rows.length:=by omega
   obtain⟨s,w,hr,hw⟩:=e3 _ (lai gr);have hg':List.getD rows i .any=.agg [.str s.no,.int .i64 s.place,.str s.set,.int .i64 s.time,w]:=by rw[AqO gr,hr]; rfl
   have k1:=AbC e6;have k1':=AcB e6;have e1':=e1.symm;have hfin:∀ T',ScsS lo hi T' (.sl id0 0 n n)->Out lo hi T0 T'->T'[T0.length]? = some (.arr 2 [.agg [.str ti,.sl id0 0 n n]])->_:=fun T' a1 a2 a3=>hJ (i+1,T') ⟨by simp only; omega,a1,a2,a3⟩ (by simp only; omega)
   clear hJ;obtain⟨ps,hw1,hw2⟩:=hw;have a1:=g2.app [.arr 5 [.agg [.str s.no,.int .i64 s.place,.str s.set,.int .i64 s.time,w]]];have a2:=g3.app [.arr 5 [.agg [.str s.no,.int .i64 s.place,.str s.set,.int .i64 s.time,w]]];have a3:=AaV g4 [.arr 5 [.agg [.str s.no,.int .i64 s.place,.str s.set,.int .i64 s.time,w]]];have a4:(T++[Blk.arr 5 [.agg [.str s.no,.int .i64 s.place,.str s.set,.int .i64 s.time,w]]])[T.length]? = some (.arr 5 [.agg [.str s.no,.int .i64 s.place,.str s.set,.int .i64 s.time,w]]):=by simp
   have a5:=hw1.app [.arr 5 [.agg [.str s.no,.int .i64 s.place,.str s.set,.int .i64 s.time,w]]];have a0:=g3.1
   rcases hw1 with⟨hw3,rfl|rfl⟩|⟨j,rfl,b1,b2,b3⟩
   .apply zgN
    simp only[go_sem,di,hg',k1,k1',e1',gt_at,gt_at0,st_at,st_at0,gd_end,st_end]
    repeat refine aqb ?_
    refine AbD (around ?_);apply zgN;simp only[go_sem]
    repeat refine aqb ?_
    rw[ic i];refine ainv (hfin _ a1 a2 a3) (Lp ?_ rfl);simp only[go_sem]
   .apply zgN
    simp only[go_sem,di,hg',k1,k1',e1',gt_at,gt_at0,st_at,st_at0,gd_end,st_end]
    repeat refine aqb ?_
    refine AbD (around ?_);apply zgN;simp only[go_sem]
    repeat refine aqb ?_
    rw[ic i];refine ainv (hfin _ a1 a2 a3) (Lp ?_ rfl);simp only[go_sem]
   .have k2:=AcB b3
    simp only[laa]at a1 a2 a3 a4 a5 hg' |-;generalize hm:ps.length=m at *;have hm':=hm.symm;apply zgN;simp only[go_sem,di,hg',k1,k1',k2,e1',hm,laa,gt_at,gt_at0,st_at,st_at0,gd_end,st_end]
    repeat refine aqb ?_
    generalize hp:T.length=p at *;clear k1 k1' k2 e1 e1' e3 e6 g2 g3 g4 hr hg' b3;generalize T++[Blk.arr 5 [.agg [.str s.no,.int .i64 s.place,.str s.set,.int .i64 s.time,.sl j 0 m m]]]=T1 at *;refine AaI (ι:=Nat×LB×List Pa) (fun y=>m-y.1)
     (fun y=>[(16,.int .i64 y.1),(15,.int .i64 m),(3,.ptr p 1 0 0),(9,.int .i64 i),(8,.int .i64 n),(7,.sl id0 0 n n),(1,.ptr T0.length 1 0 0)])
     (fun y=>y.2.1) (fun y=>y.1<=m/\ScsS lo hi y.2.1 (.sl id0 0 n n)/\Out lo hi T0 y.2.1/\y.2.1[T0.length]? = some (.arr 2 [.agg [.str ti,.sl id0 0 n n]])/\y.2.1[p]? = some (.arr 5 [.agg [.str s.no,.int .i64 s.place,.str s.set,.int .i64 s.time,.sl j 0 m m]])/\y.2.1[j]? = some (.arr 2 (y.2.2.map paA))/\y.2.2.length=m)
     (0,T1,ps) ⟨lbq _,a1,a2,a3,a4,?_,hm⟩ ?_ ?_
    .rcases a5 with⟨_,a5|a5⟩|⟨_,a5,_,_,a6⟩
     .cases a5
     .cases a5
     .simp only [AV.sl.injEq]at a5
      rw[a5.1]; exact a6
    .refine Lp ?_ rfl
     simp only[go_sem]
    clear a1 a2 a3 a4 a5 hm hm';clear ps T1;rintro⟨c,T,qs⟩ ⟨f1,f2,f3,f4,f5,f6,f7⟩ J2 hJ2;simp only at f1 f2 f3 f4 f5 f6 f7 hJ2 |-
    by_cases gc:c<m
    .have dc:decide ((c:Int)<(m:Int))=true:=by simp; omega
     have k5:=AbC f5;have k6:=AbC f6;have hst:=A7L qs c paSp;have hgc:=A7M qs c (by omega);simp only[paSp]at hst;have hfin2:=hJ2 (c+1,T.set j (.arr 2 ((qs.set c paSp).map paA)),qs.set c paSp) ⟨by simp only; omega,f2.par f6 (by simp),f3.set b1 b2 _,AbE f4 (by omega) _,AbE f5 (by omega) _,AbV (AcG f6) _,by simpa using f7⟩ (by simp only; omega);simp only[paSp]at hfin2;clear hJ2;apply zgN;simp only[go_sem,dc,k5,k6,f7,hst,hgc,laa]
     repeat refine aqb ?_
     rw[ic c];refine ainv hfin2 (Lp ?_ rfl);simp only[go_sem]
    .have dc:decide ((c:Int)<(m:Int))=false:=by simp; omega
     clear hJ2;have hfin3:=hfin _ f2 f3 f4;apply zgN;simp only[go_sem,dc]
     repeat refine aqb ?_
     rw[ic i];refine ainv hfin3 (Lp ?_ rfl);simp only[go_sem]
  .have di:decide ((i:Int)<(n:Int))=false:=by simp; omega
   have k1:=AbC e6;have k4:=AbC g4;have e1':=e1.symm;clear hJ;apply zgN;simp only[go_sem,di,k1,k4,e1']
   repeat refine aqb ?_
   refine AaI (ι:=Nat×LB) (fun y=>n-y.1)
    (fun y=>[(29,.int .i64 y.1),(28,.int .i64 n),(1,.ptr T0.length 1 0 0)])
    (fun y=>y.2) (fun y=>y.1<=n/\ScsS lo hi y.2 (.sl id0 0 n n)/\Out lo hi T0 y.2/\y.2[T0.length]? = some (.arr 2 [.agg [.str ti,.sl id0 0 n n]]))
    (0,T) ⟨lbq _,g2,g3,g4⟩ ?_ ?_
   .refine Lp ?_ rfl
    simp only[go_sem]
   clear e1' e3 e6 g1 g2 g3 g4 gi di k1 k4 i;clear T;rintro⟨i,T⟩ ⟨g1,g2,g3,g4⟩ J hJ;simp only at g1 g2 g3 g4 hJ |-;obtain⟨rows,e1,e2,e3⟩:=id g2
   rcases e1 with⟨_,e1|e1⟩|⟨id',e1,e4',e5',e6⟩
   .cases e1
   .cases e1
   simp only[AV.sl.injEq,true_and]at e1;obtain⟨rfl,e1,_⟩:=e1
   by_cases gi:i<n
   .have di:decide ((i:Int)<(n:Int))=true:=by simp; omega
    have gr:i<rows.length:=by omega
    obtain⟨s,w,hr,hw⟩:=e3 _ (lai gr);have hg':List.getD rows i .any=.agg [.str s.no,.int .i64 s.place,.str s.set,.int .i64 s.time,w]:=by rw[AqO gr,hr]; rfl
    have k1:=AbC e6;have k4:=AbC g4;have e1':=e1.symm;subst e1;have hfin:=hJ (i+1,T.set id0 (.arr 5 (rows.set i (.agg [.str s.no,.int .i64 s.place,.str [83,80,79,73,76,84],.int .i64 s.time,w])))) ⟨by simp only; omega,g2.row e6 (by simp) (fun r hrr=>by
     rcases List.mem_or_eq_of_mem_set hrr with hrr|rfl
     .exact e3 r hrr
     .exact ⟨⟨s.no,s.place,[83,80,79,73,76,84],s.time,s.Lc⟩,w,rfl,hw⟩),g3.set e4' e5' _,AbE g4 (by omega) _⟩ (by simp only; omega)
    clear hJ;apply zgN;simp only[go_sem,di,hg',k1,k4,e1']
    repeat refine aqb ?_
    rw[ic i];refine ainv hfin (Lp ?_ rfl);simp only[go_sem]
   .have di:decide ((i:Int)<(n:Int))=false:=by simp; omega
    clear hJ;apply zgN;simp only[go_sem,di];exact aret [] rfl g3
theorem AzR{x:Sr}(hx:ScriptOk x) {lo hi T a R}(h:OwnR lo hi T a R)(e:R.map Prod.fst=x.Lb):ScsS lo hi T (.sl a 0 x.Lb.length x.Lb.length):=by
 have hl:R.length=x.Lb.length:=by rw[<- e,laa]
 have:=hx.len;rw[<- hl];refine h.shape (by omega) fun q hq=>?_
 have h1:q.1∈x.Lb:=e▸List.mem_map.2 ⟨q,hq,rfl⟩;have:=AdL hx q.1 h1;omega
theorem ScsS.wide{lo hi lo' hi' T u}(h:ScsS lo hi T u)(h1:lo'<=lo)(h2:hi<=hi'):ScsS lo' hi' T u:=h.to h1 h2 fun _ _ _ _ h=>h
theorem ScsS.below{lo hi T u}(h:ScsS lo hi T u){j:Nat}(hj:j<lo)(b:Blk):ScsS lo hi (T.set j b) u:=h.to (lab _) (lab _) fun k h1 _ c hc=>AbE hc (by omega) b
theorem ScsS.unf{lo hi T a n}(h:ScsS lo hi T (.sl a 0 n n)):∃ rows:LY,rows.length=n/\n<=100000/\lo<=a/\a<hi/\T[a]? = some (.arr 5 rows)/\∀ r∈rows,RowS lo hi T r:=by
 obtain⟨rows,e1,e2,e3⟩:=h
 rcases e1 with⟨_,e1|e1⟩|⟨id',e1,e4,e5,e6⟩
 .cases e1
 .cases e1
 .simp only [AV.sl.injEq,true_and]at e1
  obtain⟨rfl,e1,_⟩:=e1;exact⟨rows,e1.symm,by omega,e4,e5,e6,e3⟩
theorem AwR{St:Std}(hS:LibOk St)(x:Sr)(hx:ScriptOk x)(T0:LB):CtH prog St 5 [srA x] T0 (fun r T=>∃ u ti,r=.tup [.agg [.str ti,u],.int .i64 0]/\ScsS T0.length T.length T u/\Ext T0 T):=by
 have hck:=AeG hS x hx;have hcp:=fun T=>AiO T x.Lj x.Lb (by have:=hx.len; omega) (AdL hx)
 have hsh:=fun{lo hi T a R}=>AzR hx (lo:=lo) (hi:=hi) (T:=T) (a:=a) (R:=R)
 have hxl:=hx.len;obtain⟨ti,xs⟩:=x;simp only[srA]at hck hcp hsh hxl |-;refine zdIN func5 rfl fun h ρ w hg=>?_
 simp only[go_sem,gt_at0,gd_end,gt_at,gt_at0,st_at,st_at0,gd_end,st_end,lae];refine zqN hg (hck) ?_;simp only[go_sem,gt_at0,gd_end,gt_at,gt_at0,st_at,st_at0,gd_end,st_end,lae];refine za (hcp _) ?_;rintro _ T ⟨a,R,rfl,hR,hRx,hE⟩;have hS1:=hsh hR hRx;clear hck hcp hsh hx;have q1:T[T0.length+1]? = some (.arr 2 [.agg [.str [],.raw (.slice none 0 0)]]):=hE _ _ (by simp);have hE0:Ext T0 T:=fun k b e=>hE k b (AaV e _)
 have hel:=hE.len;simp only[lak,laf,lar]at hel hS1;have hS2:=hS1.app [.arr 2 [.agg [.str ti,.sl a 0 xs.length xs.length]]];clear hR hRx R hE;generalize hxn:xs.length=n at *;obtain⟨rows0,r1,r2,r4,r5,r6,r3⟩:=hS1.unf;have k0:=AcB r6;apply zgN;simp only[go_sem,k0,gt_at,gt_at0,st_at,st_at0,gd_end,st_end,lae];refine⟨r1.symm,?_⟩;clear r3 r6 k0 r1;clear rows0;generalize hc:T.length=c at *;refine AaI (ι:=Nat×LB) (fun y=>n-y.1)
  (fun y=>[(18,.int .i64 y.1),(17,.int .i64 n),(5,.ptr c 1 0 0),(3,.int .i64 0),(2,.ptr (T0.length+1) 1 0 0)])
  (fun y=>y.2) (fun y=>y.1<=n/\ScsS (T0.length+1+1) c y.2 (.sl a 0 n n)/\Ext T0 y.2/\y.2[c]? = some (.arr 2 [.agg [.str ti,.sl a 0 n n]])/\y.2[T0.length+1]? = some (.arr 2 [.agg [.str [],.raw (.slice none 0 0)]])/\c<y.2.length)
  (0,T++[.arr 2 [.agg [.str ti,.sl a 0 n n]]]) ⟨lbq _,hS2,hE0.app _,by simp[<- hc],AaV q1 _,by simp[<- hc]⟩ ?_ ?_
 .refine Lp ?_ rfl
  simp only[go_sem]
 clear hS1 hS2 hE0 q1 hc;clear T;rintro⟨i,T⟩ ⟨g1,g2,g3,g4,g5,g6⟩ J hJ;simp only at g1 g2 g3 g4 g5 g6 hJ |-;obtain⟨rows,e1,e2,e4',e5',e6,e3⟩:=g2.unf;have k1:=AbC e6;have k4:=AbC g4
 by_cases gi:i<n
 .have di:decide ((i:Int)<(n:Int))=true:=by simp; omega
  have gr:i<rows.length:=by omega
  obtain⟨s,w,hr,hw⟩:=e3 _ (lai gr);have hg':List.getD rows i .any=.agg [.str s.no,.int .i64 s.place,.str s.set,.int .i64 s.time,w]:=by rw[AqO gr,hr]; rfl
  have hit:=AjR hS ((i:Int)+1) (by omega) (by omega);generalize Lib.itoa ((i:Int)+1)=no at hit;subst e1;have hfin:=hJ (i+1,T.set a (.arr 5 (rows.set i (.agg [.str no,.int .i64 s.place,.str s.set,.int .i64 s.time,w])))) ⟨by simp only; omega,g2.row e6 (by simp) (fun r hrr=>by
   rcases List.mem_or_eq_of_mem_set hrr with hrr|rfl
   .exact e3 r hrr
   .exact ⟨⟨no,s.place,s.set,s.time,s.Lc⟩,w,rfl,hw⟩),g3.set (by omega) _,AbE g4 (by omega) _,AbE g5 (by omega) _,by simp only[lbp]; exact g6⟩ (by simp only; omega)
  clear hJ;apply zgN;simp only[go_sem,di];refine zr [.str no] AaJ ?_;simp only[go_sem,hg',k1,k4]
  repeat refine And.intro (by first|omega|exact hit.at hg|exact .inl trivial|rfl|(simp; done)|(simp; omega)) ?_
  apply zgN;simp only[go_sem]
  repeat refine And.intro (by first|omega|exact .inl trivial|exact .inl (.inl trivial)|rfl|(simp; done)|(simp; omega)) ?_
  rw[ic i];refine ainv hfin (Lp ?_ rfl);simp only[go_sem]
 .have di:decide ((i:Int)<(n:Int))=false:=by simp; omega
  have k5:=AbC g5;have k6:∀ Z,(T.set (T0.length+1) Z).getD (T0.length+1) .dead=Z:=fun Z=>AbC (AbV (AcG g5) Z)
  clear hJ;apply zgN;simp only[go_sem,di,k4,k5];refine AbU [.cell 2 28,.tmp 3] rfl [.agg [.str ti,.sl a 0 n n],.int .i64 0] ⟨by simp only[go_sem,sideIs,k6],rfl,trivial⟩ ⟨_,ti,rfl,?_,?_⟩
  .rw [lbp]
   exact(g2.below (by omega) _).wide (by omega) (by omega)
  .exact g3.set (by omega) _
theorem A1V(T:LB)(a:Nat)(rows:LY)(h:T[a]? = some (.arr 5 rows))(hl:rows.length<=100000) :
  Ct prog 23 [.sl a 0 rows.length rows.length] T (fun r s=>(r=.raw (.slice none 0 0)/\s=T)\/(r=.sl T.length 0 rows.length rows.length/\s=T++[.arr 5 rows])):=by
 have k1:=AbC h;have k2:=AcB h;refine zcIN func23 rfl fun h ρ w=>?_
 simp only[go_sem,k1,k2,gt_at,gt_at0,st_at,st_at0,gd_end,st_end,lae]
 repeat refine And.intro (by first|omega|exact .inl trivial|exact .inl (.inl trivial)|rfl|(simp; done)|(simp; omega)) ?_
 intro b
 cases b with
 | true =>
  apply zgN;simp only[go_sem,k1,k2,gt_at,gt_at0,st_at,st_at0,gd_end,st_end,lae];exact aret [2] rfl (.inl ⟨rfl,rfl⟩)
 | false =>
  apply zgN;simp only[go_sem,k1,k2,gt_at,gt_at0,st_at,st_at0,gd_end,st_end,lae];have htk:rows.take rows.length=rows:=lbt;rw[htk]
  repeat refine And.intro (by first|omega|exact .inl trivial|exact .inl (.inl trivial)|rfl|(simp; done)|(simp; omega)) ?_
  exact aret [2] rfl (.inr ⟨rfl,rfl⟩)
theorem BcI{St:Std}(hS:LibOk St)(x:Sr)(hx:ScriptOk x)(T0:LB):CtH prog St 6 [srA x,.int .i64 0,.int .i64 x.Lb.length] T0 (fun r T=>∃ u ti,r=.tup [.agg [.str ti,u],.int .i64 0]/\ScsS T0.length T.length T u/\Ext T0 T):=by
 have hck:=AeG hS x hx;have hcp:=fun T=>AiO T x.Lj x.Lb (by have:=hx.len; omega) (AdL hx)
 have hsh:=fun{lo hi T a R}=>AzR hx (lo:=lo) (hi:=hi) (T:=T) (a:=a) (R:=R)
 have hxl:=hx.len;have hok:=hx.ok;obtain⟨ti,xs⟩:=x;simp only[srA]at hck hcp hsh hxl hok |-;have d0:decide ((xs.length:Int)<0)=false:=by simp
 have d1:decide ((xs.length:Int)>(xs.length:Int))=false:=by simp
 refine zdIN func6 rfl fun h ρ w hg=>?_
 simp only[go_sem,gt_at0,gd_end,gt_at,gt_at0,st_at,st_at0,gd_end,st_end,lae];refine zqN hg (hck) ?_;simp only[go_sem,gt_at0,gd_end,d0,d1,laa,gt_at,gt_at0,st_at,st_at0,gd_end,st_end,lae];refine za (hcp _) ?_;rintro _ T ⟨a,R,rfl,hR,hRx,hE⟩;have hS1:=hsh hR hRx;clear hck hcp hsh;have q0:T[T0.length+1]? = some (.arr 2 [.agg [.str [],.raw (.slice none 0 0)]]):=hE _ _ (by simp);have hE0:Ext T0 T:=fun k b e=>hE k b (AaV e _)
 have hel:=hE.len;simp only[lak,laf,lar]at hel hS1;have hRl:(R.map rowQ).length=xs.length:=by rw[<- hRx]; simp
 have k1:=AcB hR.sc;have hsc:=hR.sc;have hrr:=hS1.unf;obtain⟨rows,e1,e2,e4,e5,e6,e3⟩:=hrr;rw[hsc]at e6;simp only[lam,Blk.arr.injEq,true_and]at e6;subst e6;have hfin:∀ (T':LB) (u:AV),Ext T T'->OwnL (T.length+1) T'.length T' 5 u []\/OwnL (T.length+1) T'.length T' 5 u (R.map rowQ)->ScsS (T0.length+1+1) T'.length T' u:=fun T' u h1 h2=>by
  have hl:=h1.len
  rcases h2 with h2|h2
  .exact ⟨[],h2.to (by omega) (lab _) (fun _ _ _ _ h=>h),by simp,by simp⟩
  .refine ⟨R.map rowQ,h2.to (by omega) (lab _) (fun _ _ _ _ h=>h),by omega,fun r hr=>?_⟩
   obtain⟨s,w,g1,ps,g2,g3⟩:=e3 r hr;exact⟨s,w,g1,ps,g2.to (lab _) hl (fun j _ _ b hb=>h1 j b hb),g3⟩
 have htk:List.drop 0 (List.take xs.length (R.map rowQ))=R.map rowQ:=by rw[List.drop_zero,lag (by omega)]
 have hg1:∀ (q:Sc×Nat),R[0]? = some q->List.getD (R.map rowQ) 0 .any=.agg [.str q.1.no,.int .i64 q.1.place,.str q.1.set,.int .i64 q.1.time,cellP q.2 q.1]:=fun q hq=>by simp[List.getD,hq,rowQ,scH]
 have hcl:=fun T h=>A1V T a (R.map rowQ) h (by omega)
 rw[hRl]at hcl;have key:xs.length=0\/∃ q,R[0]? = some q/\(q.1.time==5)=false:=by
  cases hq:R with
  | nil=>rw[hq]at hRx; exact .inl (by rw[<- hRx]; rfl)
  | cons q r =>
   refine .inr ⟨q,rfl,?_⟩;rw[hq]at hRx;simp only[lah]at hRx;rw[<- hRx]at hok;have:=hok.2.2.2.1 rfl
   simpa using this
 have hcc:=hcl (T++[.arr 2 [.agg [.str ti,.sl a 0 xs.length xs.length]]]) (AaV hsc _);have hz1:((xs.length:Int)-0).toNat=xs.length:=by omega
 rcases key with h0|⟨q,hq,h5⟩
 .have d2:decide ((0:Int)<(xs.length:Int))=false:=by rw[lbu]; omega
  apply zgN;simp only[go_sem,d2,k1,hRl,hz1,Nat.sub_zero,gt_at,gt_at0,st_at,st_at0,gd_end,st_end,lae]
  repeat refine And.intro (by first|omega|exact .inl trivial|exact .inl (.inl trivial)|rfl|(simp; done)|(simp; omega)) ?_
  refine ArV hcc rfl rfl ?_;have q2:=AcB q0;have q6:∀ U Z,((T++U).set (T0.length+1) Z).getD (T0.length+1) .dead=Z:=fun U Z=>AbC (AbV (AcG (AaV q0 U)) Z)
  rintro _ _ (⟨rfl,rfl⟩|⟨rfl,rfl⟩)
  .apply zgN
   simp only[go_sem,q2,gt_at,gt_at0,st_at,st_at0,gd_end,st_end,lae];refine AbU [.cell 6 28,.tmp 7] rfl [.agg [.str ti,.raw (.slice none 0 0)],.int .i64 0] ⟨by simp only[go_sem,sideIs,q6],rfl,trivial⟩ ⟨_,ti,rfl,?_,?_⟩
   .rw [lbp]
    exact((hfin _ _ (Ext.app (Ext.refl T) _) (.inl (.inl ⟨rfl,.inl rfl⟩))).below (by omega) _).wide (by omega) (lab _)
   .exact (hE0.app _).set (by omega) _
  .apply zgN
   simp only[go_sem,q2,gt_at,gt_at0,st_at,st_at0,gd_end,st_end,lae];refine AbU [.cell 6 28,.tmp 7] rfl [.agg [.str ti,.sl (T.length+1) 0 xs.length xs.length],.int .i64 0] ⟨by simp only[go_sem,sideIs,q6],rfl,trivial⟩ ⟨_,ti,rfl,?_,?_⟩
   .rw [lbp]
    refine((hfin _ _ (Ext.app (Ext.refl T) _) (.inr (.inr ⟨T.length+1,by rw[hRl],lab _,by simp,?_⟩))).below (by omega) _).wide (by omega) (lab _);rw[lay (by omega),Nat.add_sub_cancel_left];rfl
   .exact (hE0.app _).set (by omega) _
 .have hpos:0<xs.length:=by
   obtain⟨h1,_⟩:=List.getElem?_eq_some_iff.1 hq;have h2:=hRl;rw[laa]at h2;omega
  have d2:decide ((0:Int)<(xs.length:Int))=true:=by rw[lao]; omega
  have hg2:=hg1 q hq;apply zgN;simp only[go_sem,d2,k1,hRl,hg2,h5,hz1,Nat.sub_zero,gt_at,gt_at0,st_at,st_at0,gd_end,st_end,lae]
  repeat refine And.intro (by first|omega|exact .inl trivial|exact .inl (.inl trivial)|rfl|(simp; done)|(simp; omega)) ?_
  refine ArV hcc rfl rfl ?_;have q2:=AcB q0;have q6:∀ U Z,((T++U).set (T0.length+1) Z).getD (T0.length+1) .dead=Z:=fun U Z=>AbC (AbV (AcG (AaV q0 U)) Z)
  rintro _ _ (⟨rfl,rfl⟩|⟨rfl,rfl⟩)
  .apply zgN
   simp only[go_sem,q2,gt_at,gt_at0,st_at,st_at0,gd_end,st_end,lae];refine AbU [.cell 6 28,.tmp 7] rfl [.agg [.str ti,.raw (.slice none 0 0)],.int .i64 0] ⟨by simp only[go_sem,sideIs,q6],rfl,trivial⟩ ⟨_,ti,rfl,?_,?_⟩
   .rw [lbp]
    exact((hfin _ _ (Ext.app (Ext.refl T) _) (.inl (.inl ⟨rfl,.inl rfl⟩))).below (by omega) _).wide (by omega) (lab _)
   .exact (hE0.app _).set (by omega) _
  .apply zgN
   simp only[go_sem,q2,gt_at,gt_at0,st_at,st_at0,gd_end,st_end,lae];refine AbU [.cell 6 28,.tmp 7] rfl [.agg [.str ti,.sl (T.length+1) 0 xs.length xs.length],.int .i64 0] ⟨by simp only[go_sem,sideIs,q6],rfl,trivial⟩ ⟨_,ti,rfl,?_,?_⟩
   .rw [lbp]
    refine((hfin _ _ (Ext.app (Ext.refl T) _) (.inr (.inr ⟨T.length+1,by rw[hRl],lab _,by simp,?_⟩))).below (by omega) _).wide (by omega) (lab _);rw[lay (by omega),Nat.add_sub_cancel_left];rfl
   .exact (hE0.app _).set (by omega) _
def sizB(b:Bl):Prop:=b.name.length<=2000/\∀ l∈b.La,l.length<=3000000
theorem indent_len(n:Nat)(l:LU):(indent n l).length=n+l.length:=by
 grind[indent,AbP]
theorem BcJ{p:Pa}(h:p.text.length<=2000):sizB (newB p):=by
 unfold newB
 split
 .exact ⟨by simp,fun l hl=>by grind[wrapL_le]⟩
 .split
  .refine ⟨by simp,fun l hl=>?_⟩<;>grind[turnLine,AbP]
  .refine ⟨h,fun l hl=>?_⟩<;>grind[indent_len]
theorem moreB_siz{b:Bl}{p:Pa}(hb:sizB b)(h:p.text.length<=2000):sizB (moreB b p):=by
 grind[sizB,addB,indent_len,moreB,wrapL_le,asideT]
theorem A1W{x:Sc}(h:LineOk x):∀ b∈blocksL x,sizB b:=by
 obtain⟨e,hr,_,_⟩:=h.sc.run;have ht:=fun p hp=>AgC (AlL _ _ _ hr p hp)
 have hh:=h.head;have h0:sizB ⟨0,wrapL 60 (headL x),[],[]⟩:=⟨by simp,fun l hl=>by grind[wrapL_le]⟩;have hi:(∀ b∈(AeU x).1,sizB b)/\sizB (AeU x).2:=AhJ (P:=fun(s:List Bl×Bl)=>(∀ b∈s.1,sizB b)/\sizB s.2) (fun s p h1 h2=>by
  grind[bstep,moreB_siz,BcJ]) _ _ ⟨by simp,h0⟩ ht
 grind[blocksL]
def allB(xs:List Sc):List Bl:=xs.flatMap blocksL
def allTo(xs:List Sc)(i:Nat):List Bl:=allB (xs.take i)
theorem AnZ{xs:List Sc}{i:Nat}(h:i<xs.length):allTo xs (i+1)=allTo xs i++blocksL xs[i]:=by
 unfold allTo allB;rw[lal h,List.flatMap_append,List.flatMap_cons,List.flatMap_nil,lbg]
theorem AtQ{xs:List Sc}(h:∀ x∈xs,LineOk x):∀ i,i<=xs.length->(allTo xs i).length<=4001*i
 | 0,_=>by simp[allTo,allB]
 | i+1,hi=>by
  have ih:=AtQ h i (by omega);have h2:=(h _ (lai (show i<xs.length by omega))).bound.2;rw[AnZ (by omega),lak];omega
def headsTo(xs:List Sc)(i:Nat):List Int:=(List.range i).map fun k=>((allTo xs k).length:Int)
theorem AtR(xs:List Sc)(i:Nat):headsTo xs (i+1)=headsTo xs i++[((allTo xs i).length:Int)]:=by
 simp[headsTo,List.range_succ]
theorem AlY(xs:List Sc)(i:Nat):(headsTo xs i).length=i:=by simp[headsTo]
theorem A7N{bs:List Bl}(h:∀ b∈bs,b.La.length<=11000000):∀ i,i<=bs.length->costTo bs i<=11000001*i
 | 0,_=>by simp[costTo]
 | i+1,hi=>by
  have ih:=A7N h i (by omega);have h2:=h _ (lai (show i<bs.length by omega));rw[AlV (by omega)];omega
structure LayOk(x:Sr):Prop where
 ok:ScriptOk x
 few:x.Lb.length<=10
 own:∀ y∈x.Lb,∀ b∈blocksL y,BlOk b
theorem LayOk.fit{x:Sr}(h:LayOk x):∀ b∈allB x.Lb,BlFit b:=fun b hb=>by
 obtain⟨y,hy,hb⟩:=List.mem_flatMap.1 hb;have hl:=AwN _ _ _ h.ok.ok h.ok.many y hy;exact⟨(h.own y hy b hb).kinds,by have:=hl.bound.1 b hb; omega,by have:=(A1W hl b hb).1; omega⟩
theorem LayOk.bl{x:Sr}(h:LayOk x):∀ b∈allB x.Lb,BlOk b:=fun b hb=>by
 obtain⟨y,hy,hb⟩:=List.mem_flatMap.1 hb;exact h.own y hy b hb
def pgI:Nat->List (List Ln)->LY
 | _,[]=>[]
 | i,p::r=>.agg [.int .i64 ((i+1:Nat):Int),pgA p]::pgI (i+1) r
theorem pgI_snoc:∀ (l:List (List Ln))(j:Nat)(p:List Ln),pgI j (l++[p])=pgI j l++[.agg [.int .i64 ((j+l.length+1:Nat):Int),pgA p]]
 | [],j,p=>rfl
 | q::r,j,p=>by
  have:=pgI_snoc r (j+1) p;simp only[las,pgI,this,laf];rw[show j+1+r.length+1=j+(r.length+1)+1 by omega]
theorem pgI_len:∀ (l:List (List Ln))(j:Nat),(pgI j l).length=l.length
 | [],_=>rfl
 | _::r,j=>by simp[pgI,pgI_len r (j+1)]
theorem A7O:∀ (l:List (List Ln))(j k:Nat)(h:k<l.length),List.getD (pgI j l) k .any=.agg [.int .i64 ((j+k+1:Nat):Int),pgA l[k]]
 | [],_,_,h=>by simp at h
 | q::r,j,0,h=>rfl
 | q::r,j,k+1,h=>by
  have:=A7O r (j+1) k (by simpa using h);simp only[pgI,List.getD_cons_succ,this,List.getElem_cons_succ];rw[show j+1+k+1=j+(k+1)+1 by omega]
theorem AoA:∀ (l:List (List Ln))(j:Nat),(flat (pgI j l)).all Av.frozen=true
 | [],_=>rfl
 | q::r,j=>by simpa[pgI,flat,cellsOf,pgA,Av.frozen]using AoA r (j+1)
