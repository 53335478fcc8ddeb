/- paper.Wrap: a text in lines. -/
import Derived.Test.YtccfklnmolggiaaGreatDoorZ21
set_option maxRecDepth 100000
set_option maxHeartbeats 4000000
set_option linter.all false
namespace Go.Proofs.YtccfklnmolggiaaGreatDoor
open Av RowKit Proofs.Tryz
def chop(W:Nat)(w:LU):List LU×LU :=
 if h:W<w.length/\0<W then(w.take W::(chop W (w.drop W)).1,(chop W (w.drop W)).2) else([],w)
termination_by w.length
decreasing_by all_goals(simp; omega)
def wrapS(W:Nat)(s:List LU×LU)(w:LU):List LU×LU :=
 if w==[] then s
 else if s.2 != []&&decide (s.2.length+1+w.length<=W) then(s.1,s.2++(32::w))
 else((if s.2 != [] then s.1++[s.2] else s.1)++(chop W w).1,(chop W w).2)
def wrapF(W:Nat)(t:LU):List LU×LU:=(splitW t).foldl (wrapS W) ([],[])
def wrapL(W:Nat)(t:LU):List LU:=if(wrapF W t).2 != [] then(wrapF W t).1++[(wrapF W t).2] else(wrapF W t).1
def wrapTo(W:Nat)(t:LU)(j:Nat):List LU×LU:=((splitW t).take j).foldl (wrapS W) ([],[])
theorem AcR{W:Nat}{w:LU}(h:W<w.length)(h0:0<W):chop W w=(w.take W::(chop W (w.drop W)).1,(chop W (w.drop W)).2):=by
 grind[chop]
theorem chop_end{W:Nat}{w:LU}(h:¬ W<w.length):chop W w=([],w):=by
 grind[chop]
theorem AzA(W:Nat):∀ (n:Nat)(w:LU),w.length<=n->(chop W w).1.length+(chop W w).2.length<=w.length
 | 0,w,h=>by grind[chop_end]
 | n+1,w,h=>by
  by_cases hc:W<w.length/\0<W
  .have:=AzA W n (w.drop W) (by grind)
   grind[AcR]
  grind[chop]
theorem splitW_sum:∀ q:LU,((splitW q).map List.length).sum+(splitW q).length=q.length+1
 | []=>rfl
 | c::r=>by
  have ih:=splitW_sum r;rw[splitW]
  split
  .simp; omega
  .cases h:splitW r with
   | nil=>rw[h]at ih; simp at ih
   | cons w ws=>rw[h]at ih; simp[ApZ]at ih |-; omega
def sumTo(t:LU)(j:Nat):Nat:=(((splitW t).take j).map List.length).sum+j
theorem AiJ{t:LU}{j:Nat}{w:LU}(h:(splitW t)[j]? = some w):sumTo t (j+1)=sumTo t j+w.length+1:=by
 grind[sumTo,lal]
theorem AjT(t:LU)(j:Nat)(hj:j<=(splitW t).length):sumTo t j<=t.length+1:=by
 grind[splitW_sum,List.take_append_drop,sumTo]
theorem wrapTo_step{W:Nat}{t:LU}{j:Nat}{w:LU}(h:(splitW t)[j]? = some w):wrapTo W t (j+1)=wrapS W (wrapTo W t j) w:=by
 grind[wrapTo,lal]
theorem AsU(W:Nat)(s:List LU×LU)(w:LU):(wrapS W s w).1.length+(wrapS W s w).2.length<=s.1.length+s.2.length+w.length+1:=by
 unfold wrapS
 .split
  .grind
  .have:=AzA W w.length w (lab _)
   grind
theorem AeI(W:Nat)(t:LU):∀ j,j<=(splitW t).length->(wrapTo W t j).1.length+(wrapTo W t j).2.length<=sumTo t j
 | 0,_=>by grind[wrapTo]
 | j+1,hj=>by
  have ih:=AeI W t j (by omega);have:=AsU W (wrapTo W t j) ((splitW t)[j])
  grind[wrapTo_step,AiJ]
def BgY(W:Int)(s:List LU×LU)(q:LU):LB :=
 [.arr 1 [.int .i64 W],.arr 1 [.sl 6 0 s.1.length s.1.length],.arr 1 [.str s.2],.arr 1 [.str q],.arr 1 [.str [32]],.arr 1 [.int .i64 0],.arr 1 (s.1.map .str)]
theorem AjU{St:Std}(hS:LibOk St)(t:LU)(W:Nat)(hl:t.length<100000000)(hW:0<W)(hW2:W<100000):PcH prog St 138 [.str t,.int .i64 (W:Int)] (· = .fz 1 ((wrapL W t).map .str)):=by
 refine AbW (A1J func138 rfl ntmps138 hB138 (by simp) fun h ρ w hg=>?_);refine goR ntmps138 300 ?_;simp only[go_sem];refine BjO (AsT _ t [32]) ntmps138 rfl ?_;rintro _ _ ⟨rfl,rfl⟩;refine goR ntmps138 300 ?_;simp only[go_sem];refine AWpR.shift (Shift.cells 1 1 [.sl 6 0 0 0] rfl rfl (by simp[cellsOf]) ⟨.sl,trivial⟩) ?_;refine BjP (S:=fun j q=>BgY W (wrapTo W t j) q) (q0:=t) (xs:=(splitW t).map .str) (E1:=fun j=>[(7,.str ((splitW t).getD j [])),(3,.ptr 0 1 0 0),(5,.ptr 1 1 0 0),(6,.ptr 2 1 0 0)]) hg rfl rfl
  (AwH hS t (by omega) _ 4 3 5 (fun _ _=>rfl) (fun _ _=>rfl) (fun _ _=>rfl) (fun _ _ _=>rfl)) (by decide) ?_ ?_ ?_
 .intro j q x h1 ρ1 w1 l id J hx hle hJ
  obtain⟨v,hv,rfl⟩:∃ v,(splitW t)[j]? = some v/\x=.str v:=by
   rw[lbf]at hx;obtain⟨v,h1,h2⟩:=Option.map_eq_some_iff.1 hx;exact⟨v,h1,h2.symm⟩
  have hgd:(splitW t).getD j []=v:=by simp[List.getD,hv]
  simp only[hgd]at hJ;refine goR ntmps138 300 ?_;simp only[go_sem];refine AsR hJ (Lo ?_);simp only[go_sem]
 .intro j q x h1 ρ1 w1 l id J hx hle hJ
  obtain⟨v,hv,rfl⟩:∃ v,(splitW t)[j]? = some v/\x=.str v:=by
   rw[lbf]at hx;obtain⟨v,h1,h2⟩:=Option.map_eq_some_iff.1 hx;exact⟨v,h1,h2.symm⟩
  have hgd:(splitW t).getD j []=v:=by simp[List.getD,hv]
  have hjl:=(List.getElem?_eq_some_iff.1 hv).1;have hst:=wrapTo_step (W:=W) hv;have hb:=AeI W t j (by omega);have hb2:=AjT t j (by omega);have hb3:=AjT t (j+1) (by omega);have hb4:=AiJ hv;rw[hst]at hJ;rw[hgd];generalize wrapTo W t j=st at *;obtain⟨ls,ln⟩:=st;simp only[BgY]at hJ |-;simp only at hb
  cases hv0:v==[]with
  | true =>
   have hS1:wrapS W (ls,ln) v=(ls,ln):=by simp only[wrapS,hv0,if_true]
   rw[hS1]at hJ;refine goR ntmps138 300 ?_;simp only[go_sem,hv0];exact AsR hJ (Lo trivial)
  | false =>
   cases hln:ln != []with
   | true =>
    by_cases hfit:ln.length+1+v.length<=W
    .have hS1:wrapS W (ls,ln) v=(ls,ln++(32::v)):=by simp[wrapS,hv0,hln,hfit]
     rw[hS1]at hJ;have hd:decide ((ln.length:Int)+1+(v.length:Int)<=(W:Int))=true:=by simp; omega
     refine goR ntmps138 300 ?_;simp only[go_sem,hv0,hln,hd]
     repeat refine al ?_
     exact AsR hJ (Lo trivial)
    .have hd:decide ((ln.length:Int)+1+(v.length:Int)<=(W:Int))=false:=by simp; omega
     have hS1:wrapS W (ls,ln) v=((ls++[ln])++(chop W v).1,(chop W v).2):=by simp[wrapS,hv0,hln,hfit]
     rw[hS1]at hJ;refine goFR ntmps138 300 ?_;simp only[go_sem,hv0,hln,hd]
     repeat refine aqb ?_
     refine A5T (ι:=List LU×LU) (fun y=>y.2.length) (fun y=>[(7,.str y.2),(3,.ptr 0 1 0 0),(5,.ptr 1 1 0 0),(6,.ptr 2 1 0 0)])
      (fun y=>[.arr 1 [.int .i64 W],.arr 1 [.sl 6 0 y.1.length y.1.length],.arr 1 [.str ln],.arr 1 [.str q],.arr 1 [.str [32]],.arr 1 [.int .i64 0],.arr 1 (y.1.map .str)])
      (fun y=>y.1++(chop W y.2).1=(ls++[ln])++(chop W v).1/\(chop W y.2).2=(chop W v).2/\y.1.length+y.2.length<=(ls++[ln]).length+v.length) (ls++[ln],v) ⟨rfl,rfl,lab _⟩ ?_ ?_
     .refine Lp ?_ ?_
      .simp only [go_sem]
      .simp
     .rintro ⟨L,u⟩ ⟨f1,f2,f3⟩ J2 hJ2
      simp only at f1 f2 f3 hJ2 |-;have hLl:(ls++[ln]).length<=ls.length+1:=by simp
      by_cases hu:W<u.length
      .have du:decide ((u.length:Int)>(W:Int))=true:=by simp; omega
       have hch:=AcR hu hW;rw[hch]at f1 f2;refine goR ntmps138 300 ?_;simp only[go_sem,du];refine BeJ [] AaJ (by decide) ntmps138 (by decide) 100 ?_;simp only[go_sem,laa]
       repeat refine aqb ?_
       refine goR ntmps138 300 ?_;simp only[go_sem]
       repeat refine aqb ?_
       refine AsR (hJ2 (L++[u.take W],u.drop W) ⟨by rw[<- f1]; simp,f2,by simp; omega⟩ (by simp; omega)) (Lp ?_ ?_)
       .simp only[go_sem]
        first|done|simp
       .simp [cutL]
      .have du:decide ((u.length:Int)>(W:Int))=false:=by simp; omega
       have hch:=chop_end hu;rw[hch]at f1 f2;simp only[lbg]at f1 f2;refine goR ntmps138 300 ?_;simp only[go_sem,du];rw[f1,f2];exact AsR hJ (Lo trivial)
   | false =>
    have hS1:wrapS W (ls,ln) v=(ls++(chop W v).1,(chop W v).2):=by simp[wrapS,hv0,hln]
    rw[hS1]at hJ;refine goFR ntmps138 300 ?_;simp only[go_sem,hv0,hln];refine A5T (ι:=List LU×LU) (fun y=>y.2.length) (fun y=>[(7,.str y.2),(3,.ptr 0 1 0 0),(5,.ptr 1 1 0 0),(6,.ptr 2 1 0 0)])
     (fun y=>[.arr 1 [.int .i64 W],.arr 1 [.sl 6 0 y.1.length y.1.length],.arr 1 [.str ln],.arr 1 [.str q],.arr 1 [.str [32]],.arr 1 [.int .i64 0],.arr 1 (y.1.map .str)])
     (fun y=>y.1++(chop W y.2).1=(ls)++(chop W v).1/\(chop W y.2).2=(chop W v).2/\y.1.length+y.2.length<=(ls).length+v.length) (ls,v) ⟨rfl,rfl,lab _⟩ ?_ ?_
    .refine Lp ?_ ?_
     .simp only [go_sem]
     .simp
    .rintro ⟨L,u⟩ ⟨f1,f2,f3⟩ J2 hJ2
     simp only at f1 f2 f3 hJ2 |-;have hLl:(ls).length<=ls.length+1:=by simp
     by_cases hu:W<u.length
     .have du:decide ((u.length:Int)>(W:Int))=true:=by simp; omega
      have hch:=AcR hu hW;rw[hch]at f1 f2;refine goR ntmps138 300 ?_;simp only[go_sem,du];refine BeJ [] AaJ (by decide) ntmps138 (by decide) 100 ?_;simp only[go_sem,laa]
      repeat refine aqb ?_
      refine goR ntmps138 300 ?_;simp only[go_sem]
      repeat refine aqb ?_
      refine AsR (hJ2 (L++[u.take W],u.drop W) ⟨by rw[<- f1]; simp,f2,by simp; omega⟩ (by simp; omega)) (Lp ?_ ?_)
      .simp only[go_sem]
       first|done|simp
      .simp [cutL]
     .have du:decide ((u.length:Int)>(W:Int))=false:=by simp; omega
      have hch:=chop_end hu;rw[hch]at f1 f2;simp only[lbg]at f1 f2;refine goR ntmps138 300 ?_;simp only[go_sem,du];rw[f1,f2];exact AsR hJ (Lo trivial)
 .intro D q hD
  have hn:(List.map AV.str (splitW t)).length=(splitW t).length:=by simp
  have htot:wrapTo W t (splitW t).length=wrapF W t:=by simp[wrapTo,wrapF]
  have hb:=AeI W t _ (lab _);have hb2:=AjT t _ (lab _);rw[htot]at hb;simp only[hn,htot];unfold wrapL;generalize wrapF W t=st at *;obtain⟨ls,ln⟩:=st;simp only[BgY];simp only at hb
  cases hln:ln != []with
  | true =>
   refine goFR ntmps138 300 ?_;simp only[go_sem,hln]
   repeat refine aqb ?_
   refine AOut.shift (Shift.freeze 4 (id:=6) rfl rfl (by simp) (lab _) ?_) (BjQ (.inr rfl) hD [4] rfl ⟨?_,rfl⟩)
   .have:=AbN (ls++[ln]); simpa using this
   .simp [resV,Av.get,Av.put,lag]
  | false =>
   refine goFR ntmps138 300 ?_;simp only[go_sem,hln];refine AOut.shift (Shift.freeze 4 (id:=6) rfl rfl (by simp) (lab _) ?_) (BjQ (.inr rfl) hD [4] rfl ⟨?_,rfl⟩)
   .exact AbN ls
   .simp [resV,Av.get,Av.put,lag]
end Go.Proofs.YtccfklnmolggiaaGreatDoor
namespace Go.Av
open RowKit
variable [Tr]
def iniO:List Oper->List Oper
 | []=>[]
 | [_]=>[]
 | a::b::r=>a::iniO (b::r)
def lasO:List Oper->Option Oper
 | []=>none
 | [a]=>some a
 | _::b::r=>lasO (b::r)
theorem A5Z:∀ {l:List Oper}{o:Oper},lasO l=some o->l=iniO l++[o]
 | [],_,h=>by cases h
 | [a],o,h=>by simp only[lasO,lam]at h; subst h; rfl
 | a::b::r,o,h=>by
  have:=A5Z (l:=b::r) h;rw[iniO,las,<- this]
def A6A(ops:List Oper)(j i:Nat):Bool:=bif i+1==ops.length then false else match ops[i]?,ops[j]? with
 | some oi,some oj=>oj.apart ops.toArray oi&&together oj oi
 | _,_=>false
section
variable {c:Cx}{k:List It}{e:Env}{s:LB}
theorem AsV{K:Env->LB->Prop}{all:List Oper}:∀ {r:List Oper}{m n:Nat}{cs:LY}{e:Env}{s:LB},(∀ (j:Nat)(o:Oper),r[j]? = some o->all[m+j]? = some o)->dxk c all K n r cs e s->Chain c all.toArray K (List.range' m r.length) e s
 | [],m,n,cs,e,s,_,h=>by
  rw[dxk]at h;exact h
 | o::r,m,n,cs,e,s,hr,h=>by
  obtain⟨cv,v,n',cs',s',h1,h2⟩:=AyY h;have h0:all.toArray[m]? = some o:=by have:=hr 0 o rfl; simpa using this
  simp only[laf,List.range'_succ,Chain,h0];exact⟨cv,v,s',h1,AsV (fun j o' hj=>by have:=hr (j+1) o' (by simpa using hj); simpa[Nat.add_assoc,Nat.add_comm 1 j]using this) h2⟩
def KLast(c:Cx)(k:List It)(ops:List Oper)(last:Oper)(e:Env)(s:LB):Prop:=AWp c (.op ops last []::k) e s
theorem KLast.K{ops:List Oper}{last:Oper}:∀ e e' s,Eqv e e'->KLast c k ops last e s->KLast c k ops last e' s:=fun _ _ _ h x=>AWp.eqv h x
def BjR(c:Cx)(k:List It)(ops:List Oper)(last:Oper)(m:Nat)(l:List Nat)(a:Act)(w:World):Prop :=
 (l=[]/\WQ c k .normal a w)\/∃ l' e s,l=l'++[m]/\(∀ j∈l',j<m)/\Chain c ops.toArray (KLast c k ops last) l' e s/\Sim c e s a w
theorem AsW(cs:LY){id:Nat}{ops:List Oper}{last:Oper}(hlast:lasO ops=some last)(hm:c.P.follows .mixedOrders=true)(hok:AgQ (A6A ops) ops=true)(hg:last.guard=none){N:Nat}(hN:c.fn.ntmps=N)(hdst:ops.all (fun o=>dOk N o.dst)=true)(n:Nat)
  (h:dxk c ops (KLast c k ops last) n (iniO ops) cs e s):AWp c (.code (.region id ops.toArray true)::k) e s:=by
 intro a w hsim;have hsp:=A5Z hlast;have hlen:ops.length=(iniO ops).length+1:=by
  grind
 have hch:=AsV (m:=0) (by
  grind) h
 rw[<- List.range_eq_range']at hch;generalize hpl:(iniO ops).length=m at *;have hlm:ops[m]? = some last:=by
  grind
 refine wp_region_any hm ?_;have hsim':Sim c e s a { w with drawn:=w.drawn+1 }:=by
  obtain⟨hh,ρ,hmm,hl,he,hdf,hsz,hX⟩:=hsim;have sm:=Same.drew w;exact⟨hh,ρ,hmm.same sm,hl.trans (Later.same sm),he,hdf,hsz,c.hx.later hmm (Later.same sm) hX⟩
 have hd:∀ o∈ops,dOk c.fn.ntmps o.dst=true:=fun o ho=>by grind
 refine AiD (BjR c k ops last m) hok (fun a w x=>?_) (fun l i r a w hj x=>?_) (fun i o r a w Kc ho x hK=>?_)
  ops.length (Array.replicate ops.length false) (List.range ops.length) a _ (by simp) ?_ (by simp) ?_ (.inr ⟨List.range m,e,s,by grind[List.range_succ],fun j hj=>by grind,hch,hsim'⟩)
 .rcases x with⟨_,x⟩|⟨l',e,s,hl,_⟩
  .exact x
  .simp at hl
 .rcases x with⟨hl,_⟩|⟨l',e,s,hl,hlt,hc,hs⟩
  .simp at hl
  .cases l with
   | nil=>exact .inr ⟨l',e,s,by grind,hlt,hc,hs⟩
   | cons j0 l0 =>
    have him:i≠m:=fun e=>by
     have:=hj j0 (by simp)
     grind[A6A]
    have hr:r≠[]:=fun e=>by
     grind[List.append_inj']
    obtain⟨r',x',rfl⟩:∃ r' x',r=r'++[x']:=⟨r.dropLast,r.getLast hr,(List.dropLast_concat_getLast hr).symm⟩;have hl2:((j0::l0)++i::r')++[x']=l'++[m]:=by grind
    obtain⟨h1,h2⟩:=List.append_inj' hl2 rfl
    simp at h2
    subst h2;subst h1;refine .inr ⟨i::((j0::l0)++r'),e,s,by simp,fun j hj=>hlt j (by grind),?_,hs⟩
    cases hi:ops[i]? with
    | none =>
     grind
    | some oi =>
     refine Chain.front KLast.K (by simpa using hi) (fun j hjl=>?_) hc<;>grind[A6A]
 .rcases x with⟨hl,_⟩|⟨l',e,s,hl,hlt,hc,hs⟩
  .grind
  .cases l' with
   | nil =>
    simp at hl
    obtain⟨rfl,rfl⟩:=hl;rw[hlm]at ho
    cases ho
    rw[if_pos (by grind[Region.wanted])];have h1:=hc;have h2:=h1 a w hs (hd last (laj hlm));exact Oper.wp_mono (fun a w hh=>hK a w (.inl ⟨rfl,hh⟩)) h2
   | cons i' r' =>
    simp at hl
    obtain⟨rfl,rfl⟩:=hl;have ho':ops.toArray[i]? = some o:=by grind
    simp only[Chain,ho']at hc;obtain⟨cv,v,s',h1,h2⟩:=hc;exact AkU hs (hd o (laj ho)) h1 fun a w hs'=>hK a w (.inr ⟨r',_,_,rfl,fun j hj=>hlt j (by grind),h2,hs'⟩)
 .symm
  rw[List.filter_eq_self];intro i hi
  simp at hi
  simp[hi]
 .intro i hi j hj
  exfalso
  by_cases h1:i<ops.length
  .simp [h1]at hi
  grind[waits]
theorem Shift.cellsAt(id n:Nat){es es':Nat}{l:LY}(l':LY)(hb:s.getD id .dead=.arr es l)(hn:s.getD n .dead=.arr es' [])(hlen:l'.length=l.length)(hcl:∀ x∈l',(cellsOf x).length=es)(ht:toC n (flat l) (flat l')) :
  Shift c e s e (s.set id (.arr es l')):=by
 rintro a w ⟨hh,ρ,hm,hlt,he,hdf,hsz,hX⟩;obtain⟨m2,l2⟩:=hm.recell (AbT hb) hlen hcl (AbT hn) ht;exact⟨hh,ρ,m2,hlt.trans l2,fun t=>(he t).mono l2.hle l2.keep,hdf,hsz,c.hx.later hm l2 hX⟩
end
end Go.Av
namespace Go.Proofs.YtccfklnmolggiaaGreatDoor
open Av RowKit Proofs.Tryz
def gA(g:Nat×Nat):AV:=.agg [.int .i64 g.1,.int .i64 g.2]
def joins(p:Pa):Bool:=p.kind==3||p.kind==4
def gstep(out:List (Nat×Nat))(i:Nat)(p:Pa):List (Nat×Nat) :=
 if joins p then out.set (out.length-1) ((out.getD (out.length-1) (0,0)).1,i+1) else out++[(i,i+1)]
def gfold:List (Nat×Nat)->Nat->List Pa->List (Nat×Nat)
 | out,_,[]=>out
 | out,i,p::r=>gfold (gstep out i p) (i+1) r
def groupsL(ps:List Pa):List (Nat×Nat):=gfold [] 0 ps
theorem AcY(l:List (Nat×Nat)):(flat (l.map gA)).all Av.frozen=true:=by
 induction l with
 | nil=>rfl
 | cons y l ih=>simpa[flat,cellsOf,gA,Av.frozen]using ih
theorem AsX(out:List (Nat×Nat))(i:Nat)(p:Pa):out.length<=(gstep out i p).length/\(gstep out i p).length<=out.length+1:=by
 unfold gstep
 split <;> simp
theorem A6B(ps:List Pa)(hl:ps.length<1000000)(h0:∀ p,ps.head? = some p->joins p=false):Pc prog 56 [.fz 2 (ps.map paA)] (· = .fz 2 ((groupsL ps).map gA)):=by
 refine zpIF func56 rfl fun h ρ w=>?_
 simp only[go_sem,laa];refine AaI (ι:=Nat×List (Nat×Nat)) (fun y=>ps.length-y.1)
  (fun y=>[(8,.int .i64 y.1),(7,.int .i64 ps.length),(6,.fz 2 (ps.map paA)),(3,.sl 0 0 y.2.length y.2.length)])
  (fun y=>[.arr 2 (y.2.map gA)]) (fun y=>y.1<=ps.length/\y.2.length<=y.1/\(0<y.1->0<y.2.length)/\gfold y.2 y.1 (ps.drop y.1)=groupsL ps) (0,[]) ⟨by simp,by simp,by simp,rfl⟩ ?_ ?_
 .refine Shift.trans (Ll 3 2 rfl) (Lo ?_)
  simp only[go_sem]
 .rintro ⟨i,out⟩ ⟨g1,g2,g3,g4⟩ J hJ
  simp only at g1 g2 g3 g4 hJ |-
  by_cases gi:i<ps.length
  .have di:decide ((i:Int)<(ps.length:Int))=true:=by simp; omega
   have hg':List.getD (List.map paA ps) i .any=.agg [.int .i64 ps[i].kind,.str ps[i].text]:=by simp[List.getD,gi,paA]
   rw[lbc gi]at g4;simp only[gfold]at g4;have hln:=AsX out i ps[i];have fin:_:=hJ (i+1,gstep out i ps[i]) ⟨by simp only; omega,by simp only; omega,fun _=>by
    simp only
    cases hj:joins ps[i]with
    | true =>
     have hi0:i≠0:=by
      rintro rfl;have:=h0 ps[0] (by rw[List.head?_eq_getElem?,lad gi]);rw[this]at hj; cases hj
     have:=g3 (by omega);omega
    | false=>simp[gstep,hj],g4⟩ (by simp only; omega)
   cases hj:joins ps[i]with
   | true =>
    have hi0:0<i:=by
     rcases Nat.eq_zero_or_pos i with h|h
     .subst h
      have:=h0 ps[0] (by rw[List.head?_eq_getElem?,lad gi]);rw[this]at hj; cases hj
     .exact h
    have hpos:=g3 hi0;have hlast:List.getD (List.map gA out) ((out.length:Int)-1).toNat .any=.agg [.int .i64 (out.getD (out.length-1) (0,0)).1,.int .i64 (out.getD (out.length-1) (0,0)).2]:=by
     rw[show((out.length:Int)-1).toNat=out.length-1 by omega]
     simp[List.getD,show out.length-1<out.length by omega,gA]
    have hk:(ps[i].kind==3)=true\/((ps[i].kind==3)=false/\(ps[i].kind==4)=true):=by
     simp only[joins,lbj]at hj
     cases h:ps[i].kind==3 with
     | true=>exact .inl rfl
     | false=>rw[h]at hj; exact .inr ⟨rfl,by simpa using hj⟩
    rcases hk with hk|⟨hk,hk4⟩
    .apply zgF
     simp only[go_sem,di,hg',hk,hlast]
     repeat refine al ?_
     have hset:(List.map gA out).set ((out.length:Int)-1).toNat (.agg [.int .i64 (out.getD (out.length-1) (0,0)).1,.int .i64 ((i:Int)+1)])=List.map gA (gstep out i ps[i]):=by
      rw[show((out.length:Int)-1).toNat=out.length-1 by omega]
      simp[gstep,hj,gA,List.map_set]
     have hlen:(gstep out i ps[i]).length=out.length:=by simp[gstep,hj]
     rw[hset,show(i:Int)+1=((i+1:Nat):Int) by omega];simp only[hlen]at fin;refine ainv fin (Shift.low 1 (by simp) (by simp) ?_ ?_)
     .have:=AaD (n:=1) (AcY (gstep out i ps[i]))
      simp only[go_sem,lowB,this]
     .simp only [go_sem]
    .apply zgF
     simp only[go_sem,di,hg',hk,hk4,hlast]
     repeat refine al ?_
     have hset:(List.map gA out).set ((out.length:Int)-1).toNat (.agg [.int .i64 (out.getD (out.length-1) (0,0)).1,.int .i64 ((i:Int)+1)])=List.map gA (gstep out i ps[i]):=by
      rw[show((out.length:Int)-1).toNat=out.length-1 by omega]
      simp[gstep,hj,gA,List.map_set]
     have hlen:(gstep out i ps[i]).length=out.length:=by simp[gstep,hj]
     rw[hset,show(i:Int)+1=((i+1:Nat):Int) by omega];simp only[hlen]at fin;refine ainv fin (Shift.low 1 (by simp) (by simp) ?_ ?_)
     .have:=AaD (n:=1) (AcY (gstep out i ps[i]))
      simp only[go_sem,lowB,this]
     .simp only [go_sem]
   | false =>
    have hk:(ps[i].kind==3)=false/\(ps[i].kind==4)=false:=by
     simpa[joins]using hj
    apply zgF;simp only[go_sem,di,hg',hk.1,hk.2]
    repeat refine al ?_
    have happ:List.map gA out++[.agg [.int .i64 (i:Int),.int .i64 ((i:Int)+1)]]=List.map gA (gstep out i ps[i]):=by simp[gstep,hj,gA]
    have hlen:(gstep out i ps[i]).length=out.length+1:=by simp[gstep,hj]
    rw[happ,show(i:Int)+1=((i+1:Nat):Int) by omega];simp only[hlen]at fin;refine ainv fin (Shift.low 1 (by simp) (by simp) ?_ ?_)
    .have:=AaD (n:=1) (AcY (gstep out i ps[i]))
     simp only[go_sem,lowB,this]
    .simp only [go_sem]
  .have di:decide ((i:Int)<(ps.length:Int))=false:=by simp; omega
   rw[List.drop_of_length_le (by omega)]at g4;simp only[gfold]at g4;subst g4;apply zgF;simp only[go_sem,di];refine ARet.shift (Shift.freeze 2 (id:=0) rfl rfl (by simp) (lab _) (AcY _)) (aret [2] rfl ⟨?_,rfl⟩)
   simp[resV,Av.get,Av.put,lag]
theorem AzB{l:List LU}{i:Nat}(h:i<l.length):List.getD (List.map AV.str l) i .any=.str l[i]:=by simp[List.getD,h]
theorem AnQ(a b:List LU)(ha:a.length<1000000000000000)(hb:b.length<1000000000000000):Pc prog 41 [.fz 1 (a.map .str),.fz 1 (b.map .str)] (· = .bool (a==b)):=by
 by_cases hl:a.length=b.length
 .have d0:((a.length:Int) != (b.length:Int))=false:=by simp[hl]
  refine zpIN func41 rfl fun h ρ w=>?_
  simp only[go_sem,d0,laa];refine AaI (ι:=Nat) (fun i=>a.length-i) (fun i=>[(13,.int .i64 i),(12,.int .i64 a.length),(1,.fz 1 (b.map .str)),(0,.fz 1 (a.map .str))]) (fun _=>[]) (fun i=>i<=a.length/\a.take i=b.take i) 0 (by simp) ?_ ?_
  .refine Lo ?_
   simp only[go_sem]
  .rintro i ⟨g1,g2⟩ J hJ
   by_cases gi:i<a.length
   .have di:decide ((i:Int)<(a.length:Int))=true:=by simp; omega
    have gb:i<b.length:=by omega
    have h1:=AzB gi;have h2:=AzB gb
    by_cases he:a[i]=b[i]
    .have de:(a[i] != b[i])=false:=by simp[he]
     apply zgN;simp only[go_sem,di];refine zr [] AaJ ?_;simp only[go_sem,h1,h2,de,laa]
     repeat refine And.intro (by first|omega|simpa using gi|simpa using gb) ?_
     apply zgN;simp only[go_sem]
     repeat refine ao ?_
     rw[ic i];refine ainv (hJ (i+1) ⟨by omega,by rw[lal gi,lal gb,g2,he]⟩ (by omega)) (Lo ?_);simp only[go_sem]
    .have de:(a[i] != b[i])=true:=by simp[he]
     have hab:(a==b)=false:=by
      rw[lbd];rintro rfl;exact he rfl
     apply zgN;simp only[go_sem,di];refine zr [] AaJ ?_;simp only[go_sem,h1,h2,de,laa]
     repeat refine And.intro (by first|omega|simpa using gi|simpa using gb) ?_
     apply zgN;simp only[go_sem];exact aret [4] rfl ⟨by rw[hab]; rfl,rfl⟩
   .have di:decide ((i:Int)<(a.length:Int))=false:=by simp; omega
    have:a=b:=by
     rw[lag (by omega),lag (by omega)]at g2;exact g2
    subst this;apply zgN;simp only[go_sem,di];exact aret [4] rfl ⟨by simp[resV,Av.get],rfl⟩
 .have d0:((a.length:Int) != (b.length:Int))=true:=by simp; omega
  have hab:(a==b)=false:=by
   rw[lbd];rintro rfl;exact hl rfl
  refine zpIN func41 rfl fun h ρ w=>?_
  simp only[go_sem,d0,laa];exact aret [4] rfl ⟨by rw[hab]; rfl,rfl⟩
def fTo(ws sm:List LU)(i:Nat):List Nat:=(List.range i).filter fun k=>(ws.drop k).take sm.length==sm
def natFd(n:Nat):AV:=.int .i64 (n:Int)
def foundL(ws sm:List LU):List Nat:=fTo ws sm (ws.length+1-sm.length)
theorem AlJ(l:List Nat):(flat (l.map natFd)).all Av.frozen=true:=by
 induction l with
 | nil=>rfl
 | cons y l ih=>simpa[flat,cellsOf,natFd,Av.frozen]using ih
theorem BgZ(ws sm:List LU)(i:Nat):(fTo ws sm i).length<=i:=by
 have:=List.length_filter_le (fun k=>(ws.drop k).take sm.length==sm) (List.range i)
 simpa[fTo]using this
theorem BbU(ws sm:List LU)(i:Nat):fTo ws sm (i+1)=bif ((ws.drop i).take sm.length==sm) then fTo ws sm i++[i] else fTo ws sm i:=by
 rw[fTo,List.range_succ,List.filter_append]
 cases h:((ws.drop i).take sm.length==sm) <;> simp[List.filter_cons,h,fTo]
theorem BbV(ws sm:List LU)(ha:ws.length<1000000)(hb:sm.length<1000000):Pc prog 58 [.fz 1 (ws.map .str),.fz 1 (sm.map .str)] (· = .fz 1 ((foundL ws sm).map natFd)):=by
 refine zpIN func58 rfl fun h ρ w=>?_
 simp only[go_sem];refine AaI (ι:=Nat) (fun i=>ws.length+1-sm.length-i)
  (fun i=>[(6,.int .i64 i),(5,.sl 0 0 (fTo ws sm i).length (fTo ws sm i).length),(1,.fz 1 (sm.map .str)),(0,.fz 1 (ws.map .str))])
  (fun i=>[.arr 1 ((fTo ws sm i).map natFd)]) (fun i=>i<=ws.length+1-sm.length) 0 (by simp) ?_ ?_
 .refine Shift.trans (Ll 5 1 rfl) (Lo ?_)
  have:fTo ws sm 0=[]:=rfl;simp only[go_sem,this]
 .intro i g1 J hJ
  have hfl:=BgZ ws sm i;have hsu:=BbU ws sm i
  by_cases gi:i<ws.length+1-sm.length
  .have di:decide ((i:Int)+(sm.length:Int)<=(ws.length:Int))=true:=by simp; omega
   have htd:List.drop i (List.take ((i:Int)+(sm.length:Int)).toNat (List.map AV.str ws))=List.map AV.str ((ws.drop i).take sm.length):=by
    rw[show((i:Int)+(sm.length:Int)).toNat=i+sm.length by omega]
    simp[List.map_take,List.map_drop,List.drop_take]
   apply zgN;simp only[go_sem,di,htd,laa]
   repeat refine And.intro (by first|omega|simp) ?_
   refine zpN (AnQ ((ws.drop i).take sm.length) sm (by simp; omega) (by omega)) ?_
   cases q:((ws.drop i).take sm.length==sm)with
   | true =>
    rw[q]at hsu;simp only[lav]at hsu;simp only[go_sem]
    repeat refine al ?_
    rw[show List.map natFd (fTo ws sm i)++[AV.int .i64 (i:Int)]=List.map natFd (fTo ws sm (i+1)) by rw[hsu]; simp[natFd],show(fTo ws sm i).length+1=(fTo ws sm (i+1)).length by rw[hsu]; simp,show(i:Int)+1=((i+1:Nat):Int) by omega];refine ainv (hJ (i+1) (by omega) (by omega)) (Shift.low 1 (by simp) (by simp) ?_ ?_)
    .have:=AaD (n:=1) (AlJ (fTo ws sm (i+1)))
     simp only[go_sem,lowB,this]
    .simp only [go_sem]
   | false =>
    rw[q]at hsu;simp only[lba]at hsu;simp only[go_sem]
    repeat refine al ?_
    rw[<- hsu,show(i:Int)+1=((i+1:Nat):Int) by omega];refine ainv (hJ (i+1) (by omega) (by omega)) (Lo ?_);simp only[go_sem]
  .have di:decide ((i:Int)+(sm.length:Int)<=(ws.length:Int))=false:=by simp; omega
   have hfi:fTo ws sm i=foundL ws sm:=by
    rcases Nat.lt_or_ge ws.length sm.length with h|h
    .have h1:i=0:=by omega
     have h2:ws.length+1-sm.length=0:=by omega
     rw[foundL,h1,h2]
    .rw [foundL,show i=ws.length+1-sm.length by omega]
   apply zgN;simp only[go_sem,di,laa]
   repeat refine And.intro (by first|omega|simp) ?_
   refine ARet.shift (Shift.freeze 4 (id:=0) rfl rfl (by simp) (lab _) (AlJ _)) (aret [4] rfl ⟨?_,rfl⟩);rw[hfi]
   simp[resV,Av.get,Av.put,lag]
end Go.Proofs.YtccfklnmolggiaaGreatDoor
namespace Go.Av
open RowKit
variable [Tr]
theorem CtH.liftN{P:Program}{g:Std}{f:FuncId}{args:LY}{post:AV->LB->Prop}(hc:CtH P g f args [] post)(ha:args.all nr1=true)(hmp:∀ r s',post r s'->s'.all mpOk=true)
  (s:LB):CtH P g f args s (fun r2 s2=>∃ r s',post r s'/\r2=shV s.length r/\s2=s++s'.map (shB s.length)):=by
 refine⟨hc.1,fun h ρ w vs hg m r=>?_⟩;have hm0:Mine h (fun _=>none) [] w:=⟨m.mem,fun id blk e=>by simp at e,fun _ _=>rfl,fun i j g t t' e=>by simp at e,fun i g t e=>by simp at e⟩;refine(hc.2 h (fun _=>none) w vs (fun k o e=>⟨(hg k o e).1,fun i t x=>by cases x⟩) hm0 ((AgJ (Lf':=Lf0) r ha).thaw (fun _ _ _ x=>x))).mono ?_;rintro en w' ⟨v,r,s1,h',ρ1,rfl,hpost,m',lt,rv⟩;have hgood:∀ i g t,ρ1 i=some (g,t)->w.heap.size<=g:=fun i g t e=>by
  rcases lt.newown i g t e with⟨j,t',hj⟩|h
  .cases hj
  .exact h
 have hblk:∀ k,k<w.heap.size->w'.heap[k]? = w.heap[k]?:=fun k hk=>lt.block k hk (fun i t e=>by cases e)
 have hnew:∀ b o,h b o=none->h' b o≠none->w.heap.size<=b:=fun b o e n=>by
  rcases lt.hnew b o e n with⟨j,t',hj⟩|h
  .cases hj
  .exact h
 obtain⟨ρ2,hρ2⟩:∃ ρ2:Own,ρ2=fun k=>if k<s.length then ρ k else ρ1 (k-s.length):=⟨_,rfl⟩
 have hlo:∀ i,i<s.length->ρ2 i=ρ i:=fun i hi=>by rw[hρ2]; simp[hi]
 have hhi:∀ i,ρ2 (i+s.length)=ρ1 i:=fun i=>by
  rw[hρ2]
  show(if i+s.length<s.length then ρ (i+s.length) else ρ1 (i+s.length-s.length))=_
  rw[if_neg (by omega),Nat.add_sub_cancel]
 have hkeep:∀ v a,Lf ρ s v a->Lf ρ2 (s++s1.map (shB s.length)) v a:=fun v a x=>BeH hlo x
 have hst:∀ id,(s++s1.map (shB s.length))[id+s.length]? = (s1[id]?).map (shB s.length):=fun id=>by
  rw[lay (by omega),Nat.add_sub_cancel,lbf]
 have hown:∀ i g t,ρ2 i=some (g,t)->(i<s.length/\ρ i=some (g,t)/\g<w.heap.size)\/(s.length<=i/\ρ1 (i-s.length)=some (g,t)/\w.heap.size<=g):=fun i g t e=>by
  by_cases hi:i<s.length
  .rw [hlo i hi]at e
   exact .inl ⟨hi,e,m.lt e⟩
  .have e2:ρ2 i=ρ1 (i-s.length):=by rw[<- hhi]; congr 1; omega
   rw[e2]at e;exact .inr ⟨by omega,e,hgood _ g t e⟩
 refine⟨v,_,_,h',ρ2,rfl,⟨r,s1,hpost,rfl,rfl⟩,⟨m'.mem,?_,?_,?_,?_⟩,⟨lt.hle,fun b o e n=>.inr (hnew b o e n),hkeep,lt.os,lt.tape,lt.output,lt.size,fun k hk _=>hblk k hk,?_⟩,BeG hst hhi rv⟩
 .intro i blk e
  by_cases hi:i<s.length
  .rw [lat hi]at e
   exact(m.own i blk e).mono lt.hle hkeep (hlo i hi) (fun g t hg=>hblk g (m.lt hg))
  .obtain ⟨j,rfl⟩:∃ j,i=j+s.length:=⟨i-s.length,by omega⟩
   rw[hst]at e
   cases hb:s1[j]? with
   | none=>rw[hb]at e; cases e
   | some b =>
    rw[hb]at e;simp only[lca,lam]at e;subst e;have o:=m'.own j b hb;have hmb:=List.all_eq_true.1 (hmp _ _ hpost) b (laj hb)
    cases b with
    | arr es l =>
     rcases o with⟨h1,h2⟩|⟨g,tot,cur,t,h1,h2,h3,h4,h5,h6,h7,h8,h9⟩
     .exact .inl ⟨by simp[h1],(hhi j).trans h2⟩
     .refine .inr ⟨g,tot,cur,t,(hhi j).trans h1,h2,h3,by simpa using h4,h5,h6,?_,h8,?_⟩
      .intro x hx
       obtain⟨y,hy,rfl⟩:=List.mem_map.1 hx;rw[shC_cells,laa];exact h7 y hy
      .rw [shC_flat,laa]
       exact AlD hst hhi h9
    | mp es =>
     obtain⟨g,en,cl,h1,h2,h3,h4,h5⟩:=o;refine⟨g,en,cl,(hhi j).trans h1,h2,by rw[lvs_map]; simpa using h3,fun k x y hx hy=>?_,h5.map _⟩;rw[lvs_map,lbf]at hx;obtain⟨x',hx',rfl⟩:=Option.map_eq_some_iff.1 hx;obtain⟨p,q⟩:=h4 k x' y hx' hy;exact⟨p.thaw (fun _ _ _ x=>x),AvX hst hhi q⟩
    | it mid n seen=>cases hmb
    | dead=>exact(hhi j).trans o
 .intro i hi
  simp at hi
  have e2:ρ2 i=ρ1 (i-s.length):=by rw[<- hhi]; congr 1; omega
  rw[e2];exact m'.out _ (by omega)
 .intro i j g t t' hi hj
  rcases hown i g t hi with⟨a1,a2,a3⟩|⟨a1,a2,a3⟩ <;> rcases hown j g t' hj with⟨b1,b2,b3⟩|⟨b1,b2,b3⟩
  .exact m.inj i j g t t' a2 b2
  .omega
  .omega
  .have:=m'.inj _ _ g t t' a2 b2
   omega
 .intro i g t e o
  rcases hown i g t e with⟨a1,a2,a3⟩|⟨a1,a2,a3⟩
  .cases hq:h' g o with
   | none=>rfl
   | some z =>
    have:=hnew g o (m.disj i g t a2 o) (by rw[hq]; simp);omega
  .exact m'.disj _ g t a2 o
 .intro i g t e
  rcases hown i g t e with⟨a1,a2,a3⟩|⟨a1,a2,a3⟩
  .exact .inl ⟨i,t,a2⟩
  .exact .inr a3
end Go.Av
namespace Go.Av
open RowKit
variable [Tr]
section
variable {h H:Mem}{ρ:Own}{s:LB}{w:World}
theorem AzC(hH:∀ b o v,h b o=some v->H b o=some v){v:Value}{a:AV}(m:Mine h ρ s w)(r:RV h (Lf ρ s) false v a)(hf:frozen a=true):RV (H) Lf0 true v a :=
 (AdW r hf).thaw hH
theorem AlK{n:Nat}(hn:∀ {v:Value}{a:AV},RV h (Lf ρ s) false v a->RV (H) Lf0 true v (bor n s a)):∀ {l:LY}{vs:List Value},RL h (Lf ρ s) false vs l->RL (H) Lf0 true vs (l.map (bor n s))
 | [],_,r=>by cases r; exact .nil
 | a::l,_,r=>by cases r with|cons r1 r2=>exact .cons (hn r1) (AlK hn r2)
theorem AwI(hH:∀ b o v,h b o=some v->H b o=some v)(hO:∀ i g t o v,ρ i=some (g,t)->w.cell? ⟨g,o,none⟩=some v->v.oneCell'=true->H g o=some v)(m:Mine h ρ s w):∀ (n:Nat){v:Value}{a:AV},RV h (Lf ρ s) false v a->RV (H) Lf0 true v (bor n s a)
 | 0,v,a,r=>by
  cases a with
  | sl id o l c=>exact .any _
  | ptr id m i o=>exact .any _
  | mp id=>exact .any _
  | agg r=>exact .any _
  | tup r=>exact .any _
  | fn f r=>exact .any _
  | _=>exact AzC hH m r rfl
 | n+1,v,a,r=>by
  cases a with
  | sl id off len cap =>
   rw[AnM];have hl:=(AaY r).2
   cases hq:s[id]? with
   | none=>grind[LfC]
   | some b =>
    have hgd:s.getD id .dead=b:=by grind
    rw[hgd]
    cases b with
    | arr e l =>
     simp only
     cases hd:decide (off+cap=l.length)&&decide (len<=cap)with
     | false=>exact .any _
     | true =>
      simp at hd
      obtain⟨hc,hlc⟩:=hd;simp only[LfC,hq]at hl
      rcases hl.2 hc with⟨rfl,rfl,a,rfl⟩|⟨g,tot,h1,rfl,_⟩
      .cases a with
       | none=>simpa[at0]using RV.fznil e
       | some a=>simpa[at0]using RV.fz a.1 a.2 0 e [] [] .nil (by simp) (by simp) (lab _)
      .rcases m.own id _ hq with⟨_,hn⟩|⟨g',tot',cur,t,h3,h4,h5,h6,h7,h8,h9,h10,h11⟩
       .grind
       .have hlen:(((l.drop off).take len).map (borC n s)).length=len:=by grind
        have hr:RL (H) Lf0 true (((cur.toList.take (l.length*e)).drop (off*e)).take (len*e)) (flat (((l.drop off).take len).map (borC n s))):=by
         rw[bor_flat,<- AbI (fun x hx=>h9 x (lbe hx)) len,<- AaU h9 off,List.map_take,List.map_drop];exact((AlK (fun r=>AwI hH hO m n r) h11).drop _).take _
        have:=RV.fz (fl:=true) g' (off*e) (tot'-off) e (((l.drop off).take len).map (borC n s)) _ hr (fun x hx=>by
         grind[bor_cells]) (fun k v hk=>by
         rw[lce]at hk
         split at hk
         .rw [List.getElem?_drop,lce]at hk
          split at hk
          .have h12:=h10 v (laj hk)
           exact hO id _ _ _ _ h3 (by rw[h4.cell,<- lby,hk]) h12
          grind
         grind) (by omega)
        grind
    | _=>exact .any _
  | ptr id m i o=>exact .any _
  | mp id=>exact .any _
  | agg r=>exact .any _
  | tup r=>exact .any _
  | fn f r=>exact .any _
  | _=>exact AzC hH m r rfl
theorem AzD(hH:∀ b o v,h b o=some v->H b o=some v)(hO:∀ i g t o v,ρ i=some (g,t)->w.cell? ⟨g,o,none⟩=some v->v.oneCell'=true->H g o=some v)(m:Mine h ρ s w)(n:Nat){v:Value}{a:AV}(r:RV h (Lf ρ s) false v a):RV (H) Lf0 true v (borC n s a):=by
 cases a with
 | agg l =>
  obtain⟨vs,rfl,rl⟩:=inv_agg r;exact .agg vs _ (AlK (fun r=>AwI hH hO m n r) rl)
 | _=>exact AwI hH hO m n r
theorem AsY(hH:∀ b o v,h b o=some v->H b o=some v)(hO:∀ i g t o v,ρ i=some (g,t)->w.cell? ⟨g,o,none⟩=some v->v.oneCell'=true->H g o=some v)(m:Mine h ρ s w)(n:Nat):∀ {l:LY}{vs:List Value},RL h (Lf ρ s) false vs l->RL (H) Lf0 true vs (l.map (borC n s))
 | [],_,r=>by cases r; exact .nil
 | a::l,_,r=>by cases r with|cons r1 r2=>exact .cons (AzD hH hO m n r1) (AsY hH hO m n r2)
end
def borV(n:Nat)(s:LB):AV->AV
 | .tup r=>.tup (r.map (borC n s))
 | x=>borC n s x
theorem PcH.ofOwn{P:Program}{g:Std}{f:FuncId}{args:LY}{post:AV->LB->Prop}(n:Nat)(hc:CtH P g f args [] post):PcH P g f args (fun r=>∃ r' s,post r' s/\r=borV n s r'):=by
 refine⟨hc.1,fun h w vs hg hm hv=>?_⟩;have hmine:Mine h (fun _=>none) [] w:=⟨hm,fun id blk e=>by grind,fun _ _=>rfl,fun i j g t t' e=>by grind,fun i g t e=>by grind⟩;refine(hc.2 h (fun _=>none) w vs (fun k o e=>⟨hg k o e,fun i t hi=>by grind⟩) hmine (hv.thaw (fun _ _ _ x=>x))).mono ?_;rintro en w' ⟨v,r,s,h',ρ',rfl,hp,hm',hl,rv⟩;have hnew:∀ b o,h b o=none->h' b o≠none->w.heap.size<=b:=fun b o e n=>by
  rcases hl.hnew b o e n with⟨j,t,hj⟩|hs<;>grind
 have hgood:∀ i g t,ρ' i=some (g,t)->w.heap.size<=g:=fun i g t e=>by
  rcases hl.newown i g t e with⟨j,t',hj⟩|h<;>grind
 obtain⟨H,hHd⟩:∃ H:Mem,H=fun b o=>if b<w.heap.size then h b o else AdN w' b o:=⟨_,rfl⟩
 have e1:∀ b o,b<w.heap.size->H b o=h b o:=fun b o hb=>by grind
 have e2:∀ b o,w.heap.size<=b->H b o=AdN w' b o:=fun b o hb=>by grind
 have hlow:∀ b o v,h b o=some v->b<w.heap.size:=fun b o v e=>hmine.memlt e
 have hH:∀ b o v,h' b o=some v->H b o=some v:=fun b o v e=>by
  by_cases hb:b<w.heap.size
  .rw [e1 b o hb]
   cases hq:h b o with
   | none=>grind
   | some u=>rw[<- e,hl.hle b o u hq]
  .rw [e2 b o (by omega)]
   exact AyO hm'.mem b o v e
 have hO:∀ i g t o v,ρ' i=some (g,t)->w'.cell? ⟨g,o,none⟩=some v->v.oneCell'=true->H g o=some v:=fun i g t o v e hc h1=>by
  grind[AdN]
 refine⟨v,borV n s r,H,rfl,⟨r,s,hp,rfl⟩,fun b o v e=>?_,fun b o v e=>?_,fun b o e n=>?_,⟨hl.os,hl.tape,hl.output,hl.size,fun k hk=>hl.block k hk (fun i t e=>by grind)⟩,?_⟩
 .by_cases hb:b<w.heap.size
  .rw [e1 b o hb]at e
   exact hm'.mem b o v (hl.hle b o v e)
  grind[AlE]
 .grind
 .grind
 .cases r with
  | tup l =>
   obtain⟨us,rfl,rl⟩:=AoZ rv;exact .tup us _ (AsY hH hO hm' n rl)
  | _=>exact AzD hH hO hm' n rv
theorem Pc.ofOwn{P:Program}{f:FuncId}{args:LY}{post:AV->LB->Prop}(n:Nat)(hc:Ct P f args [] post):Pc P f args (fun r=>∃ r' s,post r' s/\r=borV n s r'):=by
 have h:=PcH.ofOwn (g:=fun _=>none) n hc.toH;exact⟨h.1,fun hh w vs hm hv=>h.2 hh w vs (fun k o e=>by cases e) hm hv⟩
