/- Statements whose order is open and whose last operation AcA for all others: it may be. -/
import Derived.Test.YtlldmgboedknfaaGreatDoorB26
set_option linter.unusedSimpArgs false
set_option linter.unusedVariables false
set_option linter.unusedSectionVars false
namespace Go.Av
open Go Go.RowKit
variable [Tr]
def iniO:List Oper->List Oper
 | []=>[]
 | [_]=>[]
 | a::b::r=>a::iniO (b::r)
def lasO:List Oper->Option Oper
 | []=>none
 | [a]=>some a
 | _::b::r=>lasO (b::r)
theorem A8I:∀ {l:List Oper}{o:Oper},lasO l=some o->l=iniO l++[o]
 | [],_,h=>by cases h
 | [a],o,h=>by simp only[lasO,Option.some.injEq]at h; subst h; rfl
 | a::b::r,o,h=>by
  have:=A8I (l:=b::r) (o:=o) h;rw[iniO,List.cons_append,<- this]
def AuY(ops:List Oper)(j i:Nat):Bool:=bif i+1==ops.length then false else match ops[i]?,ops[j]? with
 | some oi,some oj=>oj.apart ops.toArray oi&&together oj oi
 | _,_=>false
section
variable {c:Cx}{k:List It}{e:Env}{s:List Blk}
theorem A3T{ops:List Oper}{okp:Nat->Nat->Bool}(Ch:List Nat->Act->World->Prop)(hok:AjG okp ops=true)(hnil:∀ a w,Ch [] a w->WQ c k .normal a w)
  (hfr:∀ l i r a w,(∀ j∈l,okp j i=true)->Ch (l++i::r) a w->Ch (i::(l++r)) a w)
  (hst:∀ i o r a w (Kc:Act->World->Prop),ops[i]? = some o->Ch (i::r) a w->(∀ a w,Ch r a w->Kc a w) ->
   if Region.wanted o (yielded ops.toArray a.tmps) then o.wp c.P a w Kc (WQ c k) else Kc (a.put o.dst undef) w):∀ (fuel:Nat) (listed:Array Bool) (l:List Nat) (a:Act) (w:World),listed.size=ops.length ->
  l=(List.range ops.length).filter (fun i=>!listed.getD i true)->l.length=fuel->(∀ i,listed.getD i true=true->∀ j∈AcA ops i,listed.getD j true=true) ->
  Ch l a w->wpAny c.P .any ops.toArray (WQ c k) fuel listed a w:=by
 have hready:∀ (listed:Array Bool) (i:Nat),i∈Region.ready .any ops.toArray listed ↔ i<ops.length/\listed.getD i true=false/\∀ j∈AcA ops i,listed.getD j false=true:=by
  intro listed i;unfold Region.ready;simp only[List.mem_filter,List.mem_range,List.size_toArray,Bool.and_eq_true,Bool.not_eq_true'];refine and_congr_right fun hi=>and_congr_right fun _=>?_
  have:ops[i]? = some ops[i]:=by simp[hi]
  simp only[List.getElem?_toArray,this,Option.map_some,Option.getD_some,AcA];rw[Array.all_eq_true_iff_forall_mem]
  constructor
  .intro h j hj
   simp only[List.mem_map,List.mem_filter,Array.mem_toList_iff]at hj;obtain⟨ed,⟨h1,h2⟩,rfl⟩:=hj;have:=h ed h1
   simpa[h2]using this
  .intro h ed hed
   by_cases hb:Region.binds .any ed=true
   .have:=h ed.on (by simp only[List.mem_map,List.mem_filter,Array.mem_toList_iff]; exact⟨ed,⟨hed,hb⟩,rfl⟩)
    simp[this]
   .simp [hb]
 have hback:∀ i,i<ops.length->∀ j∈AcA ops i,j<i:=by
  intro i hi j hj;have:=(List.all_eq_true.1 hok) i (by simpa using hi);simp only[Bool.and_eq_true]at this
  simpa using(List.all_eq_true.1 this.1) j hj
 intro fuel
 induction fuel with
 | zero =>
  intro listed l a w hsz hl hlen hcl hch;have hnil:l=[]:=List.eq_nil_of_length_eq_zero hlen;subst hnil;refine⟨?_,hnil a w hch⟩;apply List.eq_nil_iff_forall_not_mem.2;intro i hi;obtain⟨h1,h2,_⟩:=(hready listed i).1 hi;have:i∈(List.range ops.length).filter (fun i=>!listed.getD i true):=List.mem_filter.2 ⟨by simpa using h1,by simp[h2]⟩;rw[<- hl]at this
  cases this
 | succ fuel ih =>
  intro listed l a w hsz hl hlen hcl hch;have hmem:∀ i,i∈l ↔ i<ops.length/\listed.getD i true=false:=by
   intro i; rw[hl]; simp[List.mem_filter]
  refine⟨fun hr=>?_,fun i hi=>?_⟩
  .exfalso
   cases hq:l with
   | nil=>rw[hq]at hlen; simp at hlen
   | cons i r =>
    have hil:i∈l:=by rw[hq]; simp
    obtain⟨h1,h2⟩:=(hmem i).1 hil;have:i∈Region.ready .any ops.toArray listed:=by
     refine(hready listed i).2 ⟨h1,h2,fun j hj=>?_⟩;have hlt:=hback i h1 j hj;have hjn:j ∉ l:=by
      intro hjl;have hs:l.Pairwise (·<·):=by rw[hl]; exact List.Pairwise.filter _ List.pairwise_lt_range
      rw[hq]at hs hjl
      rcases List.mem_cons.1 hjl with rfl|hjr
      .omega
      .have:=(List.pairwise_cons.1 hs).1 j hjr; omega
     have hjlt:j<listed.size:=by omega
     have:=fun hf=>hjn ((hmem j).2 ⟨by omega,hf⟩)
     cases hv:listed.getD j true with
     | true=>simpa[Array.getD,hjlt]using hv
     | false=>exact(this hv).elim
    rw[hr]at this
    cases this
  .obtain ⟨h1,h2,h3⟩:=(hready listed i).1 hi
   have hil:i∈l:=(hmem i).2 ⟨h1,h2⟩;obtain⟨l1,l2,hsplit⟩:=List.append_of_mem hil;have ho:ops.toArray[i]? = some ops[i]:=by simp[h1]
   have hs:l.Pairwise (·<·):=by rw[hl]; exact List.Pairwise.filter _ List.pairwise_lt_range
   have hapart:∀ j∈l1,okp j i=true:=by
    intro j hj;have hjl:j∈l:=by rw[hsplit]; simp[hj]
    obtain⟨hj1,hj2⟩:=(hmem j).1 hjl;have hji:j<i:=by
     rw[hsplit]at hs;exact(List.pairwise_append.1 hs).2.2 j hj i (by simp)
    have:=(List.all_eq_true.1 hok) i (by simpa using h1);simp only[Bool.and_eq_true]at this;have:=(List.all_eq_true.1 this.2) j (by simpa using hji);simp only[Bool.or_eq_true]at this
    rcases this with h4|h4
    .exact h4
    .exfalso
     have hm:j∈anc ops ops.length i:=by simpa using h4
     have hw3:∀ j∈AcA ops i,listed.getD j true=true:=by
      intro j hj;have h5:=h3 j hj;have hjlt:j<listed.size:=by have:=hback i h1 j hj; omega
      simpa[Array.getD,hjlt]using h5
     have:=AeG (L:=fun j=>listed.getD j true=true) hcl ops.length i hw3 j hm;rw[this]at hj2
     cases hj2
   rw[hsplit]at hch;have hfront:=hfr l1 i l2 a w hapart hch;have hlist:∀ j,(listed.setIfInBounds i true).getD j true=if j=i then true else listed.getD j true:=by
    intro j
    by_cases hj:j=i
    .subst hj
     have:j<listed.size:=by omega
     simp[this]
    .rw [if_neg hj]
     simp[Array.getElem?_setIfInBounds_ne (Ne.symm hj)]
   have hnext:l1++l2=(List.range ops.length).filter (fun j=>!(listed.setIfInBounds i true).getD j true):=by
    have e1:(fun j=>!(listed.setIfInBounds i true).getD j true)=fun j=>(!listed.getD j true)&&decide (j≠i):=by
     funext j
     rw[hlist]
     by_cases hj:j=i <;> simp[hj]
    have e2:(List.range ops.length).filter (fun j=>(!listed.getD j true)&&decide (j≠i))=l.filter (fun j=>decide (j≠i)):=by
     rw[hl,List.filter_filter]
     congr 1
     funext j
     rw[Bool.and_comm]
    rw[e1,e2,hsplit];have hn:l.Nodup:=hs.imp (fun h=>Nat.ne_of_lt h);rw[hsplit]at hn;have hn1:i ∉ l1:=fun hh=>(List.nodup_append.1 hn).2.2 i hh i (by simp) rfl
    have hn2:i ∉ l2:=(List.nodup_cons.1 (List.nodup_append.1 hn).2.1).1;simp only[List.filter_append,List.filter_cons];have f1:∀ x:List Nat,i ∉ x->x.filter (fun j=>decide (j≠i))=x:=by
     intro x hx;rw[List.filter_eq_self];intro y hy
     simp
     intro h; subst h; exact hx hy
    rw[f1 l1 hn1,f1 l2 hn2]
    simp
   have hgo:∀ a w,Ch (l1++l2) a w->wpAny c.P .any ops.toArray (WQ c k) fuel (listed.setIfInBounds i true) a w:=fun a' w' hrest =>
    ih (listed.setIfInBounds i true) (l1++l2) a' w' (by simpa using hsz) hnext (by rw[hsplit]at hlen; simp at hlen |-; omega) (fun j hj m hm=>by
     rw[hlist]at hj |-
     by_cases hmi:m=i
     .simp [hmi]
     .rw [if_neg hmi]
      by_cases hji:j=i
      .subst hji
       have h5:=h3 m hm;have hmlt:m<listed.size:=by have:=hback j h1 m hm; omega
       simpa[Array.getD,hmlt]using h5
      .rw [if_neg hji]at hj
       exact hcl j hj m hm) hrest
   have hw:=hst i ops[i] (l1++l2) a w _ (by simp[h1]) hfront hgo;unfold wpOp;rw[ho];simp only
   by_cases hwant:Region.wanted ops[i] (yielded ops.toArray a.tmps)=true
   .rw [if_pos hwant]at hw |-
    exact .inl hw
   .rw [if_neg hwant]at hw |-
    exact hw
theorem AuZ{K:Env->List Blk->Prop}{all:List Oper}:∀ {r:List Oper}{m n:Nat}{cs:List AV}{e:Env}{s:List Blk},(∀ (j:Nat)(o:Oper),r[j]? = some o->all[m+j]? = some o)->dxk c all K n r cs e s->Chain c all.toArray K (List.range' m r.length) e s
 | [],m,n,cs,e,s,_,h=>by
  rw[dxk]at h;exact h
 | o::r,m,n,cs,e,s,hr,h=>by
  obtain⟨cv,v,n',cs',s',h1,h2⟩:=A1A h;have h0:all.toArray[m]? = some o:=by have:=hr 0 o rfl; simpa using this
  simp only[List.length_cons,List.range'_succ,Chain,h0];exact⟨cv,v,s',h1,AuZ (fun j o' hj=>by have:=hr (j+1) o' (by simpa using hj); simpa[Nat.add_assoc,Nat.add_comm 1 j]using this) h2⟩
def KLast(c:Cx)(k:List It)(ops:List Oper)(last:Oper)(e:Env)(s:List Blk):Prop:=AWp c (.op ops last []::k) e s
theorem KLast.K{ops:List Oper}{last:Oper}:∀ e e' s,Eqv e e'->KLast c k ops last e s->KLast c k ops last e' s:=fun _ _ _ h x=>AWp.eqv h x
def BlS(c:Cx)(k:List It)(ops:List Oper)(last:Oper)(m:Nat)(l:List Nat)(a:Act)(w:World):Prop :=
 (l=[]/\WQ c k .normal a w)\/∃ l' e s,l=l'++[m]/\(∀ j∈l',j<m)/\Chain c ops.toArray (KLast c k ops last) l' e s/\Sim c e s a w
theorem AvA(cs:List AV){id:Nat}{ops:List Oper}{last:Oper}(hlast:lasO ops=some last)(hm:c.P.follows .mixedOrders=true)(hok:AjG (AuY ops) ops=true)(hg:last.guard=none){N:Nat}(hN:c.fn.ntmps=N)(hdst:ops.all (fun o=>dOk N o.dst)=true)(n:Nat)
  (h:dxk c ops (KLast c k ops last) n (iniO ops) cs e s):AWp c (.code (.region id ops.toArray true)::k) e s:=by
 intro a w hsim;have hsp:=A8I hlast;have hlen:ops.length=(iniO ops).length+1:=by
  have:=congrArg List.length hsp
  simpa using this
 have hch:=AuZ (m:=0) (r:=iniO ops) (all:=ops) (by
  intro j o hj;rw[Nat.zero_add,hsp,List.getElem?_append_left (List.getElem?_eq_some_iff.1 hj).1];exact hj) h
 rw[<- List.range_eq_range']at hch;generalize hpl:(iniO ops).length=m at *;have hlm:ops[m]? = some last:=by
  rw[hsp,List.getElem?_append_right (by omega),hpl]
  simp
 refine wp_region_any hm ?_;have hsim':Sim c e s a { w with drawn:=w.drawn+1 }:=by
  obtain⟨hh,ρ,hmm,hl,he,hdf,hsz,hX⟩:=hsim;have sm:Same w { w with drawn:=w.drawn+1 }:=Same.drew w;exact⟨hh,ρ,hmm.same sm,hl.trans (Later.same sm),he,hdf,hsz,c.hx.later hmm (Later.same sm) hX⟩
 have hd:∀ o∈ops,dOk c.fn.ntmps o.dst=true:=fun o ho=>by rw[hN]; exact(List.all_eq_true.1 hdst) o ho
 refine A3T (okp:=AuY ops) (BlS c k ops last m) hok (fun a w x=>?_) (fun l i r a w hj x=>?_) (fun i o r a w Kc ho x hK=>?_)
  ops.length (Array.replicate ops.length false) (List.range ops.length) a _ (by simp) ?_ (by simp) ?_ (.inr ⟨List.range m,e,s,by rw[hlen,List.range_succ],fun j hj=>by simpa using hj,hch,hsim'⟩)
 .rcases x with⟨_,x⟩|⟨l',e,s,hl,_⟩
  .exact x
  .simp at hl
 .rcases x with⟨hl,_⟩|⟨l',e,s,hl,hlt,hc,hs⟩
  .simp at hl
  .cases l with
   | nil=>exact .inr ⟨l',e,s,by simpa using hl,hlt,hc,hs⟩
   | cons j0 l0 =>
    have him:i≠m:=fun e=>by
     have:=hj j0 (by simp);unfold AuY at this;have hb:(i+1==ops.length)=true:=by rw[e,hlen]; simp
     rw[hb]at this
     cases this
    have hr:r≠[]:=fun e=>by
     subst e;have hl3:(j0::l0)++[i]=l'++[m]:=by simpa using hl
     have:=(List.append_inj' hl3 rfl).2
     simp at this
     exact him this
    obtain⟨r',x',rfl⟩:∃ r' x',r=r'++[x']:=⟨r.dropLast,r.getLast hr,(List.dropLast_concat_getLast hr).symm⟩;have hl2:((j0::l0)++i::r')++[x']=l'++[m]:=by simpa using hl
    obtain⟨h1,h2⟩:=List.append_inj' hl2 rfl;simp only[List.cons.injEq,and_true]at h2;subst h2;subst h1;refine .inr ⟨i::((j0::l0)++r'),e,s,by simp,fun j hj=>hlt j (by simp at hj |-; rcases hj with h|h|h|h <;> simp[h]),?_,hs⟩
    cases hi:ops[i]? with
    | none =>
     have:=hj j0 (by simp);unfold AuY at this;have hb:(i+1==ops.length)=false:=by rw[hlen]; simpa using him
     simp[hb,hi]at this
    | some oi =>
     refine Chain.front KLast.K (oi:=oi) (by simpa using hi) (fun j hjl=>?_) hc;have:=hj j hjl;unfold AuY at this;have hb:(i+1==ops.length)=false:=by rw[hlen]; simpa using him
     rw[hb,hi]at this;simp only[cond_false]at this
     cases hq:ops[j]? with
     | none=>simp[hq]at this
     | some oj =>
      rw[hq]at this;simp only[Bool.and_eq_true]at this;exact⟨oj,by simpa using hq,this.1,this.2⟩
 .rcases x with⟨hl,_⟩|⟨l',e,s,hl,hlt,hc,hs⟩
  .simp at hl
  .cases l' with
   | nil =>
    simp only[List.nil_append,List.cons.injEq]at hl;obtain⟨rfl,rfl⟩:=hl;rw[hlm]at ho
    cases ho
    rw[if_pos (by simp[Region.wanted,hg])];have h1:AWp c (.op ops last []::k) e s:=hc;have h2:last.wp c.P a w (wpList c.P ops.toArray (WQ c k) []) (WQ c k):=h1 a w hs (hd last (List.mem_of_getElem? hlm));exact Oper.wp_mono (fun a w hh=>hK a w (.inl ⟨rfl,hh⟩)) h2
   | cons i' r' =>
    simp only[List.cons_append,List.cons.injEq]at hl;obtain⟨rfl,rfl⟩:=hl;have ho':ops.toArray[i]? = some o:=by simpa using ho
    simp only[Chain,ho']at hc;obtain⟨cv,v,s',h1,h2⟩:=hc;exact ArI hs (hd o (List.mem_of_getElem? ho)) h1 fun a w hs'=>hK a w (.inr ⟨r',_,_,rfl,fun j hj=>hlt j (by simp[hj]),h2,hs'⟩)
 .symm
  rw[List.filter_eq_self];intro i hi
  simp at hi
  simp[hi]
 .intro i hi j hj
  exfalso
  by_cases h1:i<ops.length
  .simp [h1]at hi
  .unfold AcA at hj
   have:ops[i]? = none:=by simp; omega
   simp[this]at hj
theorem Shift.cellsAt(id n:Nat){es es':Nat}{l:List AV}(l':List AV)(hb:s.getD id .dead=.arr es l)(hn:s.getD n .dead=.arr es' [])(hlen:l'.length=l.length)(hcl:∀ x∈l',(cellsOf x).length=es)(ht:toC n (flat l) (flat l')) :
  Shift c e s e (s.set id (.arr es l')):=by
 rintro a w ⟨hh,ρ,hm,hlt,he,hdf,hsz,hX⟩;obtain⟨m2,l2⟩:=hm.recell (id:=id) (n:=n) (es':=es') (AcC hb) hlen hcl (AcC hn) ht;exact⟨hh,ρ,m2,hlt.trans l2,fun t=>(he t).mono l2.hle l2.keep,hdf,hsz,c.hx.later hm l2 hX⟩
end
end Go.Av
set_option maxRecDepth 100000
set_option maxHeartbeats 2000000
namespace Go.Proofs.YtlldmgboedknfaaGreatDoor
open Go Go.Av Go.RowKit _root_.Go.Proofs.Tryz
def joins(p:Pa):Bool:=p.kind==3||p.kind==4
def gstep(out:List (Nat×Nat))(i:Nat)(p:Pa):List (Nat×Nat) :=
 if joins p then out.set (out.length-1) ((out.getD (out.length-1) (0,0)).1,i+1) else out++[(i,i+1)]
def gfold:List (Nat×Nat)->Nat->List Pa->List (Nat×Nat)
 | out,_,[]=>out
 | out,i,p::r=>gfold (gstep out i p) (i+1) r
def groupsL(ps:List Pa):List (Nat×Nat):=gfold [] 0 ps
theorem AbX{l:List (List UInt8)}{i:Nat}(h:i<l.length):List.getD (List.map AV.str l) i .any=.str l[i]:=by simp[List.getD,h]
theorem AjP(a b:List (List UInt8))(ha:a.length<1000000000000000)(hb:b.length<1000000000000000):Pc prog 11 [.fz 1 (a.map .str),.fz 1 (b.map .str)] (· = .bool (a==b)):=by
 by_cases hl:a.length=b.length
 .have d0:((a.length:Int) != (b.length:Int))=false:=by simp[hl]
  refine zpIN func11 rfl fun h ρ w=>?_
  simp only[go_sem,d0,List.length_map];refine AaL (ι:=Nat) (fun i=>a.length-i) (fun i=>[(13,.int .i64 i),(12,.int .i64 a.length),(1,.fz 1 (b.map .str)),(0,.fz 1 (a.map .str))]) (fun _=>[]) (fun i=>i<=a.length/\a.take i=b.take i) 0 (by simp) ?_ ?_
  .refine Shift.weak ?_
   simp only[go_sem]
  .rintro i ⟨g1,g2⟩ J hJ
   by_cases gi:i<a.length
   .have di:decide ((i:Int)<(a.length:Int))=true:=by simp; omega
    have gb:i<b.length:=by omega
    have h1:=AbX gi;have h2:=AbX gb
    by_cases he:a[i]=b[i]
    .have de:(a[i] != b[i])=false:=by simp[he]
     refine zgN ?_;simp only[go_sem,di];refine zr [] mixed ?_;simp only[go_sem,h1,h2,de,List.length_map]
     repeat refine And.intro (by first|omega|simpa using gi|simpa using gb) ?_
     refine zgN ?_;simp only[go_sem]
     repeat refine ao ?_
     rw[ic i];refine ainv (hJ (i+1) ⟨by omega,by rw[List.take_succ_eq_append_getElem gi,List.take_succ_eq_append_getElem gb,g2,he]⟩ (by omega)) (Shift.weak ?_);simp only[go_sem]
    .have de:(a[i] != b[i])=true:=by simp[he]
     have hab:(a==b)=false:=by
      rw[beq_eq_false_iff_ne];rintro rfl;exact he rfl
     refine zgN ?_;simp only[go_sem,di];refine zr [] mixed ?_;simp only[go_sem,h1,h2,de,List.length_map]
     repeat refine And.intro (by first|omega|simpa using gi|simpa using gb) ?_
     refine zgN ?_;simp only[go_sem];exact aret [4] rfl ⟨by rw[hab]; rfl,rfl⟩
   .have di:decide ((i:Int)<(a.length:Int))=false:=by simp; omega
    have:a=b:=by
     rw[List.take_of_length_le (by omega),List.take_of_length_le (by omega)]at g2;exact g2
    subst this;refine zgN ?_;simp only[go_sem,di];exact aret [4] rfl ⟨by simp[resV,Av.get],rfl⟩
 .have d0:((a.length:Int) != (b.length:Int))=true:=by simp; omega
  have hab:(a==b)=false:=by
   rw[beq_eq_false_iff_ne];rintro rfl;exact hl rfl
  refine zpIN func11 rfl fun h ρ w=>?_
  simp only[go_sem,d0,List.length_map];exact aret [4] rfl ⟨by rw[hab]; rfl,rfl⟩
def fTo(ws sm:List (List UInt8))(i:Nat):List Nat:=(List.range i).filter fun k=>(ws.drop k).take sm.length==sm
def BgA(ws sm:List (List UInt8)):List Nat:=fTo ws sm (ws.length+1-sm.length)
def GOk(n i:Nat)(out:List (Nat×Nat)):Prop:=i<=n/\∀ g∈out,g.1<g.2/\g.2<=i
theorem BdJ{n i:Nat}{out:List (Nat×Nat)}{p:Pa}(h:GOk n i out)(hi:i<n):GOk n (i+1) (gstep out i p):=by
 refine⟨by omega,fun g hg=>?_⟩;unfold gstep at hg
 split at hg
 .by_cases hl:out.length=0
  .have:out=[]:=List.length_eq_zero_iff.1 hl
   subst this
   simp at hg
  .rcases List.mem_or_eq_of_mem_set hg with h1|h1
   .have:=h.2 g h1; omega
   .have hlt:out.length-1<out.length:=by omega
    have hm:out.getD (out.length-1) (0,0)∈out:=by
     rw[List.getD_eq_getElem?_getD,List.getElem?_eq_getElem hlt];exact List.getElem_mem hlt
    have:=h.2 _ hm;rw[h1];simp only;omega
 .rcases List.mem_append.1 hg with h1|h1
  .have:=h.2 g h1; omega
  .rw [List.mem_singleton.1 h1]; simp
theorem A1I{n:Nat}:∀ {ps:List Pa}{i:Nat}{out:List (Nat×Nat)},GOk n i out->i+ps.length=n->GOk n n (gfold out i ps)
 | [],i,out,h,hn=>by
  simp only[List.length_nil,Nat.add_zero]at hn;subst hn; exact h
 | p::r,i,out,h,hn=>by
  simp only[List.length_cons]at hn
  show GOk n n (gfold (gstep out i p) (i+1) r)
  exact A1I (BdJ h (by omega)) (by omega)
theorem A8J(ps:List Pa):∀ g∈groupsL ps,g.1<g.2/\g.2<=ps.length :=
 (A1I (n:=ps.length) (ps:=ps) (i:=0) (out:=[]) ⟨by omega,by simp⟩ (by omega)).2
def pNo:Pa:=⟨0,[]⟩
def BdK(p:Pa)(name:List UInt8):Bool:=p.kind==2&&p.text==name
def AsD(ps:List Pa)(gs:List (Nat×Nat))(k:Nat):Pa:=ps.getD (gs.getD k (0,0)).1 pNo
def ownB(ps:List Pa)(name:List UInt8)(ws:List (List UInt8))(gs:List (Nat×Nat))(k:Nat):Bool :=
 BdK (AsD ps gs k) name||(((AsD ps gs k).kind==2&&(decide (k+1<gs.length)&&BdK (AsD ps gs (k+1)) name)) ||
  ((AsD ps gs k).kind != 2&&(decide (0<ws.length)&&decide (0<(BgA (AuX (AsD ps gs k).text) ws).length))))
def cutP(ps:List Pa)(g:Nat×Nat):List Pa:=(ps.take g.2).drop g.1
def partTo(ps:List Pa)(name:List UInt8)(ws:List (List UInt8))(gs:List (Nat×Nat)):Nat->List Pa
 | 0=>[]
 | k+1=>partTo ps name ws gs k++(if ownB ps name ws gs k then cutP ps (gs.getD k (0,0)) else[])
def partL(ps:List Pa)(name:List UInt8):List Pa:=partTo ps name (AuX name) (groupsL ps) (groupsL ps).length
theorem AmX(l:List Int):(flat (l.map (AV.int .i64))).all Av.frozen=true:=by
 induction l with
 | nil=>rfl
 | cons y l ih=>simpa[flat,cellsOf,Av.frozen]using ih
def placeW:List AV:=[.str [],.str [73,78,84,46],.str [69,88,84,46],.str [73,78,84,46,47,69,88,84,46]]
def AoR:List AV:=[.str [],.str [68,65,89],.str [78,73,71,72,84],.str [68,65,87,78],.str [68,85,83,75],.str [76,65,84,69,82]]
theorem place_pc:Pc prog 158 [] (· = .fz 1 placeW):=by
 refine AbI (AaU func158 rfl ntmps158 hB158 (by simp) fun h ρ w=>goF rfl 200 ?_);simp only[go_sem];exact aret [0] rfl ⟨by simp[resV,Av.get,placeW],rfl⟩
theorem time_pc:Pc prog 159 [] (· = .fz 1 AoR):=by
 refine AbI (AaU func159 rfl ntmps159 hB159 (by simp) fun h ρ w=>goF rfl 200 ?_);simp only[go_sem];exact aret [0] rfl ⟨by simp[resV,Av.get,AoR],rfl⟩
def BdL:AV:=.agg [.int .i64 1,.str [82,97,105,110,46]]
def sceneA:AV:=.agg [.str [],.int .i64 1,.str [72,65,76,76],.int .i64 1,.fz 2 [.agg [.int .i64 1,.str [82,97,105,110,46]]]]
theorem A3U:Pc prog 113 [sceneA] (· = .str [73,78,84,46,32,72,65,76,76,32,45,32,68,65,89]):=by
 refine AbI (AaU func113 rfl ntmps113 hB113 (by simp) fun h ρ w=>go rfl 200 ?_);simp only[go_sem,sceneA];refine zr [.fz 1 placeW,.fz 1 AoR] mixed ?_;simp only[go_sem,sceneA,placeW,AoR];refine⟨place_pc.at,time_pc.at,?_⟩;refine go rfl 200 ?_;simp only[go_sem,sceneA];exact aret [2] rfl ⟨by simp[resV,Av.get],rfl⟩
theorem A3V(c:UInt8)(s o:List UInt8)(hs:s.length<1000000)(hn:Lib.indexByte o c<0):Pc prog 197 [.str (c::s),.str o] (· = .str (c::s)):=by
 refine AbI (AaU func197 rfl ntmps197 hB197 (by simp) fun h ρ w=>go rfl 200 ?_);simp only[go_sem];refine⟨by omega,?_⟩;refine zpN (AkB o (c.toNat:Int)) ?_;have h0:decide (0<=Lib.indexByte o c.toNat.toUInt8)=false:=by simp; omega
 simp only[go_sem,h0];exact aret [4] rfl ⟨by simp[resV,Av.get],rfl⟩
theorem BiY:Pc prog 144 [BdL] (· = .str [82,97,105,110,46]):=by
 refine AbI (AaU func144 rfl ntmps144 hB144 (by simp) fun h ρ w=>go rfl 200 ?_);simp only[go_sem,BdL];refine zpN (A3V 82 [97,105,110,46] [64,62,35,92] (by decide) (by decide)) ?_;simp only[go_sem];exact aret [2] rfl ⟨by simp[resV,Av.get],rfl⟩
theorem AyI:Pc prog 110 [.int .i64 1,.int .i64 0] (· = .bool true):=by
 refine AbI (AaU func110 rfl ntmps110 hB110 (by simp) fun h ρ w=>go rfl 200 ?_);simp only[go_sem];exact aret [4] rfl ⟨by simp[resV,Av.get],rfl⟩
theorem A8K{S:Std}(hS:LibOk S):PcH prog S 109 [BdL] (· = .int .i64 0):=by
 refine AcB (AcT func109 rfl ntmps109 hB109 (by simp) fun h ρ w hg=>go rfl 200 ?_);simp only[go_sem,BdL];refine zqN hg (AcJ hS [82,97,105,110,46] (by decide)) ?_;have hp:plainL [82,97,105,110,46]=true:=by decide
 simp only[go_sem,hp];exact aret [2] rfl ⟨by simp[resV,Av.get],rfl⟩
theorem A8L{S:Std}(hS:LibOk S):PcH prog S 54 [sceneA] (· = .int .i64 0):=by
 refine AcB (AcT func54 rfl ntmps54 hB54 (by simp) fun h ρ w hg=>go rfl 200 ?_);simp only[go_sem,sceneA];refine zqN hg (AmH hS [72,65,76,76] (by decide)) ?_;have hp:isSetL [72,65,76,76]=true:=by decide
 simp only[go_sem,hp];refine AcL (around (zgN ?_));simp only[go_sem];refine zqN hg (A8K hS) ?_;simp only[go_sem];refine AcK AyI rfl rfl rfl (zgN ?_);simp only[go_sem];refine AdE (around (zgN ?_));simp only[go_sem];exact aret [2] rfl ⟨by simp[resV,Av.get],rfl⟩
theorem blanks_len(n:Nat):(Lib.repeatL [32] n).length=n:=by
 rw[Lib.repeatL_length]; simp
theorem A8M(W:Nat):∀ (n:Nat)(w:List UInt8),w.length<=n->∀ l∈(chop W w).1,l.length<=w.length
 | 0,w,h,l,hl=>by rw[AdR (by omega)]at hl; simp at hl
 | n+1,w,h,l,hl=>by
  by_cases hc:W<w.length/\0<W
  .rw [AeK hc.1 hc.2]at hl
   rcases List.mem_cons.1 hl with rfl|hl
   .simp; omega
   .have:=A8M W n (w.drop W) (by simp; omega) l hl
    simp at this; omega
  .rw [chop,dif_neg hc]at hl; simp at hl
theorem AvB(W:Nat)(t:List UInt8):∀ j,j<=(splitW t).length->∀ l∈(wrapTo W t j).1,l.length<=sumTo t j
 | 0,_,l,hl=>by simp[wrapTo]at hl
 | j+1,hj,l,hl=>by
  have hjl:j<(splitW t).length:=by omega
  have h:=List.getElem?_eq_getElem hjl;have ih:=AvB W t j (by omega);have hb:=AeL W t j (by omega);rw[AhN h]at hl;rw[AjO h];unfold wrapS at hl
  split at hl
  .have:=ih l hl; omega
  .split at hl
   .have:=ih l hl; omega
   .simp only at hl
    rcases List.mem_append.1 hl with hl|hl
    .split at hl
     .rcases List.mem_append.1 hl with hl|hl
      .have:=ih l hl; omega
      .rw [List.mem_singleton.1 hl]; omega
     .have:=ih l hl; omega
    .have:=A8M W _ _ (Nat.le_refl _) l hl; omega
theorem AbY(W:Nat)(t:List UInt8):(AbE W t).length<=t.length+2/\∀ l∈AbE W t,l.length<=t.length+1:=by
 have htot:wrapTo W t (splitW t).length=wrapF W t:=by simp[wrapTo,wrapF]
 have hb:=AeL W t _ (Nat.le_refl _);have hb2:=AlD t _ (Nat.le_refl _);have hb3:=AvB W t _ (Nat.le_refl _);rw[htot]at hb hb3;unfold AbE
 split
 .refine ⟨by simp; omega,fun l hl=>?_⟩
  rcases List.mem_append.1 hl with hl|hl
  .have:=hb3 l hl; omega
  .rw [List.mem_singleton.1 hl]; omega
 .exact ⟨by omega,fun l hl=>by have:=hb3 l hl; omega⟩
structure Bl where
 kind:Int
 lines:List (List UInt8)
 kinds:List Int
 name:List UInt8
def blA(b:Bl):AV:=.agg [.int .i64 b.kind,.fz 1 (b.lines.map .str),.fz 1 (b.kinds.map (.int .i64)),.str b.name]
theorem BgB(b:Bl):Pc prog 121 [blA b] (· = .int .i64 (if b.kind==0 then 2 else 1)):=by
 simp only[blA]
 cases hb:b.kind==0 with
 | true =>
  refine zpIN func121 rfl fun h ρ w=>?_
  simp only[go_sem,hb];exact aret [2] rfl ⟨by simp[resV,Av.get],rfl⟩
 | false =>
  refine zpIN func121 rfl fun h ρ w=>?_
  simp only[go_sem,hb];exact aret [2] rfl ⟨by simp[resV,Av.get],rfl⟩
theorem AgY{St:Std}(hS:LibOk St)(t:List UInt8)(hl:t.length<10000000):PcH prog St 58 [.str t] (· = blA ⟨0,AbE 60 t,[],[]⟩):=by
 have hw:=AlE hS t 60 (by omega) (by omega) (by omega);simp only[blA];refine zqIF func58 rfl fun h ρ w hg=>?_
 simp only[go_sem];refine zqF hg (hw) ?_;simp only[go_sem];exact ARet.shift (Shift.cells 0 1 [.agg [.int .i64 0,.fz 1 ((AbE 60 t).map .str),.fz 1 [],.str []]] rfl rfl (by simp[cellsOf]) ⟨.refl,.refl,.fz,.refl,trivial⟩) (AbG [.cell 2 107] rfl [_] ⟨by simp only[go_sem,sideIs],trivial⟩ ⟨rfl,rfl⟩)
theorem AsE{St:Std}(hS:LibOk St)(t:List UInt8)(hl:t.length<10000000):PcH prog St 114 [.str t] (· = blA ⟨1,AbE 60 t,[],[]⟩):=by
 have hw:=AlE hS t 60 (by omega) (by omega) (by omega);simp only[blA];refine zqIF func114 rfl fun h ρ w hg=>?_
 simp only[go_sem];refine zqF hg (hw) ?_;simp only[go_sem];exact ARet.shift (Shift.cells 0 1 [.agg [.int .i64 1,.fz 1 ((AbE 60 t).map .str),.fz 1 [],.str []]] rfl rfl (by simp[cellsOf]) ⟨.refl,.refl,.fz,.refl,trivial⟩) (AbG [.cell 2 107] rfl [_] ⟨by simp only[go_sem,sideIs],trivial⟩ ⟨rfl,rfl⟩)
def turnLine(t:List UInt8):List UInt8:=Lib.repeatL [32] (60-(t.length+1))++(t++[58])
theorem A3W(t:List UInt8)(hl:t.length<10000000):Pc prog 115 [.str t] (· = blA ⟨2,[turnLine t],[],[]⟩):=by
 have hr:=AeH [32] (60-(t.length+1)) (by simp; omega) (by omega);simp only[blA];have hmx:(if 60-((t.length+1:Nat):Int)<0 then 0 else 60-((t.length+1:Nat):Int))=((60-(t.length+1):Nat):Int):=by split <;> omega
 refine zpIF func115 rfl fun h ρ w=>?_
 simp only[go_sem];rw[hmx];refine⟨by omega,by omega,by omega,?_⟩;refine zpF (hr) ?_;simp only[go_sem];refine⟨by rw[blanks_len]; omega,?_⟩;exact ARet.shift (Shift.cells 0 1 [.agg [.int .i64 2,.fz 1 [.str (turnLine t)],.fz 1 [],.str []]] rfl rfl (by simp[cellsOf]) ⟨.refl,.refl,.fz,.refl,trivial⟩) (AbG [.cell 2 107] rfl [_] ⟨by simp only[go_sem,sideIs],trivial⟩ ⟨rfl,rfl⟩)
def indent(n:Nat)(l:List UInt8):List UInt8:=Lib.repeatL [32] n++l
structure Grp(S:AV->List AV->List AV->List Blk)(M:AV->List AV)(ib il ik n i:Nat):Prop where
 hi:i<n
 hb:∀ g L K,(S g L K).getD ib .dead=.arr 4 (M g)
 hM:∀ g,(M g).length=n
 hMi:∀ g,List.getD (M g) i .any=g
 hMs:∀ g g',(M g).set i g'=M g'
 hbs:∀ g g' L K,(S g L K).set ib (.arr 4 (M g'))=S g' L K
 hL:∀ g L K,(S g L K).getD il .dead=.arr 1 L
 hLs:∀ g L L' K,(S g L K).set il (.arr 1 L')=S g L' K
 hK:∀ g L K,(S g L K).getD ik .dead=.arr 1 K
 hKs:∀ g L K K',(S g L K).set ik (.arr 1 K')=S g L K'
def grpA(il ik:Nat)(kd:Int)(a b:Nat)(nm:List UInt8):AV:=.agg [.int .i64 kd,.sl il 0 a a,.sl ik 0 b b,.str nm]
def grpS(S:AV->List AV->List AV->List Blk)(il ik:Nat)(b:Bl):List Blk:=S (grpA il ik b.kind b.lines.length b.kinds.length b.name) (b.lines.map .str) (b.kinds.map (.int .i64))
def addB(b:Bl)(kd:Int)(at':Nat)(ls:List (List UInt8)):Bl:={ b with lines:=b.lines++ls.map (indent at'),kinds:=b.kinds++List.replicate ls.length kd }
theorem AhO{S:AV->List AV->List AV->List Blk}{M:AV->List AV}{ib il ik n i:Nat}(G:Grp S M ib il ik n i)(b:Bl)(kd':Int)(at':Nat)(hat:at'<=1000)(ls:List (List UInt8))(hsm:b.lines.length+ls.length<1000000000)(hsk:b.kinds.length+ls.length<1000000000)(hll:∀ l∈ls,l.length<1000000) :
  Ct prog 160 [.ptr ib n i 0,.int .i64 kd',.int .i64 (at':Int),.fz 1 (ls.map .str)] (grpS S il ik b) (fun r s=>r=.tup []/\s=grpS S il ik (addB b kd' at' ls)):=by
 obtain⟨hi,hb,hM,hMi,hMs,hbs,hL,hLs,hK,hKs⟩:=G;obtain⟨kd,L0,K0,nm⟩:=b;simp only[grpS,grpA,addB,List.length_append,List.length_map,List.length_replicate]at hsm hsk |-;have hr:=AeH [32] at' (by simp; omega) (by omega);refine zcIF func160 rfl fun h ρ w=>?_
 simp only[go_sem,List.length_map];refine AaL (ι:=Nat) (fun j=>ls.length-j) (fun j=>[(12,.int .i64 j),(11,.int .i64 ls.length),(10,.fz 1 (ls.map .str)),(0,.ptr ib n i 0),(1,.int .i64 kd'),(2,.int .i64 (at':Int))])
  (fun j=>S (.agg [.int .i64 kd,.sl il 0 (L0.length+j) (L0.length+j),.sl ik 0 (K0.length+j) (K0.length+j),.str nm]) ((L0++(ls.take j).map (indent at')).map .str) ((K0++List.replicate j kd').map (.int .i64))) (fun j=>j<=ls.length) 0 (by simp) ?_ ?_
 .refine Shift.weakS ?_ ?_
  .simp only [go_sem]
  .simp
 .intro j g1 J hJ
  by_cases gj:j<ls.length
  .have dj:decide ((j:Int)<(ls.length:Int))=true:=by simp; omega
   have hg':List.getD (List.map AV.str ls) j .any=.str ls[j]:=by simp[List.getD,gj]
   have hlt:(List.take j ls).length=j:=by simp; omega
   have hlj:=hll ls[j] (List.getElem_mem gj);have hbl:=blanks_len at';refine zgF ?_;simp only[go_sem,dj,hg',List.length_map]
   repeat refine aqa ?_
   refine zr [.str (Lib.repeatL [32] at')] mixed ?_;simp only[go_sem,hb,hM,hMi,hMs,hbs,hL,hLs,hK,hKs,hlt,List.length_map,List.length_replicate]
   repeat refine And.intro (by first|omega|exact hr.at|exact .inl trivial|rfl|(simp; done)|(simp; omega)) ?_
   refine zgF ?_;simp only[go_sem,hb,hM,hMi,hMs,hbs,hL,hLs,hK,hKs,hlt,List.length_map,List.length_replicate]
   repeat refine aqa ?_
   have e1:List.map AV.str (L0++List.map (indent at') (List.take j ls))++[AV.str (Lib.repeatL [32] at'++ls[j])]=List.map AV.str (L0++List.map (indent at') (List.take (j+1) ls)):=by
    rw[List.take_succ_eq_append_getElem gj]; simp only[List.map_append,List.append_assoc,List.map_cons,List.map_nil]; rfl
   have e2:List.map (AV.int .i64) (K0++List.replicate j kd')++[AV.int .i64 kd']=List.map (AV.int .i64) (K0++List.replicate (j+1) kd'):=by
    rw[List.replicate_succ']; simp
   rw[e1,e2,show(j:Int)+1=((j+1:Nat):Int) by omega];refine ainv (hJ (j+1) (by omega) (by omega)) (Shift.weak ?_);simp only[go_sem]
  .have dj:decide ((j:Int)<(ls.length:Int))=false:=by simp; omega
   have hj:j=ls.length:=by omega
   subst hj;refine zgF ?_;simp only[go_sem,dj];exact aret [] rfl ⟨rfl,by simp⟩
theorem AvC{St:Std}(hS:LibOk St){S:AV->List AV->List AV->List Blk}{M:AV->List AV}{ib il ik n i:Nat}(G:Grp S M ib il ik n i)(b:Bl)(t:List UInt8)(hl:t.length<10000)(hsm:b.lines.length<100000000)(hsk:b.kinds.length<100000000) :
  CtH prog St 117 [.ptr ib n i 0,.str t] (grpS S il ik b) (fun r s=>r=.tup []/\s=grpS S il ik (addB b 1 15 (AbE 30 (40::(t++[41]))))):=by
 have hw:=AlE hS (40::(t++[41])) 30 (by simp; omega) (by omega) (by omega);have hle:=AbY 30 (40::(t++[41]));simp only[List.length_cons,List.length_append,List.length_nil]at hle;refine zdIF func117 rfl fun h ρ w hg=>?_
 simp only[go_sem]
 repeat refine aqb ?_
 refine zqF hg (hw) ?_;simp only[go_sem];refine za (AhO G b 1 15 (by omega) _ (by omega) (by omega) (fun l h=>by have:=hle.2 l h; omega)) ?_;rintro _ _ ⟨rfl,rfl⟩;refine zgF ?_;simp only[go_sem];exact zt []
theorem AsF{St:Std}(hS:LibOk St){S:AV->List AV->List AV->List Blk}{M:AV->List AV}{ib il ik n i:Nat}(G:Grp S M ib il ik n i)(b:Bl)(t:List UInt8)(hl:t.length<10000)(hsm:b.lines.length<100000000)(hsk:b.kinds.length<100000000) :
  CtH prog St 118 [.ptr ib n i 0,.str t] (grpS S il ik b) (fun r s=>r=.tup []/\s=grpS S il ik (addB b 2 10 (AbE 35 t))):=by
 have hw:=AlE hS t 35 (by omega) (by omega) (by omega);have hle:=AbY 35 t;refine zdIF func118 rfl fun h ρ w hg=>?_
 simp only[go_sem];refine zqF hg (hw) ?_;simp only[go_sem];refine za (AhO G b 2 10 (by omega) _ (by omega) (by omega) (fun l h=>by have:=hle.2 l h; omega)) ?_;rintro _ _ ⟨rfl,rfl⟩;refine zgF ?_;simp only[go_sem];exact zt []
theorem AyJ(b0 b1 b4:Blk)(nm:List UInt8)(hl:nm.length<10000) :
  Ct prog 116 [.str nm] [b0,b1,.arr 1 [],.arr 1 [],b4] (fun r s=>r=grpA 2 3 3 1 1 nm/\∃ b5 b6,s=[b0,b1,.arr 1 [.str (indent 20 nm)],.arr 1 [.int .i64 0],b4,b5,b6]):=by
 refine AaU func116 rfl ntmps116 hB116 (by simp) fun h ρ w=>goF rfl 16 ?_
 simp only[go_sem]
 repeat refine aqc ?_
 refine AWp.shift (Shift.cellsAt 6 2 [.agg [.int .i64 3,.sl 2 0 0 0,.raw (.slice none 0 0),.str nm]] rfl rfl rfl (by simp[cellsOf]) ⟨.refl,.sl,.refl,.refl,trivial⟩) ?_;refine AWp.shift (Shift.cellsAt 6 3 [.agg [.int .i64 3,.sl 2 0 0 0,.sl 3 0 0 0,.str nm]] rfl rfl rfl (by simp[cellsOf]) ⟨.refl,.refl,.sl,.refl,trivial⟩) ?_;refine zgF ?_;simp only[go_sem];have G:Grp (fun g L K=>[b0,b1,.arr 1 L,.arr 1 K,b4,.arr 4 [.agg [.int .i64 0,.raw (.slice none 0 0),.raw (.slice none 0 0),.str []]],.arr 4 [g]]) (fun g=>[g]) 6 2 3 1 0 :=
  ⟨by omega,fun _ _ _=>rfl,fun _=>rfl,fun _=>rfl,fun _ _=>rfl,fun _ _ _ _=>rfl,fun _ _ _=>rfl,fun _ _ _ _=>rfl,fun _ _ _=>rfl,fun _ _ _ _=>rfl⟩
 have hadd:=AhO G ⟨3,[],[],nm⟩ 0 20 (by omega) [nm] (by simp) (by simp) (by simp; omega);simp only[grpS,grpA,addB,List.length_nil,List.map_nil,List.map_cons,List.length_cons,List.nil_append,List.replicate]at hadd;refine za (hadd) ?_;rintro _ _ ⟨rfl,rfl⟩;refine zgF ?_;simp only[go_sem];exact AbG [.cell 2 107] rfl [_] ⟨by simp only[go_sem,sideIs],trivial⟩ ⟨rfl,_,_,rfl⟩
def ApR(p:Int):List UInt8:=[[],[73,78,84,46],[69,88,84,46],[73,78,84,46,47,69,88,84,46]].getD p.toNat []
def A3X(p:Int):List UInt8:=[[],[68,65,89],[78,73,71,72,84],[68,65,87,78],[68,85,83,75],[76,65,84,69,82]].getD p.toNat []
def AdS(x:Sc):List UInt8:=ApR x.place++[32]++x.set++[32,45,32]++A3X x.time
def headL(x:Sc):List UInt8:=if x.no != [] then x.no++[32]++AdS x else AdS x
theorem BdM(p:Int)(h:1<=p/\p<=3):List.getD placeW p.toNat .any=.str (ApR p):=by
 obtain⟨n,rfl⟩:=Int.eq_ofNat_of_zero_le (by omega:0<=p);have:n=1\/n=2\/n=3:=by omega
 rcases this with rfl|rfl|rfl <;> rfl
theorem BiZ(p:Int)(h:1<=p/\p<=5):List.getD AoR p.toNat .any=.str (A3X p):=by
 obtain⟨n,rfl⟩:=Int.eq_ofNat_of_zero_le (by omega:0<=p);have:n=1\/n=2\/n=3\/n=4\/n=5:=by omega
 rcases this with rfl|rfl|rfl|rfl|rfl <;> rfl
theorem AjQ(p:Int):(ApR p).length<=9:=by
 unfold ApR
 match p.toNat with
 | 0|1|2|3=>decide
 | n+4=>simp[List.getD]
theorem AmY(p:Int):(A3X p).length<=5:=by
 unfold A3X
 match p.toNat with
 | 0|1|2|3|4|5=>decide
 | n+6=>simp[List.getD]
theorem AoS(x:Sc)(hp:1<=x.place/\x.place<=3)(ht:1<=x.time/\x.time<=5)(hl:x.no.length<1000001)(hl2:x.set.length<10000):Pc prog 113 [scA x] (· = .str (headL x)):=by
 have h1:=BdM x.place hp;have h2:=BiZ x.time ht;have l1:=AjQ x.place;have l2:=AmY x.time;simp only[scA];refine zpIF func113 rfl fun h ρ w=>?_
 simp only[go_sem];refine zr [.fz 1 placeW,.fz 1 AoR] mixed ?_;simp only[go_sem,h1,h2]
 repeat refine And.intro (by first|omega|exact place_pc.at|exact time_pc.at|rfl|(simp[placeW,AoR]; done)|(simp[placeW,AoR]; omega)) ?_
 cases hn:x.no != []with
 | true =>
  refine zgF ?_;simp only[go_sem,hn]
  repeat refine aqb ?_
  exact aret [2] rfl ⟨by simp[resV,Av.get,headL,hn,AdS],rfl⟩
 | false =>
  refine zgF ?_;simp only[go_sem,hn];exact aret [2] rfl ⟨by simp[resV,Av.get,headL,hn,AdS],rfl⟩
theorem AyK:∀ (ps:List Pa)(l e:Int),runL l ps=some e->∀ p∈ps,paraOk p=true
 | [],_,_,_,p,hp=>by simp at hp
 | a::r,l,e,h,p,hp=>by
  simp only[runL]at h
  split at h
  .rename_i hc
   simp only[Bool.and_eq_true]at hc
   rcases List.mem_cons.1 hp with rfl|hp
   .exact hc.1
   .exact AyK r _ _ h p hp
  .cases h
theorem BdN{ps:List Pa}{e:Int}(h:runL 0 ps=some e):∀ p,ps.head? = some p->joins p=false:=by
 intro p hp
 cases ps with
 | nil=>simp at hp
 | cons a r =>
  simp only[List.head?_cons,Option.some.injEq]at hp;subst hp;simp only[runL]at h
  split at h
  .rename_i hc
   simp only[Bool.and_eq_true,followsL]at hc;simp only[joins,Bool.or_eq_false_iff];have hc2:=hc.2
   constructor
   .cases q:a.kind==3 with
    | false=>rfl
    | true=>rw[q]at hc2; simp at hc2
   .cases q:a.kind==4 with
    | false=>rfl
    | true =>
     cases q3:a.kind==3 with
     | true=>rw[q3]at hc2; simp at hc2
     | false=>rw[q3,q]at hc2; simp at hc2
  .cases h
theorem AsG{p:Pa}(h:paraOk p=true):p.text.length<=2000:=by
 simp only[paraOk,Bool.and_eq_true,decide_eq_true_eq]at h;exact h.2.2.2.2.1
theorem BgC:∀ (l:List Sc)(x:Sc),x∈l->x.paras.length<=paraSum l
 | [],x,h=>by simp at h
 | a::r,x,h=>by
  simp only[paraSum,List.map_cons,List.sum_cons]
  rcases List.mem_cons.1 h with rfl|h
  .omega
  .have:=BgC r x h
   simp only[paraSum]at this;omega
def x0:Sc:=⟨[],0,[],0,[]⟩
