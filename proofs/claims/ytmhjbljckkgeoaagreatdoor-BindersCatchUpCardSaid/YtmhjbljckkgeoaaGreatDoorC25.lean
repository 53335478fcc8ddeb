/- Statements whose order is open and whose last operation waits for all others: it may be. -/
import Derived.Test.YtmhjbljckkgeoaaGreatDoorC24
set_option linter.all false
namespace Go.Av
open RowKit
variable [Tr]
def iniO:List Oper->List Oper
 | []=>[]
 | [_]=>[]
 | a::b::r=>a::iniO (b::r)
def lasO:List Oper->Option Oper
 | []=>none
 | [a]=>some a
 | _::b::r=>lasO (b::r)
theorem BcZ:∀ {l:List Oper}{o:Oper},lasO l=some o->l=iniO l++[o]
 | [],_,h=>by cases h
 | [a],o,h=>by simp only[lasO,lbr]at h; subst h; rfl
 | a::b::r,o,h=>by
  have:=BcZ (l:=b::r) h;rw[iniO,lbc,<- this]
def BdA(ops:List Oper)(j i:Nat):Bool:=bif i+1==ops.length then false else match ops[i]?,ops[j]? with
 | some oi,some oj=>oj.apart ops.toArray oi&&together oj oi
 | _,_=>false
section
variable {c:Cx}{k:List It}{e:Env}{s:LB}
theorem AxB{K:Env->LB->Prop}{all:List Oper}:∀ {r:List Oper}{m n:Nat}{cs:LY}{e:Env}{s:LB},(∀ (j:Nat)(o:Oper),r[j]? = some o->all[m+j]? = some o)->dxk c all K n r cs e s->Chain c all.toArray K (List.range' m r.length) e s
 | [],m,n,cs,e,s,_,h=>by
  rw[dxk]at h;exact h
 | o::r,m,n,cs,e,s,hr,h=>by
  obtain⟨cv,v,n',cs',s',h1,h2⟩:=A4V h;have h0:all.toArray[m]? = some o:=by have:=hr 0 o rfl; simpa using this
  simp only[lal,List.range'_succ,Chain,h0];exact⟨cv,v,s',h1,AxB (fun j o' hj=>by have:=hr (j+1) o' (by simpa using hj); simpa[Nat.add_assoc,Nat.add_comm 1 j]using this) h2⟩
def KLast(c:Cx)(k:List It)(ops:List Oper)(last:Oper)(e:Env)(s:LB):Prop:=AWp c (.op ops last []::k) e s
theorem KLast.K{ops:List Oper}{last:Oper}:∀ e e' s,Eqv e e'->KLast c k ops last e s->KLast c k ops last e' s:=fun _ _ _ h x=>AWp.eqv h x
def BwH(c:Cx)(k:List It)(ops:List Oper)(last:Oper)(m:Nat)(l:List Nat)(a:Act)(w:World):Prop :=
 (l=[]/\WQ c k .normal a w)\/∃ l' e s,l=l'++[m]/\(∀ j∈l',j<m)/\Chain c ops.toArray (KLast c k ops last) l' e s/\Sim c e s a w
theorem AxC(cs:LY){id:Nat}{ops:List Oper}{last:Oper}(hlast:lasO ops=some last)(hm:c.P.follows .mixedOrders=true)(hok:AfV (BdA ops) ops=true)(hg:last.guard=none){N:Nat}(hN:c.fn.ntmps=N)(hdst:ops.all (fun o=>dOk N o.dst)=true)(n:Nat)
  (h:dxk c ops (KLast c k ops last) n (iniO ops) cs e s):AWp c (.code (.region id ops.toArray true)::k) e s:=by
 intro a w hsim;have hsp:=BcZ hlast;have hlen:ops.length=(iniO ops).length+1:=by
  grind
 have hch:=AxB (m:=0) (by
  grind) h
 rw[<- List.range_eq_range']at hch;generalize hpl:(iniO ops).length=m at *;have hlm:ops[m]? = some last:=by
  grind
 refine wp_region_any hm ?_;have hsim':Sim c e s a { w with drawn:=w.drawn+1 }:=by
  obtain⟨hh,ρ,hmm,hl,he,hdf,hsz,hX⟩:=hsim;have sm:=Same.drew w;exact⟨hh,ρ,hmm.same sm,hl.trans (Later.same sm),he,hdf,hsz,c.hx.later hmm (Later.same sm) hX⟩
 have hd:∀ o∈ops,dOk c.fn.ntmps o.dst=true:=fun o ho=>by grind
 refine AkA (BwH c k ops last m) hok (fun a w x=>?_) (fun l i r a w hj x=>?_) (fun i o r a w Kc ho x hK=>?_)
  ops.length (Array.replicate ops.length false) (List.range ops.length) a _ (by simp) ?_ (by simp) ?_ (.inr ⟨List.range m,e,s,by grind[List.range_succ],fun j hj=>by grind,hch,hsim'⟩)
 .rcases x with⟨_,x⟩|⟨l',e,s,hl,_⟩
  .exact x
  .simp at hl
 .rcases x with⟨hl,_⟩|⟨l',e,s,hl,hlt,hc,hs⟩
  .simp at hl
  .cases l with
   | nil=>exact .inr ⟨l',e,s,by grind,hlt,hc,hs⟩
   | cons j0 l0 =>
    have him:i≠m:=fun e=>by
     have:=hj j0 (by simp)
     grind[BdA]
    have hr:r≠[]:=fun e=>by
     grind[List.append_inj']
    obtain⟨r',x',rfl⟩:∃ r' x',r=r'++[x']:=⟨r.dropLast,r.getLast hr,(List.dropLast_concat_getLast hr).symm⟩;have hl2:((j0::l0)++i::r')++[x']=l'++[m]:=by grind
    obtain⟨h1,h2⟩:=List.append_inj' hl2 rfl
    simp at h2
    subst h2;subst h1;refine .inr ⟨i::((j0::l0)++r'),e,s,by simp,fun j hj=>hlt j (by grind),?_,hs⟩
    cases hi:ops[i]? with
    | none =>
     grind
    | some oi =>
     refine Chain.front KLast.K (by simpa using hi) (fun j hjl=>?_) hc<;>grind[BdA]
 .rcases x with⟨hl,_⟩|⟨l',e,s,hl,hlt,hc,hs⟩
  .grind
  .cases l' with
   | nil =>
    simp at hl
    obtain⟨rfl,rfl⟩:=hl;rw[hlm]at ho
    cases ho
    rw[if_pos (by grind[Region.wanted])];have h1:=hc;have h2:=h1 a w hs (hd last (lar hlm));exact Oper.wp_mono (fun a w hh=>hK a w (.inl ⟨rfl,hh⟩)) h2
   | cons i' r' =>
    simp at hl
    obtain⟨rfl,rfl⟩:=hl;have ho':ops.toArray[i]? = some o:=by grind
    simp only[Chain,ho']at hc;obtain⟨cv,v,s',h1,h2⟩:=hc;exact AjZ hs (hd o (lar ho)) h1 fun a w hs'=>hK a w (.inr ⟨r',_,_,rfl,fun j hj=>hlt j (by grind),h2,hs'⟩)
 .symm
  rw[List.filter_eq_self];intro i hi
  simp at hi
  simp[hi]
 .intro i hi j hj
  exfalso
  by_cases h1:i<ops.length
  .simp [h1]at hi
  grind[waits]
theorem Shift.cellsAt(id n:Nat){es es':Nat}{l:LY}(l':LY)(hb:s.getD id .dead=.arr es l)(hn:s.getD n .dead=.arr es' [])(hlen:l'.length=l.length)(hcl:∀ x∈l',(cellsOf x).length=es)(ht:toC n (flat l) (flat l')) :
  Shift c e s e (s.set id (.arr es l')):=by
 rintro a w ⟨hh,ρ,hm,hlt,he,hdf,hsz,hX⟩;obtain⟨m2,l2⟩:=hm.recell (AcO hb) hlen hcl (AcO hn) ht;exact⟨hh,ρ,m2,hlt.trans l2,fun t=>(he t).mono l2.hle l2.keep,hdf,hsz,c.hx.later hm l2 hX⟩
end
end Go.Av
set_option maxRecDepth 100000
set_option maxHeartbeats 2000000
namespace Go.Proofs.YtmhjbljckkgeoaaGreatDoor
open Av RowKit Proofs.Tryz
def gA(g:Nat×Nat):AV:=.agg [.int .i64 g.1,.int .i64 g.2]
def joins(p:Pa):Bool:=p.kind==3||p.kind==4
def gstep(out:List (Nat×Nat))(i:Nat)(p:Pa):List (Nat×Nat) :=
 if joins p then out.set (out.length-1) ((out.getD (out.length-1) (0,0)).1,i+1) else out++[(i,i+1)]
def gfold:List (Nat×Nat)->Nat->List Pa->List (Nat×Nat)
 | out,_,[]=>out
 | out,i,p::r=>gfold (gstep out i p) (i+1) r
def groupsL(ps:List Pa):List (Nat×Nat):=gfold [] 0 ps
theorem AiZ{l:List LU}{i:Nat}(h:i<l.length):List.getD (List.map AV.str l) i .any=.str l[i]:=by simp[List.getD,h]
theorem AfD(a b:List LU)(ha:a.length<1000000000000000)(hb:b.length<1000000000000000):Pc prog 49 [.fz 1 (a.map .str),.fz 1 (b.map .str)] (· = .bool (a==b)):=by
 by_cases hl:a.length=b.length
 .have d0:((a.length:Int) != (b.length:Int))=false:=by simp[hl]
  refine zpIN func49 rfl fun h ρ w=>?_
  simp only[go_sem,d0,laa];refine AaC (ι:=Nat) (fun i=>a.length-i) (fun i=>[(13,.int .i64 i),(12,.int .i64 a.length),(1,.fz 1 (b.map .str)),(0,.fz 1 (a.map .str))]) (fun _=>[]) (fun i=>i<=a.length/\a.take i=b.take i) 0 (by simp) ?_ ?_
  .refine Ls ?_
   simp only[go_sem]
  .rintro i ⟨g1,g2⟩ J hJ
   by_cases gi:i<a.length
   .have di:decide ((i:Int)<(a.length:Int))=true:=by simp; omega
    have gb:i<b.length:=by omega
    have h1:=AiZ gi;have h2:=AiZ gb
    by_cases he:a[i]=b[i]
    .have de:(a[i] != b[i])=false:=by simp[he]
     apply zgN;simp only[go_sem,di];refine zr [] AaF ?_;simp only[go_sem,h1,h2,de,laa]
     repeat refine And.intro (by first|omega|simpa using gi|simpa using gb) ?_
     apply zgN;simp only[go_sem]
     repeat refine ao ?_
     rw[ic i];refine ainv (hJ (i+1) ⟨by omega,by rw[lad gi,lad gb,g2,he]⟩ (by omega)) (Ls ?_);simp only[go_sem]
    .have de:(a[i] != b[i])=true:=by simp[he]
     have hab:(a==b)=false:=by
      rw[lax];rintro rfl;exact he rfl
     apply zgN;simp only[go_sem,di];refine zr [] AaF ?_;simp only[go_sem,h1,h2,de,laa]
     repeat refine And.intro (by first|omega|simpa using gi|simpa using gb) ?_
     apply zgN;simp only[go_sem];exact aret [4] rfl ⟨by rw[hab]; rfl,rfl⟩
   .have di:decide ((i:Int)<(a.length:Int))=false:=by simp; omega
    have:a=b:=by
     rw[lae (by omega),lae (by omega)]at g2;exact g2
    subst this;apply zgN;simp only[go_sem,di];exact aret [4] rfl ⟨by simp[resV,Av.get],rfl⟩
 .have d0:((a.length:Int) != (b.length:Int))=true:=by simp; omega
  have hab:(a==b)=false:=by
   rw[lax];rintro rfl;exact hl rfl
  refine zpIN func49 rfl fun h ρ w=>?_
  simp only[go_sem,d0,laa];exact aret [4] rfl ⟨by rw[hab]; rfl,rfl⟩
def fTo(ws sm:List LU)(i:Nat):List Nat:=(List.range i).filter fun k=>(ws.drop k).take sm.length==sm
def BpF(ws sm:List LU):List Nat:=fTo ws sm (ws.length+1-sm.length)
def GOk(n i:Nat)(out:List (Nat×Nat)):Prop:=i<=n/\∀ g∈out,g.1<g.2/\g.2<=i
theorem BlB{n i:Nat}{out:List (Nat×Nat)}{p:Pa}(h:GOk n i out)(hi:i<n):GOk n (i+1) (gstep out i p):=by
 refine⟨by omega,fun g hg=>?_⟩;unfold gstep at hg
 split at hg
 .by_cases hl:out.length=0
  .grind
  .rcases List.mem_or_eq_of_mem_set hg with h1|h1
   .have:=h.2 g h1; omega
   .have hm:out.getD (out.length-1) (0,0)∈out:=by
     grind
    have:=h.2 _ hm
    grind
 .rcases List.mem_append.1 hg with h1|h1
  .have:=h.2 g h1; omega
  grind
theorem A4Z{n:Nat}:∀ {ps:List Pa}{i:Nat}{out:List (Nat×Nat)},GOk n i out->i+ps.length=n->GOk n n (gfold out i ps)
 | [],i,out,h,hn=>by
  subst hn; exact h
 | p::r,i,out,h,hn=>by
  simp at hn
  show GOk n n (gfold (gstep out i p) (i+1) r)
  exact A4Z (BlB h (by omega)) (by omega)
theorem BdB(ps:List Pa):∀ g∈groupsL ps,g.1<g.2/\g.2<=ps.length :=
 (A4Z ⟨by omega,by simp⟩ (by omega)).2
def pNo:Pa:=⟨0,[]⟩
def BlC(p:Pa)(name:LU):Bool:=p.kind==2&&p.text==name
def headP(ps:List Pa)(gs:List (Nat×Nat))(k:Nat):Pa:=ps.getD (gs.getD k (0,0)).1 pNo
def ownB(ps:List Pa)(name:LU)(ws:List LU)(gs:List (Nat×Nat))(k:Nat):Bool :=
 BlC (headP ps gs k) name||(((headP ps gs k).kind==2&&(decide (k+1<gs.length)&&BlC (headP ps gs (k+1)) name)) ||
  ((headP ps gs k).kind != 2&&(decide (0<ws.length)&&decide (0<(BpF (AwZ (headP ps gs k).text) ws).length))))
def cutP(ps:List Pa)(g:Nat×Nat):List Pa:=(ps.take g.2).drop g.1
def partTo(ps:List Pa)(name:LU)(ws:List LU)(gs:List (Nat×Nat)):Nat->List Pa
 | 0=>[]
 | k+1=>partTo ps name ws gs k++(if ownB ps name ws gs k then cutP ps (gs.getD k (0,0)) else[])
def partL(ps:List Pa)(name:LU):List Pa:=partTo ps name (AwZ name) (groupsL ps) (groupsL ps).length
theorem AnS(l:List Int):(flat (l.map (AV.int .i64))).all Av.frozen=true:=by
 induction l with
 | nil=>rfl
 | cons y l ih=>simpa[flat,cellsOf,Av.frozen]using ih
theorem AcB(n:Nat):(Lib.repeatL [32] n).length=n:=by
 grind[Lib.repeatL_length]
theorem BdC(W:Nat):∀ (n:Nat)(w:LU),w.length<=n->∀ l∈(chop W w).1,l.length<=w.length
 | 0,w,h,l,hl=>by grind[chop_end]
 | n+1,w,h,l,hl=>by
  by_cases hc:W<w.length/\0<W
  .rw [AdG hc.1 hc.2]at hl
   rcases List.mem_cons.1 hl with rfl|hl
   .grind
   .have:=BdC W n (w.drop W) (by grind) l hl
    grind
  grind[chop]
theorem AxD(W:Nat)(t:LU):∀ j,j<=(splitW t).length->∀ l∈(wrapTo W t j).1,l.length<=sumTo t j
 | 0,_,l,hl=>by grind[wrapTo]
 | j+1,hj,l,hl=>by
  have hjl:j<(splitW t).length:=by omega
  have h:=lam hjl;have ih:=AxD W t j (by omega);have hb:=AfC W t j (by omega);rw[wrapTo_step h]at hl;rw[AkL h];unfold wrapS at hl
  split at hl
  .grind
  .split at hl
   .grind
   .rcases List.mem_append.1 hl with hl|hl
    .grind
    .have:=BdC W _ _ (lab _) l hl; omega
theorem wrapL_le(W:Nat)(t:LU):(wrapL W t).length<=t.length+2/\∀ l∈wrapL W t,l.length<=t.length+1:=by
 have htot:wrapTo W t (splitW t).length=wrapF W t:=by grind[wrapTo,wrapF]
 have hb:=AfC W t _ (lab _);have hb2:=AmE t _ (lab _);have hb3:=AxD W t _ (lab _)
 grind[wrapL]
structure Bl where
 kind:Int
 Lb:List LU
 kinds:List Int
 name:LU
def blA(b:Bl):AV:=.agg [.int .i64 b.kind,.fz 1 (b.Lb.map .str),.fz 1 (b.kinds.map (.int .i64)),.str b.name]
theorem BwI(b:Bl):Pc prog 177 [blA b] (· = .int .i64 (if b.kind==0 then 2 else 1)):=by
 simp only[blA]
 cases hb:b.kind==0 with
 | true =>
  refine zpIN func177 rfl fun h ρ w=>?_
  simp only[go_sem,hb];exact aret [2] rfl ⟨by simp[resV,Av.get],rfl⟩
 | false =>
  refine zpIN func177 rfl fun h ρ w=>?_
  simp only[go_sem,hb];exact aret [2] rfl ⟨by simp[resV,Av.get],rfl⟩
theorem AhM{St:Std}(hS:LibOk St)(t:LU)(hl:t.length<10000000):PcH prog St 124 [.str t] (· = blA ⟨0,wrapL 60 t,[],[]⟩):=by
 have hw:=AmF hS t 60 (by omega) (by omega) (by omega);simp only[blA];refine zqIF func124 rfl fun h ρ w hg=>?_
 simp only[go_sem];refine zqF hg (hw) ?_;simp only[go_sem];exact ARet.shift (Shift.cells 0 1 [.agg [.int .i64 0,.fz 1 ((wrapL 60 t).map .str),.fz 1 [],.str []]] rfl rfl (by simp[cellsOf]) ⟨.refl,.refl,.fz,.refl,trivial⟩) (AbF [.cell 2 167] rfl [_] ⟨by simp only[go_sem,sideIs],trivial⟩ ⟨rfl,rfl⟩)
theorem AtH{St:Std}(hS:LibOk St)(t:LU)(hl:t.length<10000000):PcH prog St 170 [.str t] (· = blA ⟨1,wrapL 60 t,[],[]⟩):=by
 have hw:=AmF hS t 60 (by omega) (by omega) (by omega);simp only[blA];refine zqIF func170 rfl fun h ρ w hg=>?_
 simp only[go_sem];refine zqF hg (hw) ?_;simp only[go_sem];exact ARet.shift (Shift.cells 0 1 [.agg [.int .i64 1,.fz 1 ((wrapL 60 t).map .str),.fz 1 [],.str []]] rfl rfl (by simp[cellsOf]) ⟨.refl,.refl,.fz,.refl,trivial⟩) (AbF [.cell 2 167] rfl [_] ⟨by simp only[go_sem,sideIs],trivial⟩ ⟨rfl,rfl⟩)
def turnLine(t:LU):LU:=Lib.repeatL [32] (60-(t.length+1))++(t++[58])
theorem A7V(t:LU)(hl:t.length<10000000):Pc prog 171 [.str t] (· = blA ⟨2,[turnLine t],[],[]⟩):=by
 have hr:=AdF [32] (60-(t.length+1)) (by simp; omega) (by omega);simp only[blA];have hmx:(if 60-((t.length+1:Nat):Int)<0 then 0 else 60-((t.length+1:Nat):Int))=((60-(t.length+1):Nat):Int):=by split <;> omega
 refine zpIF func171 rfl fun h ρ w=>?_
 simp only[go_sem];rw[hmx];refine⟨by omega,by omega,by omega,?_⟩;refine zpF (hr) ?_;simp only[go_sem];refine⟨by rw[AcB]; omega,?_⟩;exact ARet.shift (Shift.cells 0 1 [.agg [.int .i64 2,.fz 1 [.str (turnLine t)],.fz 1 [],.str []]] rfl rfl (by simp[cellsOf]) ⟨.refl,.refl,.fz,.refl,trivial⟩) (AbF [.cell 2 167] rfl [_] ⟨by simp only[go_sem,sideIs],trivial⟩ ⟨rfl,rfl⟩)
def indent(n:Nat)(l:LU):LU:=Lib.repeatL [32] n++l
structure Grp(S:AV->LY->LY->LB)(M:AV->LY)(ib il ik n i:Nat):Prop where
 hi:i<n
 hb:∀ g L K,(S g L K).getD ib .dead=.arr 4 (M g)
 hM:∀ g,(M g).length=n
 hMi:∀ g,List.getD (M g) i .any=g
 hMs:∀ g g',(M g).set i g'=M g'
 hbs:∀ g g' L K,(S g L K).set ib (.arr 4 (M g'))=S g' L K
 hL:∀ g L K,(S g L K).getD il .dead=.arr 1 L
 hLs:∀ g L L' K,(S g L K).set il (.arr 1 L')=S g L' K
 hK:∀ g L K,(S g L K).getD ik .dead=.arr 1 K
 hKs:∀ g L K K',(S g L K).set ik (.arr 1 K')=S g L K'
def grpA(il ik:Nat)(kd:Int)(a b:Nat)(nm:LU):AV:=.agg [.int .i64 kd,.sl il 0 a a,.sl ik 0 b b,.str nm]
def grpS(S:AV->LY->LY->LB)(il ik:Nat)(b:Bl):LB:=S (grpA il ik b.kind b.Lb.length b.kinds.length b.name) (b.Lb.map .str) (b.kinds.map (.int .i64))
def addB(b:Bl)(kd:Int)(at':Nat)(ls:List LU):Bl:={ b with Lb:=b.Lb++ls.map (indent at'),kinds:=b.kinds++List.replicate ls.length kd }
theorem AiD{S:AV->LY->LY->LB}{M:AV->LY}{ib il ik n i:Nat}(G:Grp S M ib il ik n i)(b:Bl)(kd':Int)(at':Nat)(hat:at'<=1000)(ls:List LU)(hsm:b.Lb.length+ls.length<1000000000)(hsk:b.kinds.length+ls.length<1000000000)(hll:∀ l∈ls,l.length<1000000) :
  Ct prog 241 [.ptr ib n i 0,.int .i64 kd',.int .i64 (at':Int),.fz 1 (ls.map .str)] (grpS S il ik b) (fun r s=>r=.tup []/\s=grpS S il ik (addB b kd' at' ls)):=by
 obtain⟨hi,hb,hM,hMi,hMs,hbs,hL,hLs,hK,hKs⟩:=G;obtain⟨kd,L0,K0,nm⟩:=b;simp only[grpS,grpA,addB,lah,laa,lbx]at hsm hsk |-;have hr:=AdF [32] at' (by simp; omega) (by omega);refine zcIF func241 rfl fun h ρ w=>?_
 simp only[go_sem,laa];refine AaC (ι:=Nat) (fun j=>ls.length-j) (fun j=>[(12,.int .i64 j),(11,.int .i64 ls.length),(10,.fz 1 (ls.map .str)),(0,.ptr ib n i 0),(1,.int .i64 kd'),(2,.int .i64 (at':Int))])
  (fun j=>S (.agg [.int .i64 kd,.sl il 0 (L0.length+j) (L0.length+j),.sl ik 0 (K0.length+j) (K0.length+j),.str nm]) ((L0++(ls.take j).map (indent at')).map .str) ((K0++List.replicate j kd').map (.int .i64))) (fun j=>j<=ls.length) 0 (by simp) ?_ ?_
 .refine Lu ?_ ?_
  .simp only [go_sem]
  .simp
 .intro j g1 J hJ
  by_cases gj:j<ls.length
  .have dj:decide ((j:Int)<(ls.length:Int))=true:=by simp; omega
   have hg':List.getD (List.map AV.str ls) j .any=.str ls[j]:=by simp[List.getD,gj]
   have hlt:(List.take j ls).length=j:=by simp; omega
   have hlj:=hll ls[j] (lac gj);have hbl:=AcB at';apply zgF;simp only[go_sem,dj,hg',laa]
   repeat refine aqb ?_
   refine zr [.str (Lib.repeatL [32] at')] AaF ?_;simp only[go_sem,hb,hM,hMi,hMs,hbs,hL,hLs,hK,hKs,hlt,laa,lbx]
   repeat refine And.intro (by first|omega|exact hr.at|exact .inl trivial|rfl|(simp; done)|(simp; omega)) ?_
   apply zgF;simp only[go_sem,hb,hM,hMi,hMs,hbs,hL,hLs,hK,hKs,hlt,laa,lbx]
   repeat refine aqb ?_
   have e1:List.map AV.str (L0++List.map (indent at') (List.take j ls))++[AV.str (Lib.repeatL [32] at'++ls[j])]=List.map AV.str (L0++List.map (indent at') (List.take (j+1) ls)):=by
    rw[lad gj]; simp only[laf,lca,lak,lao]; rfl
   have e2:List.map (AV.int .i64) (K0++List.replicate j kd')++[AV.int .i64 kd']=List.map (AV.int .i64) (K0++List.replicate (j+1) kd'):=by
    rw[List.replicate_succ']; simp
   rw[e1,e2,show(j:Int)+1=((j+1:Nat):Int) by omega];refine ainv (hJ (j+1) (by omega) (by omega)) (Ls ?_);simp only[go_sem]
  .have dj:decide ((j:Int)<(ls.length:Int))=false:=by simp; omega
   have hj:j=ls.length:=by omega
   subst hj;apply zgF;simp only[go_sem,dj];exact aret [] rfl ⟨rfl,by simp⟩
theorem AxE{St:Std}(hS:LibOk St){S:AV->LY->LY->LB}{M:AV->LY}{ib il ik n i:Nat}(G:Grp S M ib il ik n i)(b:Bl)(t:LU)(hl:t.length<10000)(hsm:b.Lb.length<100000000)(hsk:b.kinds.length<100000000) :
  CtH prog St 173 [.ptr ib n i 0,.str t] (grpS S il ik b) (fun r s=>r=.tup []/\s=grpS S il ik (addB b 1 15 (wrapL 30 (40::(t++[41]))))):=by
 have hw:=AmF hS (40::(t++[41])) 30 (by simp; omega) (by omega) (by omega);have hle:=wrapL_le 30 (40::(t++[41]));simp only[lal,lah,laq]at hle;refine zdIF func173 rfl fun h ρ w hg=>?_
 simp only[go_sem]
 repeat refine aqc ?_
 refine zqF hg (hw) ?_;simp only[go_sem];refine za (AiD G b 1 15 (by omega) _ (by omega) (by omega) (fun l h=>by have:=hle.2 l h; omega)) ?_;rintro _ _ ⟨rfl,rfl⟩;apply zgF;simp only[go_sem];exact zt []
theorem AtI{St:Std}(hS:LibOk St){S:AV->LY->LY->LB}{M:AV->LY}{ib il ik n i:Nat}(G:Grp S M ib il ik n i)(b:Bl)(t:LU)(hl:t.length<10000)(hsm:b.Lb.length<100000000)(hsk:b.kinds.length<100000000) :
  CtH prog St 174 [.ptr ib n i 0,.str t] (grpS S il ik b) (fun r s=>r=.tup []/\s=grpS S il ik (addB b 2 10 (wrapL 35 t))):=by
 have hw:=AmF hS t 35 (by omega) (by omega) (by omega);have hle:=wrapL_le 35 t;refine zdIF func174 rfl fun h ρ w hg=>?_
 simp only[go_sem];refine zqF hg (hw) ?_;simp only[go_sem];refine za (AiD G b 2 10 (by omega) _ (by omega) (by omega) (fun l h=>by have:=hle.2 l h; omega)) ?_;rintro _ _ ⟨rfl,rfl⟩;apply zgF;simp only[go_sem];exact zt []
theorem A1I(b0 b1 b4:Blk)(nm:LU)(hl:nm.length<10000) :
  Ct prog 172 [.str nm] [b0,b1,.arr 1 [],.arr 1 [],b4] (fun r s=>r=grpA 2 3 3 1 1 nm/\∃ b5 b6,s=[b0,b1,.arr 1 [.str (indent 20 nm)],.arr 1 [.int .i64 0],b4,b5,b6]):=by
 refine AaI func172 rfl ntmps172 hB172 (by simp) fun h ρ w=>goF rfl 16 ?_
 simp only[go_sem]
 repeat refine aqd ?_
 refine AWp.shift (Shift.cellsAt 6 2 [.agg [.int .i64 3,.sl 2 0 0 0,.raw (.slice none 0 0),.str nm]] rfl rfl rfl (by simp[cellsOf]) ⟨.refl,.sl,.refl,.refl,trivial⟩) ?_;refine AWp.shift (Shift.cellsAt 6 3 [.agg [.int .i64 3,.sl 2 0 0 0,.sl 3 0 0 0,.str nm]] rfl rfl rfl (by simp[cellsOf]) ⟨.refl,.refl,.sl,.refl,trivial⟩) ?_;apply zgF;simp only[go_sem];have G:Grp (fun g L K=>[b0,b1,.arr 1 L,.arr 1 K,b4,.arr 4 [.agg [.int .i64 0,.raw (.slice none 0 0),.raw (.slice none 0 0),.str []]],.arr 4 [g]]) (fun g=>[g]) 6 2 3 1 0 :=
  ⟨by omega,fun _ _ _=>rfl,fun _=>rfl,fun _=>rfl,fun _ _=>rfl,fun _ _ _ _=>rfl,fun _ _ _=>rfl,fun _ _ _ _=>rfl,fun _ _ _=>rfl,fun _ _ _ _=>rfl⟩
 have hadd:=AiD G ⟨3,[],[],nm⟩ 0 20 (by omega) [nm] (by simp) (by simp) (by simp; omega);simp only[grpS,grpA,addB,laq,lao,lak,lal,lbs,List.replicate]at hadd;refine za (hadd) ?_;rintro _ _ ⟨rfl,rfl⟩;apply zgF;simp only[go_sem];exact AbF [.cell 2 167] rfl [_] ⟨by simp only[go_sem,sideIs],trivial⟩ ⟨rfl,_,_,rfl⟩
def AlM(p:Int):LU:=[[],[73,78,84,46],[69,88,84,46],[73,78,84,46,47,69,88,84,46]].getD p.toNat []
def AxF(p:Int):LU:=[[],[68,65,89],[78,73,71,72,84],[68,65,87,78],[68,85,83,75],[76,65,84,69,82]].getD p.toNat []
def headLine(x:Sc):LU:=AlM x.place++[32]++x.set++[32,45,32]++AxF x.time
def headL(x:Sc):LU:=if x.no != [] then x.no++[32]++headLine x else headLine x
theorem A5A(p:Int)(h:1<=p/\p<=3):List.getD placeW p.toNat .any=.str (AlM p):=by
 obtain⟨n,rfl⟩:=Int.eq_ofNat_of_zero_le (by omega:0<=p);have:n=1\/n=2\/n=3:=by omega
 rcases this with rfl|rfl|rfl <;> rfl
theorem BdD(p:Int)(h:1<=p/\p<=5):List.getD AiY p.toNat .any=.str (AxF p):=by
 obtain⟨n,rfl⟩:=Int.eq_ofNat_of_zero_le (by omega:0<=p);have:n=1\/n=2\/n=3\/n=4\/n=5:=by omega
 rcases this with rfl|rfl|rfl|rfl|rfl <;> rfl
theorem AfE(p:Int):(AlM p).length<=9:=by
 unfold AlM
 match p.toNat with
 | 0|1|2|3=>decide
 | n+4=>grind
theorem AgA(p:Int):(AxF p).length<=5:=by
 unfold AxF
 match p.toNat with
 | 0|1|2|3|4|5=>decide
 | n+6=>grind
theorem ApZ(x:Sc)(hp:1<=x.place/\x.place<=3)(ht:1<=x.time/\x.time<=5)(hl:x.no.length<1000001)(hl2:x.set.length<10000):Pc prog 140 [scA x] (· = .str (headL x)):=by
 have h1:=A5A x.place hp;have h2:=BdD x.time ht;have l1:=AfE x.place;have l2:=AgA x.time;simp only[scA];refine zpIF func140 rfl fun h ρ w=>?_
 simp only[go_sem];refine zr [.fz 1 placeW,.fz 1 AiY] AaF ?_;simp only[go_sem,h1,h2]
 repeat refine And.intro (by first|omega|exact place_pc.at|exact time_pc.at|rfl|(simp[placeW,AiY]; done)|(simp[placeW,AiY]; omega)) ?_
 cases hn:x.no != []with
 | true =>
  apply zgF;simp only[go_sem,hn]
  repeat refine aqc ?_
  exact aret [2] rfl ⟨by simp[resV,Av.get,headL,hn,headLine],rfl⟩
 | false =>
  apply zgF;simp only[go_sem,hn];exact aret [2] rfl ⟨by simp[resV,Av.get,headL,hn,headLine],rfl⟩
theorem A1J:∀ (ps:List Pa)(l e:Int),runL l ps=some e->∀ p∈ps,paraOk p=true
 | [],_,_,_,p,hp=>by grind
 | a::r,l,e,h,p,hp=>by
  simp only[runL]at h
  split at h
  .rename_i hc
   simp at hc
   rcases List.mem_cons.1 hp with rfl|hp
   .exact hc.1
   .exact A1J r _ _ h p hp
  .cases h
theorem BlD{ps:List Pa}{e:Int}(h:runL 0 ps=some e):∀ p,ps.head? = some p->joins p=false:=by
 cases ps<;>grind[runL,followsL,joins]
theorem AmG{p:Pa}(h:paraOk p=true):p.text.length<=2000:=by
 grind[paraOk]
def x0:Sc:=⟨[],0,[],0,[]⟩
def chunksFrom(cur:List Pa):List Pa->List (List Pa)
 | []=>[cur]
 | p::r=>if joins p then chunksFrom (cur++[p]) r else cur::chunksFrom [p] r
def AqX:List Pa->List (List Pa)
 | []=>[]
 | p::r=>chunksFrom [p] r
theorem BsF{ps:List Pa}{i:Nat}(h:i<ps.length):cutP ps (i,i+1)=[ps[i]]:=by
 grind[cutP,lad]
theorem BlE{ps:List Pa}{a i:Nat}(ha:a<=i)(h:i<ps.length):cutP ps (a,i+1)=cutP ps (a,i)++[ps[i]]:=by
 grind[cutP,lad]
theorem AnT(ps:List Pa):∀ (rest:List Pa)(i a:Nat)(init:List (Nat×Nat)),a<=i->ps.drop i=rest ->
  (gfold (init++[(a,i)]) i rest).map (cutP ps)=init.map (cutP ps)++chunksFrom (cutP ps (a,i)) rest
 | [],i,a,init,ha,hr=>by grind[gfold,chunksFrom]
 | p::r,i,a,init,ha,hr=>by
  have hi:i<ps.length:=by
   grind[List.drop_of_length_le]
  have hd:=lbl hi;rw[hr]at hd;simp only[List.cons.injEq]at hd;obtain⟨hp,hr'⟩:=hd
  cases hj:joins p with
  | true =>
   have hg:gstep (init++[(a,i)]) i p=init++[(a,i+1)]:=by
    simp[gstep,hj,List.set_append,List.getD]
   rw[gfold,hg,AnT ps r (i+1) a init (by omega) hr'.symm,chunksFrom,if_pos hj,BlE ha hi,hp]
  | false =>
   have hg:gstep (init++[(a,i)]) i p=(init++[(a,i)])++[(i,i+1)]:=by simp[gstep,hj]
   rw[gfold,hg,AnT ps r (i+1) i (init++[(a,i)]) (by omega) hr'.symm,chunksFrom,hj,BsF hi,hp]
   simp
theorem A7W(ps:List Pa)(h0:∀ p,ps.head? = some p->joins p=false):(groupsL ps).map (cutP ps)=AqX ps:=by
 cases ps with
 | nil=>rfl
 | cons p r =>
  have hg:gstep [] 0 p=[]++[(0,1)]:=by grind[gstep]
  rw[groupsL,gfold,hg,AnT (p::r) r 1 0 [] (by omega) rfl];rfl
def hdP(c:List Pa):Pa:=c.head?.getD pNo
def ownC(name:LU)(ws:List LU)(c:List Pa)(nxt:Option (List Pa)):Bool :=
 BlC (hdP c) name||(((hdP c).kind==2&&(match nxt with|some d=>BlC (hdP d) name|none=>false)) ||
  ((hdP c).kind != 2&&(decide (0<ws.length)&&decide (0<(BpF (AwZ (hdP c).text) ws).length))))
def partC(name:LU)(ws:List LU):List (List Pa)->List Pa
 | []=>[]
 | c::r=>(if ownC name ws c r.head? then c else[])++partC name ws r
theorem hd_cut{ps:List Pa}{g:Nat×Nat}(h:g.1<g.2/\g.2<=ps.length):hdP (cutP ps g)=ps.getD g.1 pNo:=by
 grind[hdP,cutP,List.head?_drop]
theorem BsG{ps:List Pa}{gs:List (Nat×Nat)}(hgo:∀ g∈gs,g.1<g.2/\g.2<=ps.length)(name:LU)(ws:List LU){k:Nat}(hk:k<gs.length) :
  ownB ps name ws gs k=ownC name ws (cutP ps gs[k]) ((gs.map (cutP ps)).drop (k+1)).head?:=by
 grind[headP,hd_cut,ownB,ownC,List.head?_drop]
theorem AxG{ps:List Pa}{gs:List (Nat×Nat)}(hgo:∀ g∈gs,g.1<g.2/\g.2<=ps.length)(name:LU)(ws:List LU):∀ (d k:Nat),k+d=gs.length ->
  partTo ps name ws gs gs.length=partTo ps name ws gs k++partC name ws ((gs.map (cutP ps)).drop k)
 | 0,k,h=>by
  grind[List.drop_of_length_le,partC]
 | d+1,k,h=>by
  have hk:k<gs.length:=by omega
  have hk':k<(gs.map (cutP ps)).length:=by grind
  rw[AxG hgo name ws d (k+1) (by omega),lbl hk',partC,partTo,BsG hgo name ws hk]
  grind
theorem A1K(ps:List Pa)(name:LU)(h0:∀ p,ps.head? = some p->joins p=false):partL ps name=partC name (AwZ name) (AqX ps):=by
 rw[partL,AxG (BdB ps) name (AwZ name) (groupsL ps).length 0 (by omega),A7W ps h0]
 simp[partTo]
def keepC(name:LU)(ws:List LU):List (List Pa)->List (List Pa)
 | []=>[]
 | c::r=>if ownC name ws c r.head? then c::keepC name ws r else keepC name ws r
theorem AqY(name:LU)(ws:List LU):∀ cs,partC name ws cs=(keepC name ws cs).flatten
 | []=>rfl
 | c::r=>by
  rw[partC,keepC,AqY name ws r]
  split <;> simp
def WfC:List Pa->Prop
 | []=>False
 | p::r=>joins p=false/\∀ q∈r,joins q=true
theorem AfQ:∀ (ps cur:List Pa),WfC cur->∀ c∈chunksFrom cur ps,WfC c
 | [],cur,h,c,hc=>by
  grind[chunksFrom]
 | p::r,cur,h,c,hc=>by
  rw[chunksFrom]at hc
  split at hc
  .rename_i hj
   refine AfQ r (cur++[p]) ?_ c hc
   cases cur with
   | nil=>exact h.elim
   | cons a t=>exact⟨h.1,fun q hq=>by
     rcases List.mem_append.1 hq with hq|hq
     .exact h.2 q hq
     .rw [List.mem_singleton.1 hq]; exact hj⟩
  .rename_i hj
   rcases List.mem_cons.1 hc with rfl|hc
   .exact h
   .exact AfQ r [p] ⟨by simpa using hj,by simp⟩ c hc
theorem BdE(ps:List Pa)(h0:∀ p,ps.head? = some p->joins p=false):∀ c∈AqX ps,WfC c:=by
 cases ps with
 | nil=>grind[AqX]
 | cons p r=>exact AfQ r [p] ⟨h0 p rfl,by simp⟩
theorem AtJ(name:LU)(ws:List LU):∀ cs,∀ c∈keepC name ws cs,c∈cs
 | [],c,h=>by grind[keepC]
 | d::r,c,h=>by
  rw[keepC]at h
  split at h
  .rcases List.mem_cons.1 h with rfl|h
   .simp
   .exact List.mem_cons_of_mem _ (AtJ name ws r c h)
  .exact List.mem_cons_of_mem _ (AtJ name ws r c h)
theorem AqZ:∀ (a b:List Pa)(l e:Int),runL l (a++b)=some e->∃ m,runL l a=some m/\runL m b=some e
 | [],b,l,e,h=>⟨l,rfl,h⟩
 | p::a,b,l,e,h=>by
  simp only[lbc,runL]at h
  split at h
  .rename_i hc
   obtain⟨m,h1,h2⟩:=AqZ a b _ e h;exact⟨m,by simp only[runL,if_pos hc]; exact h1,h2⟩
  .cases h
def Free(c:List Pa):Prop:=∀ l,l≠2->l≠3->∃ e,runL l c=some e/\e≠2/\e≠3
theorem join_no{q:Pa}(h:joins q=false):q.kind≠3/\q.kind≠4:=by
 grind[joins]
theorem BdF{q:Pa}{m:Int}(h:joins q=false)(hf:followsL q.kind m=true):m≠2/\m≠3:=by
 grind[join_no,followsL]
theorem BsH{c:List Pa}(hw:WfC c){l m:Int}(h:runL l c=some m)(h2:m≠2)(h3:m≠3):Free c:=by
 cases c with
 | nil=>exact hw.elim
 | cons p t =>
  intro l' a b;simp only[runL]at h |-
  split at h
  .rename_i hc
   obtain⟨k3,k4⟩:=join_no hw.1
   grind[AfY]
  grind
theorem A5B:∀ (cs:List (List Pa))(l e:Int),(∀ c∈cs,WfC c)->runL l cs.flatten=some e->e≠2->e≠3->∀ c∈cs,Free c
 | [],_,_,_,_,_,_,c,hc=>by grind
 | d::r,l,e,hw,h,h2,h3,c,hc=>by
  obtain⟨m,h4,h5⟩:=AqZ _ _ _ _ h;have hm:m≠2/\m≠3:=by
   cases r with
   | nil =>
    simp only[List.flatten_nil,runL,lbr]at h5;subst h5; exact⟨h2,h3⟩
   | cons f r =>
    have hf:=hw f (by simp)
    cases f with
    | nil=>exact hf.elim
    | cons q t =>
     rw[List.flatten_cons,lbc]at h5;simp only[runL]at h5
     split at h5
     .rename_i hc
      simp at hc
      exact BdF hf.1 hc.2
     .cases h5
  rcases List.mem_cons.1 hc with rfl|hc
  .exact BsH (hw c (by simp)) h4 hm.1 hm.2
  .exact A5B r m e (fun x hx=>hw x (by simp[hx])) h5 h2 h3 c hc
theorem free_run:∀ (cs:List (List Pa))(l:Int),(∀ c∈cs,Free c)->l≠2->l≠3->∃ e,runL l cs.flatten=some e/\e≠2/\e≠3
 | [],l,_,a,b=>⟨l,rfl,a,b⟩
 | c::r,l,h,a,b=>by
  obtain⟨m,h1,h2,h3⟩:=h c (by simp) l a b
  simp_all[free_run,runL_append]
theorem AeU:∀ (ps cur:List Pa),(chunksFrom cur ps).flatten=cur++ps
 | [],cur=>by simp[chunksFrom]
 | p::r,cur=>by
  rw[chunksFrom]
  split
  .rw [AeU r (cur++[p])]; simp
  .rw [List.flatten_cons,AeU r [p]]; simp
theorem A7X(ps:List Pa):(AqX ps).flatten=ps:=by
 cases ps with
 | nil=>rfl
 | cons p r=>exact AeU r [p]
theorem part_run{ps:List Pa}{e:Int}(name:LU)(h:runL 0 ps=some e)(h2:e≠2)(h3:e≠3):∃ e',runL 0 (partL ps name)=some e'/\e'≠2/\e'≠3:=by
 have h0:=BlD h;have hw:=BdE ps h0;have hf:=A5B (AqX ps) 0 e hw (by grind[A7X]) h2 h3;rw[A1K ps name h0,AqY];exact free_run _ 0 (fun c hc=>hf c (AtJ name _ _ c hc)) (by decide) (by decide)
