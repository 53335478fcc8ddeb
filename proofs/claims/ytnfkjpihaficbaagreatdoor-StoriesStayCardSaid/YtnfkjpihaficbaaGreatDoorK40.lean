/- Order by days and times alone; facts in groups by scenes: plain. -/
import Derived.Test.YtnfkjpihaficbaaGreatDoorK39
set_option maxRecDepth 100000
set_option linter.unusedSimpArgs false
set_option linter.unusedVariables false
namespace Go.Proofs.YtnfkjpihaficbaaGreatDoor
open Go Go.Av Go.RowKit
theorem A3G{ds es:List (Int×Int×Int)}(h:ds.map (fun d=>(d.1,d.2.1))=es.map (fun d=>(d.1,d.2.1))):cmpD ds=cmpD es:=by
 have key:∀ i,(ds.getD i (0,0,0)).1=(es.getD i (0,0,0)).1/\(ds.getD i (0,0,0)).2.1=(es.getD i (0,0,0)).2.1:=fun i=>by
  have h1:=congrArg (fun l=>l.getD i ((0:Int),(0:Int))) h;simp only[List.getD,List.getElem?_map]at h1 |-
  cases h2:ds[i]? <;> cases h3:es[i]? <;> simp only[h2,h3,Option.map_some,Option.map_none,Option.getD_some,Option.getD_none,Prod.mk.injEq]at h1 |- <;> first|exact⟨trivial,trivial⟩|exact⟨rfl,rfl⟩|exact h1
 funext i j
 unfold cmpD;rw[(key i).1,(key i).2,(key j).1,(key j).2]
theorem AuT{ds es:List (Int×Int×Int)}(h:ds.map (fun d=>(d.1,d.2.1))=es.map (fun d=>(d.1,d.2.1))):orderD ds=orderD es:=by
 have hl:ds.length=es.length:=by simpa using congrArg List.length h
 unfold orderD;rw[A3G h,hl]
def ordL(x:Sr)(l:List Jm):List Nat:=orderD (dRun x l (timesTo x.scenes x.scenes.length) x.scenes.length).os
theorem AnP{x:Sr}(hx:StoryOk x){l:List Jm}(hl:JumpsOk x l):(ordL x l).Perm (List.range x.scenes.length):=by
 have h:=ArS (x:=x) hl.jm (AgK hx x.scenes.length (Nat.le_refl _)) x.scenes.length (by rw[AcO]; exact Nat.le_refl _);have:=AeT (dRun x l (timesTo x.scenes x.scenes.length) x.scenes.length).os;rw[h.os]at this;exact this
structure Gf where
 key:Nat
 at':Nat
 ds:List Fa
def gfM(o:Nat)(gs:List Gf):List (AV×AV):=gs.map fun g=>(.int .i64 (g.key:Int),.sl (g.at'+o) 0 g.ds.length g.ds.length)
structure GfOk(kf:Fa->Nat)(l:List Fa)(gs:List Gf)(S:List Blk):Prop where
 blk:∀ g∈gs,S[g.at']? = some (.arr 5 (g.ds.map faA))
 own:∀ g∈gs,g.ds=l.filter fun f=>kf f==g.key
 all:∀ f∈l,∃ g∈gs,g.key=kf f
 ne:gs.Pairwise fun x y=>x.at'≠y.at'
 nk:gs.Pairwise fun x y=>x.key≠y.key
theorem A0Z(o k:Nat):∀ (gs:List Gf)(n:Nat),(mfind (.int .i64) (.int .i64 (k:Int)) (gfM o gs) n=some none/\∀ g∈gs,g.key≠k)\/∃ i g,mfind (.int .i64) (.int .i64 (k:Int)) (gfM o gs) n=some (some (n+i,.sl (g.at'+o) 0 g.ds.length g.ds.length))/\gs[i]? = some g/\g.key=k
 | [],n=>.inl ⟨rfl,by simp⟩
 | g::r,n=>by
  by_cases hk:g.key=k
  .refine .inr ⟨0,g,?_,by simp,hk⟩
   subst hk
   simp[gfM,mfind,keyEq]
  .have h1:(((k:Nat):Int)==(g.key:Int))=false:=by simp; omega
   have e:mfind (.int .i64) (.int .i64 (k:Int)) (gfM o (g::r)) n=mfind (.int .i64) (.int .i64 (k:Int)) (gfM o r) (n+1):=by
    show(match keyEq (.int .i64) (.int .i64 (k:Int)) (.int .i64 (g.key:Int))with|some true=>some (some (n,AV.sl (g.at'+o) 0 g.ds.length g.ds.length))|some false=>mfind (.int .i64) (.int .i64 (k:Int)) (gfM o r) (n+1)|none=>none)=_
    simp only[keyEq,h1];rfl
   rw[e]
   rcases A0Z o k r (n+1)with⟨h,h2⟩|⟨i,g',h1,h2,h3⟩
   .exact .inl ⟨h,fun y hy=>by
     rcases List.mem_cons.1 hy with rfl|hy
     .exact hk
     .exact h2 y hy⟩
   .exact .inr ⟨i+1,g',by rw[h1,show n+1+i=n+(i+1) by omega],by simpa using h2,h3⟩
theorem GfOk.lt{kf:Fa->Nat}{l:List Fa}{gs:List Gf}{S:List Blk}(h:GfOk kf l gs S){g:Gf}(hg:g∈gs):g.at'<S.length:=(List.getElem?_eq_some_iff.1 (h.blk g hg)).1
theorem GfOk.push{kf:Fa->Nat}{l:List Fa}{gs:List Gf}{S:List Blk}(h:GfOk kf l gs S)(x:Blk)(d:Fa)(hk:∀ g∈gs,g.key≠kf d):GfOk kf (l++[d]) (gs++[⟨kf d,S.length+1,[d]⟩]) (S++[x]++[.arr 5 [faA d]]):=by
 have hemp:l.filter (fun f=>kf f==kf d)=[]:=by
  rw[List.filter_eq_nil_iff];intro f hf;obtain⟨g,hg,e⟩:=h.all f hf;simp only[beq_iff_eq];intro e2;exact hk g hg (by rw[e,e2])
 refine⟨fun g hg=>?_,fun g hg=>?_,fun f hf=>?_,?_,?_⟩
 .rcases List.mem_append.1 hg with hg|hg
  .rw [List.getElem?_append_left (by have:=h.lt hg; simp; omega),List.getElem?_append_left (h.lt hg)]; exact h.blk g hg
  .rw [List.mem_singleton.1 hg]; simp
 .rcases List.mem_append.1 hg with hg|hg
  .have hn:(kf d==g.key)=false:=by have:=hk g hg; simpa using Ne.symm this
   rw[List.filter_append,<- h.own g hg]
   simp[hn]
  .rw [List.mem_singleton.1 hg]
   simp[List.filter_append,hemp]
 .rcases List.mem_append.1 hf with hf|hf
  .obtain ⟨g,hg,e⟩:=h.all f hf
   exact⟨g,List.mem_append_left _ hg,e⟩
  .rw [List.mem_singleton.1 hf]
   exact⟨_,List.mem_append_right _ (List.mem_singleton.2 rfl),rfl⟩
 .rw [List.pairwise_append]
  exact⟨h.ne,List.pairwise_singleton ..,fun a ha b hb=>by rw[List.mem_singleton.1 hb]; have:=h.lt ha; simp only; omega⟩
 .rw [List.pairwise_append]
  exact⟨h.nk,List.pairwise_singleton ..,fun a ha b hb=>by rw[List.mem_singleton.1 hb]; exact hk a ha⟩
theorem GfOk.put{kf:Fa->Nat}{l:List Fa}{gs:List Gf}{S:List Blk}(h:GfOk kf l gs S)(x:Blk){i:Nat}{g:Gf}(hi:gs[i]? = some g)(d:Fa)(hd:g.key=kf d) :
  GfOk kf (l++[d]) (gs.set i ⟨g.key,g.at',g.ds++[d]⟩) ((S++[x]).set g.at' (.arr 5 ((g.ds++[d]).map faA))):=by
 obtain⟨hil,hgi⟩:=List.getElem?_eq_some_iff.1 hi;have hgm:g∈gs:=List.mem_of_getElem? hi;have key:∀ y∈gs.set i ⟨g.key,g.at',g.ds++[d]⟩,y=⟨g.key,g.at',g.ds++[d]⟩\/(y∈gs/\y.at'≠g.at'/\y.key≠g.key):=by
  intro y hy;obtain⟨j,hj,rfl⟩:=List.getElem_of_mem hy;rw[List.length_set]at hj
  by_cases hij:j=i
  .subst hij; left; simp
  .right
   rw[List.getElem_set_ne (Ne.symm hij)];refine⟨List.getElem_mem _,?_⟩
   rcases Nat.lt_or_gt_of_ne hij with hlt|hlt
   .have hx:=List.pairwise_iff_getElem.1 h.ne j i hj hil hlt
    have hz:=List.pairwise_iff_getElem.1 h.nk j i hj hil hlt;rw[hgi]at hx hz;exact⟨hx,hz⟩
   .have hx:=List.pairwise_iff_getElem.1 h.ne i j hil hj hlt
    have hz:=List.pairwise_iff_getElem.1 h.nk i j hil hj hlt;rw[hgi]at hx hz;exact⟨Ne.symm hx,Ne.symm hz⟩
 have hat:∀ (t:Nat) (ht:t<gs.length),((gs.set i ⟨g.key,g.at',g.ds++[d]⟩)[t]'(by simpa using ht)).at'=gs[t].at'/\((gs.set i ⟨g.key,g.at',g.ds++[d]⟩)[t]'(by simpa using ht)).key=gs[t].key:=by
  intro t ht
  by_cases hti:t=i
  .subst hti; simp[hgi]
  .rw [List.getElem_set_ne (Ne.symm hti)]
   exact⟨rfl,rfl⟩
 have hin:(⟨g.key,g.at',g.ds++[d]⟩:Gf)∈gs.set i ⟨g.key,g.at',g.ds++[d]⟩:=List.mem_of_getElem? (i:=i) (by rw[List.getElem?_set_self hil]);refine⟨fun y hy=>?_,fun y hy=>?_,fun f hf=>?_,?_,?_⟩
 .rcases key y hy with rfl|⟨h1,h2,_⟩
  .simp only
   rw[List.getElem?_set_self (by have:=h.lt hgm; simp; omega)]
  .rw [List.getElem?_set_ne (Ne.symm h2),List.getElem?_append_left (h.lt h1)]
   exact h.blk y h1
 .rcases key y hy with rfl|⟨h1,_,h3⟩
  .simp only
   rw[List.filter_append,<- h.own g hgm]
   simp[hd]
  .have hn:(kf d==y.key)=false:=by rw[<- hd]; simpa using Ne.symm h3
   rw[List.filter_append,<- h.own y h1]
   simp[hn]
 .rcases List.mem_append.1 hf with hf|hf
  .obtain ⟨y,hy,e⟩:=h.all f hf
   obtain⟨t,ht,rfl⟩:=List.getElem_of_mem hy;exact⟨(gs.set i ⟨g.key,g.at',g.ds++[d]⟩)[t]'(by simpa using ht),List.getElem_mem _,by rw[(hat t ht).2]; exact e⟩
  .rw [List.mem_singleton.1 hf]
   exact⟨_,hin,hd⟩
 .rw [List.pairwise_iff_getElem]
  intro a b ha hb hab;rw[List.length_set]at ha hb;rw[(hat a ha).1,(hat b hb).1];exact List.pairwise_iff_getElem.1 h.ne a b ha hb hab
 .rw [List.pairwise_iff_getElem]
  intro a b ha hb hab;rw[List.length_set]at ha hb;rw[(hat a ha).2,(hat b hb).2];exact List.pairwise_iff_getElem.1 h.nk a b ha hb hab
theorem BeD(o:Nat)(gs:List Gf)(g:Gf):gfM o gs++[(.int .i64 (g.key:Int),.sl (g.at'+o) 0 g.ds.length g.ds.length)]=gfM o (gs++[g]):=by simp[gfM]
theorem BjM(o:Nat)(gs:List Gf)(i:Nat)(g:Gf):(gfM o gs).set i (.int .i64 (g.key:Int),.sl (g.at'+o) 0 g.ds.length g.ds.length)=gfM o (gs.set i g):=by
 unfold gfM; rw[List.map_set]
end Go.Proofs.YtnfkjpihaficbaaGreatDoor
set_option linter.unusedSectionVars false
namespace Go.Av
open Go Go.RowKit
variable [Tr]
theorem CtH.liftN{P:Program}{g:Std}{f:FuncId}{args:List AV}{post:AV->List Blk->Prop}(hc:CtH P g f args [] post)(ha:args.all nr1=true)(hmp:∀ r s',post r s'->s'.all mpOk=true)
  (s:List Blk):CtH P g f args s (fun r2 s2=>∃ r s',post r s'/\r2=shV s.length r/\s2=s++s'.map (shB s.length)):=by
 refine⟨hc.1,fun h ρ w vs hg m r=>?_⟩;have hm0:Mine h (fun _=>none) [] w:=⟨m.mem,fun id blk e=>by simp at e,fun _ _=>rfl,fun i j g t t' e=>by simp at e,fun i g t e=>by simp at e⟩;refine(hc.2 h (fun _=>none) w vs (fun k o e=>⟨(hg k o e).1,fun i t x=>by cases x⟩) hm0 ((AhT (Lf':=Lf0) r ha).thaw (fun _ _ _ x=>x))).mono ?_;rintro en w' ⟨v,r,s1,h',ρ1,rfl,hpost,m',lt,rv⟩;have hgood:∀ i g t,ρ1 i=some (g,t)->w.heap.size<=g:=fun i g t e=>by
  rcases lt.newown i g t e with⟨j,t',hj⟩|h
  .cases hj
  .exact h
 have hblk:∀ k,k<w.heap.size->w'.heap[k]? = w.heap[k]?:=fun k hk=>lt.block k hk (fun i t e=>by cases e)
 have hnew:∀ b o,h b o=none->h' b o≠none->w.heap.size<=b:=fun b o e n=>by
  rcases lt.hnew b o e n with⟨j,t',hj⟩|h
  .cases hj
  .exact h
 obtain⟨ρ2,hρ2⟩:∃ ρ2:Own,ρ2=fun k=>if k<s.length then ρ k else ρ1 (k-s.length):=⟨_,rfl⟩
 have hlo:∀ i,i<s.length->ρ2 i=ρ i:=fun i hi=>by rw[hρ2]; simp[hi]
 have hhi:∀ i,ρ2 (i+s.length)=ρ1 i:=fun i=>by
  rw[hρ2]
  show(if i+s.length<s.length then ρ (i+s.length) else ρ1 (i+s.length-s.length))=_
  rw[if_neg (by omega),Nat.add_sub_cancel]
 have hkeep:∀ v a,Lf ρ s v a->Lf ρ2 (s++s1.map (shB s.length)) v a:=fun v a x=>BfI hlo x
 have hst:∀ id,(s++s1.map (shB s.length))[id+s.length]? = (s1[id]?).map (shB s.length):=fun id=>by
  rw[List.getElem?_append_right (by omega),Nat.add_sub_cancel,List.getElem?_map]
 have hown:∀ i g t,ρ2 i=some (g,t)->(i<s.length/\ρ i=some (g,t)/\g<w.heap.size)\/(s.length<=i/\ρ1 (i-s.length)=some (g,t)/\w.heap.size<=g):=fun i g t e=>by
  by_cases hi:i<s.length
  .rw [hlo i hi]at e
   exact .inl ⟨hi,e,m.lt e⟩
  .have e2:ρ2 i=ρ1 (i-s.length):=by rw[<- hhi]; congr 1; omega
   rw[e2]at e;exact .inr ⟨by omega,e,hgood _ g t e⟩
 refine⟨v,_,_,h',ρ2,rfl,⟨r,s1,hpost,rfl,rfl⟩,⟨m'.mem,?_,?_,?_,?_⟩,⟨lt.hle,fun b o e n=>.inr (hnew b o e n),hkeep,lt.os,lt.tape,lt.output,lt.size,fun k hk _=>hblk k hk,?_⟩,BfH hst hhi rv⟩
 .intro i blk e
  by_cases hi:i<s.length
  .rw [List.getElem?_append_left hi]at e
   exact(m.own i blk e).mono lt.hle hkeep (hlo i hi) (fun g t hg=>hblk g (m.lt hg))
  .obtain ⟨j,rfl⟩:∃ j,i=j+s.length:=⟨i-s.length,by omega⟩
   rw[hst]at e
   cases hb:s1[j]? with
   | none=>rw[hb]at e; cases e
   | some b =>
    rw[hb]at e;simp only[Option.map_some,Option.some.injEq]at e;subst e;have o:=m'.own j b hb;have hmb:=List.all_eq_true.1 (hmp _ _ hpost) b (List.mem_of_getElem? hb)
    cases b with
    | arr es l =>
     rcases o with⟨h1,h2⟩|⟨g,tot,cur,t,h1,h2,h3,h4,h5,h6,h7,h8,h9⟩
     .exact .inl ⟨by simp[h1],(hhi j).trans h2⟩
     .refine .inr ⟨g,tot,cur,t,(hhi j).trans h1,h2,h3,by simpa using h4,h5,h6,?_,h8,?_⟩
      .intro x hx
       obtain⟨y,hy,rfl⟩:=List.mem_map.1 hx;rw[shC_cells,List.length_map];exact h7 y hy
      .rw [shC_flat,List.length_map]
       exact AmP hst hhi h9
    | mp es =>
     obtain⟨g,en,cl,h1,h2,h3,h4,h5⟩:=o;refine⟨g,en,cl,(hhi j).trans h1,h2,by rw[lvs_map]; simpa using h3,fun k x y hx hy=>?_,h5.map _⟩;rw[lvs_map,List.getElem?_map]at hx;obtain⟨x',hx',rfl⟩:=Option.map_eq_some_iff.1 hx;obtain⟨p,q⟩:=h4 k x' y hx' hy;exact⟨p.thaw (fun _ _ _ x=>x),AwS hst hhi q⟩
    | it mid n seen=>cases hmb
    | dead=>exact(hhi j).trans o
 .intro i hi
  simp at hi
  have e2:ρ2 i=ρ1 (i-s.length):=by rw[<- hhi]; congr 1; omega
  rw[e2];exact m'.out _ (by omega)
 .intro i j g t t' hi hj
  rcases hown i g t hi with⟨a1,a2,a3⟩|⟨a1,a2,a3⟩ <;> rcases hown j g t' hj with⟨b1,b2,b3⟩|⟨b1,b2,b3⟩
  .exact m.inj i j g t t' a2 b2
  .omega
  .omega
  .have:=m'.inj _ _ g t t' a2 b2
   omega
 .intro i g t e o
  rcases hown i g t e with⟨a1,a2,a3⟩|⟨a1,a2,a3⟩
  .cases hq:h' g o with
   | none=>rfl
   | some z =>
    have:=hnew g o (m.disj i g t a2 o) (by rw[hq]; simp);omega
  .exact m'.disj _ g t a2 o
 .intro i g t e
  rcases hown i g t e with⟨a1,a2,a3⟩|⟨a1,a2,a3⟩
  .exact .inl ⟨i,t,a2⟩
  .exact .inr a3
end Go.Av
namespace Go.Proofs.YtnfkjpihaficbaaGreatDoor
open Go Go.Av Go.RowKit _root_.Go.Proofs.Tryz
def gfF(gs:List Gf):List (AV×AV):=gs.map fun g=>(.int .i64 (g.key:Int),.fz 5 (g.ds.map faA))
def kfN(x:Sr)(f:Fa):Nat:=(sceneIx x f.scene).toNat
theorem low_gfF(n:Nat)(gs:List Gf):lowB n (.mp (gfF gs))=true:=by
 show(gfF gs).all _=true
 rw[gfF,List.all_map,List.all_eq_true];intro x hx;rfl
theorem BjN(id:Nat)(l:List AV)(gs:List Gf):(gfF gs).map (fun x=>(x.1,frz id 5 l x.2))=gfF gs:=by
 unfold gfF;rw[List.map_map];rfl
theorem BjO(o at':Nat)(l:List AV)(gs:List Gf)(h:∀ g∈gs,g.at'≠at'):(gfM o gs).map (fun x=>(x.1,frz (at'+o) 5 l x.2))=gfM o gs:=by
 unfold gfM;rw[List.map_map];apply List.map_congr_left;intro g hg;have h1:(g.at'+o==at'+o)=false:=by have:=h g hg; simp; omega
 simp only[Function.comp,frz,frz1,h1,Bool.false_and,cond_false]
theorem A1A(id:Nat)(l:List AV):∀ (xs:List Sc)(n:Nat),(scMF n xs).map (fun x=>(x.1,frz id 5 l x.2))=scMF n xs
 | [],_=>rfl
 | y::r,n=>by
  simp only[scMF,List.map_cons,A1A id l r (n+1)];rfl
theorem A1B{x:Sr}(hx:StoryOk x){l:List Jm}(hl:JumpsOk x l):DOk x.scenes.length (dRun x l (timesTo x.scenes x.scenes.length) x.scenes.length) :=
 ArS (x:=x) hl.jm (AgK hx x.scenes.length (Nat.le_refl _)) x.scenes.length (by rw[AcO]; exact Nat.le_refl _)
theorem AhM{x:Sr}(hx:StoryOk x){l:List Jm}(hl:JumpsOk x l):(AkK x l).map (fun d=>(d.1,d.2.1))=(dRun x l (timesTo x.scenes x.scenes.length) x.scenes.length).os.map (fun d=>(d.1,d.2.1)):=by
 refine AhL _ _ _ (fun k hk=>?_)
 simpa using(AeT _).mem_iff.1 hk
theorem AuU{x:Sr}(hx:StoryOk x){l:List Jm}(hl:JumpsOk x l):orderD (AkK x l)=ordL x l:=AuT (AhM hx hl)
theorem AnQ{x:Sr}(hx:StoryOk x){l:List Jm}(hl:JumpsOk x l):(AkK x l).length=x.scenes.length:=by
 have:=congrArg List.length (AhM hx hl);rw[List.length_map,List.length_map,(A1B hx hl).os]at this;exact this
theorem A1C{x:Sr}(hx:StoryOk x){l:List Jm}(hl:JumpsOk x l):∀ d∈AkK x l,1<=d.2.1/\d.2.1<=4:=by
 intro d hd;have h:(d.1,d.2.1)∈(AkK x l).map (fun d=>(d.1,d.2.1)):=List.mem_map.2 ⟨d,hd,rfl⟩;rw[AhM hx hl]at h;obtain⟨e,he,h2⟩:=List.mem_map.1 h;have:=(A1B hx hl).tm e he;simp only[Prod.mk.injEq]at h2;rw[<- h2.2];exact this
theorem BjP{x:Sr}(hx:StoryOk x){l:List Jm}(hl:JumpsOk x l):Pc prog 84 [.fz 3 ((AkK x l).map sdA)] (· = .fz 1 ((ordL x l).map inA)):=by
 have h:=A9C (AkK x l) (A1C hx hl) (by rw[AnQ hx hl]; exact hx.len);rw[AuU hx hl]at h;exact h
def noAt(x:Sr)(i:Nat):List UInt8:=(x.scenes.map (·.no)).getD i []
theorem A9F{x:Sr}{i:Nat}(h:i<x.scenes.length):noAt x i=x.scenes[i].no:=by simp[noAt,List.getD,h]
theorem A3H{x:Sr}(hx:StoryOk x){i:Nat}(h:i<x.scenes.length):sceneIx x x.scenes[i].no=i:=by
 have hne:x.scenes[i].no≠[]:=by
  rw[hx.no i h];have:=(AiD i (by have:=hx.len; omega)).2.2.2.2
  simpa using this
 unfold sceneIx idxP
 cases hq:x.scenes.findIdx? (fun y=>y.no==x.scenes[i].no&&x.scenes[i].no != [])with
 | none =>
  rw[List.findIdx?_eq_none_iff]at hq;have:=hq _ (List.getElem_mem h)
  simp[hne]at this
 | some j =>
  obtain⟨h1,h2,_⟩:=List.findIdx?_eq_some_iff_getElem.1 hq;simp only[Bool.and_eq_true,beq_iff_eq]at h2;have:=hx.inj h1 h h2.1;simp only;omega
theorem BmG{x:Sr}(hx:StoryOk x){fs:List Fa}(hf:FactsOk x fs){f:Fa}(hm:f∈fs){i:Nat}(hi:i<x.scenes.length):(kfN x f==i)=(f.scene==noAt x i):=by
 obtain⟨j,hj,he⟩:=hf.at' f hm;have h1:kfN x f=j:=by
  unfold kfN;rw[<- he,A3H hx hj];rfl
 rw[h1,A9F hi,<- he,Bool.eq_iff_iff];simp only[beq_iff_eq]
 constructor
 .rintro rfl
  rfl
 .intro e
  exact hx.inj hj hi e
end Go.Proofs.YtnfkjpihaficbaaGreatDoor
namespace Go.Av
open Go Go.RowKit
variable [Tr]
def rdy(ops:List Oper)(done:List Nat):List Nat:=(List.range ops.length).filter fun i=>!done.contains i&&(AbT ops i).all done.contains
section
variable {c:Cx}{ops:List Oper}{k:List It}
end
end Go.Av
namespace Go.Av
open Go Go.RowKit
variable [Tr]
def AfO(okp:Nat->Nat->Bool)(i:Nat):List Nat->Option (List Nat)
 | []=>none
 | j::r=>bif j==i then some r else bif okp j i then(AfO okp i r).map (j::·) else none
theorem AiI{okp:Nat->Nat->Bool}{i:Nat}:∀ {l r:List Nat},AfO okp i l=some r->∃ l1 l2,l=l1++i::l2/\r=l1++l2/\∀ j∈l1,okp j i=true
 | [],_,h=>by cases h
 | j::l,r,h=>by
  rw[AfO]at h
  cases hj:j==i with
  | true =>
   rw[hj]at h;simp only[cond_true,Option.some.injEq]at h;have:j=i:=by simpa using hj
   subst this;exact⟨[],l,rfl,h.symm,by simp⟩
  | false =>
   rw[hj]at h;simp only[cond_false]at h
   cases ho:okp j i with
   | false=>rw[ho]at h; cases h
   | true =>
    rw[ho]at h;simp only[cond_true,Option.map_eq_some_iff]at h;obtain⟨r',h1,rfl⟩:=h;obtain⟨l1,l2,rfl,rfl,h2⟩:=AiI h1;exact⟨j::l1,l2,rfl,rfl,fun k hk=>by
     rcases List.mem_cons.1 hk with rfl|hk
     .exact ho
     .exact h2 k hk⟩
def ApW(ops:List Oper)(okp:Nat->Nat->Bool):Nat->List Nat->List (List Nat)->Bool
 | 0,_,LL=>LL.contains []
 | n+1,done,LL=>match rdy ops done with
  | []=>LL.contains []
  | is=>is.all fun i=>!(LL.filterMap (AfO okp i)).isEmpty&&ApW ops okp n (i::done) (LL.filterMap (AfO okp i))
theorem AjI{c:Cx}{s s1 s2:List Blk}{o:Oper}{cv v u:AV}{e:Env}(h:DoesOp c s o cv e v s1)(h':DoesOp c s o cv e u s2):u=v/\s2=s1:=by
 unfold DoesOp at h h'
 cases hx:xop false true c.P e s o.op <;> rw[hx]at h h' <;> simp only at h h'
 .exact ⟨h'.1.trans h.1.symm,h'.2.trans h.2.symm⟩
 .exact ⟨h'.2.1.trans h.2.1.symm,h'.2.2.trans h.2.2.symm⟩
 .exact ⟨h'.2.2.1.trans h.2.2.1.symm,h'.2.2.2.trans h.2.2.2.symm⟩
 .exact ⟨h'.1.trans h.1.symm,h'.2.trans h.2.symm⟩
 .exact ⟨h'.2.2.1.trans h.2.2.1.symm,h'.2.2.2.trans h.2.2.2.symm⟩
theorem BeE{c:Cx}{ops:Array Oper}{s s1 s2:List Blk}{o:Oper}{cv v u:AV}{e:Env}(h:Does c ops s o cv e v s1)(h':Does c ops s o cv e u s2):u=v/\s2=s1:=by
 unfold Does at h h'
 cases hg:o.guard with
 | none=>rw[hg]at h h'; exact AjI h h'
 | some p =>
  obtain⟨j,want⟩:=p;rw[hg]at h h';simp only at h h'
  cases hy:yldD want e ops[j]? with
  | none=>rw[hy]at h; exact h.elim
  | some b =>
   rw[hy]at h h';simp only at h h'
   rcases h with⟨h1,h2⟩|⟨h1,h2,h3⟩ <;> rcases h' with⟨k1,k2⟩|⟨k1,k2,k3⟩
   .exact AjI h2 k2
   .exact (k1 h1).elim
   .exact (h1 k1).elim
   .exact ⟨k2.trans h2.symm,k3.trans h3.symm⟩
section
variable {c:Cx}{ops:List Oper}{k:List It}
theorem A3I{okp:Nat->Nat->Bool}(Ch:List Nat->Env->List Blk->Prop)(hnil:∀ e s,Ch [] e s->AWp c k e s)(hfr:∀ l i r e s,(∀ j∈l,okp j i=true)->Ch (l++i::r) e s->Ch (i::(l++r)) e s)
  (hst:∀ i o (RR:List (List Nat)) e s a w (Kc:Act->World->Prop),ops[i]? = some o->RR≠[]->(∀ r∈RR,Ch (i::r) e s)->Sim c e s a w->(∀ e' s' a w,(∀ r∈RR,Ch r e' s')->Sim c e' s' a w->Kc a w) ->
   if Region.wanted o (yielded ops.toArray a.tmps) then o.wp c.P a w Kc (WQ c k) else Kc (a.put o.dst undef) w) (hwt:∀ i,i<ops.length->∀ j∈AbT ops i,j<ops.length):∀ (fuel:Nat) (listed:Array Bool) (done:List Nat) (LL:List (List Nat)) (e:Env) (s:List Blk) (a:Act) (w:World),listed.size=ops.length ->
  (∀ i,i<ops.length->listed.getD i true=done.contains i)->((List.range ops.length).filter fun i=>!listed.getD i true).length=fuel ->
  ApW ops okp fuel done LL=true->(∀ l∈LL,Ch l e s)->Sim c e s a w->wpAny c.P .any ops.toArray (WQ c k) fuel listed a w:=by
 have hready:∀ (listed:Array Bool) (done:List Nat),listed.size=ops.length->(∀ i,i<ops.length->listed.getD i true=done.contains i)->(∀ i,i<ops.length->∀ j∈AbT ops i,j<ops.length)->∀ (i:Nat),i∈Region.ready .any ops.toArray listed ↔ i∈rdy ops done:=by
  intro listed done hsz hd hw i;unfold Region.ready rdy;simp only[List.mem_filter,List.mem_range,List.size_toArray,Bool.and_eq_true,Bool.not_eq_true'];refine and_congr_right fun hi=>?_
  rw[hd i hi];refine and_congr_right fun _=>?_
  have:ops[i]? = some ops[i]:=by simp[hi]
  have hw:=hw i hi;simp only[List.getElem?_toArray,this,Option.map_some,Option.getD_some,AbT]at hw |-;rw[Array.all_eq_true_iff_forall_mem,List.all_eq_true]
  constructor
  .intro h j hj
   have hjl:=hw j hj;simp only[List.mem_map,List.mem_filter,Array.mem_toList_iff]at hj;obtain⟨ed,⟨h1,h2⟩,rfl⟩:=hj;have:=h ed h1;rw[<- hd _ hjl];have hjs:ed.on<listed.size:=by omega
   simpa[h2,Array.getD,hjs]using this
  .intro h ed hed
   by_cases hb:Region.binds .any ed=true
   .have hm:ed.on∈(ops[i].after.toList.filter (Region.binds .any)).map (·.on):=by simp only[List.mem_map,List.mem_filter,Array.mem_toList_iff]; exact⟨ed,⟨hed,hb⟩,rfl⟩
    have h1:=h _ hm;rw[<- hd _ (hw _ hm)]at h1;have hjs:ed.on<listed.size:=by have:=hw _ hm; omega
    have:listed.getD ed.on false=true:=by simpa[Array.getD,hjs]using h1
    simp[this]
   .simp [hb]
 intro fuel
 induction fuel with
 | zero =>
  intro listed done LL e s a w hsz hd hf hcv htp hsim;have hfn:((List.range ops.length).filter fun i=>!listed.getD i true)=[]:=List.eq_nil_of_length_eq_zero hf;have hempty:rdy ops done=[]:=by
   unfold rdy;rw[List.filter_eq_nil_iff]at hfn |-;intro i hi;have h1:=hfn i hi;rw[hd i (by simpa using hi)]at h1;simp only[Bool.and_eq_true,not_and];intro h2;exact absurd h2 h1
  refine⟨List.eq_nil_iff_forall_not_mem.2 fun i hi=>?_,?_⟩
  .rw [hready listed done hsz hd hwt i,hempty]at hi
   cases hi
  .rw [ApW]at hcv
   exact hnil _ _ (htp [] (by simpa using hcv)) a w hsim
 | succ fuel ih =>
  intro listed done LL e s a w hsz hd hf hcv htp hsim;rw[ApW]at hcv;refine⟨fun hr0=>?_,fun i hi=>?_⟩
  .have hk:rdy ops done=[]:=by
    refine List.eq_nil_iff_forall_not_mem.2 fun i hi=>?_
    have:=(hready listed done hsz hd hwt i).2 hi;rw[hr0]at this
    cases this
   rw[hk]at hcv;exact hnil _ _ (htp [] (by simpa using hcv)) a w hsim
  .have hir:=(hready listed done hsz hd hwt i).1 hi
   have hcv2:(LL.filterMap (AfO okp i))≠[]/\ApW ops okp fuel (i::done) (LL.filterMap (AfO okp i))=true:=by
    cases hq:rdy ops done with
    | nil=>rw[hq]at hir; cases hir
    | cons i0 is =>
     rw[hq]at hcv hir;have:=(List.all_eq_true.1 hcv) i hir;simp only[Bool.and_eq_true,Bool.not_eq_true']at this;exact⟨fun h=>by rw[h]at this; simp at this,this.2⟩
   obtain⟨h1,h2⟩:=hcv2;have h3:∀ r∈LL.filterMap (AfO okp i),Ch (i::r) e s:=fun r hr=>by
    obtain⟨l,hl,hf⟩:=List.mem_filterMap.1 hr;obtain⟨l1,l2,rfl,rfl,h4⟩:=AiI hf;exact hfr l1 i l2 e s h4 (htp _ hl)
   have hi2:i<ops.length:=by
    unfold rdy at hir
    simpa using(List.mem_filter.1 hir).1
   have hil:listed.getD i true=false:=by
    rw[hd i hi2];unfold rdy at hir;have:=(List.mem_filter.1 hir).2;simp only[Bool.and_eq_true,Bool.not_eq_true']at this;exact this.1
   have hlist:∀ j,(listed.setIfInBounds i true).getD j true=if j=i then true else listed.getD j true:=by
    intro j
    by_cases hj:j=i
    .subst hj
     have:j<listed.size:=by omega
     simp[this]
    .rw [if_neg hj]
     simp[Array.getElem?_setIfInBounds_ne (Ne.symm hj)]
   have ho:ops[i]? = some ops[i]:=by simp[hi2]
   have hJ:=hst i ops[i] _ e s a w (wpAny c.P .any ops.toArray (WQ c k) fuel (listed.setIfInBounds i true)) ho h1 h3 hsim (fun e' s' a w htp' hsim'=>by
    refine ih _ (i::done) _ e' s' a w (by simp[hsz]) (fun j hj=>?_) ?_ h2 htp' hsim'
    .rw [hlist,List.contains_cons]
     by_cases hji:j=i
     .simp [hji]
     .rw [if_neg hji,hd j hj]
      have:(j==i)=false:=by simpa using hji
      rw[this,Bool.false_or]
    .have e1:(fun j=>!(listed.setIfInBounds i true).getD j true)=fun j=>(!listed.getD j true)&&decide (j≠i):=by
      funext j
      rw[hlist]
      by_cases hj:j=i <;> simp[hj]
     have e2:((List.range ops.length).filter fun j=>(!listed.getD j true)&&decide (j≠i))=((List.range ops.length).filter fun j=>!listed.getD j true).filter fun j=>decide (j≠i):=by
      rw[List.filter_filter]
      congr 1
      funext j
      rw[Bool.and_comm]
     rw[e1,e2];have hm:i∈(List.range ops.length).filter fun j=>!listed.getD j true:=List.mem_filter.2 ⟨by simpa using hi2,by rw[hil]; rfl⟩
     have hn:((List.range ops.length).filter fun j=>!listed.getD j true).Nodup:=List.Pairwise.filter _ List.nodup_range;generalize ((List.range ops.length).filter fun j=>!listed.getD j true)=L at hm hn hf;have:=List.length_erase_of_mem hm;rw[List.Nodup.erase_eq_filter hn]at this;have e3:(L.filter fun j=>decide (j≠i)).length=(L.filter fun x=>x != i).length:=by
      congr 1
      apply List.filter_congr;intro x _
      by_cases hx:x=i <;> simp[hx]
     rw[e3,this,hf];rfl)
   show wpOp c.P ops.toArray (WQ c k) i _ a w
   unfold wpOp;have ho':ops.toArray[i]? = some ops[i]:=by simp[hi2]
   rw[ho'];simp only
   split
   .rename_i hwd
    rw[if_pos hwd]at hJ;exact .inl hJ
   .rename_i hwd
    rw[if_neg hwd]at hJ;exact hJ
end
