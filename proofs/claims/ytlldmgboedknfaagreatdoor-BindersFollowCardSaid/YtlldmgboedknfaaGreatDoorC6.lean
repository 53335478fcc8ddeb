/- Slices: cuts, makes, appends, copies. -/
import Derived.Test.YtlldmgboedknfaaGreatDoorC5
import Derived.Deep.AppendSrc
set_option linter.unusedSimpArgs false
set_option linter.unusedVariables false
set_option linter.unusedSectionVars false
namespace Go.Av
open Go Go.RowKit
variable [Tr]
section
variable {h:Mem}{ρ:Own}{sto:List Blk}{w:World}{P:Program}
def SrcOk(P:Program)(h:Mem)(ρ:Own)(sto:List Blk)(w:World)(sz:Nat)(v:Value)(L:List AV):Prop :=
 ∃ cells:List Value,(∀ w':World,(Builtin.lenOf v).run P w'=.ok L.length w')/\(∀ w':World,w'.heap=w.heap->∀ k,k<=L.length->(Builtin.firstCells sz k v).run P w'=.ok (cells.take (k*sz)).toArray w') /\
  RL h (Lf ρ sto) false cells (flat L)/\(∀ x∈L,(cellsOf x).length=sz)/\(∀ v∈cells,v.oneCell'=true)
theorem AdM{w':World}{sz k b o len cap:Nat}{cells:List Value}(hk:k*sz<=cells.length)(hc:∀ (j:Nat) v,cells[j]? = some v->w'.cell? ⟨b,o+j,none⟩=some v) :
  (Builtin.firstCells sz k (.slice (some ⟨b,o,none⟩) len cap)).run P w'=.ok (cells.take (k*sz)).toArray w':=by
 have:=run_firstCells_some (P:=P) w' sz k ⟨b,o,none⟩ len cap (cells.take (k*sz)) (by simp; omega) (fun j v hj=>by
  rw[Addr.add_mid];rw[List.getElem?_take]at hj
  split at hj
  .exact hc j v hj
  .simp at hj)
 exact this
theorem AnH{w w':World}(hh:w'.heap=w.heap)(a:Addr):w'.cell? a=w.cell? a:=by simp[World.cell?,hh]
theorem ArH:∀ s:List UInt8,flat (s.map ArD)=s.map ArD
 | []=>rfl
 | b::s=>by simp only[List.map_cons,flat]; rw[ArH s]; rfl
theorem BlW(m:Mine h ρ sto w){sz:Nat}{v:Value}{x:AV}{L:List AV}{p:Prop}(hs:A9X sto sz x=some (L,p))(hp:p)(r:RV h (Lf ρ sto) false v x):SrcOk P h ρ sto w sz v L:=by
 unfold A9X at hs
 split at hs
 .rename_i e l
  simp only[Option.some.injEq,Prod.mk.injEq]at hs;obtain⟨rfl,rfl⟩:=hs;subst hp
  rcases AfY r with⟨rfl,rfl⟩|⟨b,o,c,vs,rfl,h2,h3,h4,h5⟩
  .refine ⟨[],fun w'=>by simp[Builtin.lenOf],fun w' _ k hk=>?_,.nil,by simp,by simp⟩
   simp[Builtin.firstCells]
  .have hl:=AaL h3
   have hvl:=h2.length;refine⟨vs,fun w'=>by simp[Builtin.lenOf],fun w' hw k hk=>?_,h2.thaw (fun _ _ _ x=>x),h3,?_⟩
   .have:k*e<=l.length*e:=Nat.mul_le_mul_right _ hk
    exact AdM (by omega) (fun j v hj=>by rw[AnH hw]; exact(m.mem b _ v (h4 j v hj)).1)
   .intro v hv
    obtain⟨j,hj,rfl⟩:=List.mem_iff_getElem.1 hv;exact(m.mem b _ _ (h4 j _ (by simp[hj]))).2
 .rename_i id off n cap
  unfold srcB at hs
  split at hs
  .rename_i e l hb
   simp only[Option.some.injEq,Prod.mk.injEq]at hs;obtain⟨rfl,rfl⟩:=hs;obtain⟨he,hcap,hn⟩:=hp;have hso:=AbU hb;have hl:=(AbO r).2;simp only[LfC,hso]at hl
   rcases hl.2 hcap with⟨h6,_,a,rfl⟩|⟨g,tot,h5,rfl,h7⟩
   .subst h6
    generalize at0 a=a at r |-;refine⟨[],fun w'=>by simp[Builtin.lenOf],fun w' _ k hk=>?_,by simpa[flat]using RL.nil,by simp,by simp⟩;have:k=0:=by simpa using hk
    subst this
    cases a <;> simp[Builtin.firstCells,loadCells,loadCellsFrom]
   .rcases m.own id _ hso with⟨_,hno⟩|⟨g',tot',cur,t,h3,h4,h5',h6,h7',h8,h9,h10,h11⟩
    .simp [hno]at h5
    .rw [h3]at h5
     simp only[Option.some.injEq,Prod.mk.injEq]at h5;obtain⟨rfl,rfl⟩:=h5;have hes:e=sz\/l=[]:=he;have hfd:=AbC h9 off;have hft:=AbX (l:=l.drop off) (esz:=e) (fun x hx=>h9 x (List.mem_of_mem_drop hx)) n;have hr:RL h (Lf ρ sto) false (((cur.toList.take (l.length*e)).drop (off*e)).take (n*e)) (flat ((l.drop off).take n)):=by
      rw[<- hft,<- hfd]; exact(h11.drop _).take _
     have hlen:((l.drop off).take n).length=n:=by simp; omega
     have hcells:∀ x∈(l.drop off).take n,(cellsOf x).length=e:=fun x hx=>h9 x (List.mem_of_mem_drop (List.mem_of_mem_take hx))
     have hvl:=hr.length;have hfl:=AaL hcells;rw[hlen]at hfl;have hall:∀ (j:Nat) v,(((cur.toList.take (l.length*e)).drop (off*e)).take (n*e))[j]? = some v->w.cell? ⟨g',off*e+j,none⟩=some v:=by
      intro j v hj;rw[h4.cell];rw[List.getElem?_take]at hj
      split at hj
      .rw [List.getElem?_drop,List.getElem?_take]at hj
       split at hj
       .simpa using hj
       .simp at hj
      .simp at hj
     have hone:∀ v∈((cur.toList.take (l.length*e)).drop (off*e)).take (n*e),v.oneCell'=true:=fun v hv=>h10 v (List.mem_of_mem_take (List.mem_of_mem_drop (List.mem_of_mem_take hv)))
     rcases hes with rfl|hnil
     .refine ⟨_,fun w'=>by rw[hlen]; simp[Builtin.lenOf],fun w' hw k hk=>?_,hr,hcells,hone⟩
      rw[hlen]at hk;have:k*e<=n*e:=Nat.mul_le_mul_right _ hk;exact AdM (by omega) (fun j v hj=>by rw[AnH hw]; exact hall j v hj)
     .subst hnil
      have hn0:n=0:=by simp at hcap; omega
      subst hn0;refine⟨[],fun w'=>by simp[Builtin.lenOf],fun w' hw k hk=>?_,by simpa[flat]using RL.nil,by simp,by simp⟩;have:k=0:=by simpa using hk
      subst this
      simp[Builtin.firstCells,loadCells,loadCellsFrom]
  .simp at hs
 .simp only [Option.some.injEq,Prod.mk.injEq]at hs
  obtain⟨rfl,rfl⟩:=hs;rw[AaS r];exact⟨[],fun w'=>by simp[Builtin.lenOf],fun w' _ k hk=>by simp[Builtin.firstCells],.nil,by simp,by simp⟩
 .rename_i s
  simp only[Option.some.injEq,Prod.mk.injEq]at hs;obtain⟨rfl,rfl⟩:=hs;subst hp;rw[AaY r];have hflat:flat (s.map ArD)=s.map ArD:=ArH s;refine⟨s.map fun b=>.int .u8 b.toNat,fun w'=>?_,fun w' _ k hk=>?_,?_,?_,?_⟩
  .have:(ByteArray.mk s.toArray).size=s.length:=rfl
   simp[Builtin.lenOf,this]
  .simp only [Builtin.firstCells,Nat.mul_one,Sem.run_pure]
   congr 1
   have:((ByteArray.mk s.toArray).extract 0 k).data=(s.take k).toArray:=by
    simp[ByteArray.data_extract,List.extract]
   rw[this]
   simp[List.map_take]
  .rw [hflat]
   refine RL.of_get (by simp) fun k v a h1 h2=>?_
   simp only[List.getElem?_map]at h1 h2
   cases hq:s[k]? with
   | none=>simp[hq]at h1
   | some b=>simp[hq]at h1 h2; subst h1; subst h2; exact .int _ _
  .intro x hx; simp at hx; obtain⟨b,_,rfl⟩:=hx; rfl
  .intro v hv; simp at hv; obtain⟨b,_,rfl⟩:=hv; rfl
 .simp at hs
theorem A0N{el:TypeId}(hp:0<tsize P el):∃ i,P.info? el=some i/\i.size=tsize P el/\i.bytes=tbytes P el:=by
 cases hi:P.info? el with
 | none=>simp[tsize,hi]at hp
 | some i=>exact⟨i,rfl,by simp[tsize,hi],by simp[tbytes,hi]⟩
theorem AeW{el:TypeId}(hp:0<tsize P el)(hz:(zav P el).length=tsize P el):∃ i z,P.info? el=some i/\i.size=tsize P el/\i.bytes=tbytes P el/\i.zero=some z/\zcells P el=z.cells.toList/\z.cells.size=tsize P el:=by
 obtain⟨i,hi,h1,h2⟩:=A0N hp
 cases hq:i.zero with
 | none=>simp[zav,zcells,hi,hq]at hz; omega
 | some z =>
  have hc:zcells P el=z.cells.toList:=by simp[zcells,hi,hq]
  refine⟨i,z,hi,h1,h2,hq,hc,?_⟩;have:(zcells P el).length=tsize P el:=by simpa[zav]using hz
  rw[hc]at this; simpa using this
theorem SrcOk.src{sz:Nat}{tx:TypeId}{v:Value}{L:List AV}(hu:AvT (P.underlying tx)=true)(s:SrcOk P h ρ sto w sz v L) :
  ∃ cells,Src P sz tx v L.length cells w/\RL h (Lf ρ sto) false cells (flat L)/\(∀ x∈L,(cellsOf x).length=sz)/\(∀ v∈cells,v.oneCell'=true):=by
 obtain⟨cells,h1,h2,h3,h4,h5⟩:=s;have hl:cells.length=L.length*sz:=by rw[h3.length,AaL h4]
 have ht:cells.take (L.length*sz)=cells:=by rw[<- hl,List.take_length]
 refine⟨cells,⟨?_,h1,?_,?_,hl,h5⟩,h3,h4,h5⟩
 .unfold AvT at hu
  split at hu
  .rename_i hq; exact .inl ⟨_,hq⟩
  .rename_i hq; exact .inr hq
  .cases hu
 .rw [h2 w rfl _ (Nat.le_refl _),ht]
 .rw [h2 w.drew rfl _ (Nat.le_refl _),ht]
theorem AnI{t tx ty el:TypeId}(ht:P.underlying t=some (.slice el))(hp:0<tsize P el){g o sLen sCap:Nat}{cur:Array Value}{tt:TypeId}
  (hg:HRow w g cur tt) {src:Value} {n:Nat} {cells:List Value} (hs:Src P (tsize P el) tx src n cells w) (hroom:sLen+n<=sCap) (hfit:o+(sLen+n)*tsize P el<=cur.size) :
  (Builtin.append_ #[t,tx] ty #[.slice (some ⟨g,o,none⟩) sLen sCap,src]).run P w=.ok (.slice (some ⟨g,o,none⟩) (sLen+n) sCap) (w.setRow g (splice cur.toList (o+sLen*tsize P el) cells).toArray):=by
 obtain⟨i,hi,his,hib⟩:=A0N hp;rw[Nat.add_mul]at hfit;have hst:=AbD P g (o+sLen*tsize P el) tt cells 0 cur w hg (by rw[Nat.add_zero,hs.newsLen]; omega) hs.one;simp only[Nat.add_zero]at hst;have hadd:(⟨g,o,none⟩:Addr).add (sLen*tsize P el)=⟨g,o+sLen*tsize P el,none⟩:=Addr.add_mid _ _ _
 rcases hs.kind with⟨e',hk⟩|hk <;> simp[Builtin.append_,run_underlying ht,run_underlying hk,sizeOf,typeInfo,hi,his,hs.len,hroom,hs.cells,hadd,hst,splice]
theorem AnJ{t tx ty el:TypeId}(ht:P.underlying t=some (.slice el))(hp:0<tsize P el){a:Option Addr}{src:Value}{cells:List Value}(hs:Src P (tsize P el) tx src 0 cells w) :
  (Builtin.append_ #[t,tx] ty #[.slice a 0 0,src]).run P w=.ok (.slice a 0 0) w:=by
 obtain⟨i,hi,his,hib⟩:=A0N hp;have hnil:cells=[]:=List.eq_nil_of_length_eq_zero (by simpa using hs.newsLen);have hc:=hs.cells;subst hnil
 cases a <;> rcases hs.kind with⟨e',hk⟩|hk <;> simp[Builtin.append_,run_underlying ht,run_underlying hk,sizeOf,typeInfo,hi,his,hs.len,hc,storeCells]
theorem AtD{z:Array Value}(h1:∀ v∈z.toList,v.oneCell'=true)(h0:0<z.size)(n:Nat):∀ v∈(Builtin.zeroCells z n).toList,v.oneCell'=true:=by
 intro v hv;simp only[Builtin.zeroCells,Array.toList_map,List.mem_map]at hv;obtain⟨i,_,rfl⟩:=hv;have hlt:i%z.size<z.size:=Nat.mod_lt _ h0;apply h1;rw[getElem!_pos z _ hlt];exact Array.getElem_mem_toList hlt
theorem AiE{t tx ty el:TypeId}(ht:P.underlying t=some (.slice el))(hp:0<tsize P el)(hz:(zav P el).length=tsize P el)(hone:(zav P el).all one=true){base:Option Addr}{sLen sCap:Nat}{olds:List Value}
  (hold:(Builtin.firstCells (tsize P el) sLen (.slice base sLen sCap)).run P w.drew=.ok olds.toArray w.drew) {src:Value} {n:Nat} {cells:List Value} (hs:Src P (tsize P el) tx src n cells w) (hg:sCap<sLen+n)
  (hol:olds.length=sLen*tsize P el) (h1:∀ v∈olds,v.oneCell'=true) (hb:(sLen+n)*tbytes P el<=140737488355328) (hm:sLen+n<=9223372036854775807) :
  ∃ tot cur,(Builtin.append_ #[t,tx] ty #[.slice base sLen sCap,src]).run P w=.ok (.slice (some ⟨w.heap.size,0,none⟩) (sLen+n) tot) (w.drew.alloc (.cells cur el)) /\
   cur.size=tot*tsize P el/\sLen+n<=tot/\tot<=maxLen/\(∀ v∈cur.toList,v.oneCell'=true)/\cur.toList.take ((sLen+n)*tsize P el)=olds++cells:=by
 obtain⟨i,z,hi,his,hib,hiz,hzc,hzs⟩:=AeW hp hz;have hr:=run_append_grow_src (P:=P) w t tx ty el i z ht hi hiz base sLen sCap olds (by rw[his]; exact hold) src n cells (by rw[his]; exact hs) hg (by omega) (by rw[hib]; exact growslice_fits hg hb);have hge:=grownCap_ge w (sLen+n) sCap el;have hcm:grownCap w (sLen+n) sCap el<=maxLen:=grownCap_le_maxLen w (sLen+n) sCap el (by simpa[maxLen]using hm);have hll:(olds++cells).length=(sLen+n)*tsize P el:=by rw[List.length_append,hol,hs.newsLen,Nat.add_mul]
 refine⟨_,_,hr,?_,hge,hcm,?_,?_⟩
 .simp only [Array.size_append,List.size_toArray,hll,size_zeroCells,hzs,<- Nat.add_mul]
  congr 1; omega
 .intro v hv
  simp only[Array.toList_append,List.mem_append]at hv
  rcases hv with(hv|hv)|hv
  .exact h1 v hv
  .exact hs.one v hv
  .refine AtD ?_ (by omega) _ v hv
   intro u hu;rw[<- hzc]at hu;have hr:RL (fun _ _=>none) (Lf (fun _=>none) []) false (zcells P el) (zav P el):=AdW _;exact AeO hr hone u hu
 .simp only [Array.toList_append,<- hll,List.take_left]
end
end Go.Av
namespace Go.Av
open Go Go.RowKit
variable [Tr]
section
variable {h:Mem}{ρ:Own}{sto:List Blk}{w:World}{P:Program}
theorem Mine.pushNil(m:Mine h ρ sto w)(e:Nat):Mine h ρ (sto++[.arr e []]) w/\Later h ρ sto w h ρ (sto++[.arr e []]) w:=by
 have hρ:upd ρ sto.length none=ρ:=funext fun i=>by
  unfold upd; split
  .rename_i hi; rw[hi,m.out _ (Nat.le_refl _)]
  .rfl
 have hk:∀ v a,Lf ρ sto v a->Lf ρ (sto++[.arr e []]) v a:=fun v a l=>by
  have:=AiB (b:=.arr e []) (x:=none) l;rw[hρ]at this; exact this
 refine⟨⟨m.mem,?_,fun id hid=>m.out id (by simp at hid; omega),m.inj,m.disj⟩,⟨fun _ _ _ x=>x,fun _ _ a b=>(b a).elim,hk,rfl,rfl,⟨rfl,Tr.same rfl⟩,Nat.le_refl _,fun _ _ _=>rfl,fun i _ t x=>.inl ⟨i,t,x⟩⟩⟩;intro id blk e1
 by_cases hid:id<sto.length
 .rw [List.getElem?_append_left hid]at e1
  exact(m.own id blk e1).mono (fun _ _ _ x=>x) hk rfl (fun _ _ _=>rfl)
 .have hlt:=(List.getElem?_eq_some_iff.1 e1).1
  simp at hlt
  have:id=sto.length:=by omega
  subst this
  simp at e1
  subst e1;exact .inl ⟨rfl,m.out _ (Nat.le_refl _)⟩
theorem A6U{id e e':Nat}(hb:sto[id]? = some (.arr e []))(hn:ρ id=none){v:Value}{a:AV}(l:LfC ρ sto v a):LfC ρ (sto.set id (.arr e' [])) v a:=by
 have hid:=(List.getElem?_eq_some_iff.1 hb).1;have other:∀ i,i≠id->(sto.set id (.arr e' []))[i]? = sto[i]?:=fun i hi=>by rw[List.getElem?_set_ne (Ne.symm hi)]
 have this':(sto.set id (.arr e' []))[id]? = some (.arr e' []):=by simp[hid]
 cases a <;> simp only[LfC]at l |-
 case sl i off len cap =>
  by_cases hi:i=id
  .subst hi; rw[this']; rw[hb]at l; simpa[hn]using l
  .rw [other i hi]; exact l
 case ptr i n j off =>
  by_cases hi:i=id
  .subst hi; rw[this']; rw[hb]at l; simp[hn]at l
  .rw [other i hi]; exact l
 case mp i =>
  by_cases hi:i=id
  .subst hi; rw[hb]at l; rw[this']; trivial
  .rw [other i hi]; exact l
theorem set_same{id:Nat}{b:Blk}(hb:sto[id]? = some b):sto.set id b=sto:=by
 apply List.ext_getElem?;intro i;rw[List.getElem?_set]
 split
 .rename_i h1; subst h1; rw[hb]; simp[(List.getElem?_eq_some_iff.1 hb).1]
 .rfl
theorem Mine.setNil(m:Mine h ρ sto w){id e:Nat}(e':Nat)(hb:sto[id]? = some (.arr e []))(he:e=e'\/([]:List AV)=[]/\e=0):Mine h ρ (sto.set id (.arr e' [])) w/\Later h ρ sto w h ρ (sto.set id (.arr e' [])) w:=by
 have hid:=(List.getElem?_eq_some_iff.1 hb).1
 rcases he with rfl|⟨_,rfl⟩
 .rw [set_same hb]; exact⟨m,.refl ..⟩
 have hn:ρ id=none:=by
  rcases m.own id _ hb with⟨_,hno⟩|⟨g',tot',cur,tt,h3,h4,h5',h6,h7',h8,h9,h10,h11⟩
  .exact hno
  .omega
 have hk:∀ v a,Lf ρ sto v a->Lf ρ (sto.set id (.arr e' [])) v a:=fun v a l=>⟨l.1,A6U hb hn l.2⟩
 refine⟨⟨m.mem,?_,fun i hi=>m.out i (by simpa using hi),m.inj,m.disj⟩,⟨fun _ _ _ x=>x,fun _ _ a b=>(b a).elim,hk,rfl,rfl,⟨rfl,Tr.same rfl⟩,Nat.le_refl _,fun _ _ _=>rfl,fun i _ t x=>.inl ⟨i,t,x⟩⟩⟩;intro i blk e1
 by_cases hi:i=id
 .subst hi
  simp[hid]at e1
  subst e1;exact .inl ⟨rfl,hn⟩
 .rw [List.getElem?_set_ne (Ne.symm hi)]at e1
  exact(m.own i blk e1).mono (fun _ _ _ x=>x) hk rfl (fun _ _ _=>rfl)
section
variable {t tx ty el:TypeId}{src:Value}{cells:List Value}{L:List AV}{r:Result Next}
theorem AwB(w:World)(o:Obj):Same w (w.drew.alloc o):=(Same.drew w).trans (Same.alloc w.drew o)
theorem BaI(w:World)(o:Obj):w.heap.size<(w.drew.alloc o).heap.size:=by simp
theorem BaJ(m:Mine h ρ sto w)(ht:P.underlying t=some (.slice el))(hs:Src P (tsize P el) tx src L.length cells w)(hrl:RL h (Lf ρ sto) false cells (flat L))(hsz:∀ x∈L,(cellsOf x).length=tsize P el)
  (hr:r=((Builtin.append_ #[t,tx] ty #[.slice none 0 0,src]).run P w).andThen fun v w'=>.ok (.value v) w') (hp:0<tsize P el) (hz:(zav P el).length=tsize P el) (hone:(zav P el).all one=true)
  (hb:L.length*tbytes P el<=140737488355328) (hm:L.length<=9223372036854775807):Okv h ρ sto w r (.sl sto.length 0 L.length L.length) (sto++[.arr (tsize P el) L]):=by
 by_cases hL:L.length=0
 .have:L=[]:=List.eq_nil_of_length_eq_zero hL
  subst this;rw[AnJ ht hp hs]at hr;obtain⟨m1,l1⟩:=m.pushNil (tsize P el);exact⟨_,_,_,_,.inl hr,m1,l1,.leaf ⟨rfl,by simp only[LfC,List.getElem?_concat_length]; exact⟨by simp,fun _=>.inl ⟨rfl,rfl,none,rfl⟩⟩⟩⟩
 .obtain ⟨tot,cur,hrun,h1,h2,h3,h4,h5⟩:=AiE (ty:=ty) ht hp hz hone (base:=none) (sLen:=0) (sCap:=0) (olds:=[]) (by simp[Builtin.firstCells]) hs (by omega) (by simp) (by simp) (by simpa using hb) (by simpa using hm)
  rw[hrun]at hr;simp only[Nat.zero_add,List.nil_append]at h2 h5 hr;have m0:=m.same (Same.drew w);have hm:=m0.push (.cells cur el) (.arr (tsize P el) L) (some tot) (by
   refine .inr ⟨w.heap.size,tot,cur,el,by simp[upd],.of (heap_alloc_new w.drew _),h1,h2,h3,hp,hsz,h4,?_⟩;rw[h5];exact hrl.mono (fun _ _ _ x=>x) (fun _ _=>AiB))
  refine⟨_,_,_,_,.inl hr,hm.1,(Later.same (Same.drew w)).trans hm.2,.leaf ⟨rfl,?_⟩⟩
  simp[LfC,upd]
theorem BaK(m:Mine h ρ sto w)(ht:P.underlying t=some (.slice el))(hs:Src P (tsize P el) tx src L.length cells w)(hrl:RL h (Lf ρ sto) false cells (flat L))(hsz:∀ x∈L,(cellsOf x).length=tsize P el)
  {dst:Value} {id e:Nat} {l:List AV} (hb:sto[id]? = some (.arr e l)) (hd:LfC ρ sto dst (.sl id 0 l.length l.length))
  (hr:r=((Builtin.append_ #[t,tx] ty #[dst,src]).run P w).andThen fun v w'=>.ok (.value v) w') (hp:0<tsize P el) (hz:(zav P el).length=tsize P el) (hone:(zav P el).all one=true)
  (he:e=tsize P el\/l=[]/\e=0)
  (hby:(l.length+L.length)*tbytes P el<=140737488355328) (hm:l.length+L.length<=9223372036854775807):Okv h ρ sto w r (.sl id 0 (l.length+L.length) (l.length+L.length)) (sto.set id (.arr (tsize P el) (l++L))):=by
 have hid:=(List.getElem?_eq_some_iff.1 hb).1;simp only[LfC,hb]at hd
 rcases hd.2 (by omega)with⟨h5,_,a,rfl⟩|⟨g,tot,h5,rfl,h7⟩
 .have:l=[]:=List.eq_nil_of_length_eq_zero h5
  subst this
  by_cases hL:L.length=0
  .have:L=[]:=List.eq_nil_of_length_eq_zero hL
   subst this;rw[AnJ ht hp hs]at hr;obtain⟨m1,l1⟩:=m.setNil (tsize P el) hb he;exact⟨_,_,_,_,.inl hr,m1,l1,.leaf ⟨rfl,by simp only[LfC,List.append_nil,List.getElem?_set_self hid]; exact⟨by simp,fun _=>.inl ⟨rfl,rfl,a,rfl⟩⟩⟩⟩
  .obtain ⟨tot,cur,hrun,h1,h2,h3,h4,h5⟩:=AiE (ty:=ty) ht hp hz hone (base:=at0 a) (sLen:=0) (sCap:=0) (olds:=[]) (by generalize at0 a=a; cases a <;> simp[Builtin.firstCells,loadCells,loadCellsFrom]) hs (by omega) (by simp) (by simp) (by simpa using hby) (by simpa using hm)
   rw[hrun]at hr;simp only[Nat.zero_add,List.nil_append,List.length_nil]at h2 h5 hr |-;have hm:=m.move (e':=tsize P el) (l':=L) hb (by simp; omega) tot (AwB w (.cells cur el)) (BaI w _) (by
    refine .inr ⟨w.heap.size,tot,cur,el,by simp[upd],.of (heap_alloc_new w.drew _),h1,h2,h3,hp,hsz,h4,?_⟩;rw[h5];exact hrl.mono (fun _ _ _ x=>x) (fun v a lf=>⟨lf.1,AbT hb (fun i hi=>by simp[upd,hi]) (Or.inr (by simp; omega):(_/\_/\_)\/_) lf.2⟩))
   refine⟨_,_,_,_,.inl hr,hm.1,hm.2,.leaf ⟨rfl,?_⟩⟩
   simp[LfC,upd,hid]
 .rcases m.own id _ hb with⟨_,hno⟩|⟨g',tot',cur,tt,h3,h4,h5',h6,h7',h8,h9,h10,h11⟩
  .simp [hno]at h5
  .rw [h3]at h5
   simp only[Option.some.injEq,Prod.mk.injEq]at h5;obtain⟨rfl,rfl⟩:=h5;have hee:e=tsize P el:=by rcases he with he|⟨_,he⟩ <;> omega
   subst hee;simp only[Nat.zero_mul,Nat.sub_zero]at hr h7;have hfl:=AaL h9;have hcl:cells.length=L.length*tsize P el:=hs.newsLen;have hcurl:cur.toList.length=tot'*tsize P el:=by simp[h5']
   have hle:l.length*tsize P el<=tot'*tsize P el:=Nat.mul_le_mul_right _ h6
   by_cases hroom:l.length+L.length<=tot'
   .have hle2:(l.length+L.length)*tsize P el<=tot'*tsize P el:=Nat.mul_le_mul_right _ hroom
    rw[AnI (ty:=ty) ht hp h4 hs hroom (by rw[h5']; omega),Nat.zero_add]at hr;have hspl:(splice cur.toList (l.length*tsize P el) cells).length=cur.size:=by
     rw[AbF (by rw[hcl,hcurl,<- Nat.add_mul]; exact hle2)]; simp
    have hw:=h4.set (cs:=(splice cur.toList (l.length*tsize P el) cells).toArray) (by simp[hspl]);have hset:∀ v a,Lf ρ sto v a->Lf ρ (sto.set id (.arr (tsize P el) (l++L))) v a:=fun v a lf=>⟨lf.1,AbT hb (fun _ _=>rfl) (by
     by_cases hL:L.length=0
     .exact .inl ⟨rfl,by simp[hL],rfl⟩
     .exact .inr (by simp; omega)) lf.2⟩
    have hm:=m.write (w':=w.setRow g' (splice cur.toList (l.length*tsize P el) cells).toArray) hb h3 (b':=.arr (tsize P el) (l++L)) (by
      by_cases hL:L.length=0
      .exact .inl ⟨rfl,by simp[hL]⟩
      .exact .inr (by simp; omega)) rfl rfl ⟨rfl,Tr.same rfl⟩ (by simp) (fun k hk=>setRow_other w g' k _ hk) (by
     refine .inr ⟨g',tot',_,tt,h3,hw,by simp[hspl,h5'],by simpa using hroom,h7',hp,?_,?_,?_⟩
     .intro y hy
      rcases List.mem_append.1 hy with hy|hy
      .exact h9 y hy
      .exact hsz y hy
     .intro y hy
      simp only[List.toList_toArray,splice,List.mem_append]at hy
      rcases hy with(hy|hy)|hy
      .exact h10 y (List.mem_of_mem_take hy)
      .exact hs.one y hy
      .exact h10 y (List.mem_of_mem_drop hy)
     .have e1:(splice cur.toList (l.length*tsize P el) cells).take ((l++L).length*tsize P el)=cur.toList.take (l.length*tsize P el)++cells:=by
       unfold splice;have:((l++L).length*tsize P el)=(cur.toList.take (l.length*tsize P el)++cells).length:=by
        rw[List.length_append,List.length_append,List.length_take,hcurl,Nat.min_eq_left hle,hcl,Nat.add_mul]
       rw[this,List.take_left]
      simp only[List.toList_toArray];rw[e1,flat_append];exact(h11.append hrl).mono (fun _ _ _ x=>x) hset)
    refine⟨_,_,_,_,.inl hr,hm.1,hm.2,.leaf ⟨rfl,?_⟩⟩
    simp[LfC,hid,h3]
   .have hrd:=AdM (P:=P) (w':=w.drew) (sz:=tsize P el) (k:=l.length) (b:=g') (o:=0) (len:=l.length) (cap:=tot') (cells:=cur.toList.take (l.length*tsize P el)) (by rw[List.length_take,hcurl]; omega) (fun j v hj=>by
     rw[AnH (w:=w) (w':=w.drew) rfl,h4.cell];rw[List.getElem?_take]at hj
     split at hj
     .simpa using hj
     .simp at hj)
    rw[List.take_take,Nat.min_self]at hrd;obtain⟨tot,cur',hrun,k1,k2,k3,k4,k5⟩:=AiE (ty:=ty) ht hp hz hone hrd hs (by omega) (by rw[List.length_take,hcurl,Nat.min_eq_left hle]) (fun v hv=>h10 v (List.mem_of_mem_take hv)) hby hm;rw[hrun]at hr;have hm:=m.move (e':=tsize P el) (l':=l++L) hb (by simp; omega) tot (AwB w (.cells cur' el)) (BaI w _) (by
     refine .inr ⟨w.heap.size,tot,cur',el,by simp[upd],.of (heap_alloc_new w.drew _),k1,by simpa using k2,k3,hp,?_,k4,?_⟩
     .intro y hy
      rcases List.mem_append.1 hy with hy|hy
      .exact h9 y hy
      .exact hsz y hy
     .rw [List.length_append,k5,flat_append]
      exact(h11.append hrl).mono (fun _ _ _ x=>x) (fun v a lf=>⟨lf.1,AbT hb (fun i hi=>by simp[upd,hi]) (Or.inr (by simp; omega):(_/\_/\_)\/_) lf.2⟩))
    refine⟨_,_,_,_,.inl hr,hm.1,hm.2,.leaf ⟨rfl,?_⟩⟩
    simp[LfC,upd,hid]
end
end
end Go.Av
namespace Go.Av
open Go Go.RowKit
variable [Tr]
section
variable {h:Mem}{ρ:Own}{sto:List Blk}{w:World}{P:Program}
theorem AwC{e:Nat}{l L:List AV}(hl:∀ x∈l,(cellsOf x).length=e)(hL:∀ x∈L,(cellsOf x).length=e)(k:Nat):flat (splice' l k L)=splice (flat l) (k*e) (flat L):=by
 unfold splice' splice;rw[flat_append,flat_append,AbX hl,AaL hL,<- Nat.add_mul,AbC hl]
theorem AhU{l L:List AV}{k:Nat}(hk:k+L.length<=l.length):(splice' l k L).length=l.length:=AbF hk
theorem AnK(m:Mine h ρ sto w){id e:Nat}{l L:List AV}(hb:sto[id]? = some (.arr e l)){g tot:Nat}{cur:Array Value}{tt:TypeId}(h3:ρ id=some (g,tot))(h4:HRow w g cur tt)
  (h5:cur.size=tot*e) (h6:l.length<=tot) (h7:tot<=maxLen) (h8:0<e) (h9:∀ x∈l,(cellsOf x).length=e) (h10:∀ v∈cur.toList,v.oneCell'=true) (h11:RL h (Lf ρ sto) false (cur.toList.take (l.length*e)) (flat l))
  {cells:List Value} (hrl:RL h (Lf ρ sto) false cells (flat L)) (hsz:∀ x∈L,(cellsOf x).length=e) (hone:∀ v∈cells,v.oneCell'=true) {k:Nat} (hk:k+L.length<=l.length) :
  Mine h ρ (sto.set id (.arr e (splice' l k L))) (w.setRow g (splice cur.toList (k*e) cells).toArray)/\Later h ρ sto w h ρ (sto.set id (.arr e (splice' l k L))) (w.setRow g (splice cur.toList (k*e) cells).toArray):=by
 have hcl:cells.length=L.length*e:=by rw[hrl.length,AaL hsz]
 have hlen:=AhU hk;have hcurl:cur.toList.length=tot*e:=by simp[h5]
 have hle:l.length*e<=tot*e:=Nat.mul_le_mul_right _ h6;have hke:(k+L.length)*e<=l.length*e:=Nat.mul_le_mul_right _ hk;rw[Nat.add_mul]at hke;have hspl:(splice cur.toList (k*e) cells).length=cur.size:=by
  rw[AbF (by rw[hcl,hcurl]; omega)]; simp
 have hw:=h4.set (cs:=(splice cur.toList (k*e) cells).toArray) (by simp[hspl]);refine m.write (w':=w.setRow g (splice cur.toList (k*e) cells).toArray) hb h3 (b':=.arr e (splice' l k L)) (.inl ⟨rfl,hlen⟩) rfl rfl ⟨rfl,Tr.same rfl⟩ (by simp) (fun k' hk'=>setRow_other w g k' _ hk') ?_;refine .inr ⟨g,tot,_,tt,h3,hw,by simp[hspl,h5],by rw[hlen]; exact h6,h7,h8,?_,?_,?_⟩
 .intro y hy
  simp only[splice',List.mem_append]at hy
  rcases hy with(hy|hy)|hy
  .exact h9 y (List.mem_of_mem_take hy)
  .exact hsz y hy
  .exact h9 y (List.mem_of_mem_drop hy)
 .intro y hy
  simp only[List.toList_toArray,splice,List.mem_append]at hy
  rcases hy with(hy|hy)|hy
  .exact h10 y (List.mem_of_mem_take hy)
  .exact hone y hy
  .exact h10 y (List.mem_of_mem_drop hy)
 .rw [hlen,AwC h9 hsz]
  have e1:(splice cur.toList (k*e) cells).take (l.length*e)=splice (cur.toList.take (l.length*e)) (k*e) cells:=by
   apply List.ext_getElem?;intro i;rw[List.getElem?_take,AbN (by rw[hcl,hcurl]; omega),AbN (by rw[List.length_take,hcurl,Nat.min_eq_left hle,hcl]; omega)];simp only[List.getElem?_take]
   by_cases hi:i<l.length*e
   .simp [hi]
   .have:¬ i<k*e:=by omega
    have h2':¬ i<k*e+cells.length:=by rw[hcl]; omega
    simp only[hi,this,h2',if_false]
  simp only[List.toList_toArray];rw[e1];exact(h11.splice hrl _).mono (fun _ _ _ x=>x) (fun v a lf=>⟨lf.1,AbT hb (fun _ _=>rfl) (Or.inl ⟨rfl,hlen,rfl⟩:(_/\_/\_)\/_) lf.2⟩)
section
variable {t tx ty el:TypeId}{src:Value}{cells:List Value}{L:List AV}{r:Result Next}
theorem BaL(m:Mine h ρ sto w)(ht:P.underlying t=some (.slice el))(hs:Src P (tsize P el) tx src L.length cells w)(hrl:RL h (Lf ρ sto) false cells (flat L))(hsz:∀ x∈L,(cellsOf x).length=tsize P el)
  {dst:Value} {id off len cap:Nat} {l:List AV} (hb:sto[id]? = some (.arr (tsize P el) l)) (hd:LfC ρ sto dst (.sl id off len cap))
  (hr:r=((Builtin.append_ #[t,tx] ty #[dst,src]).run P w).andThen fun v w'=>.ok (.value v) w') (hp:0<tsize P el) (hne:len≠cap) (hcap:off+cap=l.length) (hroom:len+L.length<=cap) :
  Okv h ρ sto w r (.sl id off (len+L.length) cap) (sto.set id (.arr (tsize P el) (splice' l (off+len) L))):=by
 have hid:=(List.getElem?_eq_some_iff.1 hb).1;simp only[LfC,hb]at hd
 rcases hd.2 hcap with⟨h5,h6,_⟩|⟨g,tot,h5,rfl,h7⟩
 .omega
 .rcases m.own id _ hb with⟨_,hno⟩|⟨g',tot',cur,tt,h3,h4,h5',h6,h7',h8,h9,h10,h11⟩
  .simp [hno]at h5
  .rw [h3]at h5
   simp only[Option.some.injEq,Prod.mk.injEq]at h5;obtain⟨rfl,rfl⟩:=h5;have hle:(off+(len+L.length))*tsize P el<=tot'*tsize P el:=Nat.mul_le_mul_right _ (by omega);rw[Nat.add_mul]at hle;rw[AnI (ty:=ty) ht hp h4 hs (by omega) (by rw[h5']; exact hle),<- Nat.add_mul]at hr;have hm:=AnK m hb h3 h4 h5' h6 h7' h8 h9 h10 h11 hrl hsz hs.one (k:=off+len) (by omega);refine⟨_,_,_,_,.inl hr,hm.1,hm.2,.leaf ⟨rfl,?_⟩⟩;have hlen:(splice' l (off+len) L).length=l.length:=AhU (by omega);simp only[LfC,List.getElem?_set_self hid,hlen];exact⟨by omega,fun _=>.inr ⟨g',tot',h3,rfl,hroom⟩⟩
end
theorem BhM{t tx ty el:TypeId}{k:IntKind}(ht:P.underlying t=some (.slice el))(hk:P.underlying tx=some (.int k))(hp:0<tsize P el)(hz:(zav P el).length=tsize P el){n:Nat}(hn:0<n)
  (hb:n*tbytes P el<=140737488355328) (hm:n<=9223372036854775807):∃ z:Value,P.info? el≠none/\zcells P el=z.cells.toList/\z.cells.size=tsize P el/\n<=grownCap w n 0 el/\grownCap w n 0 el<=maxLen /\
  (Builtin.append_ #[t,tx] ty #[.slice none 0 0,.int .i64 n]).run P w=.ok (.slice (some ⟨w.heap.size,0,none⟩) n (grownCap w n 0 el)) (w.drew.alloc (.cells (Builtin.zeroCells z.cells n++Builtin.zeroCells z.cells (grownCap w n 0 el-n)) el)):=by
 obtain⟨i,z,hi,his,hib,hiz,hzc,hzs⟩:=AeW hp hz;have hge:=grownCap_ge w n 0 el;have hcm:grownCap w n 0 el<=maxLen:=grownCap_le_maxLen w n 0 el (by simpa[maxLen]using hm);refine⟨z,by simp[hi],hzc,hzs,hge,hcm,?_⟩;have hw:IntKind.i64.wrap (n:Int)=n:=AgX (k:=.i64) ⟨by omega,by omega⟩;have h0:¬ ((n:Int)<0):=by omega
 have hb':¬ (281474976710656<(n:Int)*(i.bytes:Int)):=by
  rw[hib];have:(n:Int)*(tbytes P el:Int)=((n*tbytes P el:Nat):Int):=by simp
  omega
 have hn0:n≠0:=by omega
 have hsz:¬ (n*i.size=0):=by rw[his]; exact Nat.ne_of_gt (Nat.mul_pos hn hp)
 have h63:¬ (9223372036854775807<(n:Int)):=by omega
 have hfit:=growslice_fits (need:=n) (old:=0) (bytes:=tbytes P el) (by omega) hb;have h48:¬ (281474976710656<Builtin.nextslicecap n 0*i.bytes):=by rw[hib]; omega
 have hle:¬ (n<=0):=by omega
 simp[Builtin.append_,run_underlying ht,run_underlying hk,sizeOf,typeInfo,zeroValue,hi,hiz,asInt,asIntOf,hw,h0,hb',hle,hn0,h63,h48,hsz,Question.forced,newRow,grownCap,Builtin.firstCells]
theorem AiF{row:Bool}{z:List AV}{sz:Nat}(hz:z.length=sz)(hr:row=false->sz=1)(h1:z.all one=true):cellsOf (AnA row z)=z:=by
 cases row with
 | true=>rfl
 | false =>
  have:=hr rfl
  match z,(by omega:z.length=1)with
  | [y],_ =>
   simp at h1
   exact AaQ h1
theorem AmF{x:AV}{z:List AV}(hx:cellsOf x=z):∀ n,flat (List.replicate n x)=rep z n
 | 0=>rfl
 | n+1=>by rw[List.replicate_succ]; simp only[flat,rep,hx,AmF hx n]
theorem BhN{z:List AV}(n c:Nat)(hnc:n<=c):(rep z c).take (n*z.length)=rep z n:=by
 obtain⟨d,rfl⟩:=Nat.exists_eq_add_of_le hnc
 induction n with
 | zero=>simp[rep]
 | succ n ih =>
  rw[show n+1+d=(n+d)+1 by omega];simp only[rep];rw[show(n+1)*z.length=z.length+n*z.length by rw[Nat.succ_mul]; omega,List.take_length_add_append,ih (by omega)]
theorem BoA{t tx ty el:TypeId}{row:Bool}(m:Mine h ρ sto w)(ht:P.underlying t=some (.slice el))(hk:isI (P.underlying tx)=true){r:Result Next}{n:Int}
  (hr:r=((Builtin.append_ #[t,tx] ty #[.slice none 0 0,.int .i64 n]).run P w).andThen fun v w'=>.ok (.value v) w') (hp:0<tsize P el) (hz:(zav P el).length=tsize P el) (hrow:row=false->tsize P el=1) (hone:(zav P el).all one=true)
  (h0:0<=n) (hb:n*tbytes P el<=140737488355328) (hm:n<=9223372036854775807):Okv h ρ sto w r (.sl sto.length 0 n.toNat n.toNat) (sto++[.arr (tsize P el) (List.replicate n.toNat (AnA row (zav P el)))]):=by
 obtain⟨k,hk⟩:∃ k,P.underlying tx=some (.int k):=by
  unfold isI at hk
  split at hk
  .rename_i k hq; exact⟨k,hq⟩
  .cases hk
 obtain⟨n,rfl⟩:=Int.eq_ofNat_of_zero_le h0;simp only[Int.toNat_natCast]
 by_cases hn:n=0
 .subst hn
  obtain⟨i,z,hi,his,hib,hiz,hzc,hzs⟩:=AeW hp hz;have hrun:(Builtin.append_ #[t,tx] ty #[.slice none 0 0,.int .i64 0]).run P w=.ok (.slice none 0 0) w:=by
   have hw:IntKind.i64.wrap 0=0:=by decide
   simp[Builtin.append_,run_underlying ht,run_underlying hk,sizeOf,typeInfo,hi,asInt,asIntOf,hw]
  rw[show((0:Nat):Int)=0 from rfl,hrun]at hr;obtain⟨m1,l1⟩:=m.pushNil (tsize P el);exact⟨_,_,_,_,.inl hr,m1,l1,.leaf ⟨rfl,by simp only[LfC,List.replicate_zero,List.getElem?_concat_length]; exact⟨by simp,fun _=>.inl ⟨trivial,trivial,none,rfl⟩⟩⟩⟩
 .have hb':n*tbytes P el<=140737488355328:=by
   have:(n:Int)*(tbytes P el:Int)=((n*tbytes P el:Nat):Int):=by simp
   omega
  obtain⟨z,hi,hzc,hzs,hge,hcm,hrun⟩:=BhM (w:=w) (ty:=ty) ht hk hp hz (n:=n) (by omega) hb' (by omega);rw[hrun]at hr;generalize grownCap w n 0 el=tot at *;have hzl:z.cells.toList.length=tsize P el:=by simpa using hzs
  have hz0:∀ k,RL h (Lf ρ sto) false (Builtin.zeroCells z.cells k).toList (rep (zav P el) k):=by
   intro k;have:=AiV (h:=h) (ρ:=ρ) (sto:=sto) (z:=z.cells.toList) (fl:=false) k (by omega);rw[hzl]at this;unfold Builtin.zeroCells zav;rw[hzc,hzs]
   simpa using this
  have hone0:∀ k,∀ v∈(Builtin.zeroCells z.cells k).toList,v.oneCell'=true:=by
   intro k;refine AtD ?_ (by omega) k;intro u hu;rw[<- hzc]at hu;have hr:RL (fun _ _=>none) (Lf (fun _=>none) []) false (zcells P el) (zav P el):=AdW _;exact AeO hr hone u hu
  have hzel:=AiF (row:=row) hz hrow hone;have hlen:∀ k,(Builtin.zeroCells z.cells k).toList.length=k*tsize P el:=by intro k; simp[Builtin.zeroCells,hzs]
  have m0:=m.same (Same.drew w);have hm':=m0.push (.cells (Builtin.zeroCells z.cells n++Builtin.zeroCells z.cells (tot-n)) el) (.arr (tsize P el) (List.replicate n (AnA row (zav P el)))) (some tot) (by
   refine .inr ⟨w.heap.size,tot,_,el,by simp[upd],.of (heap_alloc_new w.drew _),?_,by simpa using hge,hcm,hp,?_,?_,?_⟩
   .have h1:=hlen n
    have h2:=hlen (tot-n);simp only[Array.length_toList]at h1 h2;rw[Array.size_append,h1,h2,<- Nat.add_mul]
    congr 1; omega
   .intro x hx
    rw[List.eq_of_mem_replicate hx,hzel,hz]
   .intro v hv
    rw[Array.toList_append,List.mem_append]at hv
    rcases hv with hv|hv
    .exact hone0 _ v hv
    .exact hone0 _ v hv
   .rw [AmF hzel,List.length_replicate,Array.toList_append,<- hlen n,List.take_left]
    exact(hz0 n).mono (fun _ _ _ x=>x) (fun _ _=>AiB))
  refine⟨_,_,_,_,.inl hr,hm'.1,(Later.same (Same.drew w)).trans hm'.2,.leaf ⟨rfl,?_⟩⟩
  simp[LfC,upd]
theorem BrW{c:Call}(hf:c.callee=.builtin .cap){o:Oper}{e:Env}{a:Act}(ho:o.op=.call c)(m:Mine h ρ sto w)(he:EnvOk h ρ sto e a) :
  Res.Sound P h ρ sto w ((execOp a.eval o).run P w) (A9U P e c.args.toList c.argTypes.toList):=by
 have hrun:(execOp a.eval o).run P w=((Builtin.cap_ c.argTypes o.type (c.args.map a.eval)).run P w).andThen fun v w'=>.ok (.value v) w':=by
  simp[execOp,ho,resolve,hf,invoke,builtin]
 rw[hrun];unfold A9U
 split
 .rename_i x xs t ts h1 h2
  have hx:=AaM he x;have e1:(c.args.map a.eval)[0]? = some (a.eval x):=by
   rw[<- Array.getElem?_toList,Array.toList_map,h1]; rfl
  have e2:c.argTypes[0]? = some t:=by rw[<- Array.getElem?_toList,h2]; rfl
  generalize a.eval x=u at *;unfold xcap
  split
  .rename_i el hd hv
   rw[hv]at hx;refine AaA m (u:=.int .i64 0) ?_ (.int _ _)
   simp[Builtin.cap_,e1,e2,run_underlying hd,AaS hx,goInt]
  .trivial
 .trivial
theorem BaM{c:Call}(hf:c.callee=.builtin .append){o:Oper}{e:Env}{a:Act}(ho:o.op=.call c)(m:Mine h ρ sto w)(he:EnvOk h ρ sto e a) :
  Res.Sound P h ρ sto w ((execOp a.eval o).run P w) (A9Y P e sto c.args.toList c.argTypes.toList):=by
 have hrun:(execOp a.eval o).run P w=((Builtin.append_ c.argTypes o.type (c.args.map a.eval)).run P w).andThen fun v w'=>.ok (.value v) w':=by
  simp[execOp,ho,resolve,hf,invoke,builtin]
 unfold A9Y
 split
 .rename_i x y t u h1 h2
  have hx:=AaM he x;have hy:=AaM he y;have e1:c.args.map a.eval=#[a.eval x,a.eval y]:=by
   apply Array.ext'; rw[Array.toList_map,h1]; rfl
  have e2:c.argTypes=#[t,u]:=by apply Array.ext'; rw[h2]
  rw[e1,e2]at hrun;generalize a.eval x=vx at *;generalize a.eval y=vy at *;generalize hr:(execOp a.eval o).run P w=r at *;unfold xapp
  split
  .rename_i el ht
   cases hu:AvT (P.underlying u)with
   | false =>
    simp only[cond_false]
    cases hu2:isI (P.underlying u)with
    | false=>trivial
    | true =>
     simp only[cond_true];unfold BnI
     split
     .rename_i n hv1 hv2
      rw[hv1]at hx;rw[hv2]at hy;have e1:=AaS hx;have e2:=AaK hy;subst e1 e2;intro⟨h0,h3,h4,h5,h6,h7,h8⟩;exact BoA m ht hu2 hrun h0 h3 h4 h5 h6 h7 h8
     .trivial
   | true =>
    simp only[cond_true];unfold BnH
    split
    .rename_i L p hs
     have key:p->∃ cells,Src P (tsize P el) u vy L.length cells w/\RL h (Lf ρ sto) false cells (flat L)/\(∀ x∈L,(cellsOf x).length=tsize P el):=fun hp=>by
      obtain⟨cells,k1,k2,k3,_⟩:=(BlW (P:=P) m hs hp hy).src hu;exact⟨cells,k1,k2,k3⟩
     unfold BnG
     split
     .rename_i hv
      rw[hv]at hx;have:=AaS hx;subst this;intro⟨hp,h0,h3,h4,h5,h6⟩;obtain⟨cells,k1,k2,k3⟩:=key hp;exact BaJ m ht k1 k2 k3 hrun h0 h3 h4 h5 h6
     .rename_i id off len cap hv
      rw[hv]at hx;have hl:=(AbO hx).2;unfold BnF
      split
      .rename_i ee l hb
       have hb':=AbU hb
       cases hq:len==cap with
       | true =>
        simp only[cond_true];intro⟨hp,h0,h3,h4,h5,h6,h7,h8,h9⟩;have hlc:len=cap:=by simpa using hq
        subst hlc h5 h6;obtain⟨cells,k1,k2,k3⟩:=key hp;exact BaK m ht k1 k2 k3 hb' hl hrun h0 h3 h4 h7 h8 h9
       | false =>
        simp only[cond_false];intro⟨hp,h0,h3,h4,h5⟩;subst h3;obtain⟨cells,k1,k2,k3⟩:=key hp;exact BaL m ht k1 k2 k3 hb' hl hrun h0 (by simpa using hq) h4 h5
      .trivial
     .trivial
    .trivial
  .trivial
 .trivial
theorem BoB{c:Call}(hf:c.callee=.builtin .copy){o:Oper}{e:Env}{a:Act}(ho:o.op=.call c)(m:Mine h ρ sto w)(he:EnvOk h ρ sto e a) :
  Res.Sound P h ρ sto w ((execOp a.eval o).run P w) (AvU P e sto c.args.toList c.argTypes.toList):=by
 have hrun:(execOp a.eval o).run P w=((Builtin.copy_ c.argTypes o.type (c.args.map a.eval)).run P w).andThen fun v w'=>.ok (.value v) w':=by
  simp[execOp,ho,resolve,hf,invoke,builtin]
 unfold AvU
 split
 .rename_i x y t u h1 h2
  have hx:=AaM he x;have hy:=AaM he y;have e1:c.args.map a.eval=#[a.eval x,a.eval y]:=by
   apply Array.ext'; rw[Array.toList_map,h1]; rfl
  have e2:c.argTypes=#[t,u]:=by apply Array.ext'; rw[h2]
  rw[e1,e2]at hrun;generalize a.eval x=vx at *;generalize a.eval y=vy at *;generalize hr:(execOp a.eval o).run P w=r at *
  split
  .rename_i el ht
   unfold BaA
   split
   .rename_i L p hs
    split
    .rename_i id off len cap hv
     rw[hv]at hx;have hl:=(AbO hx).2;unfold A9Z
     split
     .rename_i ee l hb
      have hb':=AbU hb;intro⟨hp,h0,h3,h4,h5⟩;subst h3;obtain⟨cells,k1,k2,k3,k4,k5⟩:=BlW (P:=P) m hs hp hy;have hid:=(List.getElem?_eq_some_iff.1 hb').1;simp only[LfC,hb']at hl;have hsize:(sizeOf el).run P w=.ok (tsize P el) w:=AbJ h0 w;have hmin:Nat.min L.length len<=L.length:=Nat.min_le_left _ _;have hcells:=k2 w rfl (Nat.min L.length len) hmin;have hcl:cells.length=L.length*tsize P el:=by rw[k3.length,AaL k4]
      rcases hl.2 h4 with⟨h6,h5',ad,rfl⟩|⟨g,tot,h5',rfl,h7⟩
      .subst h6
       have hst:splice' l off (L.take 0)=l:=by simp[splice']
       rw[hst,set_same hb'];refine⟨.int .i64 (min L.length 0:Nat),_,_,_,.inl ?_,m,.refl ..,.int _ _⟩
       simp at hcells
       generalize at0 ad=ad at hrun |-
       cases ad <;> simp[hrun,Builtin.copy_,run_underlying ht,k1,hsize,hcells,goInt,storeCells]
      .rcases m.own id _ hb' with⟨_,hno⟩|⟨g',tot',cur,tt,j3,j4,j5,j6,j7,j8,j9,j10,j11⟩
       .simp [hno]at h5'
       .rw [j3]at h5'
        simp only[Option.some.injEq,Prod.mk.injEq]at h5';obtain⟨rfl,rfl⟩:=h5';have hL:(L.take len).length=min L.length len:=by simp[Nat.min_comm]
        have hrl2:RL h (Lf ρ sto) false (cells.take (Nat.min L.length len*tsize P el)) (flat (L.take len)):=by
         have:L.take len=L.take (Nat.min L.length len):=by
          rcases Nat.le_total L.length len with hh|hh
          .rw [show Nat.min L.length len=L.length from Nat.min_eq_left hh,List.take_length,List.take_of_length_le hh]
          .rw [show Nat.min L.length len=len from Nat.min_eq_right hh]
         rw[this,<- AbX k4];exact k3.take _
        have hcl2:(cells.take (Nat.min L.length len*tsize P el)).length=min L.length len*tsize P el:=by
         rw[hrl2.length,AaL (fun x hx=>k4 x (List.mem_of_mem_take hx)),hL]
        have hle:(off+min L.length len)*tsize P el<=tot'*tsize P el:=Nat.mul_le_mul_right _ (by omega);rw[Nat.add_mul]at hle;have hone:∀ v∈cells.take (Nat.min L.length len*tsize P el),v.oneCell'=true:=fun v hv=>k5 v (List.mem_of_mem_take hv)
        have hst:=AbD P g' (off*tsize P el) tt (cells.take (Nat.min L.length len*tsize P el)) 0 cur w j4 (by rw[Nat.add_zero,hcl2,j5]; exact hle) hone;simp only[Nat.add_zero]at hst;have hm:=AnK m hb' j3 j4 j5 j6 j7 j8 j9 j10 j11 hrl2 (fun x hx=>k4 x (List.mem_of_mem_take hx)) hone (k:=off) (by rw[hL]; omega);refine⟨.int .i64 (min L.length len:Nat),_,_,_,.inl ?_,hm.1,hm.2,.int _ _⟩;rw[hrun];simp only[Builtin.copy_,List.getElem?_toArray,List.getElem?_cons_zero,List.getElem?_cons_succ,Sem.run_bind,run_underlying ht,Result.andThen_ok,k1,hsize,hcells,Sem.run_pure,goInt,hst,List.toList_toArray];rfl
     .trivial
    .trivial
   .trivial
  .trivial
 .trivial
end
