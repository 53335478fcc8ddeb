/- Slices: cuts, makes, appends, copies. -/
import Derived.Test.YtooohdocabpblaaGreatDoorV4
import Derived.Deep.AppendSrc
set_option linter.all false
namespace Go.Av
open RowKit
variable [Tr]
section
variable {h:Mem}{ρ:Own}{sto:LB}{w:World}{P:Program}
def SrcOk(P:Program)(h:Mem)(ρ:Own)(sto:LB)(w:World)(sz:Nat)(v:Value)(L:LA):Prop :=
 ∃ cells:List Value,(∀ w':World,(Builtin.lenOf v).run P w'=.ok L.length w')/\(∀ w':World,w'.heap=w.heap->∀ k,k<=L.length->(Builtin.firstCells sz k v).run P w'=.ok (cells.take (k*sz)).toArray w') /\
  RL h (Lf ρ sto) false cells (flat L)/\(∀ x∈L,(cellsOf x).length=sz)/\(∀ v∈cells,v.oneCell'=true)
theorem firstCells_at{w':World}{sz k b o len cap:Nat}{cells:List Value}(hk:k*sz<=cells.length)(hc:∀ (j:Nat) v,cells[j]? = some v->w'.cell? ⟨b,o+j,none⟩=some v) :
  (Builtin.firstCells sz k (.slice (some ⟨b,o,none⟩) len cap)).run P w'=.ok (cells.take (k*sz)).toArray w':=by
 grind[run_firstCells_some,Addr.add_mid]
theorem AiJ{w w':World}(hh:w'.heap=w.heap)(a:Addr):w'.cell? a=w.cell? a:=by grind[World.cell?]
theorem AkJ:∀ s:LU,flat (s.map AkA)=s.map AkA
 | []=>rfl
 | b::s=>by simp only[lak,flat]; rw[AkJ s]; rfl
theorem A2B(m:Mine h ρ sto w){sz:Nat}{v:Value}{x:AV}{L:LA}{p:Prop}(hs:ApR sto sz x=some (L,p))(hp:p)(r:RV h (Lf ρ sto) false v x):SrcOk P h ρ sto w sz v L:=by
 unfold ApR at hs
 split at hs
 .rename_i e l
  simp only[lad,laq]at hs;obtain⟨rfl,rfl⟩:=hs;subst hp
  rcases AeN r with⟨rfl,rfl⟩|⟨b,o,c,vs,rfl,h2,h3,h4,h5⟩
  .refine ⟨[],fun w'=>by simp[Builtin.lenOf],fun w' _ k hk=>?_,.nil,by simp,by simp⟩<;>simp_all[Builtin.firstCells]
  .have hl:=AaN h3
   have hvl:=h2.length;refine⟨vs,fun w'=>by simp[Builtin.lenOf],fun w' hw k hk=>?_,h2.thaw (fun _ _ _ x=>x),h3,?_⟩
   .have:k*e<=l.length*e:=lbk _ hk
    exact firstCells_at (by omega) (fun j v hj=>by rw[AiJ hw]; exact(m.mem b _ v (h4 j v hj)).1)
   .intro v hv
    obtain⟨j,hj,rfl⟩:=List.mem_iff_getElem.1 hv;exact(m.mem b _ _ (h4 j _ (by grind))).2
 .rename_i id off n cap
  unfold srcB at hs
  split at hs
  .rename_i e l hb
   simp only[lad,laq]at hs;obtain⟨rfl,rfl⟩:=hs;obtain⟨he,hcap,hn⟩:=hp;have hso:=AbS hb;have hl:=(AbN r).2;simp only[LfC,hso]at hl
   rcases hl.2 hcap with⟨h6,_,a,rfl⟩|⟨g,tot,h5,rfl,h7⟩
   .subst h6
    generalize at0 a=a at r |-;refine⟨[],fun w'=>by simp[Builtin.lenOf],fun w' _ k hk=>?_,by simpa[flat]using RL.nil,by simp,by simp⟩;have:k=0:=by grind
    subst this
    cases a <;> simp[Builtin.firstCells,loadCells,loadCellsFrom]
   .rcases m.own id _ hso with⟨_,hno⟩|⟨g',tot',cur,t,h3,h4,h5',h6,h7',h8,h9,h10,h11⟩
    .grind
    .rw [h3]at h5
     simp at h5
     obtain⟨rfl,rfl⟩:=h5;have hes:e=sz\/l=[]:=he;have hfd:=AaP h9 off;have hft:=AbD (l:=l.drop off) (fun x hx=>h9 x (lbi hx)) n;have hr:RL h (Lf ρ sto) false (((cur.toList.take (l.length*e)).drop (off*e)).take (n*e)) (flat ((l.drop off).take n)):=by
      rw[<- hft,<- hfd]; exact(h11.drop _).take _
     have hlen:((l.drop off).take n).length=n:=by grind
     have hcells:∀ x∈(l.drop off).take n,(cellsOf x).length=e:=fun x hx=>h9 x (lbi (lbb hx))
     have hvl:=hr.length;have hfl:=AaN hcells;rw[hlen]at hfl;have hall:∀ (j:Nat) v,(((cur.toList.take (l.length*e)).drop (off*e)).take (n*e))[j]? = some v->w.cell? ⟨g',off*e+j,none⟩=some v:=by
      intro j v hj;rw[h4.cell]
      grind
     have hone:∀ v∈((cur.toList.take (l.length*e)).drop (off*e)).take (n*e),v.oneCell'=true:=fun v hv=>h10 v (lbb (lbi (lbb hv)))
     rcases hes with rfl|hnil
     .refine ⟨_,fun w'=>by rw[hlen]; simp[Builtin.lenOf],fun w' hw k hk=>?_,hr,hcells,hone⟩<;>grind[lbk,firstCells_at,AiJ]
     .subst hnil
      have hn0:n=0:=by grind
      subst hn0;refine⟨[],fun w'=>by simp[Builtin.lenOf],fun w' hw k hk=>?_,by simpa[flat]using RL.nil,by simp,by simp⟩<;>simp_all[Builtin.firstCells,loadCells,loadCellsFrom]
  grind
 .simp only [lad,laq]at hs
  obtain⟨rfl,rfl⟩:=hs;rw[AaU r];exact⟨[],fun w'=>by simp[Builtin.lenOf],fun w' _ k hk=>by simp[Builtin.firstCells],.nil,by simp,by simp⟩
 .rename_i s
  simp only[lad,laq]at hs;obtain⟨rfl,rfl⟩:=hs;subst hp;rw[AaQ r];have hflat:flat (s.map AkA)=s.map AkA:=AkJ s;refine⟨s.map fun b=>.int .u8 b.toNat,fun w'=>?_,fun w' _ k hk=>?_,?_,?_,?_⟩
  .have:(ByteArray.mk s.toArray).size=s.length:=rfl
   simp_all[Builtin.lenOf]
  .grind[Builtin.firstCells,Sem.run_pure,ByteArray.data_extract]
  .rw [hflat]
   refine RL.of_get (by simp) fun k v a h1 h2=>?_
   simp at h1 h2
   cases hq:s[k]? with
   | none=>grind
   | some b=>simp[hq]at h1 h2; subst h1; subst h2; exact .int _ _
  .intro x hx; simp at hx; obtain⟨b,_,rfl⟩:=hx; rfl
  .intro v hv; simp at hv; obtain⟨b,_,rfl⟩:=hv; rfl
 grind
theorem sz_info{el:TypeId}(hp:0<tsize P el):∃ i,P.info? el=some i/\i.size=tsize P el/\i.bytes=AaK P el:=by
 cases hi:P.info? el<;>grind[tsize,AaK]
theorem AdQ{el:TypeId}(hp:0<tsize P el)(hz:(zav P el).length=tsize P el):∃ i z,P.info? el=some i/\i.size=tsize P el/\i.bytes=AaK P el/\i.zero=some z/\AcS P el=z.cells.toList/\z.cells.size=tsize P el:=by
 grind[sz_info,zav,AcS]
theorem SrcOk.src{sz:Nat}{tx:TypeId}{v:Value}{L:LA}(hu:AnG (P.underlying tx)=true)(s:SrcOk P h ρ sto w sz v L) :
  ∃ cells,Src P sz tx v L.length cells w/\RL h (Lf ρ sto) false cells (flat L)/\(∀ x∈L,(cellsOf x).length=sz)/\(∀ v∈cells,v.oneCell'=true):=by
 obtain⟨cells,h1,h2,h3,h4,h5⟩:=s;have hl:cells.length=L.length*sz:=by rw[h3.length,AaN h4]
 have ht:cells.take (L.length*sz)=cells:=by grind
 refine⟨cells,⟨?_,h1,?_,?_,hl,h5⟩,h3,h4,h5⟩
 .unfold AnG at hu
  grind
 .grind
 .rw [h2 w.drew rfl _ (lal _),ht]
theorem AiK{t tx ty el:TypeId}(ht:P.underlying t=some (.slice el))(hp:0<tsize P el){g o sLen sCap:Nat}{cur:Array Value}{tt:TypeId}
  (hg:HRow w g cur tt) {src:Value} {n:Nat} {cells:List Value} (hs:Src P (tsize P el) tx src n cells w) (hroom:sLen+n<=sCap) (hfit:o+(sLen+n)*tsize P el<=cur.size) :
  (Builtin.append_ #[t,tx] ty #[.slice (some ⟨g,o,none⟩) sLen sCap,src]).run P w=.ok (.slice (some ⟨g,o,none⟩) (sLen+n) sCap) (w.setRow g (splice cur.toList (o+sLen*tsize P el) cells).toArray):=by
 obtain⟨i,hi,his,hib⟩:=sz_info hp;rw[Nat.add_mul]at hfit;have hst:=AaT P g (o+sLen*tsize P el) tt cells 0 cur w hg (by rw[Nat.add_zero,hs.newsLen]; omega) hs.one;have hadd:(⟨g,o,none⟩:Addr).add (sLen*tsize P el)=⟨g,o+sLen*tsize P el,none⟩:=Addr.add_mid _ _ _
 rcases hs.kind with⟨e',hk⟩|hk <;> simp[Builtin.append_,run_underlying ht,run_underlying hk,sizeOf,typeInfo,hi,his,hs.len,hroom,hs.cells,hadd,hst,splice]
theorem AiL{t tx ty el:TypeId}(ht:P.underlying t=some (.slice el))(hp:0<tsize P el){a:Option Addr}{src:Value}{cells:List Value}(hs:Src P (tsize P el) tx src 0 cells w) :
  (Builtin.append_ #[t,tx] ty #[.slice a 0 0,src]).run P w=.ok (.slice a 0 0) w:=by
 obtain⟨i,hi,his,hib⟩:=sz_info hp;have hnil:=lbe (by simpa using hs.newsLen);have hc:=hs.cells;subst hnil
 cases a <;> rcases hs.kind with⟨e',hk⟩|hk <;> simp[Builtin.append_,run_underlying ht,run_underlying hk,sizeOf,typeInfo,hi,his,hs.len,hc,storeCells]
theorem ApZ{z:Array Value}(h1:∀ v∈z.toList,v.oneCell'=true)(h0:0<z.size)(n:Nat):∀ v∈(Builtin.zeroCells z n).toList,v.oneCell'=true:=by
 grind[Builtin.zeroCells,Nat.mod_lt]
theorem AeY{t tx ty el:TypeId}(ht:P.underlying t=some (.slice el))(hp:0<tsize P el)(hz:(zav P el).length=tsize P el)(hone:(zav P el).all one=true){base:Option Addr}{sLen sCap:Nat}{olds:List Value}
  (hold:(Builtin.firstCells (tsize P el) sLen (.slice base sLen sCap)).run P w.drew=.ok olds.toArray w.drew) {src:Value} {n:Nat} {cells:List Value} (hs:Src P (tsize P el) tx src n cells w) (hg:sCap<sLen+n)
  (hol:olds.length=sLen*tsize P el) (h1:∀ v∈olds,v.oneCell'=true) (hb:(sLen+n)*AaK P el<=140737488355328) (hm:sLen+n<=9223372036854775807) :
  ∃ tot cur,(Builtin.append_ #[t,tx] ty #[.slice base sLen sCap,src]).run P w=.ok (.slice (some ⟨w.heap.size,0,none⟩) (sLen+n) tot) (w.drew.alloc (.cells cur el)) /\
   cur.size=tot*tsize P el/\sLen+n<=tot/\tot<=maxLen/\(∀ v∈cur.toList,v.oneCell'=true)/\cur.toList.take ((sLen+n)*tsize P el)=olds++cells:=by
 obtain⟨i,z,hi,his,hib,hiz,hzc,hzs⟩:=AdQ hp hz;have hr:=run_append_grow_src w t tx ty el i z ht hi hiz base sLen sCap olds (by grind) src n cells (by grind) hg (by omega) (by simp_all[growslice_fits]);have hge:=grownCap_ge w (sLen+n) sCap el;have hcm:grownCap w (sLen+n) sCap el<=maxLen:=grownCap_le_maxLen w (sLen+n) sCap el (by grind[maxLen]);have hll:(olds++cells).length=(sLen+n)*tsize P el:=by rw[lat,hol,hs.newsLen,Nat.add_mul]
 refine⟨_,_,hr,?_,hge,hcm,?_,?_⟩
 .simp only [Array.size_append,List.size_toArray,hll,size_zeroCells,hzs,<- Nat.add_mul]
  grind
 .intro v hv
  simp only[Array.toList_append,List.mem_append]at hv
  rcases hv with(hv|hv)|hv
  .grind
  .exact hs.one v hv
  .refine ApZ ?_ (by omega) _ v hv
   intro u hu;have hr:RL (fun _ _=>none) (Lf (fun _=>none) []) false (AcS P el) (zav P el):=consts_ok _
   grind[AdP]
 grind
end
end Go.Av
namespace Go.Av
open RowKit
variable [Tr]
section
variable {h:Mem}{ρ:Own}{sto:LB}{w:World}{P:Program}
theorem Mine.pushNil(m:Mine h ρ sto w)(e:Nat):Mine h ρ (sto++[.arr e []]) w/\Later h ρ sto w h ρ (sto++[.arr e []]) w:=by
 have hρ:upd ρ sto.length none=ρ:=funext fun i=>by
  unfold upd; split
  .rename_i hi; rw[hi,m.out _ (lal _)]
  .rfl
 have hk:∀ v a,Lf ρ sto v a->Lf ρ (sto++[.arr e []]) v a:=fun v a l=>by
  grind[AeT]
 refine⟨⟨m.mem,?_,fun id hid=>m.out id (by grind),m.inj,m.disj⟩,⟨fun _ _ _ x=>x,fun _ _ a b=>(b a).elim,hk,rfl,rfl,⟨rfl,Tr.same rfl⟩,lal _,fun _ _ _=>rfl,fun i _ t x=>.inl ⟨i,t,x⟩⟩⟩;intro id blk e1
 by_cases hid:id<sto.length
 .rw [lao hid]at e1
  exact(m.own id blk e1).mono (fun _ _ _ x=>x) hk rfl (fun _ _ _=>rfl)
 .have hlt:=(List.getElem?_eq_some_iff.1 e1).1
  simp at hlt
  have:id=sto.length:=by omega
  subst this
  simp at e1
  subst e1;exact .inl ⟨rfl,m.out _ (lal _)⟩
theorem AtL{id e e':Nat}(hb:sto[id]? = some (.arr e []))(hn:ρ id=none){v:Value}{a:AV}(l:LfC ρ sto v a):LfC ρ (sto.set id (.arr e' [])) v a:=by
 cases a <;> simp only[LfC]at l |-
 all_goals grind
theorem AlM{id:Nat}{b:Blk}(hb:sto[id]? = some b):sto.set id b=sto:=by
 apply List.ext_getElem?
 grind
theorem Mine.setNil(m:Mine h ρ sto w){id e:Nat}(e':Nat)(hb:sto[id]? = some (.arr e []))(he:e=e'\/([]:LA)=[]/\e=0):Mine h ρ (sto.set id (.arr e' [])) w/\Later h ρ sto w h ρ (sto.set id (.arr e' [])) w:=by
 have hid:=(List.getElem?_eq_some_iff.1 hb).1
 rcases he with rfl|⟨_,rfl⟩
 .rw [AlM hb]; exact⟨m,.refl ..⟩
 have hn:ρ id=none:=by
  rcases m.own id _ hb with⟨_,hno⟩|⟨g',tot',cur,tt,h3,h4,h5',h6,h7',h8,h9,h10,h11⟩<;>omega
 have hk:∀ v a,Lf ρ sto v a->Lf ρ (sto.set id (.arr e' [])) v a:=fun v a l=>⟨l.1,AtL hb hn l.2⟩
 refine⟨⟨m.mem,?_,fun i hi=>m.out i (by grind),m.inj,m.disj⟩,⟨fun _ _ _ x=>x,fun _ _ a b=>(b a).elim,hk,rfl,rfl,⟨rfl,Tr.same rfl⟩,lal _,fun _ _ _=>rfl,fun i _ t x=>.inl ⟨i,t,x⟩⟩⟩;intro i blk e1
 by_cases hi:i=id
 .subst hi
  simp[hid]at e1
  subst e1;exact .inl ⟨rfl,hn⟩
 .rw [lba (Ne.symm hi)]at e1
  exact(m.own i blk e1).mono (fun _ _ _ x=>x) hk rfl (fun _ _ _=>rfl)
section
variable {t tx ty el:TypeId}{src:Value}{cells:List Value}{L:LA}{r:Result Next}
theorem AnO(w:World)(o:Obj):Same w (w.drew.alloc o):=(Same.drew w).trans (Same.alloc w.drew o)
theorem AvJ(w:World)(o:Obj):w.heap.size<(w.drew.alloc o).heap.size:=by simp
theorem AvK(m:Mine h ρ sto w)(ht:P.underlying t=some (.slice el))(hs:Src P (tsize P el) tx src L.length cells w)(hrl:RL h (Lf ρ sto) false cells (flat L))(hsz:∀ x∈L,(cellsOf x).length=tsize P el)
  (hr:r=((Builtin.append_ #[t,tx] ty #[.slice none 0 0,src]).run P w).andThen fun v w'=>.ok (.value v) w') (hp:0<tsize P el) (hz:(zav P el).length=tsize P el) (hone:(zav P el).all one=true)
  (hb:L.length*AaK P el<=140737488355328) (hm:L.length<=9223372036854775807):Okv h ρ sto w r (.sl sto.length 0 L.length L.length) (sto++[.arr (tsize P el) L]):=by
 by_cases hL:L.length=0
 .have:L=[]:=lbe hL
  subst this;rw[AiL ht hp hs]at hr;obtain⟨m1,l1⟩:=m.pushNil (tsize P el);exact⟨_,_,_,_,.inl hr,m1,l1,.leaf ⟨rfl,by simp only[LfC,List.getElem?_concat_length]; exact⟨by simp,fun _=>.inl ⟨rfl,rfl,none,rfl⟩⟩⟩⟩
 .obtain ⟨tot,cur,hrun,h1,h2,h3,h4,h5⟩:=AeY ht hp hz hone (base:=none) (sLen:=0) (sCap:=0) (olds:=[]) (by simp[Builtin.firstCells]) hs (by omega) (by simp) (by simp) (by grind) (by omega)
  rw[hrun]at hr
  simp at h2 h5 hr
  have m0:=m.same (Same.drew w);have hm:=m0.push (.cells cur el) (.arr (tsize P el) L) (some tot) (by
   refine .inr ⟨w.heap.size,tot,cur,el,by simp[upd],.of (heap_alloc_new w.drew _),h1,h2,h3,hp,hsz,h4,?_⟩;rw[h5];exact hrl.mono (fun _ _ _ x=>x) (fun _ _=>AeT))
  refine⟨_,_,_,_,.inl hr,hm.1,(Later.same (Same.drew w)).trans hm.2,.leaf ⟨rfl,?_⟩⟩
  simp[LfC,upd]
theorem AvL(m:Mine h ρ sto w)(ht:P.underlying t=some (.slice el))(hs:Src P (tsize P el) tx src L.length cells w)(hrl:RL h (Lf ρ sto) false cells (flat L))(hsz:∀ x∈L,(cellsOf x).length=tsize P el)
  {dst:Value} {id e:Nat} {l:LA} (hb:sto[id]? = some (.arr e l)) (hd:LfC ρ sto dst (.sl id 0 l.length l.length))
  (hr:r=((Builtin.append_ #[t,tx] ty #[dst,src]).run P w).andThen fun v w'=>.ok (.value v) w') (hp:0<tsize P el) (hz:(zav P el).length=tsize P el) (hone:(zav P el).all one=true)
  (he:e=tsize P el\/l=[]/\e=0)
  (hby:(l.length+L.length)*AaK P el<=140737488355328) (hm:l.length+L.length<=9223372036854775807):Okv h ρ sto w r (.sl id 0 (l.length+L.length) (l.length+L.length)) (sto.set id (.arr (tsize P el) (l++L))):=by
 simp only[LfC,hb]at hd
 rcases hd.2 (by omega)with⟨h5,_,a,rfl⟩|⟨g,tot,h5,rfl,h7⟩
 .have:l=[]:=lbe h5
  subst this
  by_cases hL:L.length=0
  .have:L=[]:=lbe hL
   subst this;rw[AiL ht hp hs]at hr;obtain⟨m1,l1⟩:=m.setNil (tsize P el) hb he;exact⟨_,_,_,_,.inl hr,m1,l1,.leaf ⟨rfl,by grind[LfC]⟩⟩
  .obtain ⟨tot,cur,hrun,h1,h2,h3,h4,h5⟩:=AeY ht hp hz hone (base:=at0 a) (sLen:=0) (sCap:=0) (olds:=[]) (by generalize at0 a=a; cases a <;> simp[Builtin.firstCells,loadCells,loadCellsFrom]) hs (by omega) (by simp) (by simp) (by omega) (by omega)
   rw[hrun]at hr
   simp at h2 h5 hr |-
   have hm:=m.move (l':=L) hb (by omega) tot (AnO w (.cells cur el)) (AvJ w _) (by
    refine .inr ⟨w.heap.size,tot,cur,el,by simp[upd],.of (heap_alloc_new w.drew _),h1,h2,h3,hp,hsz,h4,?_⟩;rw[h5];exact hrl.mono (fun _ _ _ x=>x) (fun v a lf=>⟨lf.1,AbL hb (fun i hi=>by grind[upd]) (Or.inr (by omega):(_/\_/\_)\/_) lf.2⟩))
   refine⟨_,_,_,_,.inl hr,hm.1,hm.2,.leaf ⟨rfl,?_⟩⟩<;>grind[LfC,upd]
 .rcases m.own id _ hb with⟨_,hno⟩|⟨g',tot',cur,tt,h3,h4,h5',h6,h7',h8,h9,h10,h11⟩
  .grind
  .rw [h3]at h5
   simp at h5
   obtain⟨rfl,rfl⟩:=h5;have hee:e=tsize P el:=by omega
   subst hee
   simp at hr h7
   have hfl:=AaN h9;have hcl:cells.length=L.length*tsize P el:=hs.newsLen;have hcurl:cur.toList.length=tot'*tsize P el:=by omega
   have hle:l.length*tsize P el<=tot'*tsize P el:=lbk _ h6
   by_cases hroom:l.length+L.length<=tot'
   .have hle2:(l.length+L.length)*tsize P el<=tot'*tsize P el:=lbk _ hroom
    rw[AiK (ty:=ty) ht hp h4 hs hroom (by omega),lbc]at hr;have hspl:(splice cur.toList (l.length*tsize P el) cells).length=cur.size:=by
     grind[splice_length]
    have hw:=h4.set (cs:=(splice cur.toList (l.length*tsize P el) cells).toArray) (by omega);have hset:∀ v a,Lf ρ sto v a->Lf ρ (sto.set id (.arr (tsize P el) (l++L))) v a:=fun v a lf=>⟨lf.1,AbL hb (fun _ _=>rfl) (by
     grind) lf.2⟩
    have hm:=m.write (w':=w.setRow g' (splice cur.toList (l.length*tsize P el) cells).toArray) hb h3 (b':=.arr (tsize P el) (l++L)) (by
      grind) rfl rfl ⟨rfl,Tr.same rfl⟩ (by simp) (fun k hk=>setRow_other w g' k _ hk) (by
     refine .inr ⟨g',tot',_,tt,h3,hw,by grind,by grind,h7',hp,?_,?_,?_⟩
     .grind
     .intro y hy
      simp only[List.toList_toArray,splice,List.mem_append]at hy
      rcases hy with(hy|hy)|hy
      .grind
      .exact hs.one y hy
      grind
     .have e1:(splice cur.toList (l.length*tsize P el) cells).take ((l++L).length*tsize P el)=cur.toList.take (l.length*tsize P el)++cells:=by
       grind[splice,Nat.add_mul]
      simp only[List.toList_toArray];rw[e1,flat_append];exact(h11.append hrl).mono (fun _ _ _ x=>x) hset)
    refine⟨_,_,_,_,.inl hr,hm.1,hm.2,.leaf ⟨rfl,?_⟩⟩<;>grind[LfC]
   .have hrd:=firstCells_at (P:=P) (w':=w.drew) (sz:=tsize P el) (k:=l.length) (b:=g') (o:=0) (len:=l.length) (cap:=tot') (cells:=cur.toList.take (l.length*tsize P el)) (by grind) (fun j v hj=>by
     rw[AiJ (w:=w) (w':=w.drew) rfl,h4.cell]
     grind)
    rw[List.take_take,Nat.min_self]at hrd;obtain⟨tot,cur',hrun,k1,k2,k3,k4,k5⟩:=AeY (ty:=ty) ht hp hz hone hrd hs (by omega) (by grind) (fun v hv=>h10 v (lbb hv)) hby hm;rw[hrun]at hr;have hm:=m.move (e':=tsize P el) (l':=l++L) hb (by grind) tot (AnO w (.cells cur' el)) (AvJ w _) (by
     refine .inr ⟨w.heap.size,tot,cur',el,by simp[upd],.of (heap_alloc_new w.drew _),k1,by grind,k3,hp,?_,k4,?_⟩
     .grind
     .rw [lat,k5,flat_append]
      exact(h11.append hrl).mono (fun _ _ _ x=>x) (fun v a lf=>⟨lf.1,AbL hb (fun i hi=>by grind[upd]) (Or.inr (by grind):(_/\_/\_)\/_) lf.2⟩))
    refine⟨_,_,_,_,.inl hr,hm.1,hm.2,.leaf ⟨rfl,?_⟩⟩<;>grind[LfC,upd]
end
end
end Go.Av
namespace Go.Av
open RowKit
variable [Tr]
section
variable {h:Mem}{ρ:Own}{sto:LB}{w:World}{P:Program}
theorem AnP{e:Nat}{l L:LA}(hl:∀ x∈l,(cellsOf x).length=e)(hL:∀ x∈L,(cellsOf x).length=e)(k:Nat):flat (AbM l k L)=splice (flat l) (k*e) (flat L):=by
 unfold AbM splice;rw[flat_append,flat_append,AbD hl,AaN hL,<- Nat.add_mul,AaP hl]
theorem splice'_length{l L:LA}{k:Nat}(hk:k+L.length<=l.length):(AbM l k L).length=l.length:=splice_length hk
theorem AiM(m:Mine h ρ sto w){id e:Nat}{l L:LA}(hb:sto[id]? = some (.arr e l)){g tot:Nat}{cur:Array Value}{tt:TypeId}(h3:ρ id=some (g,tot))(h4:HRow w g cur tt)
  (h5:cur.size=tot*e) (h6:l.length<=tot) (h7:tot<=maxLen) (h8:0<e) (h9:∀ x∈l,(cellsOf x).length=e) (h10:∀ v∈cur.toList,v.oneCell'=true) (h11:RL h (Lf ρ sto) false (cur.toList.take (l.length*e)) (flat l))
  {cells:List Value} (hrl:RL h (Lf ρ sto) false cells (flat L)) (hsz:∀ x∈L,(cellsOf x).length=e) (hone:∀ v∈cells,v.oneCell'=true) {k:Nat} (hk:k+L.length<=l.length) :
  Mine h ρ (sto.set id (.arr e (AbM l k L))) (w.setRow g (splice cur.toList (k*e) cells).toArray)/\Later h ρ sto w h ρ (sto.set id (.arr e (AbM l k L))) (w.setRow g (splice cur.toList (k*e) cells).toArray):=by
 have hcl:cells.length=L.length*e:=by rw[hrl.length,AaN hsz]
 have hlen:=splice'_length hk;have hle:l.length*e<=tot*e:=lbk _ h6;have hke:(k+L.length)*e<=l.length*e:=lbk _ hk;have hspl:(splice cur.toList (k*e) cells).length=cur.size:=by
  grind[splice_length]
 have hw:=h4.set (by omega);refine m.write hb h3 (.inl ⟨rfl,hlen⟩) rfl rfl ⟨rfl,Tr.same rfl⟩ (by simp) (fun k' hk'=>setRow_other w g k' _ hk') ?_;refine .inr ⟨g,tot,_,tt,h3,hw,by grind,by omega,h7,h8,?_,?_,?_⟩
 .grind[AbM]
 .grind[splice]
 .rw [hlen,AnP h9 hsz]
  have e1:(splice cur.toList (k*e) cells).take (l.length*e)=splice (cur.toList.take (l.length*e)) (k*e) cells:=by
   apply List.ext_getElem?
   grind[AbI]
  simp
  rw[e1];exact(h11.splice hrl _).mono (fun _ _ _ x=>x) (fun v a lf=>⟨lf.1,AbL hb (fun _ _=>rfl) (Or.inl ⟨rfl,hlen,rfl⟩:(_/\_/\_)\/_) lf.2⟩)
section
variable {t tx ty el:TypeId}{src:Value}{cells:List Value}{L:LA}{r:Result Next}
theorem AvM(m:Mine h ρ sto w)(ht:P.underlying t=some (.slice el))(hs:Src P (tsize P el) tx src L.length cells w)(hrl:RL h (Lf ρ sto) false cells (flat L))(hsz:∀ x∈L,(cellsOf x).length=tsize P el)
  {dst:Value} {id off len cap:Nat} {l:LA} (hb:sto[id]? = some (.arr (tsize P el) l)) (hd:LfC ρ sto dst (.sl id off len cap))
  (hr:r=((Builtin.append_ #[t,tx] ty #[dst,src]).run P w).andThen fun v w'=>.ok (.value v) w') (hp:0<tsize P el) (hne:len≠cap) (hcap:off+cap=l.length) (hroom:len+L.length<=cap) :
  Okv h ρ sto w r (.sl id off (len+L.length) cap) (sto.set id (.arr (tsize P el) (AbM l (off+len) L))):=by
 simp only[LfC,hb]at hd
 rcases hd.2 hcap with⟨h5,h6,_⟩|⟨g,tot,h5,rfl,h7⟩
 .omega
 .rcases m.own id _ hb with⟨_,hno⟩|⟨g',tot',cur,tt,h3,h4,h5',h6,h7',h8,h9,h10,h11⟩
  .grind
  .rw [h3]at h5
   simp at h5
   obtain⟨rfl,rfl⟩:=h5;have hle:(off+(len+L.length))*tsize P el<=tot'*tsize P el:=lbk _ (by omega);rw[Nat.add_mul]at hle;rw[AiK ht hp h4 hs (by omega) (by omega),<- Nat.add_mul]at hr;have hm:=AiM m hb h3 h4 h5' h6 h7' h8 h9 h10 h11 hrl hsz hs.one (k:=off+len) (by omega);refine⟨_,_,_,_,.inl hr,hm.1,hm.2,.leaf ⟨rfl,?_⟩⟩<;>grind[splice'_length,LfC]
end
theorem AzD{t tx ty el:TypeId}{k:IntKind}(ht:P.underlying t=some (.slice el))(hk:P.underlying tx=some (.int k))(hp:0<tsize P el)(hz:(zav P el).length=tsize P el){n:Nat}(hn:0<n)
  (hb:n*AaK P el<=140737488355328) (hm:n<=9223372036854775807):∃ z:Value,P.info? el≠none/\AcS P el=z.cells.toList/\z.cells.size=tsize P el/\n<=grownCap w n 0 el/\grownCap w n 0 el<=maxLen /\
  (Builtin.append_ #[t,tx] ty #[.slice none 0 0,.int .i64 n]).run P w=.ok (.slice (some ⟨w.heap.size,0,none⟩) n (grownCap w n 0 el)) (w.drew.alloc (.cells (Builtin.zeroCells z.cells n++Builtin.zeroCells z.cells (grownCap w n 0 el-n)) el)):=by
 obtain⟨i,z,hi,his,hib,hiz,hzc,hzs⟩:=AdQ hp hz;have hge:=grownCap_ge w n 0 el;have hcm:grownCap w n 0 el<=maxLen:=grownCap_le_maxLen w n 0 el (by grind[maxLen]);refine⟨z,by grind,hzc,hzs,hge,hcm,?_⟩;have hw:IntKind.i64.wrap (n:Int)=n:=AdC ⟨by omega,by omega⟩;have h0:¬ ((n:Int)<0):=by omega
 have hb':¬ (281474976710656<(n:Int)*(i.bytes:Int)):=by
  grind
 have hn0:n≠0:=by omega
 have hsz:¬ (n*i.size=0):=by simp_all[Nat.ne_of_gt]
 have h63:¬ (9223372036854775807<(n:Int)):=by omega
 have hfit:=growslice_fits (by omega) hb;have h48:¬ (281474976710656<Builtin.nextslicecap n 0*i.bytes):=by grind
 have hle:¬ (n<=0):=by omega
 simp[Builtin.append_,run_underlying ht,run_underlying hk,sizeOf,typeInfo,zeroValue,hi,hiz,asInt,asIntOf,hw,h0,hb',hle,hn0,h63,h48,hsz,Question.forced,newRow,grownCap,Builtin.firstCells]
theorem AeZ{row:Bool}{z:LA}{sz:Nat}(hz:z.length=sz)(hr:row=false->sz=1)(h1:z.all one=true):cellsOf (AhY row z)=z:=by
 cases row with
 | true=>rfl
 | false =>
  have:=hr rfl
  match z,(by omega:z.length=1)with
  | [y],_ =>
   simp at h1
   exact AaI h1
theorem flat_rep{x:AV}{z:LA}(hx:cellsOf x=z):∀ n,flat (List.replicate n x)=rep z n
 | 0=>rfl
 | n+1=>by rw[List.replicate_succ]; simp only[flat,rep,hx,flat_rep hx n]
theorem AzE{z:LA}(n c:Nat)(hnc:n<=c):(rep z c).take (n*z.length)=rep z n:=by
 obtain⟨d,rfl⟩:=Nat.exists_eq_add_of_le hnc
 induction n<;>grind[rep,Nat.succ_mul]
theorem A3Q{t tx ty el:TypeId}{row:Bool}(m:Mine h ρ sto w)(ht:P.underlying t=some (.slice el))(hk:isI (P.underlying tx)=true){r:Result Next}{n:Int}
  (hr:r=((Builtin.append_ #[t,tx] ty #[.slice none 0 0,.int .i64 n]).run P w).andThen fun v w'=>.ok (.value v) w') (hp:0<tsize P el) (hz:(zav P el).length=tsize P el) (hrow:row=false->tsize P el=1) (hone:(zav P el).all one=true)
  (h0:0<=n) (hb:n*AaK P el<=140737488355328) (hm:n<=9223372036854775807):Okv h ρ sto w r (.sl sto.length 0 n.toNat n.toNat) (sto++[.arr (tsize P el) (List.replicate n.toNat (AhY row (zav P el)))]):=by
 obtain⟨k,hk⟩:∃ k,P.underlying tx=some (.int k):=by
  unfold isI at hk
  grind
 obtain⟨n,rfl⟩:=Int.eq_ofNat_of_zero_le h0
 simp
 by_cases hn:n=0
 .subst hn
  obtain⟨i,z,hi,his,hib,hiz,hzc,hzs⟩:=AdQ hp hz;have hrun:(Builtin.append_ #[t,tx] ty #[.slice none 0 0,.int .i64 0]).run P w=.ok (.slice none 0 0) w:=by
   have hw:IntKind.i64.wrap 0=0:=by decide
   simp[Builtin.append_,run_underlying ht,run_underlying hk,sizeOf,typeInfo,hi,asInt,asIntOf,hw]
  rw[show((0:Nat):Int)=0 from rfl,hrun]at hr;obtain⟨m1,l1⟩:=m.pushNil (tsize P el);exact⟨_,_,_,_,.inl hr,m1,l1,.leaf ⟨rfl,by simp only[LfC,List.replicate_zero,List.getElem?_concat_length]; exact⟨by simp,fun _=>.inl ⟨trivial,trivial,none,rfl⟩⟩⟩⟩
 .have hb':n*AaK P el<=140737488355328:=by
   omega
  obtain⟨z,hi,hzc,hzs,hge,hcm,hrun⟩:=AzD ht hk hp hz (by omega) hb' (by omega);rw[hrun]at hr;generalize grownCap w n 0 el=tot at *;have hzl:z.cells.toList.length=tsize P el:=by omega
  have hz0:∀ k,RL h (Lf ρ sto) false (Builtin.zeroCells z.cells k).toList (rep (zav P el) k):=by
   grind[zeros_ok,Builtin.zeroCells,zav]
  have hone0:∀ k,∀ v∈(Builtin.zeroCells z.cells k).toList,v.oneCell'=true:=by
   intro k;refine ApZ ?_ (by omega) k;intro u hu;rw[<- hzc]at hu;have hr:RL (fun _ _=>none) (Lf (fun _=>none) []) false (AcS P el) (zav P el):=consts_ok _
   grind[AdP]
  have hzel:=AeZ hz hrow hone;have hlen:∀ k,(Builtin.zeroCells z.cells k).toList.length=k*tsize P el:=by grind[Builtin.zeroCells]
  have m0:=m.same (Same.drew w);have hm':=m0.push (.cells (Builtin.zeroCells z.cells n++Builtin.zeroCells z.cells (tot-n)) el) (.arr (tsize P el) (List.replicate n (AhY row (zav P el)))) (some tot) (by
   refine .inr ⟨w.heap.size,tot,_,el,by simp[upd],.of (heap_alloc_new w.drew _),?_,by grind,hcm,hp,?_,?_,?_⟩
   .have h1:=hlen n
    have h2:=hlen (tot-n)
    simp at h1 h2
    rw[Array.size_append,h1,h2,<- Nat.add_mul]
    grind
   .grind
   .grind
   .rw [flat_rep hzel,List.length_replicate,Array.toList_append,<- hlen n,List.take_left]
    exact(hz0 n).mono (fun _ _ _ x=>x) (fun _ _=>AeT))
  refine⟨_,_,_,_,.inl hr,hm'.1,(Later.same (Same.drew w)).trans hm'.2,.leaf ⟨rfl,?_⟩⟩
  simp[LfC,upd]
theorem A6P{c:Call}(hf:c.callee=.builtin .cap){o:Oper}{e:Env}{a:Act}(ho:o.op=.call c)(m:Mine h ρ sto w)(he:EnvOk h ρ sto e a) :
  Lc P h ρ sto w ((execOp a.eval o).run P w) (ApP P e c.args.toList c.argTypes.toList):=by
 have hrun:(execOp a.eval o).run P w=((Builtin.cap_ c.argTypes o.type (c.args.map a.eval)).run P w).andThen fun v w'=>.ok (.value v) w':=by
  simp_all[execOp,resolve,invoke,builtin]
 rw[hrun];unfold ApP
 split
 .rename_i x xs t ts h1 h2
  have hx:=AaF he x;have e1:(c.args.map a.eval)[0]? = some (a.eval x):=by
   rw[<- lbo,Array.toList_map,h1]; rfl
  have e2:c.argTypes[0]? = some t:=by rw[<- lbo,h2]; rfl
  unfold xcap
  split
  .rename_i el hd hv
   rw[hv]at hx;refine AaA m ?_ (.int _ _)
   simp[Builtin.cap_,e1,e2,run_underlying hd,AaU hx,goInt]
  .trivial
 .trivial
theorem AvN{c:Call}(hf:c.callee=.builtin .append){o:Oper}{e:Env}{a:Act}(ho:o.op=.call c)(m:Mine h ρ sto w)(he:EnvOk h ρ sto e a) :
  Lc P h ρ sto w ((execOp a.eval o).run P w) (ApS P e sto c.args.toList c.argTypes.toList):=by
 have hrun:(execOp a.eval o).run P w=((Builtin.append_ c.argTypes o.type (c.args.map a.eval)).run P w).andThen fun v w'=>.ok (.value v) w':=by
  simp_all[execOp,resolve,invoke,builtin]
 unfold ApS
 split
 .rename_i x y t u h1 h2
  have hx:=AaF he x;have hy:=AaF he y;have e1:c.args.map a.eval=#[a.eval x,a.eval y]:=by
   grind[Array.toList_map]
  have e2:c.argTypes=#[t,u]:=by grind
  generalize a.eval x=vx at *;generalize a.eval y=vy at *;unfold xapp
  split
  .rename_i el ht
   cases hu:AnG (P.underlying u)with
   | false =>
    cases hu2:isI (P.underlying u)with
    | false=>trivial
    | true =>
     unfold AvA
     split
     .rename_i n hv1 hv2
      rw[hv1]at hx;rw[hv2]at hy;have e1:=AaU hx;have e2:=AaE hy;subst e1 e2;intro⟨h0,h3,h4,h5,h6,h7,h8⟩
      grind[A3Q]
     .trivial
   | true =>
    simp
    unfold AyT
    split
    .rename_i L p hs
     have key:p->∃ cells,Src P (tsize P el) u vy L.length cells w/\RL h (Lf ρ sto) false cells (flat L)/\(∀ x∈L,(cellsOf x).length=tsize P el):=fun hp=>by
      obtain⟨cells,k1,k2,k3,_⟩:=(A2B m hs hp hy).src hu
      grind
     unfold AuZ
     split
     .rename_i hv
      rw[hv]at hx;have:=AaU hx;subst this;intro⟨hp,h0,h3,h4,h5,h6⟩
      grind[AvK]
     .rename_i id off len cap hv
      rw[hv]at hx;have hl:=(AbN hx).2;unfold AuY
      split
      .rename_i ee l hb
       have hb':=AbS hb
       cases hq:len==cap with
       | true =>
        simp
        intro⟨hp,h0,h3,h4,h5,h6,h7,h8,h9⟩;have hlc:len=cap:=by grind
        subst hlc h5 h6
        grind[AvL]
       | false =>
        simp
        intro⟨hp,h0,h3,h4,h5⟩
        grind[AvM]
      .trivial
     .trivial
    .trivial
  .trivial
 .trivial
theorem A3R{c:Call}(hf:c.callee=.builtin .copy){o:Oper}{e:Env}{a:Act}(ho:o.op=.call c)(m:Mine h ρ sto w)(he:EnvOk h ρ sto e a) :
  Lc P h ρ sto w ((execOp a.eval o).run P w) (AhZ P e sto c.args.toList c.argTypes.toList):=by
 have hrun:(execOp a.eval o).run P w=((Builtin.copy_ c.argTypes o.type (c.args.map a.eval)).run P w).andThen fun v w'=>.ok (.value v) w':=by
  simp_all[execOp,resolve,invoke,builtin]
 unfold AhZ
 split
 .rename_i x y t u h1 h2
  have hx:=AaF he x;have hy:=AaF he y;have e1:c.args.map a.eval=#[a.eval x,a.eval y]:=by
   grind[Array.toList_map]
  have e2:c.argTypes=#[t,u]:=by grind
  rw[e1,e2]at hrun;generalize a.eval x=vx at *
  split
  .rename_i el ht
   unfold AnI
   split
   .rename_i L p hs
    split
    .rename_i id off len cap hv
     rw[hv]at hx;have hl:=(AbN hx).2;unfold AnH
     split
     .rename_i ee l hb
      have hb':=AbS hb;intro⟨hp,h0,h3,h4,h5⟩;subst h3;obtain⟨cells,k1,k2,k3,k4,k5⟩:=A2B (P:=P) m hs hp hy;have hid:=(List.getElem?_eq_some_iff.1 hb').1;simp only[LfC,hb']at hl;have hsize:(sizeOf el).run P w=.ok (tsize P el) w:=AaR h0 w;have hmin:Nat.min L.length len<=L.length:=Nat.min_le_left _ _;have hcells:=k2 w rfl (Nat.min L.length len) hmin;have hcl:cells.length=L.length*tsize P el:=by rw[k3.length,AaN k4]
      rcases hl.2 h4 with⟨h6,h5',ad,rfl⟩|⟨g,tot,h5',rfl,h7⟩
      .subst h6
       have hst:AbM l off (L.take 0)=l:=by simp[AbM]
       rw[hst,AlM hb'];refine⟨.int .i64 (min L.length 0:Nat),_,_,_,.inl ?_,m,.refl ..,.int _ _⟩
       simp at hcells
       generalize at0 ad=ad at hrun |-
       cases ad <;> simp[hrun,Builtin.copy_,run_underlying ht,k1,hsize,hcells,goInt,storeCells]
      .rcases m.own id _ hb' with⟨_,hno⟩|⟨g',tot',cur,tt,j3,j4,j5,j6,j7,j8,j9,j10,j11⟩
       .grind
       .rw [j3]at h5'
        simp at h5'
        obtain⟨rfl,rfl⟩:=h5';have hL:(L.take len).length=min L.length len:=by grind
        have hrl2:RL h (Lf ρ sto) false (cells.take (Nat.min L.length len*tsize P el)) (flat (L.take len)):=by
         have:L.take len=L.take (Nat.min L.length len):=by
          grind
         rw[this,<- AbD k4];exact k3.take _
        have hcl2:(cells.take (Nat.min L.length len*tsize P el)).length=min L.length len*tsize P el:=by
         simp_all
        have hle:(off+min L.length len)*tsize P el<=tot'*tsize P el:=lbk _ (by omega);rw[Nat.add_mul]at hle;have hone:∀ v∈cells.take (Nat.min L.length len*tsize P el),v.oneCell'=true:=fun v hv=>k5 v (lbb hv)
        have hst:=AaT P g' (off*tsize P el) tt (cells.take (Nat.min L.length len*tsize P el)) 0 cur w j4 (by omega) hone;simp only[Nat.add_zero]at hst;have hm:=AiM m hb' j3 j4 j5 j6 j7 j8 j9 j10 j11 hrl2 (fun x hx=>k4 x (lbb hx)) hone (k:=off) (by omega);refine⟨.int .i64 (min L.length len:Nat),_,_,_,.inl ?_,hm.1,hm.2,.int _ _⟩;rw[hrun];simp only[Builtin.copy_,List.getElem?_toArray,lbp,List.getElem?_cons_succ,Sem.run_bind,run_underlying ht,Result.andThen_ok,k1,hsize,hcells,Sem.run_pure,goInt,hst,List.toList_toArray];rfl
     .trivial
    .trivial
   .trivial
  .trivial
 .trivial
end
