/- A strings.Builder beside the table: its two blocks are nobody's; what it holds is said of. -/
import Derived.Test.YtlldmgboedknfaaGreatDoorC11
import Derived.Lib.Builder
import Derived.Lib.AppendStr
import Derived.Lib.UnsafeStr
import Derived.Below
set_option linter.unusedSimpArgs false
set_option linter.unusedVariables false
set_option linter.unusedSectionVars false
namespace Go.Av
open Go Go.RowKit
structure Fr(w w':World)(b:Nat)(r:Option Nat):Prop where
 os:w'.os=w.os
 tape:w'.tape=w.tape
 output:w'.output=w.output
 size:w.heap.size<=w'.heap.size
 block:∀ k,k<w.heap.size->k≠b->some k≠r->w'.heap[k]? = w.heap[k]?
def Lone(h:Mem)(ρ:Own)(b:Nat):Prop:=(∀ i t,ρ i≠some (b,t))/\∀ o,h b o=none
def rowOf(w:World)(b:Nat):Option Nat:=(w.cell? ⟨b,1,none⟩).bind Value.ownBlock
def BldA(T e:TypeId)(B b:Nat)(l:List UInt8)(h:Mem)(ρ:Own)(w:World):Prop :=
 Lib.IsBuilder T e B b (Lib.byteCells l) w/\Lone h ρ b/\∀ r,rowOf w b=some r->Lone h ρ r
section
variable {h h':Mem}{ρ ρ':Own}{sto sto':List Blk}{w w':World}{T e:TypeId}{B b:Nat}{l:List UInt8}
theorem Lone.later(m:Mine h ρ sto w)(x:Later h ρ sto w h' ρ' sto' w'){k:Nat}(hk:k<w.heap.size)(a:Lone h ρ k):Lone h' ρ' k:=by
 refine⟨fun i t hi=>?_,fun o=>?_⟩
 .rcases x.newown i k t hi with⟨j,t',hj⟩|hs
  .exact a.1 j t' hj
  .omega
 .cases hq:h' k o with
  | none=>rfl
  | some v =>
   rcases x.hnew k o (a.2 o) (by simp[hq])with⟨j,t',hj⟩|hs
   .exact (a.1 j t' hj).elim
   .omega
theorem AnS(hb:Lib.IsBuilder T e B b (Lib.byteCells l) w):∃ p v,(p=.pointer none\/p=.pointer (some ⟨b,0,none⟩))/\B<=b/\w.heap[b]? = some (.cells #[p,v] T (0,0))/\w.ownsRow B e 1 v (Lib.byteCells l).length (Lib.byteCells l)/\v.ownBlock≠some b /\
  rowOf w b=v.ownBlock:=by
 rcases hb with⟨h1,v,h2,h3,h4⟩|⟨h1,v,h2,h3,h4⟩
 .exact ⟨_,v,.inl rfl,h1,h2,h3,h4,by simp[rowOf,World.cell?,h2]⟩
 .exact ⟨_,v,.inr rfl,h1,h2,h3,h4,by simp[rowOf,World.cell?,h2]⟩
theorem BmC{p v:Value}(hp:p=.pointer none\/p=.pointer (some ⟨b,0,none⟩))(h1:B<=b)(h2:w.heap[b]? = some (.cells #[p,v] T (0,0)))(h3:w.ownsRow B e 1 v (Lib.byteCells l).length (Lib.byteCells l))(h4:v.ownBlock≠some b) :
  Lib.IsBuilder T e B b (Lib.byteCells l) w:=by
 rcases hp with rfl|rfl
 .exact .inl ⟨h1,v,h2,h3,h4⟩
 .exact .inr ⟨h1,v,h2,h3,h4⟩
theorem AwN{v:Value}{n:Nat}{xs:List Value}(hr:∀ k,v.ownBlock=some k->w'.heap[k]? = w.heap[k]?)(x:w.ownsRow B e 1 v n xs):w'.ownsRow B e 1 v n xs:=by
 refine⟨x.1,?_⟩
 rcases x.2 with h|⟨g,cap,cur,rfl,h2,h3,h4⟩
 .exact .inl h
 .exact .inr ⟨g,cap,cur,rfl,h2,(hr g rfl).trans h3,h4⟩
theorem BbC(T e:TypeId)(B b:Nat)(l:List UInt8):Stb (BldA T e B b l) where
 later:=by
  rintro h ρ sto w h' ρ' sto' w' m x ⟨h1,h2,h3⟩;obtain⟨p,v,p1,p2,p3,p4,p5,p6⟩:=AnS h1;have hb:b<w.heap.size:=(Array.getElem?_eq_some_iff.1 p3).1;have hrow:∀ k,v.ownBlock=some k->k<w.heap.size/\Lone h ρ k:=fun k hk=>⟨(p4.lt k hk).2,h3 k (by rw[p6]; exact hk)⟩
  have e1:w'.heap[b]? = w.heap[b]?:=x.block b hb h2.1;have e2:∀ k,v.ownBlock=some k->w'.heap[k]? = w.heap[k]?:=fun k hk=>x.block k (hrow k hk).1 (hrow k hk).2.1
  have p3':=e1.trans p3;refine⟨BmC p1 p2 p3' (AwN e2 p4) p5,h2.later m x hb,fun r hr=>?_⟩;have:rowOf w' b=v.ownBlock:=by simp[rowOf,World.cell?,p3']
  rw[this]at hr;exact(hrow r hr).2.later m x (hrow r hr).1
 fewer:=by
  rintro h ρ ρ' w hf ⟨h1,h2,h3⟩;have key:∀ k,Lone h ρ k->Lone h ρ' k:=fun k a=>⟨fun i t hi=>by
   obtain⟨j,t',hj⟩:=hf i k t hi;exact a.1 j t' hj,a.2⟩
  exact⟨h1,key b h2,fun r hr=>key r (h3 r hr)⟩
theorem WQ_x(c:Cx)(x:Mem->Own->World->Prop)(hx:Stb x):∀ k,WQ { c with x:=x,hx:=hx } k=WQ c k
 | []=>by funext ex a w; cases ex <;> rfl
 | y::k=>by
  have ih:=WQ_x c x hx k
  funext ex a w
  cases ex <;> cases y <;> simp only[WQ,ih]
variable {c:Cx}{k:List It}{en:Env}{s:List Blk}
theorem BsJ{o:Oper}{all os:List Oper}{t:Tmp}{i:TypeInfo}(ho:o.op=.alloc T)(hg:o.guard=none)(hd:o.dst=some t){N:Nat}(hN:c.fn.ntmps=N)(hdt:t<N)(hi:c.P.info? T=some i)
  (hz:i.zero=some (.agg #[.pointer none,.slice none 0 0])) (e:TypeId)
  (hk:∀ b,c.w.heap.size<=b->AWp { c with x:=BldA T e c.w.heap.size b [],hx:=BbC T e c.w.heap.size b [] } (.ops all os::k) (put en (some t) (.raw (.pointer (some ⟨b,0,none⟩)))) s) :
  AWp c (.ops all (o::os)::k) en s:=by
 rintro a w ⟨h,ρ,hm,hl,he,hdf,hsz,hX⟩;have hr:(execOp a.eval o).run c.P w=.ok (.value (.pointer (some ⟨w.heap.size,0,none⟩))) (w.alloc (.cells #[.pointer none,.slice none 0 0] T)):=by
  simp[execOp,ho,Instr.alloc,zeroValue,typeInfo,hi,hz,newVar,newRow,Value.cells]
 have sm:=Same.alloc w (.cells #[.pointer none,.slice none 0 0] T);have hb:(w.alloc (.cells #[.pointer none,.slice none 0 0] T)).heap[w.heap.size]? = some (.cells #[.pointer none,.slice none 0 0] T (0,0)):=heap_alloc_new w _;have hlone:Lone h ρ w.heap.size:=⟨fun i t hi=>by have:=hm.lt hi; omega,fun o=>by
  cases hq:h w.heap.size o with
  | none=>rfl
  | some v=>have:=hm.memlt hq; omega⟩
 have hbld:BldA T e c.w.heap.size w.heap.size [] h ρ (w.alloc (.cells #[.pointer none,.slice none 0 0] T)):=by
  refine⟨BmC (.inl rfl) hl.size hb ⟨rfl,.inl ⟨rfl,rfl⟩⟩ (by simp[Value.ownBlock]),hlone,fun r hr=>?_⟩;have h0:rowOf (w.alloc (.cells #[.pointer none,.slice none 0 0] T)) w.heap.size=none:=by
   simp only[rowOf,World.cell?,hb]; rfl
  rw[h0]at hr
  cases hr
 have:=hk w.heap.size hl.size (a.put (some t) (.pointer (some ⟨w.heap.size,0,none⟩))) (w.alloc (.cells #[.pointer none,.slice none 0 0] T))
  ⟨h,ρ,hm.same sm,hl.trans (Later.same sm),he.put (by rw[hsz,hN]; simpa[dOk]using hdt) (.raw _),by rw[AaE]; exact hdf,by rw[AaP]; exact hsz,hbld⟩
 rw[WQ_x]at this
 show wpList c.P all.toArray (WQ c k) (o::os) a w
 unfold wpList;rw[if_pos (by simp[Region.wanted,hg])];refine .inl ?_;unfold Oper.wp;rw[hr]
 show wpList c.P all.toArray (WQ c k) os (a.put o.dst _) _
 rw[hd];exact this
theorem Mine.fr(m:Mine h ρ sto w){r:Option Nat}(f:Fr w w' b r)(hb:Lone h ρ b)(hr:∀ k,r=some k->Lone h ρ k):Mine h ρ sto w':=by
 have hne:∀ k,(∃ i t,ρ i=some (k,t))\/(∃ o v,h k o=some v)->k≠b/\some k≠r:=by
  intro k hk;refine⟨fun e=>?_,fun e=>?_⟩
  .subst e
   rcases hk with⟨i,t,hi⟩|⟨o,v,ho⟩
   .exact hb.1 i t hi
   .rw [hb.2 o]at ho; cases ho
  .have hl:=hr k e.symm
   rcases hk with⟨i,t,hi⟩|⟨o,v,ho⟩
   .exact hl.1 i t hi
   .rw [hl.2 o]at ho; cases ho
 refine⟨fun k o v e=>?_,fun id blk e=>?_,m.out,m.inj,m.disj⟩
 .obtain ⟨h1,h2⟩:=hne k (.inr ⟨o,v,e⟩)
  exact⟨(World.cell?_of_block (f.block k (m.memlt e) h1 h2)).trans (m.mem k o v e).1,(m.mem k o v e).2⟩
 .exact (m.own id blk e).mono (fun _ _ _ x=>x) (fun _ _ x=>x) rfl (fun g t hg=>f.block g (m.lt hg) (hne g (.inl ⟨id,t,hg⟩)).1 (hne g (.inl ⟨id,t,hg⟩)).2)
def BbD(P:Program)(f:FuncId)(T e:TypeId):Prop:=AaB P f=true/\∀ (B b:Nat)(bs:List Value)(s:ByteArray)(w:World),Lib.IsBuilder T e B b bs w->bs.length+s.size<=140737488355328->B<=w.heap.size ->
 Calls P f #[.pointer (some ⟨b,0,none⟩),.string s] w fun en w'=>en=.returned (.tuple #[.int .i64 s.size,.nilIface])/\Lib.BuilderAt T e B b (.pointer (some ⟨b,0,none⟩)) (bs++Lib.strCells s) w'/\Fr w w' b (rowOf w b) /\
  ∀ r,rowOf w' b=some r->rowOf w b=some r\/w.heap.size<=r
theorem A3X{f:FuncId}(hw:BbD c.P f T e){x:List UInt8}{d:Option Tmp}{all os:List Oper}(hx:c.x=BldA T e B b l)(hB:B=c.w.heap.size){N:Nat}(hN:c.fn.ntmps=N)(hd:dOk N d=true)(hlen:l.length+x.length<=140737488355328)
  (hk:AWp { c with x:=BldA T e B b (l++x),hx:=BbC T e B b (l++x) } (.ops all os::k) (put en d (.tup [.int .i64 x.length,.raw .nilIface])) s) :
  AdY c f [.raw (.pointer (some ⟨b,0,none⟩)),.str x] d all os k en s:=by
 intro a w h ρ vs hm hl he hdf hsz hX hv;rw[hx]at hX;obtain⟨h1,h2,h3⟩:=hX;refine⟨hw.1,?_⟩;have hvs:vs=[.pointer (some ⟨b,0,none⟩),.string ⟨x.toArray⟩]:=by
  cases hv with|cons r1 r2=>cases r2 with|cons r2 r3=>cases r3; rw[AaS r1,AaY r2]
 subst hvs;obtain⟨p,v,p1,p2,p3,p4,p5,p6⟩:=AnS h1;refine(hw.2 B b _ ⟨x.toArray⟩ w h1 (by rw[Lib.byteCells_length]; exact hlen) (by have:=hl.size; omega)).mono ?_;rintro en' w' ⟨rfl,hb,hf,hnew⟩;have hm':=hm.fr hf h2 h3;have hrow:∀ r,rowOf w b=some r->B<=r:=fun r hr=>by rw[p6]at hr; exact(p4.lt r hr).1
 have hl':Later c.h c.ρ c.sto c.w h ρ s w':=⟨hl.hle,hl.hnew,hl.keep,hf.os.trans hl.os,hf.tape.trans hl.tape,⟨hf.output.trans hl.output.1,trivial⟩,Nat.le_trans hl.size hf.size,fun k' hk' hno=>by
  rw[hf.block k' (Nat.lt_of_lt_of_le hk' hl.size) (by omega) (fun e=>by have:=hrow k' e.symm; omega)];exact hl.block k' hk' hno,hl.newown⟩
 have hcells:Lib.byteCells l++Lib.strCells ⟨x.toArray⟩=Lib.byteCells (l++x):=by simp[Lib.byteCells,Lib.strCells]
 rw[hcells]at hb;have hbd:BldA T e B b (l++x) h ρ w':=by
  have hbi:Lib.IsBuilder T e B b (Lib.byteCells (l++x)) w':=.inr hb;obtain⟨p',v',q1,q2,q3,q4,q5,q6⟩:=AnS hbi;refine⟨hbi,h2,fun r hr=>?_⟩
  rcases hnew r hr with hold|hrs
  .exact h3 r hold
  .exact ⟨fun i t hi=>by have:=hm.lt hi; omega,fun o=>by
    cases hq:h r o with
    | none=>rfl
    | some v=>have:=hm.memlt hq; omega⟩
 have:=hk (a.put d _) w' ⟨h,ρ,hm',hl',he.put (by rw[hsz,hN]; exact hd) (.tup _ _ (.cons (.int _ _) (.cons (.raw _) .nil))),by rw[AaE]; exact hdf,by rw[AaP]; exact hsz,hbd⟩;rw[WQ_x]at this;exact this
def A0Y(P:Program)(f:FuncId)(T e:TypeId):Prop:=AaB P f=true/\∀ (B b:Nat)(l:List UInt8)(w:World),Lib.IsBuilder T e B b (Lib.byteCells l) w->B<=w.heap.size ->
 Calls P f #[.pointer (some ⟨b,0,none⟩)] w fun en w'=>en=.returned (.string ⟨l.toArray⟩)/\Below B w w'
theorem BoL{f:FuncId}(hw:A0Y c.P f T e){d:Option Tmp}{all os:List Oper}(hx:c.x=BldA T e B b l)(hB:B=c.w.heap.size)(hs0:c.sto=[])(hm0:Mine c.h c.ρ c.sto c.w){N:Nat}(hN:c.fn.ntmps=N)(hd:dOk N d=true)
  (hk:AWp { c with x:=X0,hx:=stb0 } (.ops all os::k) (put [] d (.str l)) []) :
  AdY c f [.raw (.pointer (some ⟨b,0,none⟩))] d all os k en s:=by
 intro a w h ρ vs hm hl he hdf hsz hX hv;rw[hx]at hX;obtain⟨h1,h2,h3⟩:=hX;refine⟨hw.1,?_⟩;have hvs:vs=[.pointer (some ⟨b,0,none⟩)]:=by
  cases hv with|cons r1 r2=>cases r2; rw[AaS r1]
 subst hvs;refine(hw.2 B b l w h1 (by have:=hl.size; omega)).mono ?_;rintro en' w' ⟨rfl,hb⟩;have hρ0:∀ i,c.ρ i=none:=fun i=>hm0.out i (by rw[hs0]; simp)
 have hcell:∀ k',k'<c.w.heap.size->w'.heap[k']? = c.w.heap[k']?:=fun k' hk'=>by
  rw[hb.block k' (by omega)];exact hl.block k' hk' (fun i t hi=>by rw[hρ0 i]at hi; cases hi)
 have hmine:Mine c.h (fun _=>none) [] w':=by
  refine⟨fun k' o v e'=>?_,fun id blk e'=>by simp at e',fun _ _=>rfl,fun i j g t t' e'=>by simp at e',fun i g t e'=>by simp at e'⟩;exact⟨(World.cell?_of_block (hcell k' (hm0.memlt e'))).trans (hm0.mem k' o v e').1,(hm0.mem k' o v e').2⟩
 have hlat:Later c.h c.ρ c.sto c.w c.h (fun _=>none) [] w':=by
  refine⟨fun _ _ _ x=>x,fun _ _ x y=>(y x).elim,fun v x lf=>?_,hb.os.trans hl.os,hb.tape.trans hl.tape,⟨hb.output.trans hl.output.1,trivial⟩,Nat.le_trans hl.size hb.size,fun k' hk' _=>hcell k' hk',fun i g t e'=>by simp at e'⟩;have:=lf.2;rw[hs0]at this
  cases x <;> simp[LfC]at this
 have:=hk (a.put d (.string ⟨l.toArray⟩)) w' ⟨c.h,fun _=>none,hmine,hlat,?_,by rw[AaE]; exact hdf,by rw[AaP]; exact hsz,trivial⟩
 .rw [WQ_x]at this
  exact this
 .have he0:EnvOk c.h (fun _=>none) [] [] a:=fun t=>.any _
  exact he0.put (by rw[hsz,hN]; exact hd) (.str _)
end
theorem A3Y{c0 c:Cx}{B:Code}{k:List It}{e:Env}{s:List Blk}(hc:c={ c0 with x:=c.x,hx:=c.hx })(h:AHd c B k e s):AWp c (.inv (Hd c0.P B (WQ c0 k))::k) e s:=fun a w hs=>by
 have h1:=h a w hs;have e1:WQ c k=WQ c0 k:=by rw[hc]; exact WQ_x c0 c.x c.hx k
 have e2:c.P=c0.P:=by rw[hc]
 rw[e1,e2]at h1;exact h1
end Go.Av
namespace Go.Av
open Go Go.RowKit
variable [Tr]
section
variable {h:Mem}{ρ:Own}{sto:List Blk}{w:World}{P:Program}
theorem Mine.freeze'(m:Mine h ρ sto w){id e:Nat}{l:List AV}(hb:sto[id]? = some (.arr e l))(hf:(flat l).all frozen=true) :
  ∃ h' ρ',(∀ i,i≠id->ρ' i=ρ i)/\Mine h' ρ' (sto.set id .dead) w/\Later h ρ sto w h' ρ' (sto.set id .dead) w /\
   (∀ v off len cap,LfC ρ sto v (.sl id off len cap)->off+cap=l.length->len<=cap->RV h' (Lf ρ' (sto.set id .dead)) false v (.fz e ((l.drop off).take len))) /\
   (∀ v k off,LfC ρ sto v (.ptr id l.length k off)->RV h' (Lf ρ' (sto.set id .dead)) false v (.pin e l k off)):=by
 have hid:=(List.getElem?_eq_some_iff.1 hb).1
 rcases m.own id _ hb with⟨rfl,hn⟩|⟨g,tot,cur,t,h3,h4,h5,h6,h7,h8,h9,h10,h11⟩
 .have hk:∀ v a,Lf ρ sto v a->Lf ρ (sto.set id .dead) v a:=fun v a l=>⟨l.1,AbT hb (fun _ _=>rfl) trivial l.2⟩
  refine⟨h,ρ,fun _ _=>rfl,⟨m.mem,?_,fun i hi=>m.out i (by simpa using hi),m.inj,m.disj⟩,⟨fun _ _ _ x=>x,fun _ _ a b=>(b a).elim,hk,rfl,rfl,⟨rfl,Tr.same rfl⟩,Nat.le_refl _,fun _ _ _=>rfl,fun i _ t x=>.inl ⟨i,t,x⟩⟩,?_,?_⟩
  .intro i blk e1
   by_cases hi:i=id
   .subst hi
    simp[hid]at e1
    subst e1;exact hn
   .rw [List.getElem?_set_ne (Ne.symm hi)]at e1
    exact(m.own i blk e1).mono (fun _ _ _ x=>x) hk rfl (fun _ _ _=>rfl)
  .intro v off len cap hl hc hlc
   simp only[LfC,hb]at hl
   rcases hl.2 hc with⟨rfl,rfl,a,rfl⟩|⟨g,tot,h1,_⟩
   .cases a with
    | none=>simpa[at0]using RV.fznil e
    | some a=>simpa[at0]using RV.fz (h:=h) (Lf:=Lf ρ (sto.set id .dead)) (fl:=false) a.1 a.2 0 e [] [] .nil (by simp) (by simp) (Nat.le_refl _)
   .simp [hn]at h1
  .intro v k off hl
   simp only[LfC,hb]at hl;have:=(hl.2 trivial).1
   simp at this
 .let h':Mem:=fun b o=>if b=g then cur.toList[o]? else h b o
  have hle:∀ b o v,h b o=some v->h' b o=some v:=by
   intro b o v e1;have:b≠g:=fun hq=>by subst hq; simp[m.disj id b tot h3 o]at e1
   simp[h',this,e1]
  have hk:∀ v a,Lf ρ sto v a->Lf (upd ρ id none) (sto.set id .dead) v a:=fun v a l=>⟨l.1,AbT hb (fun i hi=>by simp[upd,hi]) trivial l.2⟩
  have hown:∀ i b t,upd ρ id none i=some (b,t)->i≠id/\ρ i=some (b,t):=by
   intro i b t e1;unfold upd at e1
   split at e1
   .simp at e1
   .rename_i hi; exact⟨hi,e1⟩
  refine⟨h',upd ρ id none,fun i hi=>by simp[upd,hi],⟨?_,?_,?_,?_,?_⟩,⟨hle,?_,hk,rfl,rfl,⟨rfl,Tr.same rfl⟩,Nat.le_refl _,fun _ _ _=>rfl,fun i b t x=>.inl ⟨i,t,(hown i b t x).2⟩⟩,?_,?_⟩
  .intro b o v e1
   by_cases hq:b=g
   .subst hq
    simp only[h',if_true]at e1;refine⟨?_,h10 v (List.mem_of_getElem? e1)⟩;rw[h4.cell]
    simpa using e1
   .simp only [h',hq,if_false]at e1
    exact m.mem b o v e1
  .intro i blk e1
   by_cases hi:i=id
   .subst hi
    simp[hid]at e1
    subst e1
    simp[OwnB,upd]
   .rw [List.getElem?_set_ne (Ne.symm hi)]at e1
    exact(m.own i blk e1).mono hle hk (by simp[upd,hi]) (fun _ _ _=>rfl)
  .intro i hi
   simp at hi
   simp[upd,m.out i hi]
  .intro i j b t t' hi hj
   exact m.inj i j b t t' (hown i b t hi).2 (hown j b t' hj).2
  .intro i b t hi o
   obtain⟨h1,h2⟩:=hown i b t hi;have:b≠g:=fun hq=>by subst hq; exact h1 (m.inj i id _ _ _ h2 h3)
   simp[h',this,m.disj i b t h2 o]
  .intro b o e1 e2
   by_cases hq:b=g
   .subst hq; exact .inl ⟨id,tot,h3⟩
   .simp [h',hq,e1]at e2
  .intro v off len cap hl hc hlc
   simp only[LfC,hb]at hl;have hfl:=AaL h9;have hcurl:cur.toList.length=tot*e:=by simp[h5]
   rcases hl.2 hc with⟨rfl,rfl,a,rfl⟩|⟨g',tot',h1,rfl,_⟩
   .cases a with
    | none=>simpa[at0]using RV.fznil e
    | some a=>simpa[at0]using RV.fz (h:=h') (Lf:=Lf (upd ρ id none) (sto.set id .dead)) (fl:=false) a.1 a.2 0 e [] [] .nil (by simp) (by simp) (Nat.le_refl _)
   .rw [h3]at h1
    simp only[Option.some.injEq,Prod.mk.injEq]at h1;obtain⟨rfl,rfl⟩:=h1;have hlen:((l.drop off).take len).length=len:=by simp; omega
    have hr:RL h' (Lf (upd ρ id none) (sto.set id .dead)) true (((cur.toList.take (l.length*e)).drop (off*e)).take (len*e)) (flat ((l.drop off).take len)):=by
     rw[<- AbX (l:=l.drop off) (esz:=e) (fun x hx=>h9 x (List.mem_of_mem_drop hx)) len,<- AbC h9 off];exact(((AcW h11 hf).thaw (fun _ _ _ x=>x)).mono hle (fun _ _ x=>x) |>.drop _).take _
    have:=RV.fz (h:=h') (Lf:=Lf (upd ρ id none) (sto.set id .dead)) (fl:=false) g (off*e) (tot-off) e ((l.drop off).take len) _ hr (fun x hx=>h9 x (List.mem_of_mem_drop (List.mem_of_mem_take hx))) (fun k v hk=>by
     rw[List.getElem?_take]at hk
     split at hk
     .rw [List.getElem?_drop,List.getElem?_take]at hk
      split at hk
      .simp only [h',if_true]; exact hk
      .simp at hk
     .simp at hk) (by rw[hlen]; omega)
    rwa [hlen]at this
  .intro v k off hl
   simp only[LfC,hb]at hl;obtain⟨hk0,g',tot',h1,rfl⟩:=hl.2 trivial;rw[h3]at h1;simp only[Option.some.injEq,Prod.mk.injEq]at h1;obtain⟨rfl,rfl⟩:=h1;have hr:RL h' (Lf (upd ρ id none) (sto.set id .dead)) true (cur.toList.take (l.length*e)) (flat l):=((AcW h11 hf).thaw (fun _ _ _ x=>x)).mono hle (fun _ _ x=>x);have:=RV.pin (h:=h') (Lf:=Lf (upd ρ id none) (sto.set id .dead)) (fl:=false) g 0 e l _ k off hr h9 (fun j v hk=>by
    rw[List.getElem?_take]at hk
    split at hk
    .simp only [h',if_true,Nat.zero_add]; exact hk
    .simp at hk) hk0
   simpa using this
def frz1(id e:Nat)(l:List AV):AV->AV
 | .sl i off len cap=>bif i==id&&(decide (off+cap=l.length)&&decide (len<=cap)) then .fz e ((l.drop off).take len) else .sl i off len cap
 | .ptr i n k off=>bif i==id&&decide (n=l.length) then .pin e l k off else .ptr i n k off
 | a=>a
def frz(id e:Nat)(l:List AV):AV->AV
 | .agg r=>.agg (r.map (frz1 id e l))
 | .fn f r=>.fn f (r.map (frz1 id e l))
 | a=>frz1 id e l a
def frzC(id e:Nat)(l:List AV):AV->AV
 | .agg r=>.agg (r.map (frz1 id e l))
 | a=>frz1 id e l a
def frzB(id e:Nat)(l:List AV):Blk->Blk
 | .arr es r=>.arr es (r.map (frzC id e l))
 | .mp es=>.mp (es.map fun x=>(x.1,frz id e l x.2))
 | b=>b
theorem frz_cells(id e:Nat)(l:List AV)(x:AV):cellsOf (frzC id e l x)=(cellsOf x).map (frz1 id e l):=by
 cases x with
 | sl i off len cap =>
  simp only[frzC,frz1,cellsOf,List.map_cons,List.map_nil]
  cases(i==id&&(decide (off+cap=l.length)&&decide (len<=cap))) <;> rfl
 | ptr i n k off =>
  simp only[frzC,frz1,cellsOf,List.map_cons,List.map_nil]
  cases(i==id&&decide (n=l.length)) <;> rfl
 | _=>rfl
theorem frz_flat(id e:Nat)(l:List AV):∀ r,flat (r.map (frzC id e l))=(flat r).map (frz1 id e l)
 | []=>rfl
 | x::r=>by simp only[List.map_cons,flat,frz_cells,frz_flat id e l r,List.map_append]
theorem BoM{ρ:Own}{sto:List Blk}{v:Value}{a:AV}(id e:Nat)(l:List AV)(x:LfC ρ sto v a):LfC ρ (sto.map (frzB id e l)) v a:=by
 cases a with
 | sl i off len cap =>
  simp only[LfC,List.getElem?_map]at x |-
  cases hq:sto[i]? with
  | none=>rw[hq]at x; exact x.elim
  | some b=>rw[hq]at x; cases b <;> simp only[Option.map_some,frzB,List.length_map]at x |- <;> exact x
 | ptr i n k off =>
  simp only[LfC,List.getElem?_map]at x |-
  cases hq:sto[i]? with
  | none=>rw[hq]at x; exact x.elim
  | some b=>rw[hq]at x; cases b <;> simp only[Option.map_some,frzB,List.length_map]at x |- <;> exact x
 | mp i =>
  simp only[LfC,List.getElem?_map]at x |-
  cases hq:sto[i]? with
  | none=>rw[hq]at x; exact x.elim
  | some b=>rw[hq]at x; cases b <;> simp only[Option.map_some,frzB]at x |- <;> exact x
 | _=>exact x
theorem BbE{ρ:Own}{sto:List Blk}(id e:Nat)(l:List AV)(v:Value)(a:AV)(x:Lf ρ sto v a):Lf ρ (sto.map (frzB id e l)) v a:=⟨x.1,BoM id e l x.2⟩
theorem Mine.frz(m:Mine h ρ sto w){id e:Nat}{l:List AV}(hb:sto[id]? = some (.arr e l))(hf:(flat l).all frozen=true) :
  ∃ h' ρ',Mine h' ρ' ((sto.set id .dead).map (frzB id e l)) w/\Later h ρ sto w h' ρ' ((sto.set id .dead).map (frzB id e l)) w /\
   ∀ v a,RV h (Lf ρ sto) false v a->RV h' (Lf ρ' ((sto.set id .dead).map (frzB id e l))) false v (frz id e l a):=by
 obtain⟨h',ρ',hr,m',lt,key,keyp⟩:=m.freeze' hb hf;have hkeep:∀ v a,Lf ρ sto v a->Lf ρ' ((sto.set id .dead).map (frzB id e l)) v a:=fun v a x=>BbE id e l v a (lt.keep v a x)
 have k1:∀ v a,RV h (Lf ρ sto) false v a->RV h' (Lf ρ' ((sto.set id .dead).map (frzB id e l))) false v (frz1 id e l a):=by
  intro v a x
  cases a with
  | sl i off len cap =>
   simp only[frz1]
   cases hq:(i==id&&(decide (off+cap=l.length)&&decide (len<=cap)))with
   | false=>exact x.mono lt.hle hkeep
   | true =>
    simp only[Bool.and_eq_true,beq_iff_eq,decide_eq_true_eq]at hq;obtain⟨rfl,h1,h2⟩:=hq;exact(key v off len cap (AbO x).2 h1 h2).mono (fun _ _ _ y=>y) (fun v a y=>BbE i e l v a y)
  | ptr i n k off =>
   simp only[frz1]
   cases hq:(i==id&&decide (n=l.length))with
   | false=>exact x.mono lt.hle hkeep
   | true =>
    simp only[Bool.and_eq_true,beq_iff_eq,decide_eq_true_eq]at hq;obtain⟨rfl,rfl⟩:=hq;exact(keyp v k off (AcV x).2).mono (fun _ _ _ y=>y) (fun v a y=>BbE i e l v a y)
  | _=>exact x.mono lt.hle hkeep
 have kl:∀ (r:List AV) (vs:List Value),RL h (Lf ρ sto) false vs r->RL h' (Lf ρ' ((sto.set id .dead).map (frzB id e l))) false vs (r.map (frz1 id e l)):=by
  intro r
  induction r with
  | nil=>intro vs x; cases x; exact .nil
  | cons a r ih=>intro vs x; cases x with|cons x1 x2=>exact .cons (k1 _ _ x1) (ih _ x2)
 have k2:∀ v a,RV h (Lf ρ sto) false v a->RV h' (Lf ρ' ((sto.set id .dead).map (frzB id e l))) false v (Go.Av.frz id e l a):=by
  intro v a x
  cases a with
  | agg r =>
   cases x with
   | leaf p=>exact p.2.elim
   | agg vs _ x=>exact .agg vs _ (kl _ _ x)
  | fn f r =>
   cases x with
   | leaf p=>exact p.2.elim
   | fn _ vs _ x=>exact .fn f vs _ (kl _ _ x)
  | _=>exact k1 _ _ x
 refine⟨h',ρ',⟨m'.mem,?_,fun i hi=>m'.out i (by simpa using hi),m'.inj,m'.disj⟩,⟨lt.hle,lt.hnew,hkeep,lt.os,lt.tape,lt.output,lt.size,lt.block,lt.newown⟩,k2⟩;intro i blk e1
 by_cases hi:i=id
 .subst hi
  have hid:=(List.getElem?_eq_some_iff.1 hb).1;have e2:=m'.own i .dead (by simp[hid])
  simp[List.getElem?_map,hid,frzB]at e1
  subst e1;exact e2
 .rw [List.getElem?_map,List.getElem?_set_ne (Ne.symm hi)]at e1
  obtain⟨b,hb',rfl⟩:=Option.map_eq_some_iff.1 e1;have o:=m.own i b hb'
  cases b with
  | arr es r =>
   rcases o with⟨h1,h2⟩|⟨g,tot,cur,t,h1,h2,h3,h4,h5,h6,h7,h8,h9⟩
   .exact .inl ⟨by simp[h1],(hr i hi).trans h2⟩
   .refine .inr ⟨g,tot,cur,t,(hr i hi).trans h1,h2,h3,by simpa using h4,h5,h6,?_,h8,?_⟩
    .intro x hx
     obtain⟨y,hy,rfl⟩:=List.mem_map.1 hx;rw[frz_cells,List.length_map];exact h7 y hy
    .rw [frz_flat,List.length_map]
     exact kl _ _ h9
  | mp es =>
   obtain⟨g,en,cl,h1,h2,h3,h4,h5⟩:=o;refine⟨g,en,cl,(hr i hi).trans h1,h2,by rw[lvs_map]; simpa using h3,fun k x y hx hy=>?_,h5.map _⟩;rw[lvs_map,List.getElem?_map]at hx;obtain⟨x',hx',rfl⟩:=Option.map_eq_some_iff.1 hx;obtain⟨p,q⟩:=h4 k x' y hx' hy;exact⟨p.mono lt.hle hkeep,k2 _ _ q⟩
  | it mid n seen =>
   obtain⟨g,gm,h1,h2,h3,h4⟩:=o;exact⟨g,gm,(hr i hi).trans h1,h2,hkeep _ _ h3,h4⟩
  | dead=>exact(hr i hi).trans o
variable {c:Cx}{en:Env}{s:List Blk}
def frzE(id e:Nat)(l:List AV):Env->Env
 | []=>[]
 | (t,v)::r=>(t,frz id e l v)::frzE id e l r
theorem get_frzE(id e:Nat)(l:List AV)(t:Nat):∀ r,get (frzE id e l r) t=frz id e l (get r t)
 | []=>rfl
 | (t',v)::r=>by
  have ih:=get_frzE id e l t r;simp only[frzE,Go.Av.get]
  cases t'==t with
  | true=>rfl
  | false=>exact ih
theorem Shift.frz(id:Nat){es:Nat}{l:List AV}(hb:s.getD id .dead=.arr es l)(hf:(flat l).all frozen=true) :
  Shift c en s (frzE id es l en) ((s.set id .dead).map (frzB id es l)):=by
 rintro a w ⟨hh,ρ,hm,hlt,he,hdf,hsz,hX⟩;obtain⟨h',ρ',m',l',key⟩:=hm.frz (AbU hb) hf;refine⟨h',ρ',m',hlt.trans l',fun t=>?_,hdf,hsz,c.hx.later hm l' hX⟩;rw[get_frzE];exact key _ _ (he t)
end
end Go.Av
namespace Go.Av
open Go Go.RowKit
variable [Tr]
section
variable {c:Cx}{k:List It}{e:Env}{s:List Blk}{B:Code}
theorem BbF{e:Exit}{a:Act}{w:World}(h:WQ c (.inv (WQ c k .normal)::k) e a w):WQ c k e a w:=by
 cases e with
 | normal=>exact h
 | exit id=>exact h
 | ret=>exact h
 | _=>exact h
theorem BoN{J:Act->World->Prop}{id:Nat}{e:Exit}{a:Act}{w:World}(h:WQ c (.inv J::.blk id::.inv (WQ c k .normal)::k) e a w):WQ c (.inv J::.blk id::k) e a w:=by
 cases e with
 | normal=>exact h
 | exit id' =>
  simp only[WQ]at h |-
  split at h
  .rename_i hi; rw[if_pos hi]; exact h
  .rename_i hi; rw[if_neg hi]; exact h
 | ret=>exact h
 | _=>exact h
theorem amid{κ:Type}{y:Code}(E:κ->Env)(S:κ->List Blk)(H:κ->Prop)(rest:∀ x,H x->AWp c k (E x) (S x))
  (step:∀ Q:Act->World->Prop,(∀ x,H x->∀ a w,Sim c (E x) (S x) a w->Q a w)->AWp c (.code y::.inv Q::k) e s):AWp c (.code y::k) e s:=by
 intro a w hs;have:=step (WQ c k .normal) (fun x hx a w hs=>rest x hx a w hs) a w hs;exact Code.wp_mono (fun en a' w' hq=>BbF hq) (show y.wp c.P (WQ c (.inv (WQ c k .normal)::k)) a w from this)
theorem AlK{ι κ:Type}{id:Nat}(μ:ι->Nat)(E:ι->Env)(S:ι->List Blk)(H:ι->Prop)(Ex:κ->Env)(Sx:κ->List Blk)(Hx:κ->Prop)(x0:ι)(hH:H x0)(hs:Shift c e s (E x0) (S x0))
  (rest:∀ y,Hx y->AWp c k (Ex y) (Sx y))
  (step:∀ x,H x->∀ J Q:Act->World->Prop,(∀ y,H y->μ y<μ x->∀ a w,Sim c (E y) (S y) a w->J a w)->(∀ y,Hx y->∀ a w,Sim c (Ex y) (Sx y) a w->Q a w)->AWp c (.code B::.inv J::.blk id::.inv Q::k) (E x) (S x)) :
  AWp c (.code (.loop B)::.blk id::k) e s :=
 AaI μ E S H x0 hH hs fun x hx J hJ a w hsx =>
  Code.wp_mono (fun en a' w' hq=>BoN hq) (show B.wp c.P (WQ c (.inv J::.blk id::.inv (WQ c k .normal)::k)) a w from step x hx J (WQ c k .normal) hJ (fun y hy a w hs=>rest y hy a w hs) a w hsx)
end
