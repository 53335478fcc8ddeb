/- The operations that make or write memory of one's own; all operations together. -/
import Derived.Test.YtmhjbljckkgeoaaGreatDoorC2
import Derived.Great.BuildSlice
set_option linter.all false
namespace Go.Av
open RowKit
variable [Tr]
def splice{α:Type}(l:List α)(k:Nat)(vs:List α):List α:=l.take k++vs++l.drop (k+vs.length)
theorem AbZ{α:Type}{l vs:List α}{k:Nat}(hk:k+vs.length<=l.length)(i:Nat) :
  (splice l k vs)[i]? = if i<k then l[i]? else if i<k+vs.length then vs[i-k]? else l[i]?:=by
 grind[splice]
theorem splice_length{α:Type}{l vs:List α}{k:Nat}(hk:k+vs.length<=l.length):(splice l k vs).length=l.length:=by
 grind[splice]
theorem AhT:∀ (vs cs:LY)(off:Nat),off+vs.length<=cs.length->putCells cs off vs=splice cs off vs
 | [],cs,off,_=>by simp[putCells,splice]
 | v::r,cs,off,h=>by
  simp at h
  rw[putCells,AhT r (cs.set off v) (off+1) (by simp; omega)];apply lbo;intro i;rw[AbZ (by simp; omega),AbZ (by omega)];simp only[List.getElem?_set,lal]
  by_cases h1:i<off
  .have h2:¬ off=i:=by omega
   have h3:i<off+1:=by omega
   simp[h1,h2,h3]
  .by_cases h2:i=off
   .subst h2
    have:i<cs.length:=by omega
    simp[this]
   .have h3:¬ i<off+1:=by omega
    have h4:¬ off=i:=by omega
    have h5:i-off=(i-(off+1))+1:=by omega
    simp only[h1,h3,h4,if_false]
    by_cases h6:i<off+1+r.length
    .rw [if_pos h6,if_pos (by omega),h5]; simp
    .rw [if_neg h6,if_neg (by omega)]
section
variable {h:Mem}{ρ:Own}{sto:LB}{w:World}{P:Program}
theorem RL.splice{fl vs l vs' l'}(r:RL h (Lf ρ sto) fl vs l)(r':RL h (Lf ρ sto) fl vs' l')(k:Nat):RL h (Lf ρ sto) fl (splice vs k vs') (splice l k l'):=by
 unfold Go.Av.splice;rw[r'.length];exact((r.take k).append r').append (r.drop _)
theorem A0B{l:LY}{e j:Nat}(hl:∀ x∈l,(cellsOf x).length=e)(hj:j<l.length){x:AV}(hx:(cellsOf x).length=e) :
  flat (l.set j x)=splice (flat l) (j*e) (cellsOf x):=by
 have h1:l.set j x=l.take j++x::l.drop (j+1):=by grind[List.set_eq_take_append_cons_drop]
 rw[h1,flat_append,flat];unfold splice;rw[AbK hl j,hx,show j*e+e=(j+1)*e by grind,AaV hl (j+1),lca]
theorem AsC{l:LY}{e j off:Nat}{vs:LY}(hl:∀ x∈l,(cellsOf x).length=e)(hj:j<l.length)(hv:off+vs.length<=e) :
  splice (flat l) (j*e) (splice (cellsOf (l.getD j .any)) off vs)=splice (flat l) (j*e+off) vs:=by
 have hel:l[j]? = some (l.getD j .any):=by grind
 have hec:(cellsOf (l.getD j .any)).length=e:=hl _ (lar hel);have hfl:=AaP hl;have hsl:=splice_length (l:=cellsOf (l.getD j .any)) (k:=off) (vs:=vs) (by omega);have hb:(j+1)*e<=l.length*e:=lbg _ hj;rw[Nat.succ_mul]at hb;apply lbo;intro i;rw[AbZ (by omega),AbZ (k:=j*e+off) (by omega),hsl,hec]
 by_cases h1:i<j*e
 .grind
 .by_cases h2:i<j*e+e
  .rw [if_pos h2,AbZ (by omega)]
   have hg:(flat l)[i]? = (cellsOf (l.getD j .any))[i-j*e]?:=by
    have:=BiH hl (j:=i-j*e) hel (by omega)
    grind
   grind
  grind
theorem AaX{a:AV}(h1:one a=true):cellsOf a=[a]:=by cases a <;> first|rfl|cases h1
theorem AvL{old:AV}{cs:LY}(hl:cs.length=(cellsOf old).length)(h1:(∀ c,old≠.agg c)->cs.getD 0 .any=.any\/one (cs.getD 0 .any)=true):cellsOf (reElem old cs)=cs:=by
 have key:(∀ l,old≠.agg l)->cellsOf (reElem old cs)=cs:=by
  intro hn;have h2:cellsOf old=[old]:=by cases old <;> first|rfl|grind
  have h3:reElem old cs=cs.getD 0 .any:=by cases old <;> first|rfl|grind
  rw[h2]at hl
  match cs,hl with
  | [c],_ =>
   grind[cellsOf,AaX]
 cases old with
 | agg l=>rfl
 | _=>grind
theorem AlW{fl u a}(r:RV h (Lf ρ sto) fl u a)(h1:(cellsOf a).all one=true):RL h (Lf ρ sto) fl u.cells.toList (cellsOf a):=by
 by_cases ha:∃ l,a=.agg l
 .grind[inv_agg,Value.cells,cellsOf]
 .have hc:cellsOf a=[a]:=by cases a <;> first|rfl|grind
  rw[hc]at h1 |-
  simp at h1
  have ho:=AiM r h1;have:u.cells=#[u]:=by cases u <;> first|rfl|cases ho
  rw[this];exact .cons r .nil
theorem AfK{fl vs l}(r:RL h (Lf ρ sto) fl vs l)(h1:l.all one=true):∀ v∈vs,v.oneCell'=true:=by
 induction l generalizing vs with
 | nil=>cases r; simp
 | cons a l ih =>
  cases r<;>grind[AiM]
theorem A0C(m:Mine h ρ sto w){vs:List Value}{l:LY}{elem:AV}{t:TypeId}(rl:RL h (Lf ρ sto) false vs l)(hc:cellsOf elem=l){r:Result Next}
  (hr:r=.ok (.value (.pointer (some ⟨w.heap.size,0,none⟩))) (w.alloc (.cells vs.toArray t))):Lt P h ρ sto w r (xnew sto l elem):=by
 intro⟨hl,h1⟩;have hlen:=rl.length;have hone:=AfK rl h1;have hm:=m.push (.cells vs.toArray t) (.arr l.length [elem]) (some 1) (by
  refine .inr ⟨w.heap.size,1,vs.toArray,t,by simp[upd],.of (heap_alloc_new w _),by grind,by simp,by simp[maxLen],hl,by grind,by omega,?_⟩;simp only[List.toList_toArray,lal,laq,lay,Nat.one_mul,flat,hc,lbp];rw[<- hlen,lap];exact rl.mono (fun _ _ _ x=>x) (fun _ _=>AhR))
 refine⟨_,_,_,_,.inl hr,hm.1,hm.2,.leaf ⟨rfl,?_⟩⟩<;>grind[LfC,upd]
theorem BvA{t:TypeId}{x:Operand}{o:Oper}{e:Env}{a:Act}(ho:o.op=.box t x)(m:Mine h ρ sto w)(he:EnvOk h ρ sto e a) :
  Lt P h ρ sto w ((execOp a.eval o).run P w) (xbox (isRow (P.underlying t)) sto (ev e x)):=by
 have hx:=AaS he x;have hrun:(execOp a.eval o).run P w=.ok (.value (.pointer (some ⟨w.heap.size,0,none⟩))) (w.alloc (.cells (a.eval x).cells t)):=by
  simp_all[execOp,Instr.box,newVar,newRow]
 rw[hrun];generalize a.eval x=u at *;unfold xbox
 split
 .rename_i l h1 h2
  rw[h2]at hx;obtain⟨vs,rfl,rl⟩:=inv_agg hx;exact A0C (t:=t) m rl rfl (by simp[Value.cells])
 .cases hv:one (ev e x)with
  | false=>trivial
  | true =>
   have hc:=AlW hx (by grind[AaX]);rw[AaX hv]at hc;exact A0C (t:=t) m hc (AaX hv) (by simp)
 .trivial
theorem consts_ok{fl:Bool}:∀ vs:List Value,RL h (Lf ρ sto) fl vs (vs.map AdT)
 | []=>.nil
 | v::vs=>.cons (AjW v) (consts_ok vs)
theorem BiW{t:TypeId}{o:Oper}{a:Act}(ho:o.op=.alloc t)(m:Mine h ρ sto w) :
  Lt P h ρ sto w ((execOp a.eval o).run P w) (AiL sto (isRow (P.underlying t)) (zav P t)):=by
 have key:∀ {l:LY} {elem:AV},l=zav P t->cellsOf elem=l->Lt P h ρ sto w ((execOp a.eval o).run P w) (xnew sto l elem):=by
  intro l elem hl hc hp;subst hl;unfold zav AdB at hp
  cases hi:P.info? t with
  | none=>grind
  | some i =>
   cases hz:i.zero with
   | none=>grind
   | some z =>
    have hzc:AdB P t=z.cells.toList:=by grind[AdB]
    refine A0C (P:=P) (t:=t) m (vs:=z.cells.toList) ?_ hc ?_ (by exact hp)<;>simp_all[zav,consts_ok,execOp,Instr.alloc,zeroValue,typeInfo,newVar,newRow]
 unfold AiL
 cases isRow (P.underlying t)with
 | true=>exact key rfl rfl
 | false =>
  split
  .rename_i v hv
   intro hp;refine key hv.symm (AaX ?_) hp<;>grind
  .trivial
theorem BiX{t:TypeId}{x v:Operand}{o:Oper}{e:Env}{a:Act}(ho:o.op=.store t x v)(m:Mine h ρ sto w)(he:EnvOk h ρ sto e a) :
  Lt P h ρ sto w ((execOp a.eval o).run P w) (AqG (tsize P t) sto (ev e x) (ev e v)):=by
 have hx:=AaS he x;have hv:=AaS he v;have hrun:(execOp a.eval o).run P w=((Instr.storeAt t (a.eval x) (a.eval v)).run P w).andThen fun _ w'=>.ok .skip w':=by
  simp_all[execOp]
 rw[hrun];generalize a.eval x=u at *;generalize a.eval v=val at *;unfold AqG
 split
 .rename_i id n j off h1
  rw[h1]at hx;unfold AzY
  split
  .rename_i ee l hb
   intro⟨hpos,hn,hj,hsz,hoff,hone⟩;obtain⟨g,tot,cur,tt,h1,h2,h3,h4,h5,h6,h7,h8,h9,h10,h11,h12⟩:=ptr_place m hb hx hn;have hjl:j<l.length:=by omega
   have hel:l[j]? = some (l.getD j .any):=by grind
   have hec:(cellsOf (l.getD j .any)).length=ee:=h10 _ (lar hel);have hcs:=AlW hv hone;have hcl:=hcs.length;have hones:=AfK hcs hone;have hb2:(j+1)*ee<=l.length*ee:=lbg _ hjl;have hb3:l.length*ee<=tot*ee:=lbg _ h5;rw[Nat.succ_mul]at hb2;have hfit:(j*ee+off)+0+val.cells.toList.length<=cur.size:=by omega
   have hst:=AbQ P g (j*ee+off) tt val.cells.toList 0 cur w h3 hfit hones;simp only[Nat.add_zero]at hst;have hsize:(sizeOf t).run P w=.ok (tsize P t) w:=AbJ hpos w;have hrun2:(Instr.storeAt t u val).run P w=.ok () (w.setRow g (splice cur.toList (j*ee+off) val.cells.toList).toArray):=by
    rw[h2];have hs2:val.cells.size=tsize P t:=by grind
    simp only[Instr.storeAt,Instr.sureAddr,Sem.run_bind,Sem.run_pure,Result.andThen_ok,storeVar,hsize,hs2]
    simp
    exact hst
   have hspl:(splice cur.toList (j*ee+off) val.cells.toList).length=cur.size:=by grind[splice_length]
   have hw:=h3.set (by omega);have hpl:(cellsOf (ev e v)).length=val.cells.toList.length:=hcl.symm;have hpc:=AhT (cellsOf (ev e v)) (cellsOf (l.getD j .any)) off (by omega);have hre:cellsOf (reElem (l.getD j .any) (putCells (cellsOf (l.getD j .any)) off (cellsOf (ev e v))))=putCells (cellsOf (l.getD j .any)) off (cellsOf (ev e v)):=by
    have hsl:=splice_length (l:=cellsOf (l.getD j .any)) (k:=off) (vs:=cellsOf (ev e v)) (by omega);refine AvL (by grind) ?_;intro hc0;have hnot:(cellsOf (l.getD j .any)).length=1\/∃ c,l.getD j .any=.agg c:=by
     cases l.getD j .any <;> first|exact .inl rfl|grind
    grind[splice]
   replace hre:=hre.trans hpc
   generalize reElem (l.getD j .any) (putCells (cellsOf (l.getD j .any)) off (cellsOf (ev e v)))=el at hre |-;have hlen2:(l.set j el).length=l.length:=by simp
   have helc:(cellsOf el).length=ee:=by grind[splice_length]
   have hm:=m.write (w':=w.setRow g (splice cur.toList (j*ee+off) val.cells.toList).toArray) h9 h1 (b':=.arr ee (l.set j el)) (.inl ⟨rfl,hlen2⟩) rfl rfl ⟨rfl,Tr.same rfl⟩ (by simp) (fun k hk=>setRow_other w g k _ hk) (by
    refine .inr ⟨g,tot,_,tt,h1,hw,by grind,by omega,h6,h7,?_,?_,?_⟩
    .grind
    .grind[splice]
    .have hfl:=AaP h10
     have hcurl:cur.toList.length=tot*ee:=by omega
     rw[A0B h10 hjl helc,hre,AsC h10 hjl (by omega),hlen2];have e1:(splice cur.toList (j*ee+off) val.cells.toList).take (l.length*ee)=splice (cur.toList.take (l.length*ee)) (j*ee+off) val.cells.toList:=by
      apply lbo
      grind[AbZ]
     simp
     rw[e1];exact((h12.splice hcs _).mono (fun _ _ _ x=>x) (fun v a lf=>⟨lf.1,AbI h9 (fun _ _=>rfl) (Or.inl ⟨rfl,hlen2,rfl⟩:(_/\_/\_)\/_) lf.2⟩)))
   refine⟨undef,_,_,_,.inr ⟨by rw[hrun2]; rfl,rfl⟩,hm.1,hm.2,.raw _⟩
  .trivial
 .trivial
end
