/- The operations that only compute, and the loads. -/
import Derived.Test.YtooohdocabpblaaGreatDoorV2
import Derived.Great.BuildSlice
set_option linter.all false
namespace Go.Av
open RowKit
variable [Tr]
section
variable {h:Mem}{ρ:Own}{sto:LB}{w:World}{P:Program}
def Okv(h:Mem)(ρ:Own)(sto:LB)(w:World)(r:Result Next)(v:AV)(s:LB):Prop :=
 ∃ u w' h' ρ',(r=.ok (.value u) w'\/(r=.ok .skip w'/\u=undef))/\Mine h' ρ' s w'/\Later h ρ sto w h' ρ' s w'/\RV h' (Lf ρ' s) false u v
theorem AaA(m:Mine h ρ sto w){r:Result Next}{u:Value}{v:AV}(hr:r=.ok (.value u) w)(rv:RV h (Lf ρ sto) false u v):Okv h ρ sto w r v sto :=
 ⟨u,w,h,ρ,.inl hr,m,.refl ..,rv⟩
def AaD(P:Program)(f:FuncId):Bool:=match P.funcs[f]? with
 | some fn=>fn.body.isSome && !(fn.name == "runtime.NumGoroutine")
 | none=>false
def Lc(P:Program)(h:Mem)(ρ:Own)(sto:LB)(w:World)(r:Result Next):Res->Prop
 | .ok v=>Okv h ρ sto w r v sto
 | .side p v=>p->Okv h ρ sto w r v sto
 | .sto p v s=>p->Okv h ρ sto w r v s
 | .pick b x y=>Okv h ρ sto w r (if b then x else y) sto
 | .call f args=>∃ vs:List Value,RL h (Lf ρ sto) false vs args/\(AaD P f=true->r=.ok (.enter f vs.toArray) w)
 | .anyb p=>p->∃ b,Okv h ρ sto w r (.bool b) sto
 | .stuck=>True
theorem AdB{α β γ:Type}(r:Result α)(f:α->World->Result β)(g:β->World->Result γ):(r.andThen f).andThen g=r.andThen fun a w=>(f a w).andThen g:=by
 cases r <;> rfl
theorem info_of_underlying{t:TypeId}{d:TypeDesc}(hd:P.underlying t=some d):∃ i,P.info? t=some i:=by
 grind[Program.underlying]
theorem sizeOf_run{t:TypeId}{d:TypeDesc}(hd:P.underlying t=some d)(w:World):(sizeOf t).run P w=.ok (tsize P t) w:=by
 obtain⟨i,hi⟩:=info_of_underlying hd
 simp_all[sizeOf,typeInfo,tsize]
theorem AaR{t:TypeId}(ht:0<tsize P t)(w:World):(sizeOf t).run P w=.ok (tsize P t) w:=by
 cases hi:P.info? t<;>simp_all[tsize,sizeOf,typeInfo]
theorem AiF{t:TypeId}{d:TypeDesc}(hd:P.underlying t=some d)(w:World):(isAgg t).run P w=.ok (isRow (some d)) w:=by
 unfold isAgg;rw[Sem.run_bind,run_underlying hd w]
 cases d <;> rfl
theorem AnJ(vs:List Value)(a n:Nat):vs.toArray.extract a (a+n)=((vs.drop a).take n).toArray:=by
 grind
theorem AcE{t:TypeId}{vs:List Value}{cs:LA}{off:Nat}{fl:Bool}(hd:has (P.underlying t))(r:RL h (Lf ρ sto) fl vs cs)
  (ok:xpartOk (isRow (P.underlying t)) cs off (tsize P t)) :
  ∃ u,(part t vs.toArray off).run P w=.ok u w/\RV h (Lf ρ sto) fl u (xpart (isRow (P.underlying t)) cs off (tsize P t)):=by
 cases hq:P.underlying t with
 | none=>grind[has]
 | some d =>
  rw[hq]at ok;unfold part;rw[Sem.run_bind,AiF hq w]
  simp
  cases hr:isRow (some d)with
  | true =>
   simp only[if_true,Sem.run_bind,sizeOf_run hq w,Result.andThen_ok,Sem.run_pure,AnJ];exact⟨_,rfl,.agg _ _ ((r.drop off).take _)⟩
  | false =>
   simp only[hr,xpartOk,lap]at ok;have hlen:=r.length;refine⟨vs[off],?_,?_⟩
   .simp_all
   .have:=r.getD off undef
    grind[xpart]
theorem AdC{k:IntKind}{n:Int}(hi:inr k n):k.wrap n=n:=by
 cases k with
 | i64=>exact IntWalk.i64_in n hi
 | i32=>exact IntWalk.i32_in n hi
 | u8=>exact IntWalk.u8_in n hi
 | u16=>exact IntWalk.u16_in n hi
 | _=>exact hi
theorem xarith_ok{wr:Bool}{k:IntKind}{n:Int}(m:Mine h ρ sto w){r:Result Next}(hr:r=.ok (.value (.int k (k.wrap n))) w) :
  Lc P h ρ sto w r (AjY wr k n):=by
 cases wr with
 | true=>exact AaA m hr (.int _ _)
 | false =>
  intro hi;have:=AdC hi;exact AaA m hr (by rw[this]; exact .int _ _)
theorem bytesLess_eq:∀ a b,Op.bytesLess a b=bytesLess a b
 | _,[]=>by grind[Op.bytesLess,bytesLess]
 | [],_::_=>by grind[Op.bytesLess,bytesLess]
 | a::x,b::y=>by simp[Op.bytesLess,bytesLess,bytesLess_eq x y]
theorem AvI(op:BinOp)(t:TypeId)(x y:Operand)(k k':IntKind)(a b:Int):(eqGuard op t x y (.int k a) (.int k' b)).run P w=.ok () w:=by
 simp_all[eqGuard]
theorem A3K{wr:Bool}{op:BinOp}{t:TypeId}{k:IntKind}{a b:Int}(m:Mine h ρ sto w){r:Result Next}
  (hr:r=((Go.binOp op t (.int k a) (.int k b)).run P w).andThen fun v w'=>.ok (.value v) w'):Lc P h ρ sto w r (xint wr op k a b):=by
 cases op <;> simp only[xint] <;> try trivial
 case add=>simp_all[xarith_ok,Go.binOp,Op.intArith]
 case sub=>simp_all[xarith_ok,Go.binOp,Op.intArith]
 case mul=>simp_all[xarith_ok,Go.binOp,Op.intArith]
 case quo =>
  cases wr with
  | true =>
   intro⟨hb,hi⟩;have:=AdC hi;exact AaA m (by simp_all[Go.binOp,Op.intDiv]) (.int _ _)
  | false =>
   intro⟨ha,hb,hi⟩;have h0:b≠0:=by omega
   have h1:a.tdiv b=a / b:=Int.tdiv_eq_ediv_of_nonneg ha;have:=AdC hi;exact AaA m (by simp_all[Go.binOp,Op.intDiv]) (.int _ _)
 case rem =>
  cases wr with
  | true =>
   intro hb;exact AaA m (by simp_all[Go.binOp,Op.intDiv]) (.int _ _)
  | false =>
   intro⟨ha,hb⟩;have h0:b≠0:=by omega
   have h1:a.tmod b=a%b:=Int.tmod_eq_emod_of_nonneg ha;exact AaA m (by simp_all[Go.binOp,Op.intDiv]) (.int _ _)
 case shr =>
  rintro⟨rfl,rfl⟩;exact AaA m (by simp_all[Go.binOp,Op.shift,IntKind.bits,Int.fdiv_eq_ediv_of_nonneg]) (.int _ _)
 all_goals exact AaA m (by simp_all[Go.binOp,Op.intCmp]) (.bool _)
theorem A3L{op:BinOp}{t:TypeId}{a b:LU}(m:Mine h ρ sto w){r:Result Next}
  (hr:r=((Go.binOp op t (.string ⟨a.toArray⟩) (.string ⟨b.toArray⟩)).run P w).andThen fun v w'=>.ok (.value v) w'):Lc P h ρ sto w r (xstr op a b):=by
 cases op <;> simp only[xstr] <;> try trivial
 case add =>
  intro hb;have h2:(ByteArray.mk a.toArray).size=a.length:=rfl;have h3:(ByteArray.mk b.toArray).size=b.length:=rfl;have h4:(ByteArray.mk a.toArray)++(ByteArray.mk b.toArray)=ByteArray.mk (a++b).toArray:=by
   apply ByteArray.ext; simp_all
  refine AaA m ?_ (.str _)
  simp_all[Go.binOp,Op.stringOp]
 all_goals exact AaA m (by rw[hr]; simp[Go.binOp,Op.stringOp,bytesLess_eq,bne]) (.bool _)
theorem AgU{t:TypeId}(hd:P.underlying t=some .bool)(d:Nat)(p q:Bool):(Op.equalIn (d+1) t (.bool p) (.bool q)).run P w=.ok (p==q) w:=by
 simp_all[Op.equalIn,run_underlying]
theorem AkH{t:TypeId}(hd:P.underlying t=some .bool)(p q:Bool):(Op.equal t (.bool p) (.bool q)).run P w=.ok (p==q) w :=
 AgU hd 9999 p q
theorem A3M{wr:Bool}{op:BinOp}{t yt:TypeId}{x y:Operand}{o:Oper}{e:Env}{a:Act}(ho:o.op=.binOp op t x y yt)(m:Mine h ρ sto w)(he:EnvOk h ρ sto e a) :
  Lc P h ρ sto w ((execOp a.eval o).run P w) (xbin wr (P.underlying t) op (ev e x) (ev e y)):=by
 have hx:=AaF he x;have hy:=AaF he y;have hrun:(execOp a.eval o).run P w=((do eqGuard op t x y (a.eval x) (a.eval y); Go.binOp op t (a.eval x) (a.eval y):Sem Value).run P w).andThen fun v w'=>.ok (.value v) w':=by
  simp_all[execOp,AdB]
 rw[hrun];unfold xbin
 split
 .rename_i k p k' q h1 h2
  rw[h1]at hx; rw[h2]at hy;rw[AaE hx,AaE hy]
  split
  .rename_i hk; subst hk
   exact A3K (t:=t) m (by simp[AvI])
  .trivial
 .rename_i p q h1 h2
  rw[h1]at hx; rw[h2]at hy;rw[AaQ hx,AaQ hy];exact A3L (t:=t) m (by
   simp_all[eqGuard])
 .rename_i p q h1 h2
  rw[h1]at hx; rw[h2]at hy;rw[AaS hx,AaS hy];have hg:(eqGuard op t x y (.bool p) (.bool q)).run P w=.ok () w:=by simp_all[eqGuard]
  unfold AtA
  split
  .rename_i hd
   exact AaA m (by
    rw[Sem.run_bind,hg]
    show((do pure (Value.bool (<- Op.equal t (.bool p) (.bool q))):Sem Value).run P w).andThen _=_
    simp_all[AkH]) (.bool _)
  .rename_i hd
   exact AaA m (by
    rw[Sem.run_bind,hg]
    show((do pure (Value.bool (!(<- Op.equal t (.bool p) (.bool q)))):Sem Value).run P w).andThen _=_
    simp_all[AkH]) (.bool _)
  .trivial
 .trivial
theorem ptr_place(m:Mine h ρ sto w){u:Value}{id n j off:Nat}{e:Nat}{l:LA}(hb:sto.getD id .dead=.arr e l)(r:RV h (Lf ρ sto) false u (.ptr id n j off))(hn:n=l.length) :
  ∃ g tot cur t,ρ id=some (g,tot)/\u=.pointer (some ⟨g,j*e+off,none⟩)/\HRow w g cur t/\cur.size=tot*e/\l.length<=tot/\tot<=maxLen/\0<e/\j<n /\
   sto[id]? = some (.arr e l)/\(∀ x∈l,(cellsOf x).length=e)/\(∀ v∈cur.toList,v.oneCell'=true)/\RL h (Lf ρ sto) false (cur.toList.take (l.length*e)) (flat l):=by
 have hs:sto[id]? = some (.arr e l):=by
  grind
 have hl:=(AcK r).2;simp only[LfC,hs]at hl;obtain⟨_,hl⟩:=hl;obtain⟨hj,g,tot,h1,h2⟩:=hl hn
 rcases m.own id _ hs with⟨_,hno⟩|⟨g',tot',cur,t,h3,h4,h5,h6,h7,h8,h9,h10,h11⟩
 .grind
 .rw [h3]at h1
  simp at h1
  obtain⟨rfl,rfl⟩:=h1;exact⟨g',tot',cur,t,h3,h2,h4,h5,h6,h7,h8,hj,hs,h9,h10,h11⟩
theorem AfH{t:TypeId}{u:Value}{b o:Nat}{cs:LA}{vs:List Value}{off:Nat}{fl:Bool}(hd:has (P.underlying t))(hu:u=.pointer (some ⟨b,o+off,none⟩))
  (r:RL h (Lf ρ sto) fl vs cs) (hc:∀ (k:Nat) v,vs[k]? = some v->w.cell? ⟨b,o+k,none⟩=some v) (ok:xpartOk (isRow (P.underlying t)) cs off (tsize P t)) :
  ∃ v,(Instr.loadAt t u).run P w=.ok v w/\RV h (Lf ρ sto) fl v (xpart (isRow (P.underlying t)) cs off (tsize P t)):=by
 subst hu
 cases hq:P.underlying t with
 | none=>grind[has]
 | some d =>
  rw[hq]at ok
  cases hr:isRow (some d)with
  | true =>
   simp only[hr,xpartOk,lai]at ok;have hlen:=r.length;have hsz:(P.info? t).map (·.size)=some ((vs.drop off).take (tsize P t)).length:=by
    grind[info_of_underlying,tsize]
   have hrow:d.isRow=true:=by cases d <;> simp_all [isRow,TypeDesc.isRow]
   refine⟨_,run_loadAt_mid w b (o+off) t ((vs.drop off).take (tsize P t)) d ?_ hq hrow hsz,.agg _ _ ((r.drop off).take _)⟩;intro j v hj
   grind
  | false =>
   simp only[hr,xpartOk,lap]at ok;have hlen:=r.length;refine⟨vs[off],?_,?_⟩
   .have hag:(isAgg t).run P w=.ok false w:=by grind[AiF]
    simp_all[Instr.loadAt,Instr.sureAddr,loadVar]
   .have:=r.getD off undef
    grind[xpart]
def LdOk(P:Program)(h:Mem)(ρ:Own)(sto:LB)(w:World)(t:TypeId)(u:Value):Res->Prop
 | .side p z=>p->∃ v,(Instr.loadAt t u).run P w=.ok v w/\RV h (Lf ρ sto) false v z
 | _=>True
theorem AyU{t:TypeId}{u:Value}{y:AV}(m:Mine h ρ sto w)(hx:RV h (Lf ρ sto) false u y):LdOk P h ρ sto w t u (xload (P.underlying t) (tsize P t) sto y):=by
 unfold xload
 split
 .rename_i id n j off
  split
  .rename_i ee l hb
   intro⟨hd,⟨hn,hj⟩,ok⟩;obtain⟨g,tot,cur,tt,h1,h2,h3,h4,h5,h6,h7,h8,h9,h10,h11,h12⟩:=ptr_place m hb hx hn;have hel:l[j]? = some (l.getD j .any):=by grind
   have hcs:RL h (Lf ρ sto) false (((cur.toList.take (l.length*ee)).drop (j*ee)).take ee) (cellsOf (l.getD j .any)):=by
    have:=(h12.drop (j*ee)).take ee;rw[AaP h10 j]at this
    grind[lbs,flat]
   obtain⟨v,hv,rv⟩:=AfH hd h2 hcs (fun k v hk=>by
    rw[h3.cell]
    grind) ok
   grind
  .trivial
 .rename_i ee l j off
  intro⟨hd,hj,ok⟩;obtain⟨b,o,vs,h2,h3,h4,h5,h6⟩:=AgA hx;have hel:l[j]? = some (l.getD j .any):=by grind
  have hec:(cellsOf (l.getD j .any)).length=ee:=h4 _ (laj hel);have hcs:RL h (Lf ρ sto) true ((vs.drop (j*ee)).take ee) (cellsOf (l.getD j .any)):=by
   have:=(h3.drop (j*ee)).take ee;rw[AaP h4 j]at this
   grind[lbs,flat]
  obtain⟨v,hv,rv⟩:=AfH (u:=u) (b:=b) (o:=o+j*ee) hd (by grind) hcs (fun k v hk=>by
   rw[lbq]at hk
   split at hk
   .rw [List.getElem?_drop]at hk
    rw[Nat.add_assoc];exact(m.mem b _ v (h5 _ v hk)).1
   grind) ok
  exact⟨v,hv,rv.thaw (fun _ _ _ x=>x)⟩
 .trivial
theorem A3N{t:TypeId}{x:Operand}{o:Oper}{e:Env}{a:Act}(ho:o.op=.load t x)(m:Mine h ρ sto w)(he:EnvOk h ρ sto e a) :
  Lc P h ρ sto w ((execOp a.eval o).run P w) (xload (P.underlying t) (tsize P t) sto (ev e x)):=by
 have hx:=AaF he x;have hrun:(execOp a.eval o).run P w=((Instr.loadAt t (a.eval x)).run P w).andThen fun v w'=>.ok (.value v) w':=by
  simp_all[execOp]
 generalize a.eval x=u at *;unfold xload
 split
 .rename_i id n j off h1
  rw[h1]at hx
  split
  .rename_i ee l hb
   intro⟨hd,⟨hn,hj⟩,ok⟩;obtain⟨g,tot,cur,tt,h1,h2,h3,h4,h5,h6,h7,h8,h9,h10,h11,h12⟩:=ptr_place m hb hx hn;have hel:l[j]? = some (l.getD j .any):=by grind
   have hcs:RL h (Lf ρ sto) false (((cur.toList.take (l.length*ee)).drop (j*ee)).take ee) (cellsOf (l.getD j .any)):=by
    have:=(h12.drop (j*ee)).take ee;rw[AaP h10 j]at this
    grind[lbs,flat]
   obtain⟨v,hv,rv⟩:=AfH hd h2 hcs (fun k v hk=>by
    rw[h3.cell]
    grind) ok
   simp_all[AaA]
  .trivial
 .rename_i ee l j off h1
  rw[h1]at hx;intro⟨hd,hj,ok⟩;obtain⟨b,o,vs,h2,h3,h4,h5,h6⟩:=AgA hx;have hel:l[j]? = some (l.getD j .any):=by grind
  have hec:(cellsOf (l.getD j .any)).length=ee:=h4 _ (laj hel);have hcs:RL h (Lf ρ sto) true ((vs.drop (j*ee)).take ee) (cellsOf (l.getD j .any)):=by
   have:=(h3.drop (j*ee)).take ee;rw[AaP h4 j]at this
   grind[lbs,flat]
  obtain⟨v,hv,rv⟩:=AfH (u:=u) (b:=b) (o:=o+j*ee) hd (by grind) hcs (fun k v hk=>by
   rw[lbq]at hk
   split at hk
   .rw [List.getElem?_drop]at hk
    rw[Nat.add_assoc];exact(m.mem b _ v (h5 _ v hk)).1
   grind) ok
  exact AaA m (by simp_all) (rv.thaw (fun _ _ _ x=>x))
 .trivial
end
end Go.Av
namespace Go.Av
open RowKit
variable [Tr]
def splice{α:Type}(l:List α)(k:Nat)(vs:List α):List α:=l.take k++vs++l.drop (k+vs.length)
theorem AbI{α:Type}{l vs:List α}{k:Nat}(hk:k+vs.length<=l.length)(i:Nat) :
  (splice l k vs)[i]? = if i<k then l[i]? else if i<k+vs.length then vs[i-k]? else l[i]?:=by
 grind[splice]
theorem splice_length{α:Type}{l vs:List α}{k:Nat}(hk:k+vs.length<=l.length):(splice l k vs).length=l.length:=by
 grind[splice]
theorem AeX:∀ (vs cs:LA)(off:Nat),off+vs.length<=cs.length->putCells cs off vs=splice cs off vs
 | [],cs,off,_=>by simp[putCells,splice]
 | v::r,cs,off,h=>by
  simp at h
  rw[putCells,AeX r (cs.set off v) (off+1) (by simp; omega)];apply List.ext_getElem?;intro i;rw[AbI (by simp; omega),AbI (by omega)];simp only[List.getElem?_set,lan]
  by_cases h1:i<off
  .have h2:¬ off=i:=by omega
   have h3:i<off+1:=by omega
   simp[h1,h2,h3]
  .by_cases h2:i=off
   .subst h2
    have:i<cs.length:=by omega
    simp[this]
   .have h3:¬ i<off+1:=by omega
    have h4:¬ off=i:=by omega
    have h5:i-off=(i-(off+1))+1:=by omega
    simp only[h1,h3,h4,if_false]
    by_cases h6:i<off+1+r.length
    .rw [if_pos h6,if_pos (by omega),h5]; simp
    .rw [if_neg h6,if_neg (by omega)]
section
variable {h:Mem}{ρ:Own}{sto:LB}{w:World}{P:Program}
theorem RL.splice{fl vs l vs' l'}(r:RL h (Lf ρ sto) fl vs l)(r':RL h (Lf ρ sto) fl vs' l')(k:Nat):RL h (Lf ρ sto) fl (splice vs k vs') (splice l k l'):=by
 unfold Go.Av.splice;rw[r'.length];exact((r.take k).append r').append (r.drop _)
theorem ApV{l:LA}{e j:Nat}(hl:∀ x∈l,(cellsOf x).length=e)(hj:j<l.length){x:AV}(hx:(cellsOf x).length=e) :
  flat (l.set j x)=splice (flat l) (j*e) (cellsOf x):=by
 have h1:l.set j x=l.take j++x::l.drop (j+1):=by grind[List.set_eq_take_append_cons_drop]
 rw[h1,flat_append,flat];unfold splice;rw[AbD hl j,hx,show j*e+e=(j+1)*e by grind,AaP hl (j+1),lab]
theorem AlH{l:LA}{e j off:Nat}{vs:LA}(hl:∀ x∈l,(cellsOf x).length=e)(hj:j<l.length)(hv:off+vs.length<=e) :
  splice (flat l) (j*e) (splice (cellsOf (l.getD j .any)) off vs)=splice (flat l) (j*e+off) vs:=by
 have hel:l[j]? = some (l.getD j .any):=by grind
 have hec:(cellsOf (l.getD j .any)).length=e:=hl _ (laj hel);have hfl:=AaN hl;have hsl:=splice_length (l:=cellsOf (l.getD j .any)) (k:=off) (vs:=vs) (by omega);have hb:(j+1)*e<=l.length*e:=lbk _ hj;rw[Nat.succ_mul]at hb;apply List.ext_getElem?;intro i;rw[AbI (by omega),AbI (k:=j*e+off) (by omega),hsl,hec]
 by_cases h1:i<j*e
 .grind
 .by_cases h2:i<j*e+e
  .rw [if_pos h2,AbI (by omega)]
   have hg:(flat l)[i]? = (cellsOf (l.getD j .any))[i-j*e]?:=by
    have:=AyR hl (j:=i-j*e) hel (by omega)
    grind
   grind
  grind
theorem AaI{a:AV}(h1:one a=true):cellsOf a=[a]:=by cases a <;> first|rfl|cases h1
theorem AnK{old:AV}{cs:LA}(hl:cs.length=(cellsOf old).length)(h1:(∀ c,old≠.agg c)->cs.getD 0 .any=.any\/one (cs.getD 0 .any)=true):cellsOf (reElem old cs)=cs:=by
 have key:(∀ l,old≠.agg l)->cellsOf (reElem old cs)=cs:=by
  intro hn;have h2:cellsOf old=[old]:=by cases old <;> first|rfl|grind
  have h3:reElem old cs=cs.getD 0 .any:=by cases old <;> first|rfl|grind
  rw[h2]at hl
  match cs,hl with
  | [c],_ =>
   grind[cellsOf,AaI]
 cases old with
 | agg l=>rfl
 | _=>grind
theorem AhD{fl u a}(r:RV h (Lf ρ sto) fl u a)(h1:(cellsOf a).all one=true):RL h (Lf ρ sto) fl u.cells.toList (cellsOf a):=by
 by_cases ha:∃ l,a=.agg l
 .grind[inv_agg,Value.cells,cellsOf]
 .have hc:cellsOf a=[a]:=by cases a <;> first|rfl|grind
  rw[hc]at h1 |-
  simp at h1
  have ho:=AvH r h1;have:u.cells=#[u]:=by cases u <;> first|rfl|cases ho
  rw[this];exact .cons r .nil
theorem AdP{fl vs l}(r:RL h (Lf ρ sto) fl vs l)(h1:l.all one=true):∀ v∈vs,v.oneCell'=true:=by
 induction l generalizing vs with
 | nil=>cases r; simp
 | cons a l ih =>
  cases r<;>grind[AvH]
theorem ApW(m:Mine h ρ sto w){vs:List Value}{l:LA}{elem:AV}{t:TypeId}(rl:RL h (Lf ρ sto) false vs l)(hc:cellsOf elem=l){r:Result Next}
  (hr:r=.ok (.value (.pointer (some ⟨w.heap.size,0,none⟩))) (w.alloc (.cells vs.toArray t))):Lc P h ρ sto w r (xnew sto l elem):=by
 intro⟨hl,h1⟩;have hlen:=rl.length;have hone:=AdP rl h1;have hm:=m.push (.cells vs.toArray t) (.arr l.length [elem]) (some 1) (by
  refine .inr ⟨w.heap.size,1,vs.toArray,t,by simp[upd],.of (heap_alloc_new w _),by grind,by simp,by simp[maxLen],hl,by grind,by omega,?_⟩;simp only[List.toList_toArray,lan,lbm,lbc,Nat.one_mul,flat,hc,lbn];rw[<- hlen,List.take_length];exact rl.mono (fun _ _ _ x=>x) (fun _ _=>AeT))
 refine⟨_,_,_,_,.inl hr,hm.1,hm.2,.leaf ⟨rfl,?_⟩⟩<;>grind[LfC,upd]
theorem A6L{t:TypeId}{x:Operand}{o:Oper}{e:Env}{a:Act}(ho:o.op=.box t x)(m:Mine h ρ sto w)(he:EnvOk h ρ sto e a) :
  Lc P h ρ sto w ((execOp a.eval o).run P w) (xbox (isRow (P.underlying t)) sto (ev e x)):=by
 have hx:=AaF he x;have hrun:(execOp a.eval o).run P w=.ok (.value (.pointer (some ⟨w.heap.size,0,none⟩))) (w.alloc (.cells (a.eval x).cells t)):=by
  simp_all[execOp,Instr.box,newVar,newRow]
 rw[hrun];generalize a.eval x=u at *;unfold xbox
 split
 .rename_i l h1 h2
  rw[h2]at hx;obtain⟨vs,rfl,rl⟩:=inv_agg hx;exact ApW (t:=t) m rl rfl (by simp[Value.cells])
 .cases hv:one (ev e x)with
  | false=>trivial
  | true =>
   have hc:=AhD hx (by grind[AaI]);rw[AaI hv]at hc;exact ApW (t:=t) m hc (AaI hv) (by simp)
 .trivial
theorem consts_ok{fl:Bool}:∀ vs:List Value,RL h (Lf ρ sto) fl vs (vs.map AcV)
 | []=>.nil
 | v::vs=>.cons (AgB v) (consts_ok vs)
theorem AyV{t:TypeId}{o:Oper}{a:Act}(ho:o.op=.alloc t)(m:Mine h ρ sto w) :
  Lc P h ρ sto w ((execOp a.eval o).run P w) (AdN sto (isRow (P.underlying t)) (zav P t)):=by
 have key:∀ {l:LA} {elem:AV},l=zav P t->cellsOf elem=l->Lc P h ρ sto w ((execOp a.eval o).run P w) (xnew sto l elem):=by
  intro l elem hl hc hp;subst hl;unfold zav AcS at hp
  cases hi:P.info? t with
  | none=>grind
  | some i =>
   cases hz:i.zero with
   | none=>grind
   | some z =>
    have hzc:AcS P t=z.cells.toList:=by grind[AcS]
    refine ApW (P:=P) (t:=t) m (vs:=z.cells.toList) ?_ hc ?_ (by exact hp)<;>simp_all[zav,consts_ok,execOp,Instr.alloc,zeroValue,typeInfo,newVar,newRow]
 unfold AdN
 cases isRow (P.underlying t)with
 | true=>exact key rfl rfl
 | false =>
  split
  .rename_i v hv
   intro hp;refine key hv.symm (AaI ?_) hp<;>grind
  .trivial
theorem AyW{t:TypeId}{x v:Operand}{o:Oper}{e:Env}{a:Act}(ho:o.op=.store t x v)(m:Mine h ρ sto w)(he:EnvOk h ρ sto e a) :
  Lc P h ρ sto w ((execOp a.eval o).run P w) (AgR (tsize P t) sto (ev e x) (ev e v)):=by
 have hx:=AaF he x;have hv:=AaF he v;have hrun:(execOp a.eval o).run P w=((Instr.storeAt t (a.eval x) (a.eval v)).run P w).andThen fun _ w'=>.ok .skip w':=by
  simp_all[execOp]
 rw[hrun];generalize a.eval x=u at *;generalize a.eval v=val at *;unfold AgR
 split
 .rename_i id n j off h1
  rw[h1]at hx;unfold AhX
  split
  .rename_i ee l hb
   intro⟨hpos,hn,hj,hsz,hoff,hone⟩;obtain⟨g,tot,cur,tt,h1,h2,h3,h4,h5,h6,h7,h8,h9,h10,h11,h12⟩:=ptr_place m hb hx hn;have hjl:j<l.length:=by omega
   have hel:l[j]? = some (l.getD j .any):=by grind
   have hec:(cellsOf (l.getD j .any)).length=ee:=h10 _ (laj hel);have hcs:=AhD hv hone;have hcl:=hcs.length;have hones:=AdP hcs hone;have hb2:(j+1)*ee<=l.length*ee:=lbk _ hjl;have hb3:l.length*ee<=tot*ee:=lbk _ h5;rw[Nat.succ_mul]at hb2;have hfit:(j*ee+off)+0+val.cells.toList.length<=cur.size:=by omega
   have hst:=AaT P g (j*ee+off) tt val.cells.toList 0 cur w h3 hfit hones;simp only[Nat.add_zero]at hst;have hsize:(sizeOf t).run P w=.ok (tsize P t) w:=AaR hpos w;have hrun2:(Instr.storeAt t u val).run P w=.ok () (w.setRow g (splice cur.toList (j*ee+off) val.cells.toList).toArray):=by
    rw[h2];have hs2:val.cells.size=tsize P t:=by grind
    simp only[Instr.storeAt,Instr.sureAddr,Sem.run_bind,Sem.run_pure,Result.andThen_ok,storeVar,hsize,hs2]
    simp
    exact hst
   have hspl:(splice cur.toList (j*ee+off) val.cells.toList).length=cur.size:=by grind[splice_length]
   have hw:=h3.set (by omega);have hpl:(cellsOf (ev e v)).length=val.cells.toList.length:=hcl.symm;have hpc:=AeX (cellsOf (ev e v)) (cellsOf (l.getD j .any)) off (by omega);have hre:cellsOf (reElem (l.getD j .any) (putCells (cellsOf (l.getD j .any)) off (cellsOf (ev e v))))=putCells (cellsOf (l.getD j .any)) off (cellsOf (ev e v)):=by
    have hsl:=splice_length (l:=cellsOf (l.getD j .any)) (k:=off) (vs:=cellsOf (ev e v)) (by omega);refine AnK (by grind) ?_;intro hc0;have hnot:(cellsOf (l.getD j .any)).length=1\/∃ c,l.getD j .any=.agg c:=by
     cases l.getD j .any <;> first|exact .inl rfl|grind
    grind[splice]
   replace hre:=hre.trans hpc
   generalize reElem (l.getD j .any) (putCells (cellsOf (l.getD j .any)) off (cellsOf (ev e v)))=el at hre |-;have hlen2:(l.set j el).length=l.length:=by simp
   have helc:(cellsOf el).length=ee:=by grind[splice_length]
   have hm:=m.write (w':=w.setRow g (splice cur.toList (j*ee+off) val.cells.toList).toArray) h9 h1 (b':=.arr ee (l.set j el)) (.inl ⟨rfl,hlen2⟩) rfl rfl ⟨rfl,Tr.same rfl⟩ (by simp) (fun k hk=>setRow_other w g k _ hk) (by
    refine .inr ⟨g,tot,_,tt,h1,hw,by grind,by omega,h6,h7,?_,?_,?_⟩
    .grind
    .grind[splice]
    .have hfl:=AaN h10
     have hcurl:cur.toList.length=tot*ee:=by omega
     rw[ApV h10 hjl helc,hre,AlH h10 hjl (by omega),hlen2];have e1:(splice cur.toList (j*ee+off) val.cells.toList).take (l.length*ee)=splice (cur.toList.take (l.length*ee)) (j*ee+off) val.cells.toList:=by
      apply List.ext_getElem?
      grind[AbI]
     simp
     rw[e1];exact((h12.splice hcs _).mono (fun _ _ _ x=>x) (fun v a lf=>⟨lf.1,AbL h9 (fun _ _=>rfl) (Or.inl ⟨rfl,hlen2,rfl⟩:(_/\_/\_)\/_) lf.2⟩)))
   refine⟨undef,_,_,_,.inr ⟨by rw[hrun2]; rfl,rfl⟩,hm.1,hm.2,.raw _⟩
  .trivial
 .trivial
end
