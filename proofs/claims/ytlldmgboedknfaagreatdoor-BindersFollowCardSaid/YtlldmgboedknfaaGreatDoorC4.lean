/- The operations that only compute, and the loads. -/
import Derived.Test.YtlldmgboedknfaaGreatDoorC3
import Derived.Great.BuildSlice
set_option linter.unusedSimpArgs false
set_option linter.unusedVariables false
set_option linter.unusedSectionVars false
namespace Go.Av
open Go Go.RowKit
variable [Tr]
section
variable {h:Mem}{ρ:Own}{sto:List Blk}{w:World}{P:Program}
def Okv(h:Mem)(ρ:Own)(sto:List Blk)(w:World)(r:Result Next)(v:AV)(s:List Blk):Prop :=
 ∃ u w' h' ρ',(r=.ok (.value u) w'\/(r=.ok .skip w'/\u=undef))/\Mine h' ρ' s w'/\Later h ρ sto w h' ρ' s w'/\RV h' (Lf ρ' s) false u v
theorem AaA(m:Mine h ρ sto w){r:Result Next}{u:Value}{v:AV}(hr:r=.ok (.value u) w)(rv:RV h (Lf ρ sto) false u v):Okv h ρ sto w r v sto :=
 ⟨u,w,h,ρ,.inl hr,m,.refl ..,rv⟩
def AaB(P:Program)(f:FuncId):Bool:=match P.funcs[f]? with
 | some fn=>fn.body.isSome && !(fn.name == "runtime.NumGoroutine")
 | none=>false
def Res.Sound(P:Program)(h:Mem)(ρ:Own)(sto:List Blk)(w:World)(r:Result Next):Res->Prop
 | .ok v=>Okv h ρ sto w r v sto
 | .side p v=>p->Okv h ρ sto w r v sto
 | .sto p v s=>p->Okv h ρ sto w r v s
 | .pick b x y=>Okv h ρ sto w r (if b then x else y) sto
 | .call f args=>∃ vs:List Value,RL h (Lf ρ sto) false vs args/\(AaB P f=true->r=.ok (.enter f vs.toArray) w)
 | .anyb p=>p->∃ b,Okv h ρ sto w r (.bool b) sto
 | .stuck=>True
theorem AfK{α β γ:Type}(r:Result α)(f:α->World->Result β)(g:β->World->Result γ):(r.andThen f).andThen g=r.andThen fun a w=>(f a w).andThen g:=by
 cases r <;> rfl
theorem AbW{t:TypeId}{d:TypeDesc}(hd:P.underlying t=some d):∃ i,P.info? t=some i:=by
 unfold Program.underlying at hd
 split at hd
 .exact ⟨_,by assumption⟩
 .exact ⟨_,by assumption⟩
 .simp at hd
theorem ArE{t:TypeId}{d:TypeDesc}(hd:P.underlying t=some d)(w:World):(sizeOf t).run P w=.ok (tsize P t) w:=by
 obtain⟨i,hi⟩:=AbW hd
 simp[sizeOf,typeInfo,hi,tsize]
theorem AbJ{t:TypeId}(ht:0<tsize P t)(w:World):(sizeOf t).run P w=.ok (tsize P t) w:=by
 cases hi:P.info? t with
 | none=>simp[tsize,hi]at ht
 | some i=>simp[sizeOf,typeInfo,hi,tsize]
theorem AnD{t:TypeId}{d:TypeDesc}(hd:P.underlying t=some d)(w:World):(isAgg t).run P w=.ok (isRow (some d)) w:=by
 unfold isAgg;rw[Sem.run_bind,run_underlying hd w]
 cases d <;> rfl
theorem AvW(vs:List Value)(a n:Nat):vs.toArray.extract a (a+n)=((vs.drop a).take n).toArray:=by
 simp[List.extract_toArray,List.extract]
theorem part_run{t:TypeId}{vs:List Value}{cs:List AV}{off:Nat}{fl:Bool}(hd:has (P.underlying t))(r:RL h (Lf ρ sto) fl vs cs)
  (ok:xpartOk (isRow (P.underlying t)) cs off (tsize P t)) :
  ∃ u,(part t vs.toArray off).run P w=.ok u w/\RV h (Lf ρ sto) fl u (xpart (isRow (P.underlying t)) cs off (tsize P t)):=by
 cases hq:P.underlying t with
 | none=>simp[has,hq]at hd
 | some d =>
  rw[hq]at ok;unfold part;rw[Sem.run_bind,AnD hq w];simp only[Result.andThen_ok]
  cases hr:isRow (some d)with
  | true =>
   simp only[if_true,Sem.run_bind,ArE hq w,Result.andThen_ok,Sem.run_pure,AvW];exact⟨_,rfl,.agg _ _ ((r.drop off).take _)⟩
  | false =>
   simp only[hr,xpartOk,cond_false]at ok;have hlen:=r.length;have:off<vs.length:=by omega
   simp only[Bool.false_eq_true,if_false];refine⟨vs[off],?_,?_⟩
   .simp [this]
   .have:=r.getD off undef
    simpa[xpart,List.getD,‹off<vs.length›]using this
theorem AgX{k:IntKind}{n:Int}(hi:inr k n):k.wrap n=n:=by
 cases k with
 | i64=>exact IntWalk.i64_in n hi
 | i32=>exact IntWalk.i32_in n hi
 | u8=>exact IntWalk.u8_in n hi
 | u16=>exact IntWalk.u16_in n hi
 | _=>exact hi
theorem AnE{wr:Bool}{k:IntKind}{n:Int}(m:Mine h ρ sto w){r:Result Next}(hr:r=.ok (.value (.int k (k.wrap n))) w) :
  Res.Sound P h ρ sto w r (xarith wr k n):=by
 cases wr with
 | true=>exact AaA m hr (.int _ _)
 | false =>
  simp only[xarith,cond_false,Res.Sound];intro hi;have:=AgX hi;exact AaA m hr (by rw[this]; exact .int _ _)
theorem bytesLess_eq:∀ a b,Op.bytesLess a b=bytesLess a b
 | _,[]=>by unfold Op.bytesLess bytesLess; rfl
 | [],_::_=>by simp[Op.bytesLess,bytesLess]
 | a::x,b::y=>by simp[Op.bytesLess,bytesLess,bytesLess_eq x y]
theorem BaH(op:BinOp)(t:TypeId)(x y:Operand)(k k':IntKind)(a b:Int):(eqGuard op t x y (.int k a) (.int k' b)).run P w=.ok () w:=by
 unfold eqGuard; split <;> rfl
theorem BnU{wr:Bool}{op:BinOp}{t:TypeId}{k:IntKind}{a b:Int}(m:Mine h ρ sto w){r:Result Next}
  (hr:r=((Go.binOp op t (.int k a) (.int k b)).run P w).andThen fun v w'=>.ok (.value v) w'):Res.Sound P h ρ sto w r (xint wr op k a b):=by
 cases op <;> simp only[xint] <;> try trivial
 case add=>exact AnE m (by rw[hr]; simp[Go.binOp,Op.intArith])
 case sub=>exact AnE m (by rw[hr]; simp[Go.binOp,Op.intArith])
 case mul=>exact AnE m (by rw[hr]; simp[Go.binOp,Op.intArith])
 case quo =>
  cases wr with
  | true =>
   intro⟨hb,hi⟩;have:=AgX hi;exact AaA m (by rw[hr]; simp[Go.binOp,Op.intDiv,hb,this]) (.int _ _)
  | false =>
   intro⟨ha,hb,hi⟩;have h0:b≠0:=by omega
   have h1:a.tdiv b=a / b:=Int.tdiv_eq_ediv_of_nonneg ha;have:=AgX hi;exact AaA m (by rw[hr]; simp[Go.binOp,Op.intDiv,h0,h1,this]) (.int _ _)
 case rem =>
  cases wr with
  | true =>
   intro hb;exact AaA m (by rw[hr]; simp[Go.binOp,Op.intDiv,hb]) (.int _ _)
  | false =>
   intro⟨ha,hb⟩;have h0:b≠0:=by omega
   have h1:a.tmod b=a%b:=Int.tmod_eq_emod_of_nonneg ha;exact AaA m (by rw[hr]; simp[Go.binOp,Op.intDiv,h0,h1]) (.int _ _)
 case shr =>
  rintro⟨rfl,rfl⟩;exact AaA m (by rw[hr]; simp[Go.binOp,Op.shift,IntKind.bits,Int.fdiv_eq_ediv_of_nonneg]) (.int _ _)
 all_goals exact AaA m (by rw[hr]; simp[Go.binOp,Op.intCmp]) (.bool _)
theorem BnV{op:BinOp}{t:TypeId}{a b:List UInt8}(m:Mine h ρ sto w){r:Result Next}
  (hr:r=((Go.binOp op t (.string ⟨a.toArray⟩) (.string ⟨b.toArray⟩)).run P w).andThen fun v w'=>.ok (.value v) w'):Res.Sound P h ρ sto w r (xstr op a b):=by
 cases op <;> simp only[xstr] <;> try trivial
 case add =>
  intro hb;have h1:¬ (((a.length+b.length:Nat):Int)>9223372036854775807):=by omega
  have h2:(ByteArray.mk a.toArray).size=a.length:=rfl;have h3:(ByteArray.mk b.toArray).size=b.length:=rfl;have h4:(ByteArray.mk a.toArray)++(ByteArray.mk b.toArray)=ByteArray.mk (a++b).toArray:=by
   apply ByteArray.ext; simp[ByteArray.data_append]
  refine AaA m (u:=.string ⟨(a++b).toArray⟩) ?_ (.str _);rw[hr];have h5:IntKind.max .i64=9223372036854775807:=by decide
  simp only[Go.binOp,Op.stringOp,h2,h3,h5,if_neg h1,h4];rfl
 all_goals exact AaA m (by rw[hr]; simp[Go.binOp,Op.stringOp,bytesLess_eq,bne]) (.bool _)
theorem AlJ{t:TypeId}(hd:P.underlying t=some .bool)(d:Nat)(p q:Bool):(Op.equalIn (d+1) t (.bool p) (.bool q)).run P w=.ok (p==q) w:=by
 simp[Op.equalIn,run_underlying hd]
theorem ArF{t:TypeId}(hd:P.underlying t=some .bool)(p q:Bool):(Op.equal t (.bool p) (.bool q)).run P w=.ok (p==q) w :=
 AlJ hd 9999 p q
theorem BnW{wr:Bool}{op:BinOp}{t yt:TypeId}{x y:Operand}{o:Oper}{e:Env}{a:Act}(ho:o.op=.binOp op t x y yt)(m:Mine h ρ sto w)(he:EnvOk h ρ sto e a) :
  Res.Sound P h ρ sto w ((execOp a.eval o).run P w) (xbin wr (P.underlying t) op (ev e x) (ev e y)):=by
 have hx:=AaM he x;have hy:=AaM he y;have hrun:(execOp a.eval o).run P w=((do eqGuard op t x y (a.eval x) (a.eval y); Go.binOp op t (a.eval x) (a.eval y):Sem Value).run P w).andThen fun v w'=>.ok (.value v) w':=by
  simp[execOp,ho,AfK]
 rw[hrun];generalize a.eval x=u at *;generalize a.eval y=v at *;unfold xbin
 split
 .rename_i k p k' q h1 h2
  rw[h1]at hx; rw[h2]at hy;rw[AaK hx,AaK hy]
  split
  .rename_i hk; subst hk
   exact BnU (t:=t) m (by simp[BaH])
  .trivial
 .rename_i p q h1 h2
  rw[h1]at hx; rw[h2]at hy;rw[AaY hx,AaY hy];exact BnV (t:=t) m (by
   have:(eqGuard op t x y (.string ⟨p.toArray⟩) (.string ⟨q.toArray⟩)).run P w=.ok () w:=by unfold eqGuard; split <;> rfl
   simp[this])
 .rename_i p q h1 h2
  rw[h1]at hx; rw[h2]at hy;rw[AaU hx,AaU hy];have hg:(eqGuard op t x y (.bool p) (.bool q)).run P w=.ok () w:=by unfold eqGuard; split <;> rfl
  unfold BgT
  split
  .rename_i hd
   exact AaA m (u:=.bool (p==q)) (by
    rw[Sem.run_bind,hg]
    show((do pure (Value.bool (<- Op.equal t (.bool p) (.bool q))):Sem Value).run P w).andThen _=_
    rw[Sem.run_bind,ArF hd]; rfl) (.bool _)
  .rename_i hd
   exact AaA m (u:=.bool (!(p==q))) (by
    rw[Sem.run_bind,hg]
    show((do pure (Value.bool (!(<- Op.equal t (.bool p) (.bool q)))):Sem Value).run P w).andThen _=_
    simp only[Sem.run_bind,ArF hd]; rfl) (.bool _)
  .trivial
 .trivial
theorem AfZ(m:Mine h ρ sto w){u:Value}{id n j off:Nat}{e:Nat}{l:List AV}(hb:sto.getD id .dead=.arr e l)(r:RV h (Lf ρ sto) false u (.ptr id n j off))(hn:n=l.length) :
  ∃ g tot cur t,ρ id=some (g,tot)/\u=.pointer (some ⟨g,j*e+off,none⟩)/\HRow w g cur t/\cur.size=tot*e/\l.length<=tot/\tot<=maxLen/\0<e/\j<n /\
   sto[id]? = some (.arr e l)/\(∀ x∈l,(cellsOf x).length=e)/\(∀ v∈cur.toList,v.oneCell'=true)/\RL h (Lf ρ sto) false (cur.toList.take (l.length*e)) (flat l):=by
 have hs:sto[id]? = some (.arr e l):=by
  rw[List.getD_eq_getElem?_getD]at hb
  cases hq:sto[id]? with
  | none=>simp[hq]at hb
  | some b=>simp[hq]at hb; rw[hb]
 have hl:=(AcV r).2;simp only[LfC,hs]at hl;obtain⟨_,hl⟩:=hl;obtain⟨hj,g,tot,h1,h2⟩:=hl hn
 rcases m.own id _ hs with⟨_,hno⟩|⟨g',tot',cur,t,h3,h4,h5,h6,h7,h8,h9,h10,h11⟩
 .simp [hno]at h1
 .rw [h3]at h1
  simp only[Option.some.injEq,Prod.mk.injEq]at h1;obtain⟨rfl,rfl⟩:=h1;exact⟨g',tot',cur,t,h3,h2,h4,h5,h6,h7,h8,hj,hs,h9,h10,h11⟩
theorem AmB{t:TypeId}{u:Value}{b o:Nat}{cs:List AV}{vs:List Value}{off:Nat}{fl:Bool}(hd:has (P.underlying t))(hu:u=.pointer (some ⟨b,o+off,none⟩))
  (r:RL h (Lf ρ sto) fl vs cs) (hc:∀ (k:Nat) v,vs[k]? = some v->w.cell? ⟨b,o+k,none⟩=some v) (ok:xpartOk (isRow (P.underlying t)) cs off (tsize P t)) :
  ∃ v,(Instr.loadAt t u).run P w=.ok v w/\RV h (Lf ρ sto) fl v (xpart (isRow (P.underlying t)) cs off (tsize P t)):=by
 subst hu
 cases hq:P.underlying t with
 | none=>simp[has,hq]at hd
 | some d =>
  rw[hq]at ok
  cases hr:isRow (some d)with
  | true =>
   simp only[hr,xpartOk,cond_true]at ok;have hlen:=r.length;have hl:((vs.drop off).take (tsize P t)).length=tsize P t:=by simp; omega
   have hsz:(P.info? t).map (·.size)=some ((vs.drop off).take (tsize P t)).length:=by
    obtain⟨i,hi⟩:=AbW hq;rw[hl]; simp[tsize,hi]
   have hrow:d.isRow=true:=by cases d <;> simp_all [isRow,TypeDesc.isRow]
   refine⟨_,run_loadAt_mid w b (o+off) t ((vs.drop off).take (tsize P t)) d ?_ hq hrow hsz,.agg _ _ ((r.drop off).take _)⟩;intro j v hj;rw[Nat.add_assoc];refine hc (off+j) v ?_;rw[List.getElem?_take]at hj
   split at hj
   .rw [List.getElem?_drop]at hj; exact hj
   .simp at hj
  | false =>
   simp only[hr,xpartOk,cond_false]at ok;have hlen:=r.length;have hlt:off<vs.length:=by omega
   refine⟨vs[off],?_,?_⟩
   .have hcell:=hc off vs[off] (by simp[hlt])
    have hag:(isAgg t).run P w=.ok false w:=by rw[AnD hq w,hr]
    simp[Instr.loadAt,Instr.sureAddr,loadVar,hag,hcell]
   .have:=r.getD off undef
    simpa[xpart,List.getD,hlt]using this
def LdOk(P:Program)(h:Mem)(ρ:Own)(sto:List Blk)(w:World)(t:TypeId)(u:Value):Res->Prop
 | .side p z=>p->∃ v,(Instr.loadAt t u).run P w=.ok v w/\RV h (Lf ρ sto) false v z
 | _=>True
theorem BhD{t:TypeId}{u:Value}{y:AV}(m:Mine h ρ sto w)(hx:RV h (Lf ρ sto) false u y):LdOk P h ρ sto w t u (xload (P.underlying t) (tsize P t) sto y):=by
 unfold xload
 split
 .rename_i id n j off
  split
  .rename_i ee l hb
   intro⟨hd,⟨hn,hj⟩,ok⟩;obtain⟨g,tot,cur,tt,h1,h2,h3,h4,h5,h6,h7,h8,h9,h10,h11,h12⟩:=AfZ m hb hx hn;have hjl:j<l.length:=by omega
   have hel:l[j]? = some (l.getD j .any):=by simp[List.getD,hjl]
   have hec:(cellsOf (l.getD j .any)).length=ee:=h10 _ (List.mem_of_getElem? hel);have hcs:RL h (Lf ρ sto) false (((cur.toList.take (l.length*ee)).drop (j*ee)).take ee) (cellsOf (l.getD j .any)):=by
    have:=(h12.drop (j*ee)).take ee;rw[AbC h10 j]at this;have e2:l.drop j=l.getD j .any::l.drop (j+1):=by
     rw[List.drop_eq_getElem?_toList_append,hel]; rfl
    rw[e2]at this;simp only[flat]at this;rw[<- hec,List.take_left]at this;rw[<- hec]; exact this
   obtain⟨v,hv,rv⟩:=AmB (P:=P) (w:=w) (u:=u) (b:=g) (o:=j*ee) hd h2 hcs (fun k v hk=>by
    rw[h3.cell];rw[List.getElem?_take]at hk
    split at hk
    .rw [List.getElem?_drop,List.getElem?_take]at hk
     split at hk
     .simpa using hk
     .simp at hk
    .simp at hk) ok
   exact⟨v,hv,rv⟩
  .trivial
 .rename_i ee l j off
  intro⟨hd,hj,ok⟩;obtain⟨b,o,vs,h2,h3,h4,h5,h6⟩:=AkE hx;have hel:l[j]? = some (l.getD j .any):=by simp[List.getD,hj]
  have hec:(cellsOf (l.getD j .any)).length=ee:=h4 _ (List.mem_of_getElem? hel);have hcs:RL h (Lf ρ sto) true ((vs.drop (j*ee)).take ee) (cellsOf (l.getD j .any)):=by
   have:=(h3.drop (j*ee)).take ee;rw[AbC h4 j]at this;have e2:l.drop j=l.getD j .any::l.drop (j+1):=by
    rw[List.drop_eq_getElem?_toList_append,hel]; rfl
   rw[e2]at this;simp only[flat]at this;rw[<- hec,List.take_left]at this;rw[<- hec]; exact this
  obtain⟨v,hv,rv⟩:=AmB (P:=P) (w:=w) (u:=u) (b:=b) (o:=o+j*ee) hd (by rw[h2,Nat.add_assoc]) hcs (fun k v hk=>by
   rw[List.getElem?_take]at hk
   split at hk
   .rw [List.getElem?_drop]at hk
    rw[Nat.add_assoc];exact(m.mem b _ v (h5 _ v hk)).1
   .simp at hk) ok
  exact⟨v,hv,rv.thaw (fun _ _ _ x=>x)⟩
 .trivial
theorem BnX{t:TypeId}{x:Operand}{o:Oper}{e:Env}{a:Act}(ho:o.op=.load t x)(m:Mine h ρ sto w)(he:EnvOk h ρ sto e a) :
  Res.Sound P h ρ sto w ((execOp a.eval o).run P w) (xload (P.underlying t) (tsize P t) sto (ev e x)):=by
 have hx:=AaM he x;have hrun:(execOp a.eval o).run P w=((Instr.loadAt t (a.eval x)).run P w).andThen fun v w'=>.ok (.value v) w':=by
  simp[execOp,ho]
 rw[hrun];generalize a.eval x=u at *;unfold xload
 split
 .rename_i id n j off h1
  rw[h1]at hx
  split
  .rename_i ee l hb
   intro⟨hd,⟨hn,hj⟩,ok⟩;obtain⟨g,tot,cur,tt,h1,h2,h3,h4,h5,h6,h7,h8,h9,h10,h11,h12⟩:=AfZ m hb hx hn;have hjl:j<l.length:=by omega
   have hel:l[j]? = some (l.getD j .any):=by simp[List.getD,hjl]
   have hec:(cellsOf (l.getD j .any)).length=ee:=h10 _ (List.mem_of_getElem? hel);have hcs:RL h (Lf ρ sto) false (((cur.toList.take (l.length*ee)).drop (j*ee)).take ee) (cellsOf (l.getD j .any)):=by
    have:=(h12.drop (j*ee)).take ee;rw[AbC h10 j]at this;have e2:l.drop j=l.getD j .any::l.drop (j+1):=by
     rw[List.drop_eq_getElem?_toList_append,hel]; rfl
    rw[e2]at this;simp only[flat]at this;rw[<- hec,List.take_left]at this;rw[<- hec]; exact this
   obtain⟨v,hv,rv⟩:=AmB (P:=P) (w:=w) (u:=u) (b:=g) (o:=j*ee) hd h2 hcs (fun k v hk=>by
    rw[h3.cell];rw[List.getElem?_take]at hk
    split at hk
    .rw [List.getElem?_drop,List.getElem?_take]at hk
     split at hk
     .simpa using hk
     .simp at hk
    .simp at hk) ok
   exact AaA m (by rw[hv]; rfl) rv
  .trivial
 .rename_i ee l j off h1
  rw[h1]at hx;intro⟨hd,hj,ok⟩;obtain⟨b,o,vs,h2,h3,h4,h5,h6⟩:=AkE hx;have hel:l[j]? = some (l.getD j .any):=by simp[List.getD,hj]
  have hec:(cellsOf (l.getD j .any)).length=ee:=h4 _ (List.mem_of_getElem? hel);have hcs:RL h (Lf ρ sto) true ((vs.drop (j*ee)).take ee) (cellsOf (l.getD j .any)):=by
   have:=(h3.drop (j*ee)).take ee;rw[AbC h4 j]at this;have e2:l.drop j=l.getD j .any::l.drop (j+1):=by
    rw[List.drop_eq_getElem?_toList_append,hel]; rfl
   rw[e2]at this;simp only[flat]at this;rw[<- hec,List.take_left]at this;rw[<- hec]; exact this
  obtain⟨v,hv,rv⟩:=AmB (P:=P) (w:=w) (u:=u) (b:=b) (o:=o+j*ee) hd (by rw[h2,Nat.add_assoc]) hcs (fun k v hk=>by
   rw[List.getElem?_take]at hk
   split at hk
   .rw [List.getElem?_drop]at hk
    rw[Nat.add_assoc];exact(m.mem b _ v (h5 _ v hk)).1
   .simp at hk) ok
  exact AaA m (by rw[hv]; rfl) (rv.thaw (fun _ _ _ x=>x))
 .trivial
end
end Go.Av
namespace Go.Av
open Go Go.RowKit
variable [Tr]
def splice{α:Type}(l:List α)(k:Nat)(vs:List α):List α:=l.take k++vs++l.drop (k+vs.length)
theorem AbN{α:Type}{l vs:List α}{k:Nat}(hk:k+vs.length<=l.length)(i:Nat) :
  (splice l k vs)[i]? = if i<k then l[i]? else if i<k+vs.length then vs[i-k]? else l[i]?:=by
 unfold splice;rw[List.getElem?_append,List.getElem?_append];simp only[List.length_append,List.length_take,Nat.min_eq_left (by omega:k<=l.length)]
 by_cases h1:i<k
 .rw [if_pos (by omega),if_pos h1,if_pos h1,List.getElem?_take,if_pos h1]
 .by_cases h2:i<k+vs.length
  .rw [if_pos h2,if_neg h1,if_neg h1,if_pos h2]
  .rw [if_neg h2,if_neg h1,if_neg h2,List.getElem?_drop]
   congr 1; omega
theorem AbF{α:Type}{l vs:List α}{k:Nat}(hk:k+vs.length<=l.length):(splice l k vs).length=l.length:=by
 simp[splice]; omega
theorem AiD:∀ (vs cs:List AV)(off:Nat),off+vs.length<=cs.length->putCells cs off vs=splice cs off vs
 | [],cs,off,_=>by simp[putCells,splice]
 | v::r,cs,off,h=>by
  simp only[List.length_cons]at h;rw[putCells,AiD r (cs.set off v) (off+1) (by simp; omega)];apply List.ext_getElem?;intro i;rw[AbN (by simp; omega),AbN (by simp; omega)];simp only[List.getElem?_set,List.length_cons]
  by_cases h1:i<off
  .have h2:¬ off=i:=by omega
   have h3:i<off+1:=by omega
   simp[h1,h2,h3]
  .by_cases h2:i=off
   .subst h2
    have:i<cs.length:=by omega
    simp[this]
   .have h3:¬ i<off+1:=by omega
    have h4:¬ off=i:=by omega
    have h5:i-off=(i-(off+1))+1:=by omega
    simp only[h1,h3,h4,if_false]
    by_cases h6:i<off+1+r.length
    .rw [if_pos h6,if_pos (by omega),h5]; simp
    .rw [if_neg h6,if_neg (by omega)]
section
variable {h:Mem}{ρ:Own}{sto:List Blk}{w:World}{P:Program}
theorem RL.splice{fl vs l vs' l'}(r:RL h (Lf ρ sto) fl vs l)(r':RL h (Lf ρ sto) fl vs' l')(k:Nat):RL h (Lf ρ sto) fl (splice vs k vs') (splice l k l'):=by
 unfold Go.Av.splice;rw[r'.length];exact((r.take k).append r').append (r.drop _)
theorem A0J{l:List AV}{e j:Nat}(hl:∀ x∈l,(cellsOf x).length=e)(hj:j<l.length){x:AV}(hx:(cellsOf x).length=e) :
  flat (l.set j x)=splice (flat l) (j*e) (cellsOf x):=by
 have h1:l.set j x=l.take j++x::l.drop (j+1):=by rw[List.set_eq_take_append_cons_drop,if_pos hj]
 rw[h1,flat_append,flat];unfold splice;rw[AbX hl j,hx,show j*e+e=(j+1)*e by rw[Nat.succ_mul],AbC hl (j+1),List.append_assoc]
theorem AsZ{l:List AV}{e j off:Nat}{vs:List AV}(hl:∀ x∈l,(cellsOf x).length=e)(hj:j<l.length)(hv:off+vs.length<=e) :
  splice (flat l) (j*e) (splice (cellsOf (l.getD j .any)) off vs)=splice (flat l) (j*e+off) vs:=by
 have hel:l[j]? = some (l.getD j .any):=by simp[List.getD,hj]
 have hec:(cellsOf (l.getD j .any)).length=e:=hl _ (List.mem_of_getElem? hel);have hfl:=AaL hl;have hsl:=AbF (l:=cellsOf (l.getD j .any)) (k:=off) (vs:=vs) (by omega);have hb:(j+1)*e<=l.length*e:=Nat.mul_le_mul_right _ hj;rw[Nat.succ_mul]at hb;apply List.ext_getElem?;intro i;rw[AbN (l:=flat l) (k:=j*e) (by omega),AbN (l:=flat l) (k:=j*e+off) (vs:=vs) (by omega),hsl,hec]
 by_cases h1:i<j*e
 .rw [if_pos h1,if_pos (by omega)]
 .rw [if_neg h1]
  by_cases h2:i<j*e+e
  .rw [if_pos h2,AbN (by omega)]
   have hg:(flat l)[i]? = (cellsOf (l.getD j .any))[i-j*e]?:=by
    have:=BgR hl (j:=i-j*e) hel (by omega);rw[show j*e+(i-j*e)=i by omega]at this;exact this
   by_cases h3:i-j*e<off
   .rw [if_pos h3,if_pos (by omega),hg]
   .rw [if_neg h3]
    by_cases h4:i-j*e<off+vs.length
    .rw [if_pos h4,if_neg (by omega),if_pos (by omega)]; congr 1; omega
    .rw [if_neg h4,if_neg (by omega),if_neg (by omega),hg]
  .rw [if_neg h2,if_neg (by omega),if_neg (by omega)]
theorem AaQ{a:AV}(h1:one a=true):cellsOf a=[a]:=by cases a <;> first|rfl|cases h1
theorem AvX{old:AV}{cs:List AV}(hl:cs.length=(cellsOf old).length)(h1:(∀ c,old≠.agg c)->cs.getD 0 .any=.any\/one (cs.getD 0 .any)=true):cellsOf (reElem old cs)=cs:=by
 have key:(∀ l,old≠.agg l)->cellsOf (reElem old cs)=cs:=by
  intro hn;have h2:cellsOf old=[old]:=by cases old <;> first|rfl|exact(hn _ rfl).elim
  have h3:reElem old cs=cs.getD 0 .any:=by cases old <;> first|rfl|exact(hn _ rfl).elim
  rw[h2]at hl
  match cs,hl with
  | [c],_ =>
   rw[h3]
   show cellsOf c=[c]
   rcases h1 hn with h4|h4
   .have:c=.any:=h4
    subst this; rfl
   .exact AaQ h4
 cases old with
 | agg l=>rfl
 | _=>exact key (by intro l h; cases h)
theorem AmC{fl u a}(r:RV h (Lf ρ sto) fl u a)(h1:(cellsOf a).all one=true):RL h (Lf ρ sto) fl u.cells.toList (cellsOf a):=by
 by_cases ha:∃ l,a=.agg l
 .obtain ⟨l,rfl⟩:=ha
  obtain⟨vs,rfl,rl⟩:=AaN r
  simpa[Value.cells,cellsOf]using rl
 .have hc:cellsOf a=[a]:=by cases a <;> first|rfl|exact(ha ⟨_,rfl⟩).elim
  rw[hc]at h1 |-
  simp at h1
  have ho:=AiT r h1;have:u.cells=#[u]:=by cases u <;> first|rfl|cases ho
  rw[this];exact .cons r .nil
theorem AeO{fl vs l}(r:RL h (Lf ρ sto) fl vs l)(h1:l.all one=true):∀ v∈vs,v.oneCell'=true:=by
 induction l generalizing vs with
 | nil=>cases r; simp
 | cons a l ih =>
  cases r with
  | cons r1 r2 =>
   simp at h1
   intro v hv
   simp at hv
   rcases hv with rfl|hv
   .exact AiT r1 h1.1
   .exact ih r2 (by simpa using h1.2) v hv
theorem A0K(m:Mine h ρ sto w){vs:List Value}{l:List AV}{elem:AV}{t:TypeId}(rl:RL h (Lf ρ sto) false vs l)(hc:cellsOf elem=l){r:Result Next}
  (hr:r=.ok (.value (.pointer (some ⟨w.heap.size,0,none⟩))) (w.alloc (.cells vs.toArray t))):Res.Sound P h ρ sto w r (xnew sto l elem):=by
 intro⟨hl,h1⟩;have hlen:=rl.length;have hone:=AeO rl h1;have hm:=m.push (.cells vs.toArray t) (.arr l.length [elem]) (some 1) (by
  refine .inr ⟨w.heap.size,1,vs.toArray,t,by simp[upd],.of (heap_alloc_new w _),by simp[hlen],by simp,by simp[maxLen],hl,by simp[hc],by simpa using hone,?_⟩;simp only[List.toList_toArray,List.length_cons,List.length_nil,Nat.zero_add,Nat.one_mul,flat,hc,List.append_nil];rw[<- hlen,List.take_length];exact rl.mono (fun _ _ _ x=>x) (fun _ _=>AiB))
 refine⟨_,_,_,_,.inl hr,hm.1,hm.2,.leaf ⟨rfl,?_⟩⟩
 simp[LfC,upd]
theorem BrS{t:TypeId}{x:Operand}{o:Oper}{e:Env}{a:Act}(ho:o.op=.box t x)(m:Mine h ρ sto w)(he:EnvOk h ρ sto e a) :
  Res.Sound P h ρ sto w ((execOp a.eval o).run P w) (xbox (isRow (P.underlying t)) sto (ev e x)):=by
 have hx:=AaM he x;have hrun:(execOp a.eval o).run P w=.ok (.value (.pointer (some ⟨w.heap.size,0,none⟩))) (w.alloc (.cells (a.eval x).cells t)):=by
  simp[execOp,ho,Instr.box,newVar,newRow]
 rw[hrun];generalize a.eval x=u at *;unfold xbox
 split
 .rename_i l h1 h2
  rw[h2]at hx;obtain⟨vs,rfl,rl⟩:=AaN hx;exact A0K (t:=t) m rl rfl (by simp[Value.cells])
 .rename_i v h1 h2
  cases hv:one (ev e x)with
  | false=>trivial
  | true =>
   have hc:=AmC hx (by rw[AaQ hv]; simp[hv]);rw[AaQ hv]at hc;exact A0K (t:=t) m hc (AaQ hv) (by simp)
 .trivial
theorem AdW{fl:Bool}:∀ vs:List Value,RL h (Lf ρ sto) fl vs (vs.map AdU)
 | []=>.nil
 | v::vs=>.cons (AkF v) (AdW vs)
theorem BhE{t:TypeId}{o:Oper}{a:Act}(ho:o.op=.alloc t)(m:Mine h ρ sto w) :
  Res.Sound P h ρ sto w ((execOp a.eval o).run P w) (xalloc sto (isRow (P.underlying t)) (zav P t)):=by
 have key:∀ {l:List AV} {elem:AV},l=zav P t->cellsOf elem=l->Res.Sound P h ρ sto w ((execOp a.eval o).run P w) (xnew sto l elem):=by
  intro l elem hl hc hp;subst hl;unfold zav zcells at hp
  cases hi:P.info? t with
  | none=>simp[hi]at hp
  | some i =>
   cases hz:i.zero with
   | none=>simp[hi,hz]at hp
   | some z =>
    have hzc:zcells P t=z.cells.toList:=by simp[zcells,hi,hz]
    refine A0K (P:=P) (t:=t) m (vs:=z.cells.toList) (l:=zav P t) (elem:=elem) ?_ hc ?_ (by unfold zav zcells; exact hp)
    .unfold zav; rw[hzc]; exact AdW _
    .simp [execOp,ho,Instr.alloc,zeroValue,typeInfo,hi,hz,newVar,newRow]
 unfold xalloc
 cases isRow (P.underlying t)with
 | true=>exact key rfl rfl
 | false =>
  simp only[cond_false]
  split
  .rename_i v hv
   intro hp;refine key hv.symm (AaQ ?_) hp;have:=hp.2
   simpa using this
  .trivial
theorem BhF{t:TypeId}{x v:Operand}{o:Oper}{e:Env}{a:Act}(ho:o.op=.store t x v)(m:Mine h ρ sto w)(he:EnvOk h ρ sto e a) :
  Res.Sound P h ρ sto w ((execOp a.eval o).run P w) (ArC (tsize P t) sto (ev e x) (ev e v)):=by
 have hx:=AaM he x;have hv:=AaM he v;have hrun:(execOp a.eval o).run P w=((Instr.storeAt t (a.eval x) (a.eval v)).run P w).andThen fun _ w'=>.ok .skip w':=by
  simp[execOp,ho]
 rw[hrun];generalize a.eval x=u at *;generalize a.eval v=val at *;unfold ArC
 split
 .rename_i id n j off h1
  rw[h1]at hx;unfold A0C
  split
  .rename_i ee l hb
   intro⟨hpos,hn,hj,hsz,hoff,hone⟩;obtain⟨g,tot,cur,tt,h1,h2,h3,h4,h5,h6,h7,h8,h9,h10,h11,h12⟩:=AfZ m hb hx hn;have hjl:j<l.length:=by omega
   have hel:l[j]? = some (l.getD j .any):=by simp[List.getD,hjl]
   have hec:(cellsOf (l.getD j .any)).length=ee:=h10 _ (List.mem_of_getElem? hel);have hcs:=AmC hv hone;have hcl:=hcs.length;have hones:=AeO hcs hone;have hb2:(j+1)*ee<=l.length*ee:=Nat.mul_le_mul_right _ hjl;have hb3:l.length*ee<=tot*ee:=Nat.mul_le_mul_right _ h5;rw[Nat.succ_mul]at hb2;have hfit:(j*ee+off)+0+val.cells.toList.length<=cur.size:=by rw[hcl]; omega
   have hst:=AbD P g (j*ee+off) tt val.cells.toList 0 cur w h3 hfit hones;simp only[Nat.add_zero]at hst;have hsize:(sizeOf t).run P w=.ok (tsize P t) w:=AbJ hpos w;have hrun2:(Instr.storeAt t u val).run P w=.ok () (w.setRow g (splice cur.toList (j*ee+off) val.cells.toList).toArray):=by
    rw[h2];have hs2:val.cells.size=tsize P t:=by rw[<- hsz,<- hcl]; simp
    simp only[Instr.storeAt,Instr.sureAddr,Sem.run_bind,Sem.run_pure,Result.andThen_ok,storeVar,hsize,hs2];simp only[ne_eq,not_true_eq_false,if_false,Sem.run_pure,Result.andThen_ok];exact hst
   have hspl:(splice cur.toList (j*ee+off) val.cells.toList).length=cur.size:=by rw[AbF (by simpa using hfit)]; simp
   have hw:=h3.set (cs:=(splice cur.toList (j*ee+off) val.cells.toList).toArray) (by simp[hspl]);have hpl:(cellsOf (ev e v)).length=val.cells.toList.length:=hcl.symm;have hpc:=AiD (cellsOf (ev e v)) (cellsOf (l.getD j .any)) off (by omega);have hre:cellsOf (reElem (l.getD j .any) (putCells (cellsOf (l.getD j .any)) off (cellsOf (ev e v))))=putCells (cellsOf (l.getD j .any)) off (cellsOf (ev e v)):=by
    have hsl:=AbF (l:=cellsOf (l.getD j .any)) (k:=off) (vs:=cellsOf (ev e v)) (by omega);refine AvX (by rw[hpc,hsl]) ?_;intro hc0;have hnot:(cellsOf (l.getD j .any)).length=1\/∃ c,l.getD j .any=.agg c:=by
     cases l.getD j .any <;> first|exact .inl rfl|exact .inr ⟨_,rfl⟩
    rcases hnot with h1c|⟨c',hc'⟩
    .right
     have ho0:off=0:=by omega
     subst ho0
     match hq:cellsOf (ev e v),(by omega:(cellsOf (ev e v)).length=1)with
     | [y],_ =>
      rw[hq]at hone hpc;rw[hpc]
      simpa[splice]using hone
    .exact (hc0 _ hc').elim
   replace hre:=hre.trans hpc
   generalize reElem (l.getD j .any) (putCells (cellsOf (l.getD j .any)) off (cellsOf (ev e v)))=el at hre |-;have hlen2:(l.set j el).length=l.length:=by simp
   have helc:(cellsOf el).length=ee:=by rw[hre,AbF (by omega)]; exact hec
   have hm:=m.write (w':=w.setRow g (splice cur.toList (j*ee+off) val.cells.toList).toArray) h9 h1 (b':=.arr ee (l.set j el)) (.inl ⟨rfl,hlen2⟩) rfl rfl ⟨rfl,Tr.same rfl⟩ (by simp) (fun k hk=>setRow_other w g k _ hk) (by
    refine .inr ⟨g,tot,_,tt,h1,hw,by simp[hspl,h4],by simpa using h5,h6,h7,?_,?_,?_⟩
    .intro y hy
     rcases List.mem_or_eq_of_mem_set hy with hy|rfl
     .exact h10 y hy
     .exact helc
    .intro y hy
     simp only[List.toList_toArray,splice,List.mem_append]at hy
     rcases hy with(hy|hy)|hy
     .exact h11 y (List.mem_of_mem_take hy)
     .exact hones y hy
     .exact h11 y (List.mem_of_mem_drop hy)
    .have hfl:=AaL h10
     have hcurl:cur.toList.length=tot*ee:=by simp[h4]
     rw[A0J h10 hjl helc,hre,AsZ h10 hjl (by omega),hlen2];have e1:(splice cur.toList (j*ee+off) val.cells.toList).take (l.length*ee)=splice (cur.toList.take (l.length*ee)) (j*ee+off) val.cells.toList:=by
      apply List.ext_getElem?;intro i;rw[List.getElem?_take,AbN (by simpa using hfit),AbN (by rw[List.length_take,hcurl,Nat.min_eq_left hb3]; omega)];simp only[List.getElem?_take]
      by_cases hi:i<l.length*ee
      .simp [hi]
      .have:¬ i<j*ee+off:=by omega
       have h2':¬ i<j*ee+off+val.cells.toList.length:=by omega
       simp only[hi,this,h2',if_false]
     simp only[List.toList_toArray];rw[e1];exact((h12.splice hcs _).mono (fun _ _ _ x=>x) (fun v a lf=>⟨lf.1,AbT h9 (fun _ _=>rfl) (Or.inl ⟨rfl,hlen2,rfl⟩:(_/\_/\_)\/_) lf.2⟩)))
   refine⟨undef,_,_,_,.inr ⟨by rw[hrun2]; rfl,rfl⟩,hm.1,hm.2,.raw _⟩
  .trivial
 .trivial
end
