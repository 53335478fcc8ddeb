/- All operations together. -/
import Derived.Test.YtlldmgboedknfaaGreatDoorC4
import Derived.Lib.ConvBytes
import Derived.Laws.AppendOwn
set_option linter.unusedSimpArgs false
set_option linter.unusedVariables false
set_option linter.unusedSectionVars false
namespace Go.Av
open Go Go.RowKit
variable [Tr]
section
variable {h:Mem}{ρ:Own}{sto:List Blk}{w:World}{P:Program}
theorem AbU{id:Nat}{e:Nat}{l:List AV}(hb:sto.getD id .dead=.arr e l):sto[id]? = some (.arr e l):=by
 rw[List.getD_eq_getElem?_getD]at hb
 cases hq:sto[id]? with
 | none=>simp[hq]at hb
 | some b=>simp[hq]at hb; rw[hb]
theorem A6S{x:Operand}{i:Nat}{o:Oper}{e:Env}{a:Act}(ho:o.op=.extract x i)(m:Mine h ρ sto w)(he:EnvOk h ρ sto e a) :
  Res.Sound P h ρ sto w ((execOp a.eval o).run P w) (AiS (ev e x) i):=by
 have hx:=AaM he x;have hrun:(execOp a.eval o).run P w=((Instr.extract (a.eval x) i).run P w).andThen fun v w'=>.ok (.value v) w':=by simp[execOp,ho]
 rw[hrun];generalize a.eval x=u at *;unfold AiS
 split
 .rename_i l h1
  rw[h1]at hx;obtain⟨vs,rfl,rl⟩:=A0I hx;intro hi;have hlen:=rl.length;have:i<vs.length:=by omega
  refine AaA m (u:=vs[i]) (by simp[Instr.extract,this]) ?_;have:=rl.getD i undef
  simpa[List.getD,‹i<vs.length›]using this
 .trivial
theorem BnY{c x y:Operand}{o:Oper}{e:Env}{a:Act}(ho:o.op=.pick c x y)(m:Mine h ρ sto w)(he:EnvOk h ρ sto e a) :
  Res.Sound P h ρ sto w ((execOp a.eval o).run P w) (A9R (ev e c) (ev e x) (ev e y)):=by
 have hc:=AaM he c;unfold A9R
 split
 .rename_i b h1
  rw[h1]at hc;have h2:=AaU hc
  cases b with
  | true=>exact AaA m (by simp[execOp,ho,h2,asBool]) (AaM he x)
  | false=>exact AaA m (by simp[execOp,ho,h2,asBool]) (AaM he y)
 .trivial
theorem BrT{x:Operand}{t:TypeId}{o:Oper}{e:Env}{a:Act}(ho:o.op=.unOp .not t x)(m:Mine h ρ sto w)(he:EnvOk h ρ sto e a) :
  Res.Sound P h ρ sto w ((execOp a.eval o).run P w) (xnot (ev e x)):=by
 have hx:=AaM he x;unfold xnot
 split
 .rename_i b h1
  rw[h1]at hx;exact AaA m (by simp[execOp,ho,AaU hx,Op.unary]) (.bool _)
 .trivial
theorem BrU{x:Operand}{t:TypeId}{o:Oper}{e:Env}{a:Act}(ho:o.op=.unOp .neg t x)(m:Mine h ρ sto w)(he:EnvOk h ρ sto e a) :
  Res.Sound P h ρ sto w ((execOp a.eval o).run P w) (xneg (ev e x)):=by
 have hx:=AaM he x;unfold xneg
 split
 .rename_i k n h1
  rw[h1]at hx;intro hi;have:k.wrap (0-n)=0-n:=AgX hi;exact AaA m (u:=.int k (0-n)) (by simp only[execOp,ho,AaK hx,Op.unary,Op.intArith,this]; rfl) (.int _ _)
 .trivial
theorem BhG{t:TypeId}{x i:Operand}{o:Oper}{e:Env}{a:Act}(ho:o.op=.index t x i)(m:Mine h ρ sto w)(he:EnvOk h ρ sto e a) :
  Res.Sound P h ρ sto w ((execOp a.eval o).run P w) (AvR (P.underlying t) (P.underlying (elemD (P.underlying t))) (tsize P (elemD (P.underlying t))) (ev e x) (ev e i)):=by
 have hx:=AaM he x;have hi:=AaM he i;have hrun:(execOp a.eval o).run P w=((Instr.index t (a.eval x) (a.eval i)).run P w).andThen fun v w'=>.ok (.value v) w':=by simp[execOp,ho]
 rw[hrun];generalize a.eval x=u at *;generalize a.eval i=v at *;unfold AvR
 split
 .rename_i l k n h1 h2 h3
  rw[h2]at hx; rw[h3]at hi;have e1:=AaY hx;have e2:=AaK hi;intro⟨hn,hlt⟩;have hn':n.toNat<l.length:=by omega
  refine AaA m (u:=.int .u8 ((l.getD n.toNat 0).toNat)) ?_ (.int _ _);have hget:(ByteArray.mk l.toArray)[n.toNat]? = some (l.getD n.toNat 0):=by
   have hsz:(ByteArray.mk l.toArray).size=l.length:=rfl;have:n.toNat<(ByteArray.mk l.toArray).size:=by rw[hsz]; exact hn'
   rw[getElem?_pos (ByteArray.mk l.toArray) n.toNat this]
   congr 1
   simp[List.getD,hn']
   rfl
  rw[e1,e2]
  simp[Instr.index,asIntOf,run_underlying h1,hn,hget]
 .rename_i len el l k n h1 h2 h3
  rw[h1];rw[h2]at hx; rw[h3]at hi;obtain⟨vs,rfl,rl⟩:=AaN hx;have e2:=AaK hi;subst e2;intro⟨hd,hn,ok⟩;obtain⟨u,hu,ru⟩:=part_run (P:=P) (w:=w) hd rl ok;refine AaA m (u:=u) ?_ ru
  cases hq:P.underlying el with
  | none=>simp[has,elemD,hq]at hd
  | some d =>
   have hs:=ArE hq w;simp only[elemD]at hu
   simp[Instr.index,asIntOf,run_underlying h1,hn,hs,hu]
 .trivial
theorem BhH{t:TypeId}{x:Operand}{f:Nat}{o:Oper}{e:Env}{a:Act}(ho:o.op=.field t x f)(m:Mine h ρ sto w)(he:EnvOk h ρ sto e a) :
  Res.Sound P h ρ sto w ((execOp a.eval o).run P w) (AmY P (ev e x) (AmX (P.underlying t) f)):=by
 have hx:=AaM he x;have hrun:(execOp a.eval o).run P w=((Instr.field t (a.eval x) f).run P w).andThen fun v w'=>.ok (.value v) w':=by simp[execOp,ho]
 rw[hrun];generalize a.eval x=u at *;unfold AmY
 split
 .rename_i off ft hf
  split
  .rename_i l h1
   rw[h1]at hx;obtain⟨vs,rfl,rl⟩:=AaN hx;intro⟨hd,ok⟩;obtain⟨u,hu,ru⟩:=part_run (P:=P) (w:=w) hd rl ok;refine AaA m (u:=u) ?_ ru;unfold AmX at hf
   split at hf
   .rename_i fs hfs
    cases hff:fs[f]? with
    | none=>simp[hff]at hf
    | some fd =>
     simp[hff]at hf
     obtain⟨rfl,rfl⟩:=hf
     simp[Instr.field,run_underlying hfs,hff,asAgg,hu]
   .simp at hf
  .trivial
 .trivial
theorem BhI(m:Mine h ρ sto w){u:Value}{id n j off:Nat}{e:Nat}{l:List AV}(hb:sto.getD id .dead=.arr e l)(r:RV h (Lf ρ sto) false u (.ptr id n j off))(hn:n=l.length)(k:Nat) :
  ∃ g o,u=.pointer (some ⟨g,o,none⟩)/\RV h (Lf ρ sto) false (.pointer (some ⟨g,o+k,none⟩)) (.ptr id n j (off+k)):=by
 obtain⟨g,tot,cur,tt,h1,h2,h3,h4,h5,h6,h7,h8,h9,h10,h11,h12⟩:=AfZ m hb r hn;refine⟨g,_,h2,.leaf ⟨rfl,?_⟩⟩;simp only[LfC,h9];exact⟨by omega,fun _=>⟨h8,g,tot,h1,by rw[Nat.add_assoc]⟩⟩
theorem AnF{p:Prop}{k:Nat}{u:Value}{av:AV}(m:Mine h ρ sto w)(r:RV h (Lf ρ sto) false u av){res:Result Next}
  (hr:p->∀ g o,u=.pointer (some ⟨g,o,none⟩)->res=.ok (.value (.pointer (some ⟨g,o+k,none⟩))) w) :
  Res.Sound P h ρ sto w res (xptrAddIf p sto av k):=by
 unfold xptrAddIf
 split
 .rename_i id n j off
  split
  .rename_i ee l hb
   intro⟨hp,hn⟩;obtain⟨g,o,h1,h2⟩:=BhI m hb r hn k;exact AaA m (hr hp g o h1) h2
  .trivial
 .rename_i ee l j off
  intro hp;obtain⟨b,o,vs,h1,h2,h3,h4,h5⟩:=AkE r;refine AaA m (hr hp b _ h1) ?_;rw[show o+(j*ee+off)+k=o+(j*ee+(off+k)) by omega];exact .pin b o ee l vs j (off+k) h2 h3 h4 h5
 .trivial
theorem AvY{t:TypeId}{x:Operand}{f:Nat}{o:Oper}{e:Env}{a:Act}(ho:o.op=.fieldAddr t x f)(m:Mine h ρ sto w)(he:EnvOk h ρ sto e a) :
  Res.Sound P h ρ sto w ((execOp a.eval o).run P w) (AcU P (AmX (P.underlying t) f) sto (ev e x)):=by
 have hx:=AaM he x;have hrun:(execOp a.eval o).run P w=((Instr.fieldAt t (a.eval x) f).run P w).andThen fun v w'=>.ok (.value v) w':=by simp[execOp,ho]
 rw[hrun];unfold AcU
 split
 .rename_i off ft hf
  refine AnF m hx fun hp g o hu=>?_
  unfold AmX at hf
  split at hf
  .rename_i fs hfs
   cases hff:fs[f]? with
   | none=>simp[hff]at hf
   | some fd =>
    simp[hff]at hf
    obtain⟨rfl,rfl⟩:=hf;have hs:=AbJ hp w;have hne:tsize P fd.type≠0:=by omega
    rw[hu]
    simp[Instr.fieldAt,run_underlying hfs,hff,Instr.sureAddr,fieldPlace,hs,hne,Addr.add_mid]
  .simp at hf
 .trivial
theorem AvZ{t:TypeId}{x i:Operand}{o:Oper}{e:Env}{a:Act}(ho:o.op=.indexAddr t x i)(m:Mine h ρ sto w)(he:EnvOk h ρ sto e a) :
  Res.Sound P h ρ sto w ((execOp a.eval o).run P w) (AbZ (P.underlying t) (tsize P (elemD (P.underlying t))) sto (ev e x) (ev e i)):=by
 have hx:=AaM he x;have hi:=AaM he i;have hrun:(execOp a.eval o).run P w=((Instr.indexAt t (a.eval x) (a.eval i)).run P w).andThen fun v w'=>.ok (.value v) w':=by simp[execOp,ho]
 rw[hrun];unfold AbZ
 split
 .rename_i len el k n h1 h2
  rw[h1];rw[h2]at hi;have e2:=AaK hi;refine AnF m hx fun hp g o hu=>?_
  obtain⟨hp1,hp2⟩:=hp;have hs:=AbJ hp1 w;simp only[elemD]at hs |-;rw[hu,e2]
  simp[Instr.indexAt,asIntOf,run_underlying h1,Instr.sureAddr,hp2,hs,Addr.add_mid]
 .rename_i el k n h1 h2
  rw[h1];rw[h2]at hi;have e2:=AaK hi;simp only[elemD]
  split
  .rename_i ee l h3
   rw[h3]at hx;intro⟨hsz,hee,hn⟩;have hs:=AbJ hsz w
   rcases AfY hx with⟨rfl,_⟩|⟨b,oo,c,vs,h4,h5,h6,h7,h8⟩
   .simp at hn; omega
   .have hpin:=RV.pin (fl:=false) b oo ee l vs n.toNat 0 h5 h6 h7 (by omega)
    refine AaA m ?_ hpin;rw[h4,e2,hee]
    simp[Instr.indexAt,asIntOf,run_underlying h1,hn,hs,Addr.add_mid]
  .rename_i id off len cap h3
   rw[h3]at hx
   split
   .rename_i ee l hb
    intro⟨hsz,hee,hcap,hn0,hn,hlc⟩;have hs:=AbJ hsz w;have hso:sto[id]? = some (.arr ee l):=by
     rw[List.getD_eq_getElem?_getD]at hb
     cases hq:sto[id]? with
     | none=>simp[hq]at hb
     | some b=>simp[hq]at hb; rw[hb]
    have hl:=(AbO hx).2;simp only[LfC,hso]at hl;obtain⟨_,hl⟩:=hl
    rcases hl hcap with⟨h5,_⟩|⟨g,tot,h5,h6,h7⟩
    .omega
    .refine AaA m (u:=.pointer (some ⟨g,off*ee+n.toNat*ee,none⟩)) ?_ (.leaf ⟨rfl,?_⟩)
     .rw [h6,e2,hee]
      simp[Instr.indexAt,asIntOf,run_underlying h1,hn0,hn,hs,Addr.add_mid]
     .simp only [LfC,hso]
      exact⟨by omega,fun _=>⟨by omega,g,tot,h5,by simp[Nat.add_mul]⟩⟩
   .trivial
  .trivial
 .trivial
theorem A0L{f:Fn}{first cap:Array Operand}{o:Oper}{e:Env}{a:Act}(ho:o.op=.makeFunc f first cap)(m:Mine h ρ sto w)(he:EnvOk h ρ sto e a) :
  Res.Sound P h ρ sto w ((execOp a.eval o).run P w) (match first.toList with|[]=>.ok (.fn f (evs e cap.toList))|_=>.stuck):=by
 split
 .rename_i h1
  have hf:first=#[]:=by cases first; simp at h1; rw[h1]
  have hc:=BlV he cap.toList;refine AaA m (u:=.func f #[] (cap.toList.map a.eval).toArray) ?_ (.fn f _ _ hc);have e1:cap.map a.eval=(cap.toList.map a.eval).toArray:=by rw[<- Array.toList_map,Array.toArray_toList]
  simp[execOp,ho,Instr.makeFunc,hf,e1]
 .trivial
theorem BnZ{c:Call}{f:Operand}(hf:c.callee=.value f){o:Oper}{e:Env}{a:Act}(ho:o.op=.call c)(m:Mine h ρ sto w)(he:EnvOk h ρ sto e a) :
  Res.Sound P h ρ sto w ((execOp a.eval o).run P w) (A9V (ev e f) (evs e c.args.toList)):=by
 have hx:=AaM he f;unfold A9V
 split
 .rename_i fid cap h1
  rw[h1]at hx;obtain⟨vs,h2,rl⟩:=A3O hx;have ha:=BlV he c.args.toList;refine⟨c.args.toList.map a.eval++vs,ha.append rl,fun hb=>?_⟩;unfold AaB at hb
  cases hq:P.funcs[fid]? with
  | none=>simp[hq]at hb
  | some fn =>
   simp only [hq] at hb;have h3:(fn.name == "runtime.NumGoroutine")=false:=by cases h:fn.name == "runtime.NumGoroutine" <;> simp_all
   have h4:fn.body.isNone=false:=by cases h:fn.body <;> simp_all
   have e3:c.args.map a.eval++vs.toArray=(c.args.toList.map a.eval++vs).toArray:=by
    rw[<- List.append_toArray,<- Array.toList_map,Array.toArray_toList]
   have h5:(callFunc fid (c.args.map a.eval++vs.toArray)).run P w=.ok (.enter fid (c.args.map a.eval++vs.toArray)) w:=by
    unfold callFunc;simp only[Sem.run_bind,run_program,Result.andThen_ok,hq,h3,h4,Bool.false_eq_true,if_false,Sem.run_pure]
   rw[<- e3,<- h5]
   simp[execOp,ho,resolve,hf,h2,Deferred.ofValue,invoke]
 .trivial
theorem BrV{c:Call}(hf:c.callee=.builtin .len){o:Oper}{e:Env}{a:Act}(ho:o.op=.call c)(m:Mine h ρ sto w)(he:EnvOk h ρ sto e a) :
  Res.Sound P h ρ sto w ((execOp a.eval o).run P w) (A0D P e sto c.args.toList c.argTypes.toList):=by
 have hrun:(execOp a.eval o).run P w=((Builtin.len_ c.argTypes o.type (c.args.map a.eval)).run P w).andThen fun v w'=>.ok (.value v) w':=by
  simp[execOp,ho,resolve,hf,invoke,builtin]
 rw[hrun];unfold A0D
 split
 .rename_i x xs t ts h1 h2
  have hx:=AaM he x;have e1:(c.args.map a.eval)[0]? = some (a.eval x):=by
   rw[<- Array.getElem?_toList,Array.toList_map,h1]; rfl
  have e2:c.argTypes[0]? = some t:=by rw[<- Array.getElem?_toList,h2]; rfl
  generalize a.eval x=u at *;unfold xlen
  split
  .rename_i s hd hv
   rw[hv]at hx;refine AaA m (u:=.int .i64 s.length) ?_ (.int _ _);have:(ByteArray.mk s.toArray).size=s.length:=rfl
   simp[Builtin.len_,e1,e2,run_underlying hd,AaY hx,goInt,this]
  .rename_i el n l hd hv
   rw[hv]at hx;refine AaA m (u:=.int .i64 l.length) ?_ (.int _ _)
   rcases AfY hx with⟨rfl,rfl⟩|⟨b,oo,c',vs,rfl,_⟩ <;> simp[Builtin.len_,e1,e2,run_underlying hd,goInt]
  .rename_i el id off n cap hd hv
   rw[hv]at hx
   split
   .rename_i ee l hb
    intro hcap;have hso:sto[id]? = some (.arr ee l):=AbU hb;have hl:=(AbO hx).2;simp only[LfC,hso]at hl;refine AaA m (u:=.int .i64 n) ?_ (.int _ _)
    rcases hl.2 hcap with⟨h5,_,_,rfl⟩|⟨g,tot,h5,rfl,h7⟩
    .subst h5; simp[Builtin.len_,e1,e2,run_underlying hd,goInt]
    .simp [Builtin.len_,e1,e2,run_underlying hd,goInt]
   .trivial
  .rename_i el hd hv
   rw[hv]at hx;refine AaA m (u:=.int .i64 0) ?_ (.int _ _)
   simp[Builtin.len_,e1,e2,run_underlying hd,AaS hx,goInt]
  .rename_i n el hd
   refine AaA m (u:=.int .i64 n) ?_ (.int _ _)
   simp[Builtin.len_,e1,e2,run_underlying hd,goInt]
  .rename_i kt et id hd hv
   rw[hv]at hx
   split
   .rename_i es hb
    have hso:sto[id]? = some (.mp es):=by
     rw[List.getD_eq_getElem?_getD]at hb
     cases hq:sto[id]? with
     | none=>simp[hq]at hb
     | some b=>simp[hq]at hb; rw[hb]
    have hl:=(AhT hx).2;simp only[LfC,hso]at hl;obtain⟨g,hg,rfl⟩:=hl;obtain⟨g',en,clock,o1,o2,o3,o4,o5⟩:=m.own id _ hso;have:g'=g:=by rw[hg]at o1; simpa using o1.symm
    subst this;refine AaA m (u:=.int .i64 (lvs es).length) ?_ (.int _ _);have o3':en.size=(lvs es).length:=by simpa using o3
    have hgo:(getObj g').run P w=.ok (.map en clock) w:=by simp[getObj,Sem.run,o2]
    simp[Builtin.len_,e1,e2,run_underlying hd,goInt,hgo,o3',Result.andThen]
   .trivial
  .trivial
 .trivial
theorem ArG:∀ (vs:List Value)(off k:Nat)(cs:Array Value),off+k+vs.length<=cs.size ->
  ((vs.zipIdx k).foldl (fun(cs:Array Value) (x:Value×Nat)=>cs.setIfInBounds (off+x.2) x.1) cs).toList=splice cs.toList (off+k) vs
 | [],off,k,cs,_=>by simp[splice]
 | v::r,off,k,cs,hl=>by
  simp only[List.length_cons]at hl;simp only[List.zipIdx_cons,List.foldl_cons];rw[ArG r off (k+1) _ (by simp; omega)];simp only[Array.toList_setIfInBounds];apply List.ext_getElem?;intro i;have e0:off+(k+1)=off+k+1:=by omega
  rw[e0,AbN (by simp; omega),AbN (by simp; omega)];simp only[List.getElem?_set,List.length_cons]
  by_cases h1:i<off+k
  .have h2:¬ off+k=i:=by omega
   have h3:i<off+k+1:=by omega
   simp[h1,h2,h3]
  .by_cases h2:i=off+k
   .subst h2
    have:off+k<cs.size:=by omega
    simp[this]
   .have h3:¬ i<off+k+1:=by omega
    have h4:¬ off+k=i:=by omega
    have h5:i-(off+k)=(i-(off+k+1))+1:=by omega
    simp only[h1,h3,h4,if_false]
    by_cases h6:i<off+k+1+r.length
    .rw [if_pos h6,if_pos (by omega),h5]; simp
    .rw [if_neg h6,if_neg (by omega)]
theorem AtA{place:Nat->Option (Nat×Nat)}{fl:Bool}:∀ {parts:List (Nat×Value)}{avs:List (Nat×AV)}{cells:Array Value}{cs cs':List AV},
  parts.map (·.1)=avs.map (·.1)->RL h (Lf ρ sto) fl (parts.map (·.2)) (avs.map (·.2))->RL h (Lf ρ sto) fl cells.toList cs->AmZ place cs avs=some cs' ->
  ∃ cells',Instr.fill place cells parts=some cells'/\RL h (Lf ρ sto) fl cells'.toList cs'/\cs'.length=cs.length/\(cs.all one=true->cs'.all one=true)
 | [],[],cells,cs,cs',_,_,rc,hf=>by
  simp[AmZ]at hf; subst hf
  exact⟨cells,rfl,rc,rfl,fun x=>x⟩
 | [],_::_,_,_,_,he,_,_,_=>by simp at he
 | _::_,[],_,_,_,he,_,_,_=>by simp at he
 | (i,v)::parts,(j,a)::avs,cells,cs,cs',he,rp,rc,hf=>by
  simp at he
  obtain⟨rfl,he⟩:=he
  cases rp with
  | cons r1 r2 =>
   simp only[AmZ]at hf
   cases hp:place i with
   | none=>simp[hp]at hf
   | some os =>
    obtain⟨off,sz⟩:=os;simp only[hp]at hf
    cases hc:((cellsOf a).length==sz&&decide (off+sz<=cs.length)&&(cellsOf a).all one)with
    | false=>simp[hc]at hf
    | true =>
     simp only[hc,cond_true]at hf;simp only[Bool.and_eq_true,beq_iff_eq,decide_eq_true_eq]at hc;obtain⟨⟨h1,h2⟩,h3⟩:=hc;have rv:=AmC r1 h3;have hlen:=rv.length;have hcl:=rc.length;have hsz:v.cells.size=sz:=by rw[<- h1,<- hlen]; simp
     have hfit:off+sz<=cells.size:=by simp at hcl; omega
     have hnot:¬ (v.cells.size≠sz\/off+v.cells.size>cells.size):=by omega
     have hpc:putCells cs off (cellsOf a)=splice cs off (cellsOf a):=AiD _ _ _ (by omega);have hfold:(v.cells.zipIdx.foldl (fun cs (c,j)=>cs.setIfInBounds (off+j) c) cells).toList=splice cells.toList off v.cells.toList:=by
      have:=ArG v.cells.toList off 0 cells (by simp; omega);rw[<- Array.foldl_toList,Array.toList_zipIdx]
      simpa using this
     obtain⟨cells',g1,g2,g3,g4⟩:=AtA (cells:=v.cells.zipIdx.foldl (fun cs (c,j)=>cs.setIfInBounds (off+j) c) cells) he r2 (by rw[hfold,hpc]; exact rc.splice rv off) hf;refine⟨cells',?_,g2,by rw[g3,hpc,AbF (by omega)],fun hall=>g4 ?_⟩
     .simp only [Instr.fill,hp]
      rw[if_neg (by simpa using hnot)];exact g1
     .rw [hpc]
      simp only[splice,List.all_append,Bool.and_eq_true];rw[List.all_eq_true]at hall;exact⟨⟨List.all_eq_true.2 fun x hx=>hall x (List.mem_of_mem_take hx),h3⟩,List.all_eq_true.2 fun x hx=>hall x (List.mem_of_mem_drop hx)⟩
theorem AmD{e:Env}{a:Act}(he:EnvOk h ρ sto e a):∀ (parts:List (Nat×Operand)),
  (parts.map fun p=>(p.1,a.eval p.2)).map (·.1)=(evp e parts).map (·.1)/\RL h (Lf ρ sto) false ((parts.map fun p=>(p.1,a.eval p.2)).map (·.2)) ((evp e parts).map (·.2))
 | []=>⟨rfl,.nil⟩
 | (i,x)::r=>by
  obtain⟨h1,h2⟩:=AmD he r;exact⟨by simp[evp]at h1 |-; exact h1,.cons (AaM he x) h2⟩
theorem BhJ{t:TypeId}{parts:Array (Nat×Operand)}{o:Oper}{e:Env}{a:Act}(ho:o.op=.build t parts)(m:Mine h ρ sto w)(he:EnvOk h ρ sto e a) :
  Res.Sound P h ρ sto w ((execOp a.eval o).run P w) (AvS P (P.underlying t) (zav P t) (evp e parts.toList)):=by
 obtain⟨hp1,hp2⟩:=AmD he parts.toList;have hrun:(execOp a.eval o).run P w=((Instr.build t (parts.map fun(i,x)=>(i,a.eval x))).run P w).andThen fun v w'=>.ok (.value v) w':=by simp[execOp,ho]
 have hpl:(parts.map fun(i,x)=>(i,a.eval x)).toList=parts.toList.map fun p=>(p.1,a.eval p.2):=by simp
 have key:∀ {place:Nat->Option (Nat×Nat)} {cs:List AV},AmZ place (zav P t) (evp e parts.toList)=some cs->0<(zav P t).length ->
   (∀ (i:TypeInfo) (z:Value),P.info? t=some i->i.zero=some z->∀ cells',Instr.fill place z.cells (parts.toList.map fun p=>(p.1,a.eval p.2))=some cells'->P.built t (parts.toList.map fun p=>(p.1,a.eval p.2))=some cells') ->
   Okv h ρ sto w ((execOp a.eval o).run P w) (.agg cs) sto:=by
  intro place cs hf hz hb;unfold zav zcells at hf hz
  cases hi:P.info? t with
  | none=>simp[hi]at hz
  | some i =>
   cases hzz:i.zero with
   | none=>simp[hi,hzz]at hz
   | some z =>
    simp only[hi,hzz,Option.bind_some]at hf;obtain⟨cells',g1,g2,_⟩:=AtA hp1 hp2 (AdW z.cells.toList) hf;have hbuilt:=hb i z hi hzz cells' g1;have:=run_build (P:=P) w t (parts.map fun(i,x)=>(i,a.eval x)) cells' (by rw[hpl]; exact hbuilt);refine AaA m (u:=.agg cells') (by rw[hrun,this]; rfl) ?_;have:=RV.agg (fl:=false) cells'.toList cs g2
    simpa using this
 unfold AvS
 split
 .rename_i fs hd
  split
  .rename_i cs hf
   intro⟨hz,hall⟩;refine key hf hz fun i z hi hz cells' hfl=>?_
   have hmap:∀ (l:List Field),A3H P l->l.mapM (fun f=>(P.info? f.type).map fun i=>(f.offset,i.size))=some (l.map fun f=>(f.offset,tsize P f.type)):=by
    intro l
    induction l with
    | nil=>intro _; rfl
    | cons f l ih =>
     intro⟨h1,h2⟩
     cases hq:P.underlying f.type with
     | none=>simp[has,hq]at h1
     | some d =>
      obtain⟨j,hj⟩:=AbW hq
      simp[List.mapM_cons,hj,ih h2,tsize]
   unfold Program.built;simp only[hi,hd,hz,hmap fs.toList hall];rw[<- hfl]
   congr 1
   funext k
   simp[AiC]
  .trivial
 .rename_i n el hd
  split
  .rename_i cs hf
   intro⟨hz,hhas⟩;refine key hf hz fun i z hi hz cells' hfl=>?_
   cases hq:P.underlying el with
   | none=>simp[has,hq]at hhas
   | some d =>
    obtain⟨j,hj⟩:=AbW hq;unfold Program.built;simp only[hi,hd,hz,hj];rw[<- hfl]
    simp[tsize,hj]
  .trivial
 .trivial
theorem AmE{row:Bool}{sz:Nat}:∀ {n:Nat}{cs:List AV},cs.length=n*sz->(row=false->sz=1)->cs.all one=true->flat (cut row sz n cs)=cs
 | 0,cs,hl,_,_=>by simp at hl; subst hl; rfl
 | n+1,cs,hl,hr,h1=>by
  rw[Nat.succ_mul]at hl;have ih:=AmE (row:=row) (sz:=sz) (n:=n) (cs:=cs.drop sz) (by simp; omega) hr (by
   rw[List.all_eq_true]at h1 |-;exact fun x hx=>h1 x (List.mem_of_mem_drop hx))
  simp only[cut,flat,ih]
  cases row with
  | true=>simp[cellsOf]
  | false =>
   have:=hr rfl;subst this
   match cs,hl with
   | c::r,_ =>
    simp at h1
    simp[AaQ h1.1]
   | [],e=>simp at e
theorem cut_len{row:Bool}{sz:Nat}:∀ {n:Nat}{cs:List AV},(cut row sz n cs).length=n
 | 0,cs=>rfl
 | n+1,cs=>by simp[cut,cut_len]
theorem AiU{row:Bool}{sz:Nat}:∀ {n:Nat}{cs:List AV},cs.length=n*sz->(row=false->sz=1)->cs.all one=true->∀ x∈cut row sz n cs,(cellsOf x).length=sz
 | 0,cs,_,_,_,x,hx=>by simp[cut]at hx
 | n+1,cs,hl,hr,h1,x,hx=>by
  rw[Nat.succ_mul]at hl;simp only[cut,List.mem_cons]at hx
  rcases hx with rfl|hx
  .cases row with
   | true=>simp[cellsOf]; omega
   | false =>
    have:=hr rfl;subst this
    match cs,hl with
    | c::r,_ =>
     simp at h1
     simp[AaQ h1.1]
    | [],e=>simp at e
  .exact AiU (n:=n) (cs:=cs.drop sz) (by simp; omega) hr (by
    rw[List.all_eq_true]at h1 |-;exact fun x hx=>h1 x (List.mem_of_mem_drop hx)) x hx
theorem rep_len(z:List AV):∀ n,(rep z n).length=n*z.length
 | 0=>by simp[rep]
 | n+1=>by simp[rep,rep_len z n,Nat.succ_mul]; omega
theorem A0M{z:List AV}:∀ {n i:Nat},i<n*z.length->(rep z n)[i]? = z[i%z.length]?
 | 0,i,hi=>by simp at hi
 | n+1,i,hi=>by
  rw[Nat.succ_mul]at hi;simp only[rep]
  by_cases h1:i<z.length
  .rw [List.getElem?_append_left h1,Nat.mod_eq_of_lt h1]
  .rw [List.getElem?_append_right (by omega),A0M (by omega)]
   rw[Nat.mod_eq_sub_mod (by omega:i>=z.length)]
theorem AiV{z:List Value}{fl:Bool}(n:Nat)(hz:0<z.length):RL h (Lf ρ sto) fl ((Array.range (n*z.length)).map (z.toArray[·%z.length]!)).toList (rep (z.map AdU) n):=by
 refine RL.of_get (by simp[rep_len]) fun k v a h1 h2=>?_
 have hk:k<n*z.length:=by
  rcases Nat.lt_or_ge k (n*z.length)with x|x
  .exact x
  .simp [x]at h1
 have hm:k%z.length<z.length:=Nat.mod_lt _ hz;rw[A0M (by simpa using hk)]at h2
 simp[hk]at h1
 simp[hm]at h2
 have:v=z[k%z.length]:=by rw[<- h1]; simp[hm]
 rw[this,<- h2];exact AkF _
theorem BhK{fl u a}(r:RV h (Lf ρ sto) fl u a)(hf:frozen0 a=true):RV h (Lf ρ sto) true u a:=by
 cases r with
 | leaf l=>cases a <;> first|exact l.2.elim|exact absurd hf (by simp[frozen0])
 | int k n=>exact .int k n
 | bool b=>exact .bool b
 | str s=>exact .str s
 | raw=>exact .raw _
 | any=>exact .any _
 | fznil e=>exact .fznil e
 | fz b o c e l vs h1 h2 h3 h4=>exact .fz b o c e l vs h1 h2 h3 h4
 | pin b o e l vs i off h1 h2 h3 h4=>exact .pin b o e l vs i off h1 h2 h3 h4
 | agg=>cases hf
 | tup=>cases hf
 | fn=>cases hf
theorem A3P{fl:Bool}:∀ {l:List AV}{vs:List Value},RL h (Lf ρ sto) fl vs l->l.all frozen0=true->RL h (Lf ρ sto) true vs l
 | [],_,r,_=>by cases r; exact .nil
 | a::l,_,r,hf=>by
  cases r with
  | cons r1 r2 =>
   simp at hf
   exact .cons (BhK r1 hf.1) (A3P r2 (by simpa using hf.2))
theorem AkG{fl u a}(r:RV h (Lf ρ sto) fl u a)(hf:frozen a=true):RV h (Lf ρ sto) true u a:=by
 cases r with
 | leaf l=>cases a <;> first|exact l.2.elim|exact absurd hf (by simp[frozen])
 | int k n=>exact .int k n
 | bool b=>exact .bool b
 | str s=>exact .str s
 | raw=>exact .raw _
 | any=>exact .any _
 | fznil e=>exact .fznil e
 | fz b o c e l vs h1 h2 h3 h4=>exact .fz b o c e l vs h1 h2 h3 h4
 | pin b o e l vs i off h1 h2 h3 h4=>exact .pin b o e l vs i off h1 h2 h3 h4
 | agg=>cases hf
 | tup=>cases hf
 | fn f vs l r=>exact .fn f vs l (A3P r hf)
theorem AcW{fl:Bool}:∀ {l:List AV}{vs:List Value},RL h (Lf ρ sto) fl vs l->l.all frozen=true->RL h (Lf ρ sto) true vs l
 | [],_,r,_=>by cases r; exact .nil
 | a::l,_,r,hf=>by
  cases r with
  | cons r1 r2 =>
   simp at hf
   exact .cons (AkG r1 hf.1) (AcW r2 (by simpa using hf.2))
theorem AqR{frz:Bool}{t:TypeId}{len:Nat}{parts:Array (Nat×Operand)}{o:Oper}{e:Env}{a:Act}(ho:o.op=.buildSlice t len parts)(m:Mine h ρ sto w)(he:EnvOk h ρ sto e a) :
  Res.Sound P h ρ sto w ((execOp a.eval o).run P w) (match P.underlying t with|some (.slice el)=>AdV frz (isRow (P.underlying el)) (tsize P el) sto (zav P el) len (evp e parts.toList)|_=>.stuck):=by
 obtain⟨hp1,hp2⟩:=AmD he parts.toList;have hrun:(execOp a.eval o).run P w=((Instr.buildSlice t len (parts.map fun(i,x)=>(i,a.eval x))).run P w).andThen fun v w'=>.ok (.value v) w':=by simp[execOp,ho]
 have hpl:(parts.map fun(i,x)=>(i,a.eval x)).toList=parts.toList.map fun p=>(p.1,a.eval p.2):=by simp
 split
 .rename_i el hel
  unfold AdV
  split
  .rename_i cs hf
   have key:(0<tsize P el/\0<len/\(zav P el).length=tsize P el/\len*tsize P el<=16777216/\(rep (zav P el) len).all one=true/\(isRow (P.underlying el)=false->tsize P el=1)) ->
     ∃ cells,(execOp a.eval o).run P w=.ok (.value (.slice (some ⟨w.heap.size,0,none⟩) len len)) (w.alloc (.cells cells el))/\RL h (Lf ρ sto) false cells.toList cs /\
      cs.length=len*tsize P el/\cs.all one=true:=by
    rintro⟨h1,h0,h2,h3,h4,h5⟩
    cases hi:P.info? el with
    | none=>simp[tsize,hi]at h1
    | some ie =>
     have htz:tsize P el=ie.size:=by simp[tsize,hi]
     cases hz:ie.zero with
     | none=>simp[zav,zcells,hi,hz]at h2; omega
     | some z =>
      have hzl:zcells P el=z.cells.toList:=by simp[zcells,hi,hz]
      have hzs:z.cells.toList.length=ie.size:=by
       rw[<- hzl,<- htz,<- h2]; simp[zav]
      have hzp:0<z.cells.toList.length:=by omega
      have hzz:=AiV (h:=h) (ρ:=ρ) (sto:=sto) (z:=z.cells.toList) (fl:=false) len hzp;rw[show z.cells.toList.map AdU=zav P el by rw[zav,hzl]]at hzz;obtain⟨cells,g1,g2,g3,g4⟩:=AtA hp1 hp2 hzz hf;refine⟨cells,?_,g2,?_,g4 h4⟩
      .rw [hrun,run_buildSlice w t el len _ cells ie z hel hi hz (by rw[htz]at h3; omega) (by rw[<- htz]; have:=Nat.mul_pos h0 h1; omega) ?_]
       .rfl
       .rw [hpl]
        rw[htz]at g1;rw[hzs]at g1;have e3:z.cells.size=ie.size:=by rw[<- hzs]; simp
        rw[e3]
        simpa using g1
      .rw [g3,rep_len,h2]
   cases frz with
   | true =>
    simp only[cond_true];intro⟨hc,hfz⟩;obtain⟨cells,g1,g2,g3,g4⟩:=key hc;have hr:isRow (P.underlying el)=false->tsize P el=1:=hc.2.2.2.2.2;have hfl:flat (cut (isRow (P.underlying el)) (tsize P el) len cs)=cs:=AmE g3 hr g4;have hm:=m.freezeNew cells.toList el (AeO g2 g4);have e1:cells.toList.toArray=cells:=by simp
    rw[e1]at hm;refine⟨_,_,_,_,.inl g1,hm.1,hm.2,?_⟩;have hrl:RL (Mem.add h w.heap.size cells.toList) (Lf ρ sto) true cells.toList cs:=(AcW g2 hfz).mono hm.2.hle (fun _ _ x=>x);have:=RV.fz (h:=Mem.add h w.heap.size cells.toList) (Lf:=Lf ρ sto) (fl:=false) w.heap.size 0 len (tsize P el) (cut (isRow (P.underlying el)) (tsize P el) len cs) cells.toList (by rw[hfl]; exact hrl) (AiU g3 hr g4)
     (fun k v hk=>by simp[Mem.add]at hk |-; exact hk) (by rw[cut_len]; omega)
    rw[cut_len]at this;exact this
   | false =>
    simp only[cond_false];intro hc;obtain⟨cells,g1,g2,g3,g4⟩:=key hc;have hr:isRow (P.underlying el)=false->tsize P el=1:=hc.2.2.2.2.2;have hfl:flat (cut (isRow (P.underlying el)) (tsize P el) len cs)=cs:=AmE g3 hr g4;have hlen:=g2.length;have h16:=hc.2.2.2.1;have hle:len<=len*tsize P el:=Nat.le_mul_of_pos_right _ hc.1;have hm:=m.push (.cells cells el) (.arr (tsize P el) (cut (isRow (P.underlying el)) (tsize P el) len cs)) (some len) (by
     refine .inr ⟨w.heap.size,len,cells,el,by simp[upd],.of (heap_alloc_new w _),by rw[<- g3,<- hlen]; simp,by rw[cut_len]; omega,by simp only[maxLen]; omega,hc.1,AiU g3 hr g4,AeO g2 g4,?_⟩;rw[hfl,cut_len,<- g3,<- hlen,List.take_length];exact g2.mono (fun _ _ _ x=>x) (fun _ _=>AiB))
    refine⟨_,_,_,_,.inl g1,hm.1,hm.2,.leaf ⟨rfl,?_⟩⟩
    simp[LfC,upd,cut_len]
  .trivial
 .trivial
theorem AtB{frz:Bool}{t:TypeId}{len:Nat}{parts:Array (Nat×Operand)}{o:Oper}{e:Env}{a:Act}(ho:o.op=.buildSlice t len parts)(m:Mine h ρ sto w)(he:EnvOk h ρ sto e a) :
  Res.Sound P h ρ sto w ((execOp a.eval o).run P w) (AdC P frz sto len (evp e parts.toList) (P.underlying t)):=by
 have h1:=AqR (P:=P) (frz:=frz) ho m he;unfold AdC
 split
 .rename_i el hel
  rw[hel]at h1
  split
  .rename_i hp
   have hpn:parts=#[]:=by
    have:parts.toList=[]:=by
     cases hq:parts.toList with
     | nil=>rfl
     | cons x r=>rw[hq]at hp; obtain⟨i,x⟩:=x; simp[evp]at hp
    exact Array.ext' this
   subst hpn;have key:0<tsize P el->(execOp a.eval o).run P w=.ok (.value (.slice (some ⟨w.heap.size,0,none⟩) 0 0)) (w.alloc (.cells #[] el)):=fun h0=>by
    have hsize:(sizeOf el).run P w=.ok (tsize P el) w:=AbJ h0 w
    simp[execOp,ho,Instr.buildSlice,run_underlying hel,hsize,Instr.fill,newRow,Array.range_zero']
   unfold A9W
   cases frz with
   | true =>
    intro h0;have s:=Same.alloc w (.cells #[] el);exact⟨_,_,h,ρ,.inl (key h0),m.same s,Later.same s,.fz w.heap.size 0 0 _ [] [] .nil (by simp) (by simp) (Nat.le_refl _)⟩
   | false =>
    intro h0;have hm:=m.push (.cells #[] el) (.arr (tsize P el) []) (some 0) (by
     refine .inr ⟨w.heap.size,0,#[],el,by simp[upd],.of (heap_alloc_new w _),by simp,by simp,by simp[maxLen],h0,by simp,by simp,?_⟩
     simpa[flat]using RL.nil)
    refine⟨_,_,_,_,.inl (key h0),hm.1,hm.2,.leaf ⟨rfl,?_⟩⟩;simp only[LfC,List.getElem?_concat_length];exact⟨by simp,fun _=>.inl ⟨trivial,trivial,some (w.heap.size,0),rfl⟩⟩
  .exact h1
 .trivial
theorem AfL:∀ {l:List AV},l.all AeU=true->flat l=l
 | [],_=>rfl
 | a::l,hb=>by
  simp at hb
  have:cellsOf a=[a]:=by cases a <;> first|rfl|(simp[AeU]at hb; done)
  rw[flat,this,AfL (by simpa using hb.2)]; rfl
theorem BhL{fl u a}(r:RV h (Lf ρ sto) fl u a)(hb:AeU a=true):∃ n,u=.int .u8 n/\AhS a=UInt8.ofNat n.toNat:=by
 cases a <;> try(simp[AeU]at hb; done)
 rename_i k n;have:k=.u8:=by cases k <;> simp[AeU]at hb |-
 subst this;exact⟨n,AaK r,rfl⟩
theorem AwA{fl:Bool}:∀ {l:List AV}{vs:List Value},RL h (Lf ρ sto) fl vs l->l.all AeU=true->∃ ns:List Int,vs=ns.map (Value.int .u8)/\l.map AhS=ns.map fun n=>UInt8.ofNat n.toNat
 | [],_,r,_=>by cases r; exact⟨[],rfl,rfl⟩
 | a::l,_,r,hb=>by
  cases r with
  | cons r1 r2 =>
   simp at hb
   obtain⟨n,rfl,h2⟩:=BhL r1 hb.1;obtain⟨ns,rfl,h3⟩:=AwA r2 (by simpa using hb.2);exact⟨n::ns,rfl,by simp[h2,h3]⟩
theorem AnG:∀ (ns:List Int)(acc:List UInt8),ns.foldl (fun r n=>r.push (UInt8.ofNat n.toNat)) (⟨acc.toArray⟩:ByteArray)=⟨(acc++ns.map fun n=>UInt8.ofNat n.toNat).toArray⟩
 | [],acc=>by simp
 | n::ns,acc=>by
  have:(⟨acc.toArray⟩:ByteArray).push (UInt8.ofNat n.toNat)=⟨(acc++[UInt8.ofNat n.toNat]).toArray⟩:=by
   apply ByteArray.ext; simp[ByteArray.push]
  simp only[List.foldl_cons,this,AnG ns]
  simp
theorem A3Q{src dst el:TypeId}(hs:P.underlying src=some (.slice el))(he:isU8 (P.underlying el)=true)(hd:P.underlying dst=some .string){b o c:Nat}{vs:List Value}{l:List AV}{fl:Bool}
  (r:RL h (Lf ρ sto) fl vs l) (hb:l.all AeU=true) (hc:∀ (k:Nat) v,vs[k]? = some v->w.cell? ⟨b,o+k,none⟩=some v) :
  (convert src dst (.slice (some ⟨b,o,none⟩) l.length c)).run P w=.ok (.string ⟨(l.map AhS).toArray⟩) w:=by
 obtain⟨ns,rfl,h2⟩:=AwA r hb;have hu8:P.underlying el=some (.int .u8):=by
  unfold isU8 at he; split at he
  .assumption
  .cases he
 rw[run_convert_bytes_string w src dst el _ _ c hs hu8 hd,run_bytesToString w _ _ c ns,h2]
 .have:=AnG ns []
  simp only[List.nil_append]at this;rw[<- this]; rfl
 .have hlen:=r.length
  have:=run_loadCells_list (P:=P) w ⟨b,o,none⟩ (ns.map (Value.int .u8)) (fun j v hv=>by rw[Addr.add_mid]; exact hc j v hv);rw[hlen]at this;exact this
theorem AtC(w:World)(e:TypeId)(s:ByteArray):Lib.bytesWorld w e s=w.drew.alloc (.cells (Lib.bytesCells w e s) e ((Lib.bytesCells w e s).size,(Lib.bytesCells w e s).size+1)):=by
 have hh:(Lib.bytesWorld w e s).heap=(w.drew.alloc (.cells (Lib.bytesCells w e s) e ((Lib.bytesCells w e s).size,(Lib.bytesCells w e s).size+1))).heap:=by
  refine Array.ext_getElem? fun j=>?_
  rcases Nat.lt_trichotomy j w.heap.size with hj|hj|hj
  .rw [Lib.bytesWorld_at_old w e s j hj]
   exact((Same.drew w).trans (Same.alloc w.drew _)).block j hj |>.symm
  .subst hj
   rw[Lib.bytesWorld_at_new];exact(heap_alloc_new w.drew _).symm
  .rw [Array.getElem?_eq_none (by rw[Lib.bytesWorld_size]; omega),Array.getElem?_eq_none (by simp; omega)]
 unfold Lib.bytesWorld World.freeze at hh |-;simp only[Nat.succ_ne_self,if_false,Nat.one_ne_zero]at hh |-;rw[hh];rfl
theorem A6T{wr:Bool}{s d:TypeId}{x:Operand}{o:Oper}{e:Env}{a:Act}(ho:o.op=.convert s d x)(m:Mine h ρ sto w)(he:EnvOk h ρ sto e a) :
  Res.Sound P h ρ sto w ((execOp a.eval o).run P w) (BgV wr (P.underlying s) (P.underlying d) (P.underlying (elemD (P.underlying s))) (P.underlying (elemD (P.underlying d))) sto (ev e x)):=by
 have hx:=AaM he x;have hrun:(execOp a.eval o).run P w=((convert s d (a.eval x)).run P w).andThen fun v w'=>.ok (.value v) w':=by simp[execOp,ho]
 rw[hrun];generalize a.eval x=u at *;unfold BgV
 split
 .rename_i k hd
  split
  .rename_i k1 k2 n hs hv
   rw[hv]at hx;have hr:(convert s d u).run P w=.ok (.int k (k.wrap n)) w:=by
    rw[AaK hx]
    simp[convert,run_underlying hs,run_underlying hd,Conv.intToInt]
   cases wr with
   | true=>exact AaA m (by rw[hr]; rfl) (.int _ _)
   | false =>
    intro hi;exact AaA m (by rw[hr,AgX hi]; rfl) (.int _ _)
  .trivial
 .rename_i hd
  split
  .rename_i t hs hv
   rw[hv]at hx;exact AaA m (by rw[AaY hx]; simp[convert,run_underlying hs,run_underlying hd]) (.str _)
  .rename_i el hs
   simp only[hs,elemD]
   cases hu:isU8 (P.underlying el)with
   | false=>trivial
   | true =>
    simp only[cond_true];unfold BnE
    split
    .rename_i ee l hv
     rw[hv]at hx;intro⟨he1,hb⟩;subst he1;refine AaA m (u:=.string ⟨(l.map AhS).toArray⟩) ?_ (.str _)
     rcases AfY hx with⟨rfl,rfl⟩|⟨b,oo,c,vs,rfl,h2,h3,h4,h5⟩
     .have hu8:P.underlying el=some (.int .u8):=by
       unfold isU8 at hu; split at hu
       .assumption
       .cases hu
      rw[run_convert_bytes_string w s d el _ _ _ hs hu8 hd]
      simp[Conv.bytesToString]; rfl
     .have hfl:flat l=l:=AfL hb
      rw[hfl]at h2;rw[A3Q hs hu hd h2 hb (fun k v hk=>(m.mem b _ v (h4 k v hk)).1)]; rfl
    .rename_i id off len cap hv
     rw[hv]at hx
     split
     .rename_i ee l hb
      intro⟨he1,hcap,hlc,hby⟩;subst he1;have hso:=AbU hb;have hl:=(AbO hx).2;simp only[LfC,hso]at hl;have hu8:P.underlying el=some (.int .u8):=by
       unfold isU8 at hu; split at hu
       .assumption
       .cases hu
      rcases hl.2 hcap with⟨h6,h5,aa,rfl⟩|⟨g,tot,h5,rfl,h7⟩
      .subst h6
       refine AaA m (u:=.string ⟨[].toArray⟩) ?_ (by simp; exact .str _);rw[run_convert_bytes_string w s d el _ _ _ hs hu8 hd]
       cases aa <;> simp[Conv.bytesToString,loadCells,loadCellsFrom] <;> rfl
      .rcases m.own id _ hso with⟨_,hno⟩|⟨g',tot',cur,t,h3,h4,h5',h6,h7',h8,h9,h10,h11⟩
       .simp [hno]at h5
       .rw [h3]at h5
        simp only[Option.some.injEq,Prod.mk.injEq]at h5;obtain⟨rfl,rfl⟩:=h5;have hr:=(h11.drop off).take len;have hfl:(flat l).drop off=flat (l.drop off):=by have:=AbC h9 off; rwa [Nat.mul_one]at this
        have hfl2:(flat (l.drop off)).take len=flat ((l.drop off).take len):=by
         have:=AbX (l:=l.drop off) (esz:=1) (fun x hx=>h9 x (List.mem_of_mem_drop hx)) len; rwa [Nat.mul_one]at this
        rw[hfl,hfl2,AfL hby]at hr;have hlen:((l.drop off).take len).length=len:=by simp; omega
        refine AaA m (u:=.string ⟨(((l.drop off).take len).map AhS).toArray⟩) ?_ (.str _);have:=A3Q (P:=P) (w:=w) (b:=g') (o:=off*1) (c:=tot'-off) hs hu hd hr hby (fun k v hk=>by
         rw[h4.cell];rw[List.getElem?_take]at hk
         split at hk
         .rw [List.getElem?_drop,List.getElem?_take]at hk
          split at hk
          .simpa using hk
          .simp at hk
         .simp at hk)
        rw[hlen]at this;rw[this]; rfl
     .trivial
    .rename_i hv
     rw[hv]at hx;have hu8:P.underlying el=some (.int .u8):=by
      unfold isU8 at hu; split at hu
      .assumption
      .cases hu
     refine AaA m (u:=.string ⟨[].toArray⟩) ?_ (.str _);rw[AaS hx,run_convert_bytes_string w s d el _ _ _ hs hu8 hd]
     simp[Conv.bytesToString]; rfl
    .trivial
  .rename_i k1 k2 n hs hv
   rw[hv]at hx;intro⟨h0,h1⟩;refine AaA m (u:=.string ⟨[UInt8.ofNat n.toNat].toArray⟩) ?_ (.str _);have henc:Utf8.encode n=⟨[UInt8.ofNat n.toNat].toArray⟩:=by
    have hv:Utf8.valid n=true:=by unfold Utf8.valid; simp; omega
    have hlt:n.toNat<128:=by omega
    simp[Utf8.encode,hv,hlt]
   rw[AaK hx,run_convert_int_string w s d k2 n (by rw[hs]; rfl) hd,henc];rfl
  .trivial
 .rename_i el hd
  split
  .rename_i hs
   simp only[hd,elemD]
   cases hu:isU8 (P.underlying el)with
   | false=>trivial
   | true =>
    simp only[cond_true];unfold A9T
    split
    .rename_i l hv
     rw[hv]at hx;intro hl;have hu8:P.underlying el=some (.int .u8):=by
      unfold isU8 at hu; split at hu
      .assumption
      .cases hu
     have hrun2:=Lib.run_convert_string_bytes (P:=P) w s d el ⟨l.toArray⟩ hs hd hu8;rw[AtC]at hrun2;rw[AaY hx,hrun2];have hge:=grownCap_ge w (ByteArray.size ⟨l.toArray⟩) 0 el;have hmx:=grownCap_le_maxLen w (ByteArray.size ⟨l.toArray⟩) 0 el (by show l.toArray.size<=_; simp[maxLen]; omega);have hsz:ByteArray.size ⟨l.toArray⟩=l.length:=by show l.toArray.size=_; simp
     rw[hsz]at hge hmx |-;have hcs:(Lib.bytesCells w el ⟨l.toArray⟩).size=grownCap w l.length 0 el:=by simp[Lib.bytesCells,hsz]; omega
     have hfl:flat (l.map fun b=>AV.int .u8 b.toNat)=l.map fun b=>AV.int .u8 b.toNat:=AfL (by simp[List.all_eq_true,AeU])
     have m0:=m.same (Same.drew w);have hm:=m0.push (.cells (Lib.bytesCells w el ⟨l.toArray⟩) el ((Lib.bytesCells w el ⟨l.toArray⟩).size,(Lib.bytesCells w el ⟨l.toArray⟩).size+1)) (.arr 1 (l.map fun b=>.int .u8 b.toNat)) (some (grownCap w l.length 0 el)) (by
      refine .inr ⟨w.heap.size,grownCap w l.length 0 el,Lib.bytesCells w el ⟨l.toArray⟩,el,by simp[upd],⟨_,heap_alloc_new w.drew _,.inr (Nat.le_refl _)⟩,by rw[hcs]; omega,by simpa using hge,hmx,by omega,?_,?_,?_⟩
      .intro x hx
       obtain⟨b,_,rfl⟩:=List.mem_map.1 hx;rfl
      .intro v hv
       simp only[Lib.bytesCells,Array.toList_append,List.mem_append,Array.toList_map,List.mem_map,Array.toList_replicate,List.mem_replicate]at hv
       rcases hv with⟨b,_,rfl⟩|⟨_,rfl⟩ <;> rfl
      .rw [hfl,Nat.mul_one,List.length_map]
       have:(Lib.bytesCells w el ⟨l.toArray⟩).toList.take l.length=l.map fun b=>Value.int .u8 b.toNat:=by
        simp only[Lib.bytesCells,Array.toList_append,Array.toList_map];rw[List.take_append_of_le_length (by simp),List.take_of_length_le (by simp)]
       rw[this];generalize Lf _ _=LL;generalize l=q
       induction q with
       | nil=>exact .nil
       | cons b q ih=>exact .cons (.int _ _) ih)
     refine⟨_,_,_,_,.inl rfl,hm.1,(Later.same (Same.drew w)).trans hm.2,.leaf ⟨rfl,?_⟩⟩;simp only[LfC,List.getElem?_concat_length,List.length_map];exact⟨by omega,fun _=>.inr ⟨w.heap.size,grownCap w l.length 0 el,by simp[upd],by simp,Nat.le_refl _⟩⟩
    .trivial
  .trivial
 .trivial
end
