/- All operations together. -/
import Derived.Test.YtooohdocabpblaaGreatDoorV3
import Derived.Lib.ConvBytes
import Derived.Laws.AppendOwn
set_option linter.all false
namespace Go.Av
open RowKit
variable [Tr]
section
variable {h:Mem}{ρ:Own}{sto:LB}{w:World}{P:Program}
theorem AbS{id:Nat}{e:Nat}{l:LA}(hb:sto.getD id .dead=.arr e l):sto[id]? = some (.arr e l):=by
 grind
theorem AtJ{x:Operand}{i:Nat}{o:Oper}{e:Env}{a:Act}(ho:o.op=.extract x i)(m:Mine h ρ sto w)(he:EnvOk h ρ sto e a) :
  Lc P h ρ sto w ((execOp a.eval o).run P w) (xextract (ev e x) i):=by
 have hx:=AaF he x;have hrun:(execOp a.eval o).run P w=((Instr.extract (a.eval x) i).run P w).andThen fun v w'=>.ok (.value v) w':=by simp_all[execOp]
 generalize a.eval x=u at *;unfold xextract
 split
 .rename_i l h1
  rw[h1]at hx;obtain⟨vs,rfl,rl⟩:=AiE hx;intro hi;have hlen:=rl.length;refine AaA m (u:=vs[i]) (by simp_all[Instr.extract]) ?_;have:=rl.getD i undef
  grind
 .trivial
theorem A3O{c x y:Operand}{o:Oper}{e:Env}{a:Act}(ho:o.op=.pick c x y)(m:Mine h ρ sto w)(he:EnvOk h ρ sto e a) :
  Lc P h ρ sto w ((execOp a.eval o).run P w) (xpick (ev e c) (ev e x) (ev e y)):=by
 have hc:=AaF he c;unfold xpick
 split
 .rename_i b h1
  rw[h1]at hc;have h2:=AaS hc
  cases b with
  | true=>exact AaA m (by simp_all[execOp,asBool]) (AaF he x)
  | false=>exact AaA m (by simp_all[execOp,asBool]) (AaF he y)
 .trivial
theorem A6M{x:Operand}{t:TypeId}{o:Oper}{e:Env}{a:Act}(ho:o.op=.unOp .not t x)(m:Mine h ρ sto w)(he:EnvOk h ρ sto e a) :
  Lc P h ρ sto w ((execOp a.eval o).run P w) (xnot (ev e x)):=by
 have hx:=AaF he x;unfold xnot
 split
 .rename_i b h1
  rw[h1]at hx;exact AaA m (by simp[execOp,ho,AaS hx,Op.unary]) (.bool _)
 .trivial
theorem A6N{x:Operand}{t:TypeId}{o:Oper}{e:Env}{a:Act}(ho:o.op=.unOp .neg t x)(m:Mine h ρ sto w)(he:EnvOk h ρ sto e a) :
  Lc P h ρ sto w ((execOp a.eval o).run P w) (xneg (ev e x)):=by
 have hx:=AaF he x;unfold xneg
 split
 .rename_i k n h1
  rw[h1]at hx;intro hi;have:k.wrap (0-n)=0-n:=AdC hi;exact AaA m (by simp only[execOp,ho,AaE hx,Op.unary,Op.intArith,this]; rfl) (.int _ _)
 .trivial
theorem AyX{t:TypeId}{x i:Operand}{o:Oper}{e:Env}{a:Act}(ho:o.op=.index t x i)(m:Mine h ρ sto w)(he:EnvOk h ρ sto e a) :
  Lc P h ρ sto w ((execOp a.eval o).run P w) (AhV (P.underlying t) (P.underlying (elemD (P.underlying t))) (tsize P (elemD (P.underlying t))) (ev e x) (ev e i)):=by
 have hx:=AaF he x;have hi:=AaF he i;have hrun:(execOp a.eval o).run P w=((Instr.index t (a.eval x) (a.eval i)).run P w).andThen fun v w'=>.ok (.value v) w':=by simp_all[execOp]
 generalize a.eval x=u at *;generalize a.eval i=v at *;unfold AhV
 split
 .rename_i l k n h1 h2 h3
  rw[h2]at hx; rw[h3]at hi;have e1:=AaQ hx;have e2:=AaE hi;intro⟨hn,hlt⟩;have hn':n.toNat<l.length:=by omega
  refine AaA m ?_ (.int _ _);have hget:(ByteArray.mk l.toArray)[n.toNat]? = some (l.getD n.toNat 0):=by
   have hsz:(ByteArray.mk l.toArray).size=l.length:=rfl;have:n.toNat<(ByteArray.mk l.toArray).size:=by omega
   rw[getElem?_pos (ByteArray.mk l.toArray) n.toNat this]
   simp[List.getD,hn']
   rfl
  simp_all[Instr.index,asIntOf,run_underlying]
 .rename_i len el l k n h1 h2 h3
  rw[h2]at hx; rw[h3]at hi;obtain⟨vs,rfl,rl⟩:=inv_agg hx;have e2:=AaE hi;intro⟨hd,hn,ok⟩;obtain⟨u,hu,ru⟩:=AcE (w:=w) hd rl ok;refine AaA m ?_ ru
  cases hq:P.underlying el<;>simp_all[has,elemD,sizeOf_run,Instr.index,asIntOf,run_underlying]
 .trivial
theorem AyY{t:TypeId}{x:Operand}{f:Nat}{o:Oper}{e:Env}{a:Act}(ho:o.op=.field t x f)(m:Mine h ρ sto w)(he:EnvOk h ρ sto e a) :
  Lc P h ρ sto w ((execOp a.eval o).run P w) (AeU P (ev e x) (AhW (P.underlying t) f)):=by
 have hx:=AaF he x;have hrun:(execOp a.eval o).run P w=((Instr.field t (a.eval x) f).run P w).andThen fun v w'=>.ok (.value v) w':=by simp_all[execOp]
 generalize a.eval x=u at *;unfold AeU
 split
 .rename_i off ft hf
  split
  .rename_i l h1
   rw[h1]at hx;obtain⟨vs,rfl,rl⟩:=inv_agg hx;intro⟨hd,ok⟩;obtain⟨u,hu,ru⟩:=AcE (w:=w) hd rl ok;refine AaA m ?_ ru;unfold AhW at hf
   split at hf
   .rename_i fs hfs
    cases hff:fs[f]? with
    | none=>grind
    | some fd =>
     simp_all[Instr.field,run_underlying,asAgg]
   grind
  .trivial
 .trivial
theorem AyZ(m:Mine h ρ sto w){u:Value}{id n j off:Nat}{e:Nat}{l:LA}(hb:sto.getD id .dead=.arr e l)(r:RV h (Lf ρ sto) false u (.ptr id n j off))(hn:n=l.length)(k:Nat) :
  ∃ g o,u=.pointer (some ⟨g,o,none⟩)/\RV h (Lf ρ sto) false (.pointer (some ⟨g,o+k,none⟩)) (.ptr id n j (off+k)):=by
 obtain⟨g,tot,cur,tt,h1,h2,h3,h4,h5,h6,h7,h8,h9,h10,h11,h12⟩:=ptr_place m hb r hn;refine⟨g,_,h2,.leaf ⟨rfl,?_⟩⟩<;>grind[LfC]
theorem AiG{p:Prop}{k:Nat}{u:Value}{av:AV}(m:Mine h ρ sto w)(r:RV h (Lf ρ sto) false u av){res:Result Next}
  (hr:p->∀ g o,u=.pointer (some ⟨g,o,none⟩)->res=.ok (.value (.pointer (some ⟨g,o+k,none⟩))) w) :
  Lc P h ρ sto w res (xptrAddIf p sto av k):=by
 unfold xptrAddIf
 split
 .split
  .rename_i ee l hb
   intro⟨hp,hn⟩;obtain⟨g,o,h1,h2⟩:=AyZ m hb r hn k
   grind[AaA]
  .trivial
 .rename_i ee l j off
  intro hp;obtain⟨b,o,vs,h1,h2,h3,h4,h5⟩:=AgA r;refine AaA m (hr hp b _ h1) ?_;rw[show o+(j*ee+off)+k=o+(j*ee+(off+k)) by omega];exact .pin b o ee l vs j (off+k) h2 h3 h4 h5
 .trivial
theorem AnL{t:TypeId}{x:Operand}{f:Nat}{o:Oper}{e:Env}{a:Act}(ho:o.op=.fieldAddr t x f)(m:Mine h ρ sto w)(he:EnvOk h ρ sto e a) :
  Lc P h ρ sto w ((execOp a.eval o).run P w) (AbH P (AhW (P.underlying t) f) sto (ev e x)):=by
 have hx:=AaF he x;have hrun:(execOp a.eval o).run P w=((Instr.fieldAt t (a.eval x) f).run P w).andThen fun v w'=>.ok (.value v) w':=by simp_all[execOp]
 unfold AbH
 split
 .rename_i off ft hf
  refine AiG m hx fun hp g o hu=>?_
  unfold AhW at hf
  split at hf
  .rename_i fs hfs
   cases hff:fs[f]? with
   | none=>grind
   | some fd =>
    simp[hff]at hf
    obtain⟨rfl,rfl⟩:=hf;have hs:=AaR hp w;have hne:tsize P fd.type≠0:=by omega
    simp_all[Instr.fieldAt,run_underlying,Instr.sureAddr,fieldPlace,Addr.add_mid]
  grind
 .trivial
theorem AnM{t:TypeId}{x i:Operand}{o:Oper}{e:Env}{a:Act}(ho:o.op=.indexAddr t x i)(m:Mine h ρ sto w)(he:EnvOk h ρ sto e a) :
  Lc P h ρ sto w ((execOp a.eval o).run P w) (AaV (P.underlying t) (tsize P (elemD (P.underlying t))) sto (ev e x) (ev e i)):=by
 have hx:=AaF he x;have hi:=AaF he i;have hrun:(execOp a.eval o).run P w=((Instr.indexAt t (a.eval x) (a.eval i)).run P w).andThen fun v w'=>.ok (.value v) w':=by simp_all[execOp]
 rw[hrun];unfold AaV
 split
 .rename_i len el k n h1 h2
  rw[h1];rw[h2]at hi;have e2:=AaE hi;refine AiG m hx fun hp g o hu=>?_
  obtain⟨hp1,hp2⟩:=hp;have hs:=AaR hp1 w;simp only[elemD]at hs |-;rw[hu,e2]
  simp[Instr.indexAt,asIntOf,run_underlying h1,Instr.sureAddr,hp2,hs,Addr.add_mid]
 .rename_i el k n h1 h2
  rw[h1];rw[h2]at hi;have e2:=AaE hi;simp only[elemD]
  split
  .rename_i ee l h3
   rw[h3]at hx;intro⟨hsz,hee,hn⟩;have hs:=AaR hsz w
   rcases AeN hx with⟨rfl,_⟩|⟨b,oo,c,vs,h4,h5,h6,h7,h8⟩
   .grind
   .have hpin:=RV.pin (fl:=false) b oo ee l vs n.toNat 0 h5 h6 h7 (by omega)
    refine AaA m ?_ hpin;rw[h4,e2,hee]
    simp[Instr.indexAt,asIntOf,run_underlying h1,hn,hs,Addr.add_mid]
  .rename_i id off len cap h3
   rw[h3]at hx
   split
   .rename_i ee l hb
    intro⟨hsz,hee,hcap,hn0,hn,hlc⟩;have hs:=AaR hsz w;have hso:sto[id]? = some (.arr ee l):=by
     grind
    have hl:=(AbN hx).2;simp only[LfC,hso]at hl;obtain⟨_,hl⟩:=hl
    rcases hl hcap with⟨h5,_⟩|⟨g,tot,h5,h6,h7⟩
    .omega
    .refine AaA m (u:=.pointer (some ⟨g,off*ee+n.toNat*ee,none⟩)) ?_ (.leaf ⟨rfl,?_⟩)
     .rw [h6,e2,hee]
      simp[Instr.indexAt,asIntOf,run_underlying h1,hn0,hn,hs,Addr.add_mid]
     grind[LfC]
   .trivial
  .trivial
 .trivial
theorem ApX{f:Fn}{first cap:Array Operand}{o:Oper}{e:Env}{a:Act}(ho:o.op=.makeFunc f first cap)(m:Mine h ρ sto w)(he:EnvOk h ρ sto e a) :
  Lc P h ρ sto w ((execOp a.eval o).run P w) (match first.toList with|[]=>.ok (.fn f (evs e cap.toList))|_=>.stuck):=by
 split
 .have hc:=A2A he cap.toList
  refine AaA m ?_ (.fn f _ _ hc);have e1:cap.map a.eval=(cap.toList.map a.eval).toArray:=by grind
  simp_all[execOp,Instr.makeFunc]
 .trivial
theorem A3P{c:Call}{f:Operand}(hf:c.callee=.value f){o:Oper}{e:Env}{a:Act}(ho:o.op=.call c)(m:Mine h ρ sto w)(he:EnvOk h ρ sto e a) :
  Lc P h ρ sto w ((execOp a.eval o).run P w) (ApQ (ev e f) (evs e c.args.toList)):=by
 have hx:=AaF he f;unfold ApQ
 split
 .rename_i fid cap h1
  rw[h1]at hx;obtain⟨vs,h2,rl⟩:=AvG hx;have ha:=A2A he c.args.toList;refine⟨c.args.toList.map a.eval++vs,ha.append rl,fun hb=>?_⟩;unfold AaD at hb
  cases hq:P.funcs[fid]? with
  | none=>grind
  | some fn =>
   have h4:fn.body.isNone=false:=by simp_all
   have e3:c.args.map a.eval++vs.toArray=(c.args.toList.map a.eval++vs).toArray:=by
    grind
   have h5:(callFunc fid (c.args.map a.eval++vs.toArray)).run P w=.ok (.enter fid (c.args.map a.eval++vs.toArray)) w:=by
    grind[callFunc,Sem.run_bind,run_program,Result.andThen_ok,Sem.run_pure]
   grind[execOp,resolve,Deferred.ofValue,invoke]
 .trivial
theorem A6O{c:Call}(hf:c.callee=.builtin .len){o:Oper}{e:Env}{a:Act}(ho:o.op=.call c)(m:Mine h ρ sto w)(he:EnvOk h ρ sto e a) :
  Lc P h ρ sto w ((execOp a.eval o).run P w) (AlF P e sto c.args.toList c.argTypes.toList):=by
 have hrun:(execOp a.eval o).run P w=((Builtin.len_ c.argTypes o.type (c.args.map a.eval)).run P w).andThen fun v w'=>.ok (.value v) w':=by
  simp_all[execOp,resolve,invoke,builtin]
 rw[hrun];unfold AlF
 split
 .rename_i x xs t ts h1 h2
  have hx:=AaF he x;have e1:(c.args.map a.eval)[0]? = some (a.eval x):=by
   rw[<- lbo,Array.toList_map,h1]; rfl
  have e2:c.argTypes[0]? = some t:=by rw[<- lbo,h2]; rfl
  generalize a.eval x=u at *;unfold xlen
  split
  .rename_i s hd hv
   rw[hv]at hx;refine AaA m ?_ (.int _ _);have:(ByteArray.mk s.toArray).size=s.length:=rfl
   simp[Builtin.len_,e1,e2,run_underlying hd,AaQ hx,goInt,this]
  .rename_i el n l hd hv
   rw[hv]at hx;refine AaA m ?_ (.int _ _)
   rcases AeN hx with⟨rfl,rfl⟩|⟨b,oo,c',vs,rfl,_⟩ <;> simp[Builtin.len_,e1,e2,run_underlying hd,goInt]
  .rename_i el id off n cap hd hv
   rw[hv]at hx
   split
   .rename_i ee l hb
    intro hcap;have hso:sto[id]? = some (.arr ee l):=AbS hb;have hl:=(AbN hx).2;simp only[LfC,hso]at hl;refine AaA m ?_ (.int _ _)
    rcases hl.2 hcap with⟨h5,_,_,rfl⟩|⟨g,tot,h5,rfl,h7⟩
    .subst h5; simp[Builtin.len_,e1,e2,run_underlying hd,goInt]
    .simp [Builtin.len_,e1,e2,run_underlying hd,goInt]
   .trivial
  .rename_i el hd hv
   rw[hv]at hx;refine AaA m ?_ (.int _ _)
   simp[Builtin.len_,e1,e2,run_underlying hd,AaU hx,goInt]
  .rename_i n el hd
   refine AaA m ?_ (.int _ _)
   simp[Builtin.len_,e1,e2,run_underlying hd,goInt]
  .rename_i kt et id hd hv
   rw[hv]at hx
   split
   .rename_i es hb
    have hso:sto[id]? = some (.mp es):=by
     grind
    have hl:=(AgT hx).2;simp only[LfC,hso]at hl;obtain⟨g,hg,rfl⟩:=hl;obtain⟨g',en,clock,o1,o2,o3,o4,o5⟩:=m.own id _ hso;have:g'=g:=by grind
    subst this;refine AaA m ?_ (.int _ _);have o3':en.size=(lvs es).length:=by omega
    have hgo:(getObj g').run P w=.ok (.map en clock) w:=by grind[getObj,Sem.run]
    simp[Builtin.len_,e1,e2,run_underlying hd,goInt,hgo,o3',Result.andThen]
   .trivial
  .trivial
 .trivial
theorem AkI:∀ (vs:List Value)(off k:Nat)(cs:Array Value),off+k+vs.length<=cs.size ->
  ((vs.zipIdx k).foldl (fun(cs:Array Value) (x:Value×Nat)=>cs.setIfInBounds (off+x.2) x.1) cs).toList=splice cs.toList (off+k) vs
 | [],off,k,cs,_=>by simp[splice]
 | v::r,off,k,cs,hl=>by
  simp at hl
  simp
  rw[AkI r off (k+1) _ (by simp; omega)]
  simp
  apply List.ext_getElem?;intro i;have e0:off+(k+1)=off+k+1:=by omega
  rw[e0,AbI (by simp; omega),AbI (by omega)];simp only[List.getElem?_set,lan]
  by_cases h1:i<off+k
  .have h2:¬ off+k=i:=by omega
   have h3:i<off+k+1:=by omega
   simp[h1,h2,h3]
  .by_cases h2:i=off+k
   .subst h2
    have:off+k<cs.size:=by omega
    simp[this]
   .have h3:¬ i<off+k+1:=by omega
    have h4:¬ off+k=i:=by omega
    have h5:i-(off+k)=(i-(off+k+1))+1:=by omega
    simp only[h1,h3,h4,if_false]
    by_cases h6:i<off+k+1+r.length
    .rw [if_pos h6,if_pos (by omega),h5]; simp
    .rw [if_neg h6,if_neg (by omega)]
theorem ApY{place:Nat->Option (Nat×Nat)}{fl:Bool}:∀ {parts:List (Nat×Value)}{avs:List (Nat×AV)}{cells:Array Value}{cs cs':LA},
  parts.map (·.1)=avs.map (·.1)->RL h (Lf ρ sto) fl (parts.map (·.2)) (avs.map (·.2))->RL h (Lf ρ sto) fl cells.toList cs->AlG place cs avs=some cs' ->
  ∃ cells',Instr.fill place cells parts=some cells'/\RL h (Lf ρ sto) fl cells'.toList cs'/\cs'.length=cs.length/\(cs.all one=true->cs'.all one=true)
 | [],[],cells,cs,cs',_,_,rc,hf=>by
  simp[AlG]at hf; subst hf
  exact⟨cells,rfl,rc,rfl,fun x=>x⟩
 | [],_::_,_,_,_,he,_,_,_=>by grind
 | _::_,[],_,_,_,he,_,_,_=>by grind
 | (i,v)::parts,(j,a)::avs,cells,cs,cs',he,rp,rc,hf=>by
  simp at he
  obtain⟨rfl,he⟩:=he
  cases rp with
  | cons r1 r2 =>
   simp only[AlG]at hf
   cases hp:place i with
   | none=>grind
   | some os =>
    obtain⟨off,sz⟩:=os;simp only[hp]at hf
    cases hc:((cellsOf a).length==sz&&decide (off+sz<=cs.length)&&(cellsOf a).all one)with
    | false=>grind
    | true =>
     simp only[hc,lai]at hf;simp only[lac,beq_iff_eq,lar]at hc;obtain⟨⟨h1,h2⟩,h3⟩:=hc;have rv:=AhD r1 h3;have hlen:=rv.length;have hcl:=rc.length;have hsz:v.cells.size=sz:=by grind
     have hfit:off+sz<=cells.size:=by grind
     have hpc:putCells cs off (cellsOf a)=splice cs off (cellsOf a):=AeX _ _ _ (by omega);have hfold:(v.cells.zipIdx.foldl (fun cs (c,j)=>cs.setIfInBounds (off+j) c) cells).toList=splice cells.toList off v.cells.toList:=by
      have:=AkI v.cells.toList off 0 cells (by grind)
      grind[Array.toList_zipIdx]
     obtain⟨cells',g1,g2,g3,g4⟩:=ApY he r2 (by rw[hfold,hpc]; exact rc.splice rv off) hf
     grind[splice_length,Instr.fill,splice]
theorem AlI{e:Env}{a:Act}(he:EnvOk h ρ sto e a):∀ (parts:List (Nat×Operand)),
  (parts.map fun p=>(p.1,a.eval p.2)).map (·.1)=(evp e parts).map (·.1)/\RL h (Lf ρ sto) false ((parts.map fun p=>(p.1,a.eval p.2)).map (·.2)) ((evp e parts).map (·.2))
 | []=>⟨rfl,.nil⟩
 | (i,x)::r=>by
  obtain⟨h1,h2⟩:=AlI he r;exact⟨by simp[evp]at h1 |-; exact h1,.cons (AaF he x) h2⟩
theorem AzA{t:TypeId}{parts:Array (Nat×Operand)}{o:Oper}{e:Env}{a:Act}(ho:o.op=.build t parts)(m:Mine h ρ sto w)(he:EnvOk h ρ sto e a) :
  Lc P h ρ sto w ((execOp a.eval o).run P w) (AgS P (P.underlying t) (zav P t) (evp e parts.toList)):=by
 obtain⟨hp1,hp2⟩:=AlI he parts.toList;have hrun:(execOp a.eval o).run P w=((Instr.build t (parts.map fun(i,x)=>(i,a.eval x))).run P w).andThen fun v w'=>.ok (.value v) w':=by simp_all[execOp]
 have hpl:(parts.map fun(i,x)=>(i,a.eval x)).toList=parts.toList.map fun p=>(p.1,a.eval p.2):=by simp
 have key:∀ {place:Nat->Option (Nat×Nat)} {cs:LA},AlG place (zav P t) (evp e parts.toList)=some cs->0<(zav P t).length ->
   (∀ (i:TypeInfo) (z:Value),P.info? t=some i->i.zero=some z->∀ cells',Instr.fill place z.cells (parts.toList.map fun p=>(p.1,a.eval p.2))=some cells'->P.built t (parts.toList.map fun p=>(p.1,a.eval p.2))=some cells') ->
   Okv h ρ sto w ((execOp a.eval o).run P w) (.agg cs) sto:=by
  intro place cs hf hz hb;unfold zav AcS at hf hz
  cases hi:P.info? t with
  | none=>grind
  | some i =>
   cases hzz:i.zero with
   | none=>grind
   | some z =>
    simp only[hi,hzz,Option.bind_some]at hf;obtain⟨cells',g1,g2,_⟩:=ApY hp1 hp2 (consts_ok z.cells.toList) hf;have:=run_build (P:=P) w t (parts.map fun(i,x)=>(i,a.eval x)) cells' (by grind);refine AaA m (u:=.agg cells') (by simp_all) ?_;have:=RV.agg cells'.toList cs g2;omega
 unfold AgS
 split
 .rename_i fs hd
  split
  .rename_i cs hf
   intro⟨hz,hall⟩;refine key hf hz fun i z hi hz cells' hfl=>?_
   have hmap:∀ (l:List Field),AnF P l->l.mapM (fun f=>(P.info? f.type).map fun i=>(f.offset,i.size))=some (l.map fun f=>(f.offset,tsize P f.type)):=by
    intro l
    induction l with
    | nil=>grind
    | cons f l ih =>
     intro⟨h1,h2⟩
     cases hq:P.underlying f.type<;>grind[has,info_of_underlying,tsize]
   unfold Program.built;simp only[hi,hd,hz,hmap fs.toList hall];rw[<- hfl]
   congr 1
   grind[AeV]
  .trivial
 .rename_i n el hd
  split
  .rename_i cs hf
   intro⟨hz,hhas⟩;refine key hf hz fun i z hi hz cells' hfl=>?_
   cases hq:P.underlying el with
   | none=>grind[has]
   | some d =>
    obtain⟨j,hj⟩:=info_of_underlying hq
    simp_all[Program.built,tsize]
  .trivial
 .trivial
theorem AlJ{row:Bool}{sz:Nat}:∀ {n:Nat}{cs:LA},cs.length=n*sz->(row=false->sz=1)->cs.all one=true->flat (cut row sz n cs)=cs
 | 0,cs,hl,_,_=>by simp at hl; subst hl; rfl
 | n+1,cs,hl,hr,h1=>by
  rw[Nat.succ_mul]at hl;have ih:=AlJ (n:=n) (cs:=cs.drop sz) (by simp; omega) hr (by
   rw[law]at h1 |-;exact fun x hx=>h1 x (lbi hx))
  simp only[cut,flat,ih]
  cases row with
  | true=>simp[cellsOf]
  | false =>
   have:=hr rfl;subst this
   match cs,hl with
   | c::r,_ =>
    simp at h1
    simp[AaI h1.1]
   | [],e=>simp at e
theorem cut_len{row:Bool}{sz:Nat}:∀ {n:Nat}{cs:LA},(cut row sz n cs).length=n
 | 0,cs=>rfl
 | n+1,cs=>by simp[cut,cut_len]
theorem AiH{row:Bool}{sz:Nat}:∀ {n:Nat}{cs:LA},cs.length=n*sz->(row=false->sz=1)->cs.all one=true->∀ x∈cut row sz n cs,(cellsOf x).length=sz
 | 0,cs,_,_,_,x,hx=>by grind[cut]
 | n+1,cs,hl,hr,h1,x,hx=>by
  rw[Nat.succ_mul]at hl;simp only[cut,lbf]at hx
  rcases hx with rfl|hx
  .cases row with
   | true=>simp[cellsOf]; omega
   | false =>
    have:=hr rfl;subst this
    match cs,hl with
    | c::r,_ =>
     simp at h1
     simp[AaI h1.1]
    | [],e=>simp at e
  .exact AiH (by simp; omega) hr (by
    rw[law]at h1 |-;exact fun x hx=>h1 x (lbi hx)) x hx
theorem rep_len(z:LA):∀ n,(rep z n).length=n*z.length
 | 0=>by simp[rep]
 | n+1=>by simp[rep,rep_len z n,Nat.succ_mul]; omega
theorem rep_get{z:LA}:∀ {n i:Nat},i<n*z.length->(rep z n)[i]? = z[i%z.length]?
 | 0,i,hi=>by omega
 | n+1,i,hi=>by
  rw[Nat.succ_mul]at hi;simp only[rep]
  by_cases h1:i<z.length
  .rw [lao h1,Nat.mod_eq_of_lt h1]
  .rw [List.getElem?_append_right (by omega),rep_get (by omega)]
   rw[Nat.mod_eq_sub_mod (by omega:i>=z.length)]
theorem zeros_ok{z:List Value}{fl:Bool}(n:Nat)(hz:0<z.length):RL h (Lf ρ sto) fl ((Array.range (n*z.length)).map (z.toArray[·%z.length]!)).toList (rep (z.map AcV) n):=by
 grind[RL.of_get,rep_len,rep_get,AgB]
theorem AzB{fl u a}(r:RV h (Lf ρ sto) fl u a)(hf:AcJ a=true):RV h (Lf ρ sto) true u a:=by
 cases r with
 | leaf l=>cases a <;> first|exact l.2.elim|grind[AcJ]
 | int k n=>exact .int k n
 | bool b=>exact .bool b
 | str s=>exact .str s
 | raw=>exact .raw _
 | any=>exact .any _
 | fznil e=>exact .fznil e
 | fz b o c e l vs h1 h2 h3 h4=>exact .fz b o c e l vs h1 h2 h3 h4
 | pin b o e l vs i off h1 h2 h3 h4=>exact .pin b o e l vs i off h1 h2 h3 h4
 | agg=>cases hf
 | tup=>cases hf
 | fn=>cases hf
theorem ArO{fl:Bool}:∀ {l:LA}{vs:List Value},RL h (Lf ρ sto) fl vs l->l.all AcJ=true->RL h (Lf ρ sto) true vs l
 | [],_,r,_=>by cases r; exact .nil
 | a::l,_,r,hf=>by
  cases r with
  | cons r1 r2 =>
   simp at hf
   exact .cons (AzB r1 hf.1) (ArO r2 (by simpa using hf.2))
theorem AgC{fl u a}(r:RV h (Lf ρ sto) fl u a)(hf:frozen a=true):RV h (Lf ρ sto) true u a:=by
 cases r with
 | leaf l=>cases a <;> first|exact l.2.elim|grind[frozen]
 | int k n=>exact .int k n
 | bool b=>exact .bool b
 | str s=>exact .str s
 | raw=>exact .raw _
 | any=>exact .any _
 | fznil e=>exact .fznil e
 | fz b o c e l vs h1 h2 h3 h4=>exact .fz b o c e l vs h1 h2 h3 h4
 | pin b o e l vs i off h1 h2 h3 h4=>exact .pin b o e l vs i off h1 h2 h3 h4
 | agg=>cases hf
 | tup=>cases hf
 | fn f vs l r=>exact .fn f vs l (ArO r hf)
theorem AbT{fl:Bool}:∀ {l:LA}{vs:List Value},RL h (Lf ρ sto) fl vs l->l.all frozen=true->RL h (Lf ρ sto) true vs l
 | [],_,r,_=>by cases r; exact .nil
 | a::l,_,r,hf=>by
  cases r with
  | cons r1 r2 =>
   simp at hf
   exact .cons (AgC r1 hf.1) (AbT r2 (by simpa using hf.2))
theorem AjP{frz:Bool}{t:TypeId}{len:Nat}{parts:Array (Nat×Operand)}{o:Oper}{e:Env}{a:Act}(ho:o.op=.buildSlice t len parts)(m:Mine h ρ sto w)(he:EnvOk h ρ sto e a) :
  Lc P h ρ sto w ((execOp a.eval o).run P w) (match P.underlying t with|some (.slice el)=>AbO frz (isRow (P.underlying el)) (tsize P el) sto (zav P el) len (evp e parts.toList)|_=>.stuck):=by
 obtain⟨hp1,hp2⟩:=AlI he parts.toList;have hrun:(execOp a.eval o).run P w=((Instr.buildSlice t len (parts.map fun(i,x)=>(i,a.eval x))).run P w).andThen fun v w'=>.ok (.value v) w':=by simp_all[execOp]
 split
 .rename_i el hel
  unfold AbO
  split
  .rename_i cs hf
   have key:(0<tsize P el/\0<len/\(zav P el).length=tsize P el/\len*tsize P el<=16777216/\(rep (zav P el) len).all one=true/\(isRow (P.underlying el)=false->tsize P el=1)) ->
     ∃ cells,(execOp a.eval o).run P w=.ok (.value (.slice (some ⟨w.heap.size,0,none⟩) len len)) (w.alloc (.cells cells el))/\RL h (Lf ρ sto) false cells.toList cs /\
      cs.length=len*tsize P el/\cs.all one=true:=by
    rintro⟨h1,h0,h2,h3,h4,h5⟩
    cases hi:P.info? el with
    | none=>grind[tsize]
    | some ie =>
     have htz:tsize P el=ie.size:=by grind[tsize]
     cases hz:ie.zero with
     | none=>grind[zav,AcS]
     | some z =>
      have hzl:AcS P el=z.cells.toList:=by grind[AcS]
      have hzs:z.cells.toList.length=ie.size:=by
       grind[zav]
      have hzp:0<z.cells.toList.length:=by omega
      have hzz:=zeros_ok (h:=h) (ρ:=ρ) (sto:=sto) (fl:=false) len hzp;rw[show z.cells.toList.map AcV=zav P el by grind[zav]]at hzz;obtain⟨cells,g1,g2,g3,g4⟩:=ApY hp1 hp2 hzz hf;refine⟨cells,?_,g2,?_,g4 h4⟩
      .rw [hrun,run_buildSlice w t el len _ cells ie z hel hi hz (by grind) (by rw[<- htz]; have:=Nat.mul_pos h0 h1; omega) ?_]
       all_goals simp_all
      grind[rep_len]
   cases frz with
   | true =>
    simp only[lai];intro⟨hc,hfz⟩;obtain⟨cells,g1,g2,g3,g4⟩:=key hc;have hr:isRow (P.underlying el)=false->tsize P el=1:=hc.2.2.2.2.2;have hfl:flat (cut (isRow (P.underlying el)) (tsize P el) len cs)=cs:=AlJ g3 hr g4;have hm:=m.freezeNew cells.toList el (AdP g2 g4);have e1:cells.toList.toArray=cells:=by simp
    rw[e1]at hm;refine⟨_,_,_,_,.inl g1,hm.1,hm.2,?_⟩;have hrl:RL (Mem.add h w.heap.size cells.toList) (Lf ρ sto) true cells.toList cs:=(AbT g2 hfz).mono hm.2.hle (fun _ _ x=>x);have:=RV.fz (h:=Mem.add h w.heap.size cells.toList) (Lf:=Lf ρ sto) (fl:=false) w.heap.size 0 len (tsize P el) (cut (isRow (P.underlying el)) (tsize P el) len cs) cells.toList (by grind) (AiH g3 hr g4)
     (fun k v hk=>by grind[Mem.add]) (by grind[cut_len])
    grind[cut_len]
   | false =>
    simp only[lap];intro hc;obtain⟨cells,g1,g2,g3,g4⟩:=key hc;have hr:isRow (P.underlying el)=false->tsize P el=1:=hc.2.2.2.2.2;have hfl:flat (cut (isRow (P.underlying el)) (tsize P el) len cs)=cs:=AlJ g3 hr g4;have hlen:=g2.length;have h16:=hc.2.2.2.1;have hle:len<=len*tsize P el:=Nat.le_mul_of_pos_right _ hc.1;have hm:=m.push (.cells cells el) (.arr (tsize P el) (cut (isRow (P.underlying el)) (tsize P el) len cs)) (some len) (by
     refine .inr ⟨w.heap.size,len,cells,el,by simp[upd],.of (heap_alloc_new w _),by grind,by grind[cut_len],by grind[maxLen],hc.1,AiH g3 hr g4,AdP g2 g4,?_⟩;rw[hfl,cut_len,<- g3,<- hlen,List.take_length];exact g2.mono (fun _ _ _ x=>x) (fun _ _=>AeT))
    refine⟨_,_,_,_,.inl g1,hm.1,hm.2,.leaf ⟨rfl,?_⟩⟩<;>grind[LfC,upd,cut_len]
  .trivial
 .trivial
theorem AlK{frz:Bool}{t:TypeId}{len:Nat}{parts:Array (Nat×Operand)}{o:Oper}{e:Env}{a:Act}(ho:o.op=.buildSlice t len parts)(m:Mine h ρ sto w)(he:EnvOk h ρ sto e a) :
  Lc P h ρ sto w ((execOp a.eval o).run P w) (AbE P frz sto len (evp e parts.toList) (P.underlying t)):=by
 have h1:=AjP (P:=P) (frz:=frz) ho m he;unfold AbE
 split
 .rename_i el hel
  rw[hel]at h1
  split
  .have hpn:parts=#[]:=by
    have:parts.toList=[]:=by
     cases hq:parts.toList<;>grind[evp]
    grind
   have key:0<tsize P el->(execOp a.eval o).run P w=.ok (.value (.slice (some ⟨w.heap.size,0,none⟩) 0 0)) (w.alloc (.cells #[] el)):=fun h0=>by
    have hsize:(sizeOf el).run P w=.ok (tsize P el) w:=AaR h0 w
    simp_all[execOp,Instr.buildSlice,run_underlying,Instr.fill,newRow,Array.range_zero']
   cases frz with
   | true =>
    intro h0;have s:=Same.alloc w (.cells #[] el);exact⟨_,_,h,ρ,.inl (key h0),m.same s,Later.same s,.fz w.heap.size 0 0 _ [] [] .nil (by simp) (by simp) (lal _)⟩
   | false =>
    intro h0;have hm:=m.push (.cells #[] el) (.arr (tsize P el) []) (some 0) (by
     refine .inr ⟨w.heap.size,0,#[],el,by simp[upd],.of (heap_alloc_new w _),by simp,by simp,by omega,h0,by simp,by simp,?_⟩
     simpa[flat]using RL.nil)
    refine⟨_,_,_,_,.inl (key h0),hm.1,hm.2,.leaf ⟨rfl,?_⟩⟩;simp only[LfC,List.getElem?_concat_length];exact⟨by simp,fun _=>.inl ⟨trivial,trivial,some (w.heap.size,0),rfl⟩⟩
  omega
 grind
theorem AdD:∀ {l:LA},l.all AdO=true->flat l=l
 | [],_=>rfl
 | a::l,hb=>by
  simp at hb
  have:cellsOf a=[a]:=by cases a <;> first|rfl|(simp[AdO]at hb; done)
  rw[flat,this,AdD (by simpa using hb.2)]; rfl
theorem AzC{fl u a}(r:RV h (Lf ρ sto) fl u a)(hb:AdO a=true):∃ n,u=.int .u8 n/\AjZ a=UInt8.ofNat n.toNat:=by
 cases a <;> try(simp[AdO]at hb; done)
 rename_i k n;have:k=.u8:=by cases k <;> simp[AdO]at hb |-
 subst this;exact⟨n,AaE r,rfl⟩
theorem AnN{fl:Bool}:∀ {l:LA}{vs:List Value},RL h (Lf ρ sto) fl vs l->l.all AdO=true->∃ ns:List Int,vs=ns.map (Value.int .u8)/\l.map AjZ=ns.map fun n=>UInt8.ofNat n.toNat
 | [],_,r,_=>by cases r<;>simp_all
 | a::l,_,r,hb=>by
  cases r with
  | cons r1 r2 =>
   simp at hb
   obtain⟨n,rfl,h2⟩:=AzC r1 hb.1;obtain⟨ns,rfl,h3⟩:=AnN r2 (by simpa using hb.2);exact⟨n::ns,rfl,by simp[h2,h3]⟩
theorem AiI:∀ (ns:List Int)(acc:LU),ns.foldl (fun r n=>r.push (UInt8.ofNat n.toNat)) (⟨acc.toArray⟩:ByteArray)=⟨(acc++ns.map fun n=>UInt8.ofNat n.toNat).toArray⟩
 | [],acc=>by simp
 | n::ns,acc=>by
  have:(⟨acc.toArray⟩:ByteArray).push (UInt8.ofNat n.toNat)=⟨(acc++[UInt8.ofNat n.toNat]).toArray⟩:=by
   simp[ByteArray.push]
  simp only[List.foldl_cons,this,AiI ns]
  simp
theorem ArP{src dst el:TypeId}(hs:P.underlying src=some (.slice el))(he:isU8 (P.underlying el)=true)(hd:P.underlying dst=some .string){b o c:Nat}{vs:List Value}{l:LA}{fl:Bool}
  (r:RL h (Lf ρ sto) fl vs l) (hb:l.all AdO=true) (hc:∀ (k:Nat) v,vs[k]? = some v->w.cell? ⟨b,o+k,none⟩=some v) :
  (convert src dst (.slice (some ⟨b,o,none⟩) l.length c)).run P w=.ok (.string ⟨(l.map AjZ).toArray⟩) w:=by
 obtain⟨ns,rfl,h2⟩:=AnN r hb;have hu8:P.underlying el=some (.int .u8):=by
  grind[isU8]
 rw[run_convert_bytes_string w src dst el _ _ c hs hu8 hd,run_bytesToString w _ _ c ns,h2]
 .have:=AiI ns []
  simp at this
  rw[<- this]; rfl
 .have hlen:=r.length
  grind[run_loadCells_list,Addr.add_mid]
theorem AlL(w:World)(e:TypeId)(s:ByteArray):Lib.bytesWorld w e s=w.drew.alloc (.cells (Lib.bytesCells w e s) e ((Lib.bytesCells w e s).size,(Lib.bytesCells w e s).size+1)):=by
 have hh:(Lib.bytesWorld w e s).heap=(w.drew.alloc (.cells (Lib.bytesCells w e s) e ((Lib.bytesCells w e s).size,(Lib.bytesCells w e s).size+1))).heap:=by
  refine Array.ext_getElem? fun j=>?_
  rcases Nat.lt_trichotomy j w.heap.size with hj|hj|hj
  .rw [Lib.bytesWorld_at_old w e s j hj]
   exact((Same.drew w).trans (Same.alloc w.drew _)).block j hj |>.symm
  .subst hj
   rw[Lib.bytesWorld_at_new];exact(heap_alloc_new w.drew _).symm
  .rw [Array.getElem?_eq_none (by grind[Lib.bytesWorld_size]),Array.getElem?_eq_none (by simp; omega)]
 unfold Lib.bytesWorld World.freeze at hh |-
 simp at hh |-
 rw[hh];rfl
theorem AtK{wr:Bool}{s d:TypeId}{x:Operand}{o:Oper}{e:Env}{a:Act}(ho:o.op=.convert s d x)(m:Mine h ρ sto w)(he:EnvOk h ρ sto e a) :
  Lc P h ρ sto w ((execOp a.eval o).run P w) (AtC wr (P.underlying s) (P.underlying d) (P.underlying (elemD (P.underlying s))) (P.underlying (elemD (P.underlying d))) sto (ev e x)):=by
 have hx:=AaF he x;have hrun:(execOp a.eval o).run P w=((convert s d (a.eval x)).run P w).andThen fun v w'=>.ok (.value v) w':=by simp_all[execOp]
 rw[hrun];generalize a.eval x=u at *;unfold AtC
 split
 .rename_i k hd
  split
  .rename_i k1 k2 n hs hv
   rw[hv]at hx;have hr:(convert s d u).run P w=.ok (.int k (k.wrap n)) w:=by
    rw[AaE hx]
    simp_all[convert,run_underlying,Conv.intToInt]
   cases wr with
   | true=>exact AaA m (by simp_all) (.int _ _)
   | false =>
    intro hi;exact AaA m (by simp_all[AdC]) (.int _ _)
  .trivial
 .rename_i hd
  split
  .rename_i t hs hv
   rw[hv]at hx;exact AaA m (by rw[AaQ hx]; simp_all[convert,run_underlying]) (.str _)
  .rename_i el hs
   simp only[hs,elemD]
   cases hu:isU8 (P.underlying el)with
   | false=>trivial
   | true =>
    simp
    unfold AuX
    split
    .rename_i ee l hv
     rw[hv]at hx;intro⟨he1,hb⟩;subst he1;refine AaA m ?_ (.str _)
     rcases AeN hx with⟨rfl,rfl⟩|⟨b,oo,c,vs,rfl,h2,h3,h4,h5⟩
     .have hu8:P.underlying el=some (.int .u8):=by
       grind[isU8]
      rw[run_convert_bytes_string w s d el _ _ _ hs hu8 hd]
      simp[Conv.bytesToString]; rfl
     .have hfl:flat l=l:=AdD hb
      rw[hfl]at h2;rw[ArP hs hu hd h2 hb (fun k v hk=>(m.mem b _ v (h4 k v hk)).1)]; rfl
    .rename_i id off len cap hv
     rw[hv]at hx
     split
     .rename_i ee l hb
      intro⟨he1,hcap,hlc,hby⟩;subst he1;have hso:=AbS hb;have hl:=(AbN hx).2;simp only[LfC,hso]at hl;have hu8:P.underlying el=some (.int .u8):=by
       grind[isU8]
      rcases hl.2 hcap with⟨h6,h5,aa,rfl⟩|⟨g,tot,h5,rfl,h7⟩
      .subst h6
       refine AaA m ?_ (by simp; exact .str _);rw[run_convert_bytes_string w s d el _ _ _ hs hu8 hd]
       cases aa <;> simp[Conv.bytesToString,loadCells,loadCellsFrom] <;> rfl
      .rcases m.own id _ hso with⟨_,hno⟩|⟨g',tot',cur,t,h3,h4,h5',h6,h7',h8,h9,h10,h11⟩
       .grind
       .rw [h3]at h5
        simp at h5
        obtain⟨rfl,rfl⟩:=h5;have hr:=(h11.drop off).take len;have hfl:(flat l).drop off=flat (l.drop off):=by have:=AaP h9 off; grind
        have hfl2:(flat (l.drop off)).take len=flat ((l.drop off).take len):=by
         have:=AbD (l:=l.drop off) (fun x hx=>h9 x (lbi hx)) len; grind
        rw[hfl,hfl2,AdD hby]at hr;have hlen:((l.drop off).take len).length=len:=by grind
        refine AaA m ?_ (.str _);have:=ArP (w:=w) (b:=g') (o:=off*1) (c:=tot'-off) hs hu hd hr hby (fun k v hk=>by
         rw[h4.cell]
         grind)
        simp_all
     .trivial
    .rename_i hv
     rw[hv]at hx;have hu8:P.underlying el=some (.int .u8):=by
      grind[isU8]
     refine AaA m (u:=.string ⟨[].toArray⟩) ?_ (.str _);rw[AaU hx,run_convert_bytes_string w s d el _ _ _ hs hu8 hd]
     simp[Conv.bytesToString]; rfl
    .trivial
  .rename_i k1 k2 n hs hv
   rw[hv]at hx;intro⟨h0,h1⟩;refine AaA m (u:=.string ⟨[UInt8.ofNat n.toNat].toArray⟩) ?_ (.str _);have henc:Utf8.encode n=⟨[UInt8.ofNat n.toNat].toArray⟩:=by
    grind[Utf8.valid,Utf8.encode]
   rw[AaE hx,run_convert_int_string w s d k2 n (by grind) hd,henc];rfl
  .trivial
 .rename_i el hd
  split
  .rename_i hs
   simp only[hd,elemD]
   cases hu:isU8 (P.underlying el)with
   | false=>trivial
   | true =>
    simp
    unfold AnE
    split
    .rename_i l hv
     rw[hv]at hx;intro hl;have hu8:P.underlying el=some (.int .u8):=by
      grind[isU8]
     have hrun2:=Lib.run_convert_string_bytes (P:=P) w s d el ⟨l.toArray⟩ hs hd hu8;rw[AlL]at hrun2;rw[AaQ hx,hrun2];have hge:=grownCap_ge w (ByteArray.size ⟨l.toArray⟩) 0 el;have hmx:=grownCap_le_maxLen w (ByteArray.size ⟨l.toArray⟩) 0 el (by show l.toArray.size<=_; grind[maxLen]);have hsz:ByteArray.size ⟨l.toArray⟩=l.length:=by show l.toArray.size=_; simp
     rw[hsz]at hge hmx |-;have hcs:(Lib.bytesCells w el ⟨l.toArray⟩).size=grownCap w l.length 0 el:=by grind[Lib.bytesCells]
     have hfl:flat (l.map fun b=>AV.int .u8 b.toNat)=l.map fun b=>AV.int .u8 b.toNat:=AdD (by grind[AdO])
     have m0:=m.same (Same.drew w);have hm:=m0.push (.cells (Lib.bytesCells w el ⟨l.toArray⟩) el ((Lib.bytesCells w el ⟨l.toArray⟩).size,(Lib.bytesCells w el ⟨l.toArray⟩).size+1)) (.arr 1 (l.map fun b=>.int .u8 b.toNat)) (some (grownCap w l.length 0 el)) (by
      refine .inr ⟨w.heap.size,grownCap w l.length 0 el,Lib.bytesCells w el ⟨l.toArray⟩,el,by simp[upd],⟨_,heap_alloc_new w.drew _,.inr (lal _)⟩,by omega,by grind,hmx,by omega,?_,?_,?_⟩
      .intro x hx
       obtain⟨b,_,rfl⟩:=List.mem_map.1 hx;rfl
      .intro v hv
       simp only[Lib.bytesCells,Array.toList_append,List.mem_append,Array.toList_map,List.mem_map,Array.toList_replicate,List.mem_replicate]at hv
       rcases hv with⟨b,_,rfl⟩|⟨_,rfl⟩ <;> rfl
      .rw [hfl,Nat.mul_one,laa]
       have:(Lib.bytesCells w el ⟨l.toArray⟩).toList.take l.length=l.map fun b=>Value.int .u8 b.toNat:=by
        grind[Lib.bytesCells]
       rw[this];generalize Lf _ _=LL;generalize l=q
       induction q with
       | nil=>exact .nil
       | cons b q ih=>exact .cons (.int _ _) ih)
     refine⟨_,_,_,_,.inl rfl,hm.1,(Later.same (Same.drew w)).trans hm.2,.leaf ⟨rfl,?_⟩⟩
     simp_all[LfC,upd]
    .trivial
  .trivial
 .trivial
end
