/- make, max and min, nil checks; every operation. -/
import Derived.Test.YtlldmgboedknfaaGreatDoorC8
import Derived.Deep.LoopGhost
set_option linter.unusedSimpArgs false
set_option linter.unusedVariables false
set_option linter.unusedSectionVars false
namespace Go.Av
open Go Go.RowKit
variable [Tr]
section
variable {h:Mem}{ρ:Own}{sto:List Blk}{w:World}{P:Program}{e:Env}{a:Act}
theorem BoE{t:TypeId}{n c:Operand}{o:Oper}(ho:o.op=.makeSlice t n c)(m:Mine h ρ sto w)(he:EnvOk h ρ sto e a) :
  Res.Sound P h ρ sto w ((execOp a.eval o).run P w) (BhB P sto (P.underlying t) (ev e n) (ev e c)):=by
 have hrun:(execOp a.eval o).run P w=((Instr.makeSlice t (a.eval n) (a.eval c)).run P w).andThen fun v w'=>.ok (.value v) w':=by
  simp[execOp,ho]
 have hn:=AaM he n;have hc:=AaM he c;generalize hr:(execOp a.eval o).run P w=r at *;unfold BhB
 split
 .rename_i el kn nn kc cc ht e1 e2
  rw[e1]at hn;rw[e2]at hc;rw[AaK hn,AaK hc]at hrun;intro⟨hp,hz,hrow,hone,h0,h1,h2,h3⟩;obtain⟨i,z,hi,his,hib,hiz,hzc,hzs⟩:=AeW hp hz;have hrm:=run_make (P:=P) w t el i z ht hi hiz kn kc nn cc h0 h1 (by rw[hib]; omega) h2;rw[hrm,his]at hrun;have hcells:RL h (Lf ρ sto) false (madeCells z.cells (cc.toNat*tsize P el)).toList (rep (zav P el) cc.toNat):=by
   have hzl:z.cells.toList.length=tsize P el:=by simpa using hzs
   have:=AiV (h:=h) (ρ:=ρ) (sto:=sto) (z:=z.cells.toList) (fl:=false) cc.toNat (by omega);rw[hzl]at this;unfold madeCells zav;rw[hzc,hzs]
   simpa using this
  have honec:∀ v∈(madeCells z.cells (cc.toNat*tsize P el)).toList,v.oneCell'=true:=by
   refine AeO hcells ?_;rw[List.all_eq_true]at hone |-;intro x hx;obtain⟨k,hk,rfl⟩:=List.mem_iff_getElem.1 hx;have hk':k<cc.toNat*(zav P el).length:=by rwa [rep_len]at hk
   have:=A0M hk';rw[List.getElem?_eq_getElem hk]at this;exact hone _ (List.mem_of_getElem? this.symm)
  have hzel:=AiF (row:=isRow (P.underlying el)) hz hrow hone;have hm:=m.push (.cells (madeCells z.cells (cc.toNat*tsize P el)) el) (.arr (tsize P el) (List.replicate nn.toNat (AnA (isRow (P.underlying el)) (zav P el)))) (some cc.toNat) (by
   refine .inr ⟨w.heap.size,cc.toNat,_,el,by simp[upd],.of (heap_alloc_new w _),size_madeCells _ _,by simp; omega,by simp only[maxLen]; omega,hp,?_,honec,?_⟩
   .intro x hx
    rw[List.eq_of_mem_replicate hx,hzel,hz]
   .rw [AmF hzel,List.length_replicate,<- hz,<- BhN nn.toNat cc.toNat (by omega),hz]
    exact(hcells.take _).mono (fun _ _ _ x=>x) (fun _ _=>AiB))
  refine⟨_,_,_,_,.inl hrun,hm.1,hm.2,.leaf ⟨rfl,?_⟩⟩
  simp[LfC,upd]
 .trivial
theorem BmA{big:Bool}{c:Call}(hf:c.callee=.builtin (bif big then .max else .min)){o:Oper}(ho:o.op=.call c)(m:Mine h ρ sto w)(he:EnvOk h ρ sto e a) :
  Res.Sound P h ρ sto w ((execOp a.eval o).run P w) (xmax big (evs e c.args.toList)):=by
 unfold xmax
 split
 .rename_i k x k' y hx
  obtain⟨o1,o2,hxy,h1,h2⟩:∃ o1 o2,c.args.toList=[o1,o2]/\ev e o1=.int k x/\ev e o2=.int k' y:=by
   match hq:c.args.toList with
   | []=>rw[hq]at hx; simp[evs]at hx
   | [_]=>rw[hq]at hx; simp[evs]at hx
   | [o1,o2]=>rw[hq]at hx; simp[evs]at hx; exact⟨o1,o2,rfl,hx.1,hx.2⟩
   | _::_::_::_=>rw[hq]at hx; simp[evs]at hx
  have e1:c.args.map a.eval=#[a.eval o1,a.eval o2]:=by
   apply Array.ext'; rw[Array.toList_map,hxy]; rfl
  have v1:=AaK (by have:=AaM he o1; rwa [h1]at this);have v2:=AaK (by have:=AaM he o2; rwa [h2]at this)
  by_cases hk:k=k'
  .subst hk
   simp only[decide_true,cond_true];refine AaA m ?_ (.int _ _)
   cases big <;> simp[execOp,ho,resolve,hf,invoke,builtin,e1,v1,v2,Builtin.max_,Builtin.min_,Builtin.max2,Builtin.min2]
  .simp only [hk,decide_false,cond_false]; trivial
 .trivial
theorem BsB{x:Operand}{o:Oper}(ho:o.op=.nilCheck x)(m:Mine h ρ sto w)(he:EnvOk h ρ sto e a) :
  Res.Sound P h ρ sto w ((execOp a.eval o).run P w) (xnil sto (ev e x)):=by
 have hx:=AaM he x;have key:∀ ad,a.eval x=.pointer (some ad)->(execOp a.eval o).run P w=.ok (.value (.pointer (some ad))) w:=fun ad hv=>by
  simp[execOp,ho,hv]
 unfold xnil
 split
 .rename_i id n j off hv
  rw[hv]at hx
  split
  .rename_i ee l hb
   intro hn;obtain⟨g,tot,cur,t,h1,h2,_⟩:=AfZ m hb hx hn;refine AaA m (key _ h2) ?_;rw[<- h2]; exact hx
  .trivial
 .rename_i ee l j off hv
  rw[hv]at hx;obtain⟨b,oo,vs,h1,_⟩:=AkE hx;refine AaA m (key _ h1) ?_;rw[<- h1]; exact hx
 .trivial
theorem BaX{c:Call}(hf:c.callee=.builtin .delete){o:Oper}(ho:o.op=.call c)(m:Mine h ρ sto w)(he:EnvOk h ρ sto e a) :
  Res.Sound P h ρ sto w ((execOp a.eval o).run P w) (BaG P e sto c.args.toList c.argTypes.toList):=by
 have hrun:(execOp a.eval o).run P w=((Builtin.delete_ c.argTypes o.type (c.args.map a.eval)).run P w).andThen fun v w'=>.ok (.value v) w':=by
  simp[execOp,ho,resolve,hf,invoke,builtin]
 unfold BaG
 split
 .rename_i xm xk t ts h1 h2
  have hm:=AaM he xm;have hk:=AaM he xk;have e1:c.args.map a.eval=#[a.eval xm,a.eval xk]:=by
   apply Array.ext'; rw[Array.toList_map,h1]; rfl
  have hrun':(execOp a.eval o).run P w=((Builtin.delete_ #[t,o.type] o.type #[a.eval xm,a.eval xk]).run P w).andThen fun v w'=>.ok (.value v) w':=by
   rw[hrun,e1];have e2:c.argTypes[0]? = some t:=by rw[<- Array.getElem?_toList,h2]; rfl
   simp[Builtin.delete_,e2]
  generalize a.eval xm=um at *;generalize a.eval xk=uk at *;generalize ev e xk=ka at *;generalize hr:(execOp a.eval o).run P w=r at *;unfold xdel
  split
  .rename_i kt et ht
   split
   .rename_i fs id hkt hmm
    rw[hmm]at hm
    cases hfl:AaX P kt with
    | true =>
     simp only[cond_true];unfold BnN
     split
     .rename_i es hb
      cases hik:AdL P fs.toList ka with
      | false=>trivial
      | true =>
       simp only[cond_true]
       cases hq:mfindS P fs.toList ka es 0 with
       | none=>trivial
       | some x =>
        rw[AmH]at hq
        by_cases hp:AcM P kt=true
        .exact BaU m ht (AeH hb) hm (fun b=>AgA hkt hp hk hik b) (fun hp en hl hr=>AdS (w:=w) hkt (BaR hkt hp hk) (A0P hik) hl hr hq) hrun'
        .cases x with
         | none=>exact fun h=>absurd h hp
         | some jv=>obtain⟨j,v⟩:=jv; exact fun h=>absurd h hp
     .trivial
    | false =>
     simp only[cond_false];unfold BnO
     split
     .rename_i es hb
      cases hik:AdK P kt ka with
      | false=>trivial
      | true =>
       simp only[cond_true]
       cases hq:mfindT P kt ka es 0 with
       | none=>trivial
       | some x =>
        rw[AmI]at hq
        by_cases hp:AdA P kt=true
        .exact BaU m ht (AeH hb) hm (fun b=>A0R hkt hp hk hik b) (fun hp en hl hr=>AdS (w:=w) hkt (BaS hkt hp hk) (A0Q hik) hl hr hq) hrun'
        .cases x with
         | none=>exact fun h=>absurd h hp
         | some jv=>obtain⟨j,v⟩:=jv; exact fun h=>absurd h hp
     .trivial
   .rename_i d id hns hkt hmm
    rw[hmm]at hm;unfold BnM
    split
    .rename_i es hb
     cases hik:AfX d ka with
     | false=>trivial
     | true =>
      simp only[cond_true];obtain⟨ik,rk⟩:=AmG hik hk
      cases hq:mfind d ka es 0 with
      | none=>trivial
      | some x=>exact BaU m ht (AeH hb) hm (fun b=>MapKept.run_checkKey hkt ik b 9999) (fun _ en hl hr=>AiW (w:=w) hkt hik hk hl hr hq) hrun'
    .trivial
   .trivial
  .trivial
 .trivial
theorem BhR{c:Call}(hf:c.callee=.builtin .clear){o:Oper}(ho:o.op=.call c)(m:Mine h ρ sto w)(he:EnvOk h ρ sto e a) :
  Res.Sound P h ρ sto w ((execOp a.eval o).run P w) (AnB P e sto c.args.toList c.argTypes.toList):=by
 have hrun:(execOp a.eval o).run P w=((Builtin.clear_ c.argTypes o.type (c.args.map a.eval)).run P w).andThen fun v w'=>.ok (.value v) w':=by
  simp[execOp,ho,resolve,hf,invoke,builtin]
 unfold AnB
 split
 .rename_i x t h1 h2
  have hx:=AaM he x;have e1:c.args.map a.eval=#[a.eval x]:=by
   apply Array.ext'; rw[Array.toList_map,h1]; rfl
  have e2:c.argTypes=#[t]:=by apply Array.ext'; rw[h2]
  rw[e1,e2]at hrun;generalize a.eval x=vx at *;generalize hr:(execOp a.eval o).run P w=r at *
  split
  .rename_i el ht
   split
   .rename_i id off len cap hv
    rw[hv]at hx;have hl:=(AbO hx).2;unfold A0E
    split
    .rename_i ee l hb
     have hb':=AbU hb;intro⟨hp,hz,hrow,hone,h3,h4,h5⟩;subst h3;have hid:=(List.getElem?_eq_some_iff.1 hb').1;simp only[LfC,hb']at hl;obtain⟨i,z,hi,his,hib,hiz,hzc,hzs⟩:=AeW hp hz;have noop:∀ ad c',vx=.slice ad 0 c'->len=0->Okv h ρ sto w r (.tup []) (sto.set id (.arr (tsize P el) (splice' l off (List.replicate len (AnA (isRow (P.underlying el)) (zav P el)))))):=by
      intro ad c' hvx hl0;subst hvx hl0;have hst:splice' l off (List.replicate 0 (AnA (isRow (P.underlying el)) (zav P el)))=l:=by simp[splice']
      rw[hst,set_same hb'];refine⟨.tuple #[],_,_,_,.inl ?_,m,.refl ..,.tup [] [] .nil⟩
      cases ad <;> simp[hrun,Builtin.clear_,run_underlying ht]
     rcases hl.2 h4 with⟨rfl,h5',ad,rfl⟩|⟨g,tot,h5',rfl,h7⟩
     .exact noop _ _ rfl rfl
     .rcases m.own id _ hb' with⟨_,hno⟩|⟨g',tot',cur,tt,j3,j4,j5,j6,j7,j8,j9,j10,j11⟩
      .simp [hno]at h5'
      .rw [j3]at h5'
       simp only[Option.some.injEq,Prod.mk.injEq]at h5';obtain⟨rfl,rfl⟩:=h5'
       by_cases hl0:len=0
       .subst hl0; exact noop _ _ rfl rfl
       have hzel:=AiF (row:=isRow (P.underlying el)) hz hrow hone;have hzl:z.cells.toList.length=tsize P el:=by simpa using hzs
       have hcells:RL h (Lf ρ sto) false (Builtin.zeroCells z.cells len).toList (flat (List.replicate len (AnA (isRow (P.underlying el)) (zav P el)))):=by
        have:=AiV (h:=h) (ρ:=ρ) (sto:=sto) (z:=z.cells.toList) (fl:=false) len (by omega);rw[hzl]at this;rw[AmF hzel];unfold Builtin.zeroCells zav;rw[hzc,hzs]
        simpa using this
       have honec:∀ v∈(Builtin.zeroCells z.cells len).toList,v.oneCell'=true:=by
        refine AtD ?_ (by omega) _;intro u hu;rw[<- hzc]at hu;have hr:RL (fun _ _=>none) (Lf (fun _=>none) []) false (zcells P el) (zav P el):=AdW _;exact AeO hr hone u hu
       have hle:(off+len)*tsize P el<=tot'*tsize P el:=Nat.mul_le_mul_right _ (by omega);rw[Nat.add_mul]at hle;have hst:=AbD P g' (off*tsize P el) tt (Builtin.zeroCells z.cells len).toList 0 cur w j4 (by rw[Nat.add_zero,Array.length_toList,size_zeroCells,hzs,j5]; exact hle) honec;simp only[Nat.add_zero]at hst;have hm:=AnK m hb' j3 j4 j5 j6 j7 j8 j9 j10 j11 hcells (fun x hx=>by rw[List.eq_of_mem_replicate hx,hzel,hz]) honec (k:=off) (by rw[List.length_replicate]; omega);refine⟨.tuple #[],_,_,_,.inl ?_,hm.1,hm.2,.tup [] [] .nil⟩;have hzv:(zeroValue el).run P w=.ok z w:=by simp[zeroValue,typeInfo,hi,hiz]
       obtain⟨len',rfl⟩:∃ len',len=len'+1:=⟨len-1,by omega⟩;rw[hrun];simp only[Builtin.clear_,List.getElem?_toArray,List.getElem?_cons_zero,Sem.run_bind,run_underlying ht,Result.andThen_ok,hzv,hst,Sem.run_pure];rfl
    .trivial
   .trivial
  .trivial
 .trivial
theorem BoF{wr:Bool}{op:BinOp}{t yt:TypeId}{x y:Operand}{o:Oper}(ho:o.op=.binOp op t x y yt)(m:Mine h ρ sto w)(he:EnvOk h ρ sto e a) :
  Res.Sound P h ρ sto w ((execOp a.eval o).run P w) (AsS wr sto (P.underlying t) op (ev e x) (ev e y)):=by
 have hx:=AaM he x;have hy:=AaM he y;have hrun:(execOp a.eval o).run P w=((do eqGuard op t x y (a.eval x) (a.eval y); Go.binOp op t (a.eval x) (a.eval y):Sem Value).run P w).andThen fun v w'=>.ok (.value v) w':=by
  simp[execOp,ho,AfK]
 unfold AsS
 split
 .rename_i el h1 h2
  rw[h1]at hy;have hv:=AaS hy;have keyE:∀ ad l c,a.eval x=.slice ad l c->op=.eql->Okv h ρ sto w ((execOp a.eval o).run P w) (.bool ad.isNone) sto:=fun ad l c hh hop=>by
   subst hop;refine AaA m ?_ (.bool _);have hg:(eqGuard .eql t x y (.slice ad l c) (.slice none 0 0)).run P w=.ok () w:=by unfold eqGuard; rfl
   rw[hrun,hh,hv,Sem.run_bind,hg]
   show((do pure (Value.bool (<- Op.equal t (.slice ad l c) (.slice none 0 0))):Sem Value).run P w).andThen _=_
   rw[Sem.run_bind,run_equal_slice_nil w t el ad l c h2]; rfl
  have keyN:∀ ad l c,a.eval x=.slice ad l c->op=.neq->Okv h ρ sto w ((execOp a.eval o).run P w) (.bool (!ad.isNone)) sto:=fun ad l c hh hop=>by
   subst hop;refine AaA m ?_ (.bool _);have hg:(eqGuard .neq t x y (.slice ad l c) (.slice none 0 0)).run P w=.ok () w:=by unfold eqGuard; rfl
   rw[hrun,hh,hv,Sem.run_bind,hg]
   show((do pure (Value.bool (!(<- Op.equal t (.slice ad l c) (.slice none 0 0)))):Sem Value).run P w).andThen _=_
   simp only[Sem.run_bind,run_equal_slice_nil w t el ad l c h2]; rfl
  have key:∀ neg,((neg=false/\op=.eql)\/(neg=true/\op=.neq))->Res.Sound P h ρ sto w ((execOp a.eval o).run P w) (AhR sto neg (ev e x)):=by
   intro neg hneg;have k2:∀ ad l c,a.eval x=.slice ad l c->Okv h ρ sto w ((execOp a.eval o).run P w) (.bool (neg ^^ ad.isNone)) sto:=fun ad l c hh=>by
    rcases hneg with⟨rfl,hop⟩|⟨rfl,hop⟩
    .simpa using keyE ad l c hh hop
    .simpa using keyN ad l c hh hop
   unfold AhR
   split
   .rename_i ee y' l hv'
    rw[hv']at hx
    rcases AfY hx with⟨hh,_⟩|⟨b,oo,c,vs,hh,_⟩
    .simp at hh
    .show Okv _ _ _ _ _ _ _
     simpa using k2 _ _ _ hh
   .rename_i ee hv'
    rw[hv']at hx;intro _
    rcases AfY hx with⟨_,hh⟩|⟨b,oo,c,vs,hh,_⟩
    .exact ⟨_,k2 _ _ _ hh⟩
    .exact ⟨_,k2 _ _ _ hh⟩
   .rename_i id off len cap hv'
    rw[hv']at hx;have hlf:=(AbO hx).2
    split
    .rename_i ee l hb
     intro hcap;simp only[LfC,AbU hb]at hlf
     rcases hlf.2 hcap with⟨_,_,ad,hh⟩|⟨g,tot,_,hh,_⟩
     .exact ⟨_,k2 _ _ _ hh⟩
     .exact ⟨_,k2 _ _ _ hh⟩
    .trivial
   .rename_i hv'
    rw[hv']at hx;have:=k2 _ _ _ (AaS hx)
    show Okv _ _ _ _ _ _ _
    simpa using this
   .trivial
  split
  .exact key false (.inl ⟨rfl,rfl⟩)
  .exact key true (.inr ⟨rfl,rfl⟩)
  .trivial
 .rename_i kt et h1 h2
  rw[h1]at hy;have hv:=AaS hy;have keyE:∀ g,a.eval x=.map g->op=.eql->Okv h ρ sto w ((execOp a.eval o).run P w) (.bool g.isNone) sto:=fun g hh hop=>by
   subst hop;refine AaA m ?_ (.bool _);have hg:(eqGuard .eql t x y (.map g) (.map none)).run P w=.ok () w:=by unfold eqGuard; rfl
   rw[hrun,hh,hv,Sem.run_bind,hg]
   show((do pure (Value.bool (<- Op.equal t (.map g) (.map none))):Sem Value).run P w).andThen _=_
   rw[Sem.run_bind,run_equal_map_nil w t kt et g h2]; rfl
  have keyN:∀ g,a.eval x=.map g->op=.neq->Okv h ρ sto w ((execOp a.eval o).run P w) (.bool (!g.isNone)) sto:=fun g hh hop=>by
   subst hop;refine AaA m ?_ (.bool _);have hg:(eqGuard .neq t x y (.map g) (.map none)).run P w=.ok () w:=by unfold eqGuard; rfl
   rw[hrun,hh,hv,Sem.run_bind,hg]
   show((do pure (Value.bool (!(<- Op.equal t (.map g) (.map none)))):Sem Value).run P w).andThen _=_
   simp only[Sem.run_bind,run_equal_map_nil w t kt et g h2]; rfl
  have key:∀ neg,((neg=false/\op=.eql)\/(neg=true/\op=.neq))->Res.Sound P h ρ sto w ((execOp a.eval o).run P w) (AeN sto neg (ev e x)):=by
   intro neg hneg;have k2:∀ g,a.eval x=.map g->Okv h ρ sto w ((execOp a.eval o).run P w) (.bool (neg ^^ g.isNone)) sto:=fun g hh=>by
    rcases hneg with⟨rfl,hop⟩|⟨rfl,hop⟩
    .simpa using keyE g hh hop
    .simpa using keyN g hh hop
   unfold AeN
   split
   .rename_i id hv'
    rw[hv']at hx;have hlf:=(AhT hx).2
    split
    .rename_i es hb
     simp only[LfC,AeH hb]at hlf;obtain⟨g,_,hh⟩:=hlf;have:=k2 _ hh
     show Okv _ _ _ _ _ _ _
     simpa using this
    .trivial
   .rename_i hv'
    rw[hv']at hx;have:=k2 _ (AaS hx)
    show Okv _ _ _ _ _ _ _
    simpa using this
   .trivial
  split
  .exact key false (.inl ⟨rfl,rfl⟩)
  .exact key true (.inr ⟨rfl,rfl⟩)
  .trivial
 .exact BnW ho m he
theorem BoG{wr:Bool}{op:BinOp}{t yt:TypeId}{x y:Operand}{o:Oper}(ho:o.op=.binOp op t x y yt)(m:Mine h ρ sto w)(he:EnvOk h ρ sto e a) :
  Res.Sound P h ρ sto w ((execOp a.eval o).run P w) (AqQ P t wr sto op (ev e x) (ev e y)):=by
 have hx:=AaM he x;have hy:=AaM he y;have hrun:(execOp a.eval o).run P w=((do eqGuard op t x y (a.eval x) (a.eval y); Go.binOp op t (a.eval x) (a.eval y):Sem Value).run P w).andThen fun v w'=>.ok (.value v) w':=by
  simp[execOp,ho,AfK]
 unfold AqQ
 split
 .rename_i xs hxs
  rw[hxs]at hx
  split
  .rename_i ys hys
   rw[hys]at hy;unfold xeqs
   split
   .rename_i fs hfs
    obtain⟨vs,hvs,r1⟩:=AaN hx;obtain⟨us,hus,r2⟩:=AaN hy;have hfo:P.fieldsOf t=fs:=by simp[Program.fieldsOf,hfs]
    have fin:∀ b,P.eqGuardType P.depth t=false->(Op.equalIn 10000 t (.agg vs.toArray) (.agg us.toArray)).run P w=.ok b w->(op=.eql\/op=.neq)->(execOp a.eval o).run P w=.ok (.value (.bool (if op=.eql then b else !b))) w:=by
     intro b g1 heq hop;rw[hrun,hvs,hus,Sem.run_bind,run_eqGuard_agg w op t x y _ _ g1];simp only[Result.andThen_ok]
     rcases hop with rfl|rfl
     .rw [run_eql_struct,heq]; rfl
     .rw [run_neq_struct,heq]; rfl
    cases hb:eqFs P fs.toList xs ys with
    | none =>
     cases hn:eqFN P xs ys fs.toList with
     | none=>unfold A0B; trivial
     | some b =>
      have hrun2:AsT P t=true->(op=.eql\/op=.neq)->(execOp a.eval o).run P w=.ok (.value (.bool (if op=.eql then b else !b))) w:=by
       intro hp hop;unfold AsT at hp;rw[hfs]at hp;simp only[Bool.and_eq_true,Bool.not_eq_true']at hp;obtain⟨g1,g2,g3⟩:=hp;refine fin b g1 ?_ hop;rw[run_equalIn_struct w 9999 t _ _ (by rw[hfo]; exact hfs) g2,hfo];exact BaO (d:=9997) r1 r2 g3 hn
      simp only;unfold A0B
      cases op with
      | eql=>exact fun hp=>AaA m (hrun2 hp (.inl rfl)) (.bool _)
      | neq=>exact fun hp=>AaA m (hrun2 hp (.inr rfl)) (.bool _)
      | _=>trivial
    | some b =>
     have hrun2:AcM P t=true->(op=.eql\/op=.neq)->(execOp a.eval o).run P w=.ok (.value (.bool (if op=.eql then b else !b))) w:=by
      intro hp hop;unfold AcM at hp;rw[hfs]at hp;simp only[Bool.and_eq_true,Bool.not_eq_true']at hp;obtain⟨g1,g2,g3⟩:=hp;refine fin b g1 ?_ hop;rw[run_equalIn_struct w 9999 t _ _ (by rw[hfo]; exact hfs) g2,hfo];exact AfM (d:=9998) g3 (by simpa using r1) (by simpa using r2) hb
     simp only;unfold A0B
     cases op with
     | eql=>exact fun hp=>AaA m (hrun2 hp (.inl rfl)) (.bool _)
     | neq=>exact fun hp=>AaA m (hrun2 hp (.inr rfl)) (.bool _)
     | _=>trivial
   .trivial
  .trivial
 .exact BoF ho m he
theorem AeY{wr frz:Bool}{o:Oper}{e:Env}{a:Act}(m:Mine h ρ sto w)(he:EnvOk h ρ sto e a) :
  Res.Sound P h ρ sto w ((execOp a.eval o).run P w) (xop wr frz P e sto o.op):=by
 cases ho:o.op with
 | move x=>exact AaA m (by simp[execOp,ho]) (AaM he x)
 | assign x=>exact AaA m (by simp[execOp,ho]) (AaM he x)
 | pick c x y=>exact BnY ho m he
 | binOp op t x y yt=>exact BoG ho m he
 | unOp op t x =>
  cases op with
  | not=>exact BrT ho m he
  | neg=>exact BrU ho m he
  | _=>trivial
 | extract x i=>exact A6S ho m he
 | index t x i=>exact BhG ho m he
 | field t x f=>exact BhH ho m he
 | box t x=>exact BoD ho m he
 | alloc t=>exact BhE ho m
 | fieldAddr t x f=>exact AvY ho m he
 | indexAddr t x i=>exact AvZ ho m he
 | load t x=>exact BnX ho m he
 | store t x v=>exact BhF ho m he
 | convert a b x=>exact A6T ho m he
 | build t parts=>exact BhJ ho m he
 | buildSlice t len parts=>exact AtB ho m he
 | makeFunc f first cap=>exact A0L ho m he
 | slice t x lo hi mx=>exact BrZ ho m he
 | makeSlice t n c=>exact BoE ho m he
 | nilCheck x=>exact BsB ho m he
 | makeMap t r =>
  cases r with
  | none=>exact A6V ho m
  | some x=>trivial
 | mapUpdate t m' k v=>exact AwG ho m he
 | lookup t m' k c=>exact BaW ho m he
 | mapEntry t m' k=>exact A0V ho m he
 | entryStore t m' n v=>exact AtG ho m he
 | range t x=>exact BhP ho m he
 | entry x=>exact BhQ ho m he
 | call c =>
  simp only[xop]
  split
  .rename_i hc; exact BrV hc ho m he
  .rename_i hc; exact BrW hc ho m he
  .rename_i hc; exact BaM hc ho m he
  .rename_i hc; exact BoB hc ho m he
  .rename_i hc; exact BhR hc ho m he
  .rename_i hc; exact BaX hc ho m he
  .rename_i hc; exact BmA (big:=true) hc ho m he
  .rename_i hc; exact BmA (big:=false) hc ho m he
  .rename_i f hc; exact BnZ hc ho m he
  .trivial
 | _=>trivial
end
end Go.Av
namespace Go.Av
open Go Go.RowKit
variable [Tr]
inductive It where
 | ops (all rest:List Oper)
 | op (all:List Oper) (o:Oper) (rest:List Oper)
 | code (c:Code)
 | blk (id:Nat)
 | inv (J:Act->World->Prop)
def dOk(N:Nat):Option Tmp->Bool
 | some d=>decide (d<N)
 | none=>true
structure Stb(x:Mem->Own->World->Prop):Prop where
 later:∀ {h ρ sto w h' ρ' sto' w'},Mine h ρ sto w->Later h ρ sto w h' ρ' sto' w'->x h ρ w->x h' ρ' w'
 fewer:∀ {h:Mem} {ρ ρ':Own} {w:World},(∀ i g t,ρ' i=some (g,t)->∃ j t',ρ j=some (g,t'))->x h ρ w->x h ρ' w
def X0:Mem->Own->World->Prop:=fun _ _ _=>True
theorem stb0:Stb X0:=⟨fun _ _ _=>trivial,fun _ _=>trivial⟩
structure Cx where
 P:Program
 fn:Func
 h:Mem
 ρ:Own
 sto:List Blk
 w:World
 post:AV->List Blk->Prop
 x:Mem->Own->World->Prop
 hx:Stb x
def Fin(c:Cx)(a:Act)(w:World):Prop :=
 a.defers=[]/\∃ v r s h' ρ',(results c.fn a.tmps).run c.P w=.ok v w/\c.post r s/\Mine h' ρ' s w/\Later c.h c.ρ c.sto c.w h' ρ' s w/\RV h' (Lf ρ' s) false v r
def WQ(c:Cx):List It->Exit->Act->World->Prop
 | [],e,a,w=>match e with
  | .normal=>Fin c a w
  | .ret=>Fin c a w
  | _=>False
 | x::k,e,a,w=>match e with
  | .normal=>match x with
   | .ops all rest=>wpList c.P all.toArray (WQ c k) rest a w
   | .op all o rest=>dOk c.fn.ntmps o.dst=true->o.wp c.P a w (wpList c.P all.toArray (WQ c k) rest) (WQ c k)
   | .code y=>y.wp c.P (WQ c k) a w
   | .blk _=>WQ c k .normal a w
   | .inv J=>J a w
  | .exit id=>match x with
   | .blk i=>if id=i then WQ c k .normal a w else WQ c k (.exit id) a w
   | _=>WQ c k (.exit id) a w
  | e=>WQ c k e a w
def Sim(c:Cx)(e:Env)(s:List Blk)(a:Act)(w:World):Prop :=
 ∃ h ρ,Mine h ρ s w/\Later c.h c.ρ c.sto c.w h ρ s w/\EnvOk h ρ s e a/\a.defers=[]/\a.tmps.size=c.fn.ntmps/\c.x h ρ w
def AWp(c:Cx)(k:List It)(e:Env)(s:List Blk):Prop:=∀ a w,Sim c e s a w->WQ c k .normal a w
def ARet(c:Cx)(e:Env)(s:List Blk):Prop:=∀ a w,Sim c e s a w->Fin c a w
def AdY(c:Cx)(f:FuncId)(args:List AV)(d:Option Tmp)(all os:List Oper)(k:List It)(e:Env)(s:List Blk):Prop :=
 ∀ a w h ρ vs,Mine h ρ s w->Later c.h c.ρ c.sto c.w h ρ s w->EnvOk h ρ s e a->a.defers=[]->a.tmps.size=c.fn.ntmps->c.x h ρ w->RL h (Lf ρ s) false vs args ->
  AaB c.P f=true/\Calls c.P f vs.toArray w fun en w'=>match en with
   | .returned v=>WQ c (.ops all os::k) .normal (a.put d v) w'
   | _=>False
def BsC(_:Oper)(_:Env):Prop:=False
def AeZ(id:Nat):List It->Option (List It)
 | []=>none
 | .blk i::k=>bif id==i then some k else AeZ id k
 | _::k=>AeZ id k
inductive Nx where
 | go (k:List It) (e:Env) (s:List Blk)
 | two (b:Bool) (k:List It) (e:Env) (s:List Blk) (k':List It) (e':Env) (s':List Blk)
 | side (p:Prop) (k:List It) (e:Env) (s:List Blk)
 | leaf (p:Prop)
def resN(c:Cx)(o:Oper)(all os:List Oper)(k:List It)(e:Env)(s:List Blk):Res->Nx
 | .ok v=>.go (.ops all os::k) (put e o.dst v) s
 | .side p v=>.side p (.ops all os::k) (put e o.dst v) s
 | .sto p v s'=>.side p (.ops all os::k) (put e o.dst v) s'
 | .pick b x y=>.two b (.ops all os::k) (put e o.dst x) s (.ops all os::k) (put e o.dst y) s
 | .call f args=>.leaf (AdY c f args o.dst all os k e s)
 | .anyb p=>.leaf (p/\∀ b,AWp c (.ops all os::k) (put e o.dst (.bool b)) s)
 | .stuck=>.leaf (BsC o e)
def AtH:Value->Bool
 | .bool _=>false
 | _=>true
theorem AtI:AtH undef=true:=rfl
def yldV(want:Bool):AV->Option Bool
 | .bool b=>some b
 | .raw v=>bif AtH v then some (!want) else none
 | _=>none
def yldD(want:Bool)(e:Env):Option Oper->Option Bool
 | some o=>match o.dst with
  | some d=>yldV want (get e d)
  | none=>none
 | none=>none
def grdN(want:Bool)(o:Oper)(all os:List Oper)(k:List It)(e:Env)(s:List Blk):Option Bool->Nx
 | some b=>bif want then .two b (.op all o os::k) e s (.ops all os::k) (put e o.dst (.raw undef)) s
  else .two b (.ops all os::k) (put e o.dst (.raw undef)) s (.op all o os::k) e s
 | none=>.leaf (BsC o e)
def opN(o:Oper)(all os:List Oper)(k:List It)(e:Env)(s:List Blk):Option (Nat×Bool)->Nx
 | none=>.go (.op all o os::k) e s
 | some (j,want)=>grdN want o all os k e s (yldD want e all[j]?)
def BaY(a b:Code)(k:List It)(e:Env)(s:List Blk):AV->Nx
 | .bool t=>.two t (.code a::k) e s (.code b::k) e s
 | _=>.leaf False
def BoH(e:Env)(s:List Blk):Option (List It)->Nx
 | some k=>.go k e s
 | none=>.leaf False
def BhS(c:Cx)(k:List It)(e:Env)(s:List Blk):Nx:=.leaf (AWp c k e s)
def step1(wr frz:Bool)(N:Nat)(c:Cx)(k:List It)(e:Env)(s:List Blk):Nx :=
 match k with
 | .ops _ []::k=>.go k e s
 | .ops all (o::os)::k=>bif dOk N o.dst then opN o all os k e s o.guard else .leaf False
 | .op all o os::k=>resN c o all os k e s (xop wr frz c.P e s o.op)
 | .code .skip::k=>.go k e s
 | .code (.region id ops draw)::k=>bif draw then BhS c (.code (.region id ops true)::k) e s else .go (.ops ops.toList ops.toList::k) e s
 | .code (.seq a b)::k=>.go (.code a::.code b::k) e s
 | .code (.cond x a b)::k=>BaY a b k e s (ev e x)
 | .code (.block id x)::k=>.go (.code x::.blk id::k) e s
 | .code (.exit id)::k=>BoH e s (AeZ id k)
 | .code .ret::_=>.leaf (ARet c e s)
 | .code x::k=>BhS c (.code x::k) e s
 | .blk _::k=>.go k e s
 | .inv J::k=>BhS c (.inv J::k) e s
 | []=>.leaf (ARet c e s)
mutual
def run(wr frz:Bool)(N:Nat)(c:Cx):Nat->List It->Env->List Blk->Prop
 | 0,k,e,s=>AWp c k e s
 | n+1,k,e,s=>cont wr frz N c n (step1 wr frz N c k e s)
def cont(wr frz:Bool)(N:Nat)(c:Cx):Nat->Nx->Prop
 | n,.go k e s=>run wr frz N c n k e s
 | n,.two b k e s k' e' s'=>br wr frz N c n b k e s k' e' s'
 | n,.side p k e s=>p/\run wr frz N c n k e s
 | _,.leaf p=>p
def br(wr frz:Bool)(N:Nat)(c:Cx):Nat->Bool->List It->Env->List Blk->List It->Env->List Blk->Prop
 | 0,b,k,e,s,k',e',s'=>(b=true->AWp c k e s)/\(b=false->AWp c k' e' s')
 | n+1,b,k,e,s,k',e',s'=>(b=true->run wr frz N c n k e s)/\(b=false->run wr frz N c n k' e' s')
end
theorem BoI{wr frz:Bool}{N:Nat}{c:Cx}{n:Nat} {k e s k' e' s'}:br wr frz N c (n+1) true k e s k' e' s'=run wr frz N c n k e s:=by rw[br]; simp
theorem BhT{wr frz:Bool}{N:Nat}{c:Cx}{n:Nat} {k e s k' e' s'}:br wr frz N c (n+1) false k e s k' e' s'=run wr frz N c n k' e' s':=by rw[br]; simp
def Nx.sem(c:Cx):Nx->Prop
 | .go k e s=>AWp c k e s
 | .two b k e s k' e' s'=>(b=true->AWp c k e s)/\(b=false->AWp c k' e' s')
 | .side p k e s=>p/\AWp c k e s
 | .leaf p=>p
section
variable {c:Cx}{k:List It}{e:Env}{s:List Blk}
theorem AkJ{id:Nat}:∀ {k k':List It},AeZ id k=some k'->∀ a w,WQ c k' .normal a w->WQ c k (.exit id) a w
 | [],_,h,_,_,_=>by simp[AeZ]at h
 | x::k,k',h,a,w,hw=>by
  cases x with
  | blk i =>
   simp only[AeZ]at h;simp only[WQ]
   by_cases hi:id=i
   .subst hi
    simp at h; subst h
    simp only[if_true]; exact hw
   .have:(id==i)=false:=by simpa using hi
    simp only[this,cond_false]at h;rw[if_neg hi];exact AkJ h a w hw
  | ops _ _=>exact AkJ (k:=k) h a w hw
  | op _ _ _=>exact AkJ (k:=k) h a w hw
  | code _=>exact AkJ (k:=k) h a w hw
  | inv _=>exact AkJ (k:=k) h a w hw
theorem BmB:∀ {k:List It} {a w},Fin c a w->WQ c k .ret a w
 | [],_,_,h=>h
 | _::k,_,_,h=>BmB (k:=k) h
theorem EnvOk.put{h:Mem}{ρ:Own}{a:Act}{d:Option Tmp}{v:Value}{x:AV}(he:EnvOk h ρ s e a)(hd:dOk a.tmps.size d=true)(hv:RV h (Lf ρ s) false v x):EnvOk h ρ s (put e d x) (a.put d v):=by
 cases d with
 | none=>exact he
 | some d =>
  intro t;have hlt:d<a.tmps.size:=by simpa[dOk]using hd
  simp only[Av.put,get,Act.put]
  by_cases ht:d=t
  .subst ht
   simp[hlt]
   exact hv
  .have:(d==t)=false:=by simpa using ht
   simp only[this,cond_false];have e1:(a.tmps.setIfInBounds d v).getD t undef=a.tmps.getD t undef:=by
    simp[Array.getElem?_setIfInBounds_ne ht]
   rw[e1];exact he t
theorem AaP(a:Act)(d:Option Tmp)(v:Value):(a.put d v).tmps.size=a.tmps.size:=by cases d <;> simp[Act.put]
theorem AaE(a:Act)(d:Option Tmp)(v:Value):(a.put d v).defers=a.defers:=by cases d <;> rfl
theorem AnP{h:Mem}{ρ:Own}{w:World}{a:Act}{o:Oper}{v:AV}{s':List Blk}{all os:List Oper}(hl:Later c.h c.ρ c.sto c.w h ρ s w)(he:EnvOk h ρ s e a)(hdf:a.defers=[])(hsz:a.tmps.size=c.fn.ntmps)(hm0:Mine h ρ s w)(hX:c.x h ρ w)
  (hd:dOk c.fn.ntmps o.dst=true) (ok:Okv h ρ s w ((execOp a.eval o).run c.P w) v s') (hk:AWp c (.ops all os::k) (put e o.dst v) s'):WQ c (.op all o os::k) .normal a w:=by
 obtain⟨u,w',h',ρ',hr,hm,hlt,rv⟩:=ok;have he':EnvOk h' ρ' s' e a:=fun t=>(he t).mono hlt.hle hlt.keep
 have hsim:Sim c (put e o.dst v) s' (a.put o.dst u) w':=⟨h',ρ',hm,hl.trans hlt,he'.put (by rw[hsz]; exact hd) rv,by rw[AaE]; exact hdf,by rw[AaP]; exact hsz,c.hx.later hm0 hlt hX⟩;have:=hk _ _ hsim
 show _->o.wp c.P a w (wpList c.P all.toArray (WQ c k) os) (WQ c k)
 intro _;unfold Oper.wp
 rcases hr with hr|⟨hr,hu⟩
 .rw [hr]; exact this
 .rw [hr]; subst hu; exact this
theorem AhA{h:Mem}{ρ:Own}{a:Act}{all:List Oper}{j:Nat}{b want:Bool}(he:EnvOk h ρ s e a)(hb:yldD want e all[j]? = some b):(b=want->yielded all.toArray a.tmps j=some want)/\(b≠want->yielded all.toArray a.tmps j≠some want):=by
 unfold yldD at hb
 split at hb
 .rename_i oj hoj
  split at hb
  .rename_i d hd
   have hv:=he d;unfold yldV at hb
   split at hb
   .rename_i b' hb'
    rw[hb']at hv;have h1:=AaU hv
    simp at hb; subst hb
    have h2:a.tmps[d]? = some (.bool b'):=by
     rw[Array.getD_eq_getD_getElem?]at h1
     cases hq:a.tmps[d]? with
     | none=>rw[hq]at h1; simp[undef]at h1
     | some v=>rw[hq]at h1; simp at h1; rw[h1]
    have hy:yielded all.toArray a.tmps j=some b':=by simp[yielded,hoj,hd,h2]
    exact⟨fun e=>by rw[hy,e],fun e=>by rw[hy]; simpa using e⟩
   .rename_i v hb'
    rw[hb']at hv;have h1:=AaS hv
    cases hn:AtH v with
    | false=>simp[hn]at hb
    | true =>
     simp[hn]at hb
     have hy:yielded all.toArray a.tmps j=none:=by
      simp only[yielded,List.getElem?_toArray,hoj,hd,Option.bind_some];rw[Array.getD_eq_getD_getElem?]at h1
      cases hq:a.tmps[d]? with
      | none=>rfl
      | some u =>
       rw[hq]at h1; simp at h1; subst h1
       cases u <;> first|rfl|(simp[AtH]at hn)
     refine⟨fun e=>?_,fun _=>by rw[hy]; simp⟩;rw[e]at hb
     cases want <;> cases hb
   .simp at hb
  .simp at hb
 .simp at hb
theorem A0W{wr frz:Bool}(h:(step1 wr frz c.fn.ntmps c k e s).sem c):AWp c k e s:=by
 intro a w hsim;have hsim':=hsim;obtain⟨hh,ρ,hm,hl,he,hdf,hsz,hX⟩:=hsim';unfold step1 at h
 split at h
 .exact (h a w hsim:WQ c _ .normal a w)
 .-- an operation's guard
  rename_i all o os k
  cases hd:dOk c.fn.ntmps o.dst with
  | false=>simp[hd,Nx.sem]at h
  | true =>
  simp only[hd,cond_true]at h;unfold opN at h
  split at h
  .rename_i hg
   have:=h a w hsim
   show wpList c.P all.toArray (WQ c k) (o::os) a w
   unfold wpList;rw[if_pos (by simp[Region.wanted,hg])];exact .inl (this hd)
  .rename_i j want hg
   unfold grdN at h
   split at h
   .rename_i b hb
    have hy:=AhA he hb
    show wpList c.P all.toArray (WQ c k) (o::os) a w
    unfold wpList;have h1:b=want->AWp c (.op all o os::k) e s:=fun hh=>by
     subst hh
     cases b with
     | true=>exact h.1 rfl
     | false=>exact h.2 rfl
    have h2:b≠want->AWp c (.ops all os::k) (put e o.dst (.raw undef)) s:=fun hh=>by
     cases b <;> cases want <;> first|exact(hh rfl).elim|exact h.1 rfl|exact h.2 rfl
    by_cases hbw:b=want
    .rw [if_pos (by simp[Region.wanted,hg,hy.1 hbw])]
     exact .inl (h1 hbw a w hsim hd)
    .rw [if_neg (by simpa[Region.wanted,hg]using hy.2 hbw)]
     exact h2 hbw _ w ⟨hh,ρ,hm,hl,he.put (by rw[hsz]; exact hd) (.raw _),by rw[AaE]; exact hdf,by rw[AaP]; exact hsz,hX⟩
   .exact h.elim
 .-- an operation
  rename_i all o os k
  show _->_
  intro hd;have hs:=AeY (P:=c.P) (wr:=wr) (frz:=frz) (o:=o) hm he
  revert h hs
  cases hx:xop wr frz c.P e s o.op with
  | ok v=>intro h hs; exact AnP hl he hdf hsz hm hX hd hs h hd
  | side p v=>intro h hs; exact AnP hl he hdf hsz hm hX hd (hs h.1) h.2 hd
  | sto p v s'=>intro h hs; exact AnP hl he hdf hsz hm hX hd (hs h.1) h.2 hd
  | pick b x y =>
    intro h hs
    cases b with
    | true=>exact AnP hl he hdf hsz hm hX hd hs (h.1 rfl) hd
    | false=>exact AnP hl he hdf hsz hm hX hd hs (h.2 rfl) hd
  | call f args =>
    intro h hs;obtain⟨vs,hv,hr⟩:=hs;have hb:=(h a w hh ρ vs hm hl he hdf hsz hX hv).1
    replace hr:=hr hb
    have hc:=(h a w hh ρ vs hm hl he hdf hsz hX hv).2
    show o.wp c.P a w (wpList c.P all.toArray (WQ c k) os) (WQ c k)
    unfold Oper.wp;rw[hr];exact hc.mono fun en w' hw=>by
     cases en with
     | returned v=>exact hw
     | panicked ch=>exact hw.elim
     | outgrown=>exact hw.elim
  | anyb p=>intro h hs; obtain⟨b,hb⟩:=hs h.1; exact AnP hl he hdf hsz hm hX hd hb (h.2 b) hd
  | stuck=>intro h; exact h.elim
 .exact (h a w hsim:WQ c _ .normal a w) |> fun x=>wp_skip x
 .rename_i id ops draw k
  cases draw with
  | true=>exact h a w hsim
  | false =>
   have:=h a w hsim;exact wp_region_list (by simpa[WQ]using this)
 .rename_i x y k
  refine wp_seq (Code.wp_mono ?_ (h a w hsim));intro en a' w' hq
  cases en <;> exact hq
 .rename_i x y z k
  unfold BaY at h
  split at h
  .rename_i t ht
   have hx:=AaM he x;rw[ht]at hx;have hb:=AaU hx;refine wp_cond hb ?_
   cases t with
   | true=>exact h.1 rfl a w hsim
   | false=>exact h.2 rfl a w hsim
  .exact h.elim
 .rename_i id x k
  refine wp_block (Code.wp_mono ?_ (h a w hsim));intro en a' w' hq
  cases en <;> exact hq
 .rename_i id k
  unfold BoH at h
  split at h
  .rename_i k' hk
   exact wp_exit (AkJ hk a w (h a w hsim))
  .exact h.elim
 .exact wp_ret (BmB (h a w hsim))
 .exact h a w hsim
 .exact h a w hsim
 .exact h a w hsim
 .exact h a w hsim
theorem BhU{wr frz:Bool}{n:Nat}(ih:∀ m,m<=n->∀ k e s,run wr frz c.fn.ntmps c m k e s->AWp c k e s):∀ {x:Nx},cont wr frz c.fn.ntmps c n x->x.sem c
 | .go k e s,h=>ih n (Nat.le_refl _) k e s (by rw[cont]at h; exact h)
 | .two b k e s k' e' s',h=>by
  rw[cont]at h
  cases n with
  | zero=>rw[br]at h; exact h
  | succ n =>
   rw[br]at h;exact⟨fun hb=>ih n (by omega) _ _ _ (h.1 hb),fun hb=>ih n (by omega) _ _ _ (h.2 hb)⟩
 | .side p k e s,h=>by
  rw[cont]at h;exact⟨h.1,ih n (Nat.le_refl _) _ _ _ h.2⟩
 | .leaf p,h=>by rw[cont]at h; exact h
theorem AiX{wr frz:Bool}(n:Nat):∀ (k:List It)(e:Env)(s:List Blk),run wr frz c.fn.ntmps c n k e s->AWp c k e s:=by
 induction n using Nat.strongRecOn with
 | _ n ih =>
  intro k e s h
  cases n with
  | zero=>rw[run]at h; exact h
  | succ n =>
   rw[run]at h;exact A0W (BhU (fun m hm=>ih m (by omega)) h)
theorem go{N:Nat}(hN:c.fn.ntmps=N)(n:Nat)(h:run false false N c n k e s):AWp c k e s:=AiX n k e s (hN▸h)
theorem goW{N:Nat}(hN:c.fn.ntmps=N)(n:Nat)(h:run true false N c n k e s):AWp c k e s:=AiX n k e s (hN▸h)
theorem goB{N:Nat}(hN:c.fn.ntmps=N)(n:Nat)(h:run true true N c n k e s):AWp c k e s:=AiX n k e s (hN▸h)
theorem goF{N:Nat}(hN:c.fn.ntmps=N)(n:Nat)(h:run false true N c n k e s):AWp c k e s:=AiX n k e s (hN▸h)
def Shift(c:Cx)(e:Env)(s:List Blk)(e':Env)(s':List Blk):Prop:=∀ a w,Sim c e s a w->Sim c e' s' a w
theorem Shift.refl:Shift c e s e s:=fun _ _ h=>h
theorem Shift.trans{e1 e2:Env}{s1 s2:List Blk}(x:Shift c e s e1 s1)(y:Shift c e1 s1 e2 s2):Shift c e s e2 s2:=fun a w h=>y a w (x a w h)
theorem AWp.shift{e':Env}{s':List Blk}(x:Shift c e s e' s')(h:AWp c k e' s'):AWp c k e s:=fun a w hs=>h a w (x a w hs)
theorem ARet.shift{e':Env}{s':List Blk}(x:Shift c e s e' s')(h:ARet c e' s'):ARet c e s:=fun a w hs=>h a w (x a w hs)
def wk(e:Env):Env->Prop
 | []=>True
 | (t,v)::r=>get e t=v/\wk e r
theorem BsD{e e':Env}(h:wk e e')(t:Nat):get e' t=.any\/get e' t=get e t:=by
 induction e' with
 | nil=>exact .inl rfl
 | cons x r ih =>
  obtain⟨k,v⟩:=x;simp only[get]
  by_cases hk:k=t
  .subst hk; simp; exact .inr h.1.symm
  .have:(k==t)=false:=by simpa using hk
   simp only[this,cond_false];exact ih h.2
theorem Shift.weak{e':Env}(h:wk e e'):Shift c e s e' s:=by
 rintro a w ⟨hh,ρ,hm,hl,he,hdf,hsz,hX⟩;refine⟨hh,ρ,hm,hl,fun t=>?_,hdf,hsz,hX⟩
 rcases BsD h t with h1|h1
 .rw [h1]; exact .any _
 .rw [h1]; exact he t
theorem AaI{ι:Type}{B:Code}(μ:ι->Nat)(E:ι->Env)(S:ι->List Blk)(H:ι->Prop)(x0:ι)(hH:H x0)(hs:Shift c e s (E x0) (S x0))
  (step:∀ x,H x->∀ J:Act->World->Prop,(∀ y,H y->μ y<μ x->∀ a w,Sim c (E y) (S y) a w->J a w)->AWp c (.code B::.inv J::k) (E x) (S x)) :
  AWp c (.code (.loop B)::k) e s:=by
 intro a w hsim;refine wp_loop_ghost (fun n a w=>∃ x,H x/\μ x=n/\Sim c (E x) (S x) a w) (μ x0) ⟨x0,hH,rfl,hs a w hsim⟩ ?_;rintro n a w ⟨x,hx,rfl,hsx⟩;have:=step x hx (fun a w=>∃ n',n'<μ x/\∃ y,H y/\μ y=n'/\Sim c (E y) (S y) a w) (fun y hy hlt a w hs=>⟨_,hlt,y,hy,rfl,hs⟩) a w hsx;refine Code.wp_mono ?_ this;intro en a' w' hq
 cases en <;> exact hq
theorem ainv{J:Act->World->Prop}{e':Env}{s':List Blk}(hJ:∀ a w,Sim c e' s' a w->J a w)(x:Shift c e s e' s'):AWp c (.inv J::k) e s:=fun a w h=>hJ a w (x a w h)
def Ct(P:Program)(f:FuncId)(args:List AV)(sto:List Blk)(post:AV->List Blk->Prop):Prop :=
 AaB P f=true/\∀ h ρ w vs,Mine h ρ sto w->RL h (Lf ρ sto) false vs args->Calls P f vs.toArray w fun en w' =>
  ∃ v r s h' ρ',en=.returned v/\post r s/\Mine h' ρ' s w'/\Later h ρ sto w h' ρ' s w'/\RV h' (Lf ρ' s) false v r
theorem A7A{f:FuncId}{args:List AV}{d:Option Tmp}{all os:List Oper}{post:AV->List Blk->Prop}(hc:Ct c.P f args s post){N:Nat}(hN:c.fn.ntmps=N)(hd:dOk N d=true)
  (hk:∀ r s',post r s'->AWp c (.ops all os::k) (put e d r) s'):AdY c f args d all os k e s:=by
 intro a w h ρ vs hm hl he hdf hsz hX hv;refine⟨hc.1,(hc.2 h ρ w vs hm hv).mono ?_⟩;rintro en w' ⟨v,r,s',h',ρ',rfl,hp,hm',hlt,rv⟩;have he':EnvOk h' ρ' s' e a:=fun t=>(he t).mono hlt.hle hlt.keep
 exact hk r s' hp _ _ ⟨h',ρ',hm',hl.trans hlt,he'.put (by rw[hsz,hN]; exact hd) rv,by rw[AaE]; exact hdf,by rw[AaP]; exact hsz,c.hx.later hm hlt hX⟩
def resV(e:Env):List Tmp->AV
 | [t]=>get e t
 | ts=>.tup (ts.map (get e))
def resW(tmps:Array Value):List Tmp->Value
 | [t]=>tmps.getD t undef
 | ts=>.tuple (ts.map (fun t=>tmps.getD t undef)).toArray
theorem AiG{fn:Func}{P:Program}{ts:List Tmp}(hr:fn.results=(ts.map ResultVar.tmp).toArray)(tmps:Array Value)(w:World) :
  (results fn tmps).run P w=.ok (resW tmps ts) w:=by
 have h1:∀ l:List Tmp,((l.map ResultVar.tmp).mapM fun(x:ResultVar)=>(match x with
   | .tmp t=>pure (tmps.getD t undef)
   | .cell a t=>do loadVar t (<- asAddr (tmps.getD a undef)):Sem Value))=(pure (l.map fun t=>tmps.getD t undef):Sem (List Value)):=by
  intro l
  induction l with
  | nil=>simp
  | cons t l ih=>rw[List.map_cons,List.mapM_cons,ih]; rfl
 unfold results;rw[hr];simp only[List.mapM_toArray,h1]
 match ts with
 | []=>rfl
 | [t]=>rfl
 | t::u::r=>erw [h1]; simp[resW]
theorem BoJ{h:Mem}{ρ:Own}{a:Act}{w:World}{ts:List Tmp}(hr:c.fn.results=(ts.map ResultVar.tmp).toArray)(he:EnvOk h ρ s e a) :
  ∃ v,(results c.fn a.tmps).run c.P w=.ok v w/\RV h (Lf ρ s) false v (resV e ts):=by
 refine⟨_,AiG hr _ _,?_⟩;have hl:∀ l:List Tmp,RL h (Lf ρ s) false (l.map fun t=>a.tmps.getD t undef) (l.map (get e)):=by
  intro l
  induction l with
  | nil=>exact .nil
  | cons t l ih=>exact .cons (he t) ih
 match ts with
 | []=>exact .tup _ _ (hl [])
 | [t]=>exact he t
 | t::u::r=>exact .tup _ _ (hl (t::u::r))
theorem aret(ts:List Tmp)(hr:c.fn.results=(ts.map ResultVar.tmp).toArray)(hp:c.post (resV e ts) s):ARet c e s:=by
 rintro a w ⟨hh,ρ,hm,hl,he,hdf,hsz,_⟩;obtain⟨v,hv,rv⟩:=BoJ (w:=w) hr he;exact⟨hdf,v,_,s,hh,ρ,hv,hp,hm,hl,rv⟩
def args0:Nat->List AV->Env
 | _,[]=>[]
 | n,x::r=>(n,x)::args0 (n+1) r
theorem AfA:∀ (n:Nat)(l:List AV)(t:Nat),get (args0 n l) t=if n<=t then l.getD (t-n) .any else .any
 | n,[],t=>by simp[args0,get]
 | n,x::r,t=>by
  simp only[args0,get]
  by_cases h:n=t
  .subst h; simp
  .have h1:(n==t)=false:=by simpa using h
   simp only[h1,cond_false];rw[AfA (n+1) r t]
   by_cases h2:n<=t
   .rw [if_pos (by omega),if_pos h2,show t-n=(t-(n+1))+1 by omega]; rfl
   .rw [if_neg (by omega),if_neg h2]
theorem AaV{P:Program}{f:FuncId}{fn:Func}{body:Code}{N:Nat}{args:List AV}{sto:List Blk}{post:AV->List Blk->Prop}(hf:P.funcs[f]? = some fn)(hb:fn.body=some body)(hn:fn.ntmps=N)(hx:AaB P f=true)
  (ha:args.length<=N) (h:∀ h ρ w,AWp ⟨P,fn,h,ρ,sto,w,post,X0,stb0⟩ [.code body] (args0 0 args) sto):Ct P f args sto post:=by
 refine⟨hx,fun hh ρ w vs hm hv=>?_⟩;refine calls_of_wp hf hb ?_;have hlen:=hv.length;have hsim:Sim ⟨P,fn,hh,ρ,sto,w,post,X0,stb0⟩ (args0 0 args) sto { tmps:=vs.toArray++Array.replicate (fn.ntmps-vs.toArray.size) undef,defers:=[] } w:=by
  refine⟨hh,ρ,hm,.refl ..,fun t=>?_,rfl,by simp; omega,trivial⟩;rw[AfA];simp only[Nat.zero_le,if_true,Nat.sub_zero];have h1:=hv.getD t undef
  by_cases ht:t<vs.length
  .have:(vs.toArray++Array.replicate (fn.ntmps-vs.toArray.size) undef).getD t undef=vs.getD t undef:=by
    simp[Array.getElem?_append,ht,List.getD]
   simp only[this]; exact h1
  .have:args.getD t .any=.any:=by simp[List.getD,List.getElem?_eq_none (by omega:args.length<=t)]
   rw[this]; exact .any _
 have:=h hh ρ w _ w hsim;refine Code.wp_mono ?_ (show body.wp P (WQ ⟨P,fn,hh,ρ,sto,w,post,X0,stb0⟩ []) _ w from this);intro en a' w' hq
 cases en with
 | normal=>obtain⟨hd,v,r,s,h',ρ',h1,h2⟩:=hq; exact⟨hd,v,h1,v,r,s,h',ρ',rfl,h2⟩
 | ret=>obtain⟨hd,v,r,s,h',ρ',h1,h2⟩:=hq; exact⟨hd,v,h1,v,r,s,h',ρ',rfl,h2⟩
 | _=>exact hq.elim
end
attribute [go_sem] wk
