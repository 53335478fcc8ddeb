/- make, max and min, nil checks; every operation. -/
import Derived.Test.YtooohdocabpblaaGreatDoorV7
import Derived.Deep.LoopGhost
set_option linter.all false
namespace Go.Av
open RowKit
variable [Tr]
section
variable {h:Mem}{ρ:Own}{sto:LB}{w:World}{P:Program}{e:Env}{a:Act}
theorem A3U{t:TypeId}{n c:Operand}{o:Oper}(ho:o.op=.makeSlice t n c)(m:Mine h ρ sto w)(he:EnvOk h ρ sto e a) :
  Lc P h ρ sto w ((execOp a.eval o).run P w) (AtI P sto (P.underlying t) (ev e n) (ev e c)):=by
 have hrun:(execOp a.eval o).run P w=((Instr.makeSlice t (a.eval n) (a.eval c)).run P w).andThen fun v w'=>.ok (.value v) w':=by
  simp_all[execOp]
 have hn:=AaF he n;have hc:=AaF he c;unfold AtI
 split
 .rename_i el kn nn kc cc ht e1 e2
  rw[e1]at hn;rw[e2]at hc;rw[AaE hn,AaE hc]at hrun;intro⟨hp,hz,hrow,hone,h0,h1,h2,h3⟩;obtain⟨i,z,hi,his,hib,hiz,hzc,hzs⟩:=AdQ hp hz;have hrm:=run_make w t el i z ht hi hiz kn kc nn cc h0 h1 (by grind) h2;rw[hrm,his]at hrun;have hcells:RL h (Lf ρ sto) false (madeCells z.cells (cc.toNat*tsize P el)).toList (rep (zav P el) cc.toNat):=by
   grind[zeros_ok,madeCells,zav]
  have honec:∀ v∈(madeCells z.cells (cc.toNat*tsize P el)).toList,v.oneCell'=true:=by
   refine AdP hcells ?_;rw[law]at hone |-;intro x hx;obtain⟨k,hk,rfl⟩:=List.mem_iff_getElem.1 hx;have hk':k<cc.toNat*(zav P el).length:=by grind[rep_len]
   have:=rep_get hk'
   grind
  have hzel:=AeZ hz hrow hone;have hm:=m.push (.cells (madeCells z.cells (cc.toNat*tsize P el)) el) (.arr (tsize P el) (List.replicate nn.toNat (AhY (isRow (P.underlying el)) (zav P el)))) (some cc.toNat) (by
   refine .inr ⟨w.heap.size,cc.toNat,_,el,by simp[upd],.of (heap_alloc_new w _),size_madeCells _ _,by grind,by grind[maxLen],hp,?_,honec,?_⟩
   .grind
   .rw [flat_rep hzel,List.length_replicate,<- hz,<- AzE nn.toNat cc.toNat (by omega),hz]
    exact(hcells.take _).mono (fun _ _ _ x=>x) (fun _ _=>AeT))
  refine⟨_,_,_,_,.inl hrun,hm.1,hm.2,.leaf ⟨rfl,?_⟩⟩<;>grind[LfC,upd]
 .trivial
theorem A2E{big:Bool}{c:Call}(hf:c.callee=.builtin (bif big then .max else .min)){o:Oper}(ho:o.op=.call c)(m:Mine h ρ sto w)(he:EnvOk h ρ sto e a) :
  Lc P h ρ sto w ((execOp a.eval o).run P w) (xmax big (evs e c.args.toList)):=by
 unfold xmax
 split
 .rename_i k x k' y hx
  obtain⟨o1,o2,hxy,h1,h2⟩:∃ o1 o2,c.args.toList=[o1,o2]/\ev e o1=.int k x/\ev e o2=.int k' y:=by
   match hq:c.args.toList with
   | []=>rw[hq]at hx; simp[evs]at hx
   | [_]=>rw[hq]at hx; simp[evs]at hx
   | [o1,o2]=>rw[hq]at hx; simp[evs]at hx; exact⟨o1,o2,rfl,hx.1,hx.2⟩
   | _::_::_::_=>rw[hq]at hx; simp[evs]at hx
  have e1:c.args.map a.eval=#[a.eval o1,a.eval o2]:=by
   apply Array.ext'; rw[Array.toList_map,hxy]; rfl
  have v1:=AaE (by have:=AaF he o1; rwa [h1]at this);have v2:=AaE (by have:=AaF he o2; rwa [h2]at this)
  by_cases hk:k=k'
  .subst hk
   simp only[decide_true,lai];refine AaA m ?_ (.int _ _)
   cases big <;> simp[execOp,ho,resolve,hf,invoke,builtin,e1,v1,v2,Builtin.max_,Builtin.min_,Builtin.max2,Builtin.min2]
  .simp only [hk,decide_false,lap]; trivial
 .rename_i k x1 k1 x2 k2 x3 k3 x4 hx
  obtain⟨o1,o2,o3,o4,hxy,h1,h2,h3,h4⟩:∃ o1 o2 o3 o4,c.args.toList=[o1,o2,o3,o4]/\ev e o1=.int k x1/\ev e o2=.int k1 x2/\ev e o3=.int k2 x3/\ev e o4=.int k3 x4:=by
   match hq:c.args.toList with
   | []=>rw[hq]at hx; simp[evs]at hx
   | [_]=>rw[hq]at hx; simp[evs]at hx
   | [_,_]=>rw[hq]at hx; simp[evs]at hx
   | [_,_,_]=>rw[hq]at hx; simp[evs]at hx
   | [o1,o2,o3,o4]=>rw[hq]at hx; simp[evs]at hx; exact⟨o1,o2,o3,o4,rfl,hx.1,hx.2.1,hx.2.2.1,hx.2.2.2⟩
   | _::_::_::_::_::_=>rw[hq]at hx; simp[evs]at hx
  have e1:c.args.map a.eval=#[a.eval o1,a.eval o2,a.eval o3,a.eval o4]:=by
   apply Array.ext'; rw[Array.toList_map,hxy]; rfl
  have v1:=AaE (by have:=AaF he o1; rwa [h1]at this);have v2:=AaE (by have:=AaF he o2; rwa [h2]at this);have v3:=AaE (by have:=AaF he o3; rwa [h3]at this);have v4:=AaE (by have:=AaF he o4; rwa [h4]at this)
  by_cases hk:k=k1/\k=k2/\k=k3
  .obtain ⟨rfl,rfl,rfl⟩:=hk
   simp only[decide_true,Bool.and_self,lai];refine AaA m ?_ (.int _ _);have m2:∀ x y:Int,Builtin.max2 (.int k x) (.int k y)=(pure (.int k (xmm true x y)):Sem Value):=fun x y=>by
    simp only[Builtin.max2,xmm,lai]
   have n2:∀ x y:Int,Builtin.min2 (.int k x) (.int k y)=(pure (.int k (xmm false x y)):Sem Value):=fun x y=>by
    simp only[Builtin.min2,xmm,lap]
   cases big <;> simp[execOp,ho,resolve,hf,invoke,builtin,e1,v1,v2,v3,v4,Builtin.max_,Builtin.min_,m2,n2]
  .have:(decide (k=k1)&&(decide (k=k2)&&decide (k=k3)))=false:=by
    cases h:(decide (k=k1)&&(decide (k=k2)&&decide (k=k3)))with
    | false=>rfl
    | true =>
     simp only[lac,lar]at h;exact absurd ⟨h.1,h.2.1,h.2.2⟩ hk
   simp only[this,lap]; trivial
 .rename_i x y hx
  obtain⟨o1,o2,hxy,h1,h2⟩:∃ o1 o2,c.args.toList=[o1,o2]/\ev e o1=.str x/\ev e o2=.str y:=by
   match hq:c.args.toList with
   | []=>rw[hq]at hx; simp[evs]at hx
   | [_]=>rw[hq]at hx; simp[evs]at hx
   | [o1,o2]=>rw[hq]at hx; simp[evs]at hx; exact⟨o1,o2,rfl,hx.1,hx.2⟩
   | _::_::_::_=>rw[hq]at hx; simp[evs]at hx
  have e1:c.args.map a.eval=#[a.eval o1,a.eval o2]:=by
   apply Array.ext'; rw[Array.toList_map,hxy]; rfl
  have v1:=AaQ (by have:=AaF he o1; rwa [h1]at this);have v2:=AaQ (by have:=AaF he o2; rwa [h2]at this);have tl:∀ l:LU,(ByteArray.mk l.toArray).toList=l:=fun l=>by simp
  refine AaA m ?_ (.str _);have m2:(Builtin.max2 (.string ⟨x.toArray⟩) (.string ⟨y.toArray⟩)).run P w=.ok (.string ⟨(xmms true x y).toArray⟩) w:=by
   simp only[Builtin.max2,Op.stringOp,tl,bytesLess_eq,xmms,lai]
   cases bytesLess x y <;> simp[asBool]
  have n2:(Builtin.min2 (.string ⟨x.toArray⟩) (.string ⟨y.toArray⟩)).run P w=.ok (.string ⟨(xmms false x y).toArray⟩) w:=by
   simp only[Builtin.min2,Op.stringOp,tl,bytesLess_eq,xmms,lap]
   cases(bytesLess x y||x==y) <;> simp[asBool]
  cases big <;> simp[execOp,ho,resolve,hf,invoke,builtin,e1,v1,v2,Builtin.max_,Builtin.min_,m2,n2]
 .trivial
theorem A6V{x:Operand}{o:Oper}(ho:o.op=.nilCheck x)(m:Mine h ρ sto w)(he:EnvOk h ρ sto e a) :
  Lc P h ρ sto w ((execOp a.eval o).run P w) (xnil sto (ev e x)):=by
 have hx:=AaF he x;have key:∀ ad,a.eval x=.pointer (some ad)->(execOp a.eval o).run P w=.ok (.value (.pointer (some ad))) w:=fun ad hv=>by
  simp_all[execOp]
 unfold xnil
 split
 .rename_i id n j off hv
  split
  .intro hn
   grind[ptr_place,AaA]
  .trivial
 .rename_i ee l j off hv
  rw[hv]at hx;obtain⟨b,oo,vs,h1,_⟩:=AgA hx;refine AaA m (key _ h1) ?_<;>grind
 .trivial
theorem AvX{c:Call}(hf:c.callee=.builtin .delete){o:Oper}(ho:o.op=.call c)(m:Mine h ρ sto w)(he:EnvOk h ρ sto e a) :
  Lc P h ρ sto w ((execOp a.eval o).run P w) (ApU P e sto c.args.toList c.argTypes.toList):=by
 have hrun:(execOp a.eval o).run P w=((Builtin.delete_ c.argTypes o.type (c.args.map a.eval)).run P w).andThen fun v w'=>.ok (.value v) w':=by
  simp_all[execOp,resolve,invoke,builtin]
 unfold ApU
 split
 .rename_i xm xk t ts h1 h2
  have hm:=AaF he xm;have hk:=AaF he xk;have e1:c.args.map a.eval=#[a.eval xm,a.eval xk]:=by
   grind[Array.toList_map]
  have hrun':(execOp a.eval o).run P w=((Builtin.delete_ #[t,o.type] o.type #[a.eval xm,a.eval xk]).run P w).andThen fun v w'=>.ok (.value v) w':=by
   have e2:c.argTypes[0]? = some t:=by rw[<- lbo,h2]; rfl
   grind[Builtin.delete_]
  generalize ev e xk=ka at *;unfold xdel
  split
  .rename_i kt et ht
   split
   .rename_i fs id hkt hmm
    rw[hmm]at hm
    cases hfl:AaB P kt with
    | true =>
     simp
     unfold AvE
     split
     .rename_i es hb
      cases hik:isKeyS P fs.toList ka with
      | false=>trivial
      | true =>
       simp
       cases hq:mfindS P fs.toList ka es 0 with
       | none=>trivial
       | some x =>
        rw[AhF]at hq
        by_cases hp:AbR P kt=true
        .exact del_ok m ht (AcX hb) hm (fun b=>AdR hkt hp hk hik b) (fun hp en hl hr=>AcG hkt (AvS hkt hp hk) (AqB hik) hl hr hq) hrun'
        .cases x with
         | none=>exact fun h=>absurd h hp
         | some jv=>obtain⟨j,v⟩:=jv; exact fun h=>absurd h hp
     .trivial
    | false =>
     simp
     unfold AvF
     split
     .rename_i es hb
      cases hik:isKeyT P kt ka with
      | false=>trivial
      | true =>
       simp
       cases hq:mfindT P kt ka es 0 with
       | none=>trivial
       | some x =>
        rw[AhG]at hq
        by_cases hp:AbY P kt=true
        .exact del_ok m ht (AcX hb) hm (fun b=>AqD hkt hp hk hik b) (fun hp en hl hr=>AcG hkt (AvT hkt hp hk) (AqC hik) hl hr hq) hrun'
        .cases x with
         | none=>exact fun h=>absurd h hp
         | some jv=>obtain⟨j,v⟩:=jv; exact fun h=>absurd h hp
     .trivial
   .rename_i d id hns hkt hmm
    rw[hmm]at hm;unfold AvD
    split
    .rename_i es hb
     cases hik:AdA d ka with
     | false=>trivial
     | true =>
      simp
      obtain⟨ik,rk⟩:=AhE hik hk
      cases hq:mfind d ka es 0 with
      | none=>trivial
      | some x=>grind[del_ok,MapKept.run_checkKey,AfI]
    .trivial
   .trivial
  .trivial
 .trivial
theorem AzI{c:Call}(hf:c.callee=.builtin .clear){o:Oper}(ho:o.op=.call c)(m:Mine h ρ sto w)(he:EnvOk h ρ sto e a) :
  Lc P h ρ sto w ((execOp a.eval o).run P w) (AeW P e sto c.args.toList c.argTypes.toList):=by
 have hrun:(execOp a.eval o).run P w=((Builtin.clear_ c.argTypes o.type (c.args.map a.eval)).run P w).andThen fun v w'=>.ok (.value v) w':=by
  simp_all[execOp,resolve,invoke,builtin]
 unfold AeW
 split
 .rename_i x t h1 h2
  have hx:=AaF he x;have e1:c.args.map a.eval=#[a.eval x]:=by
   grind[Array.toList_map]
  have e2:c.argTypes=#[t]:=by grind
  rw[e1,e2]at hrun;generalize a.eval x=vx at *;generalize hr:(execOp a.eval o).run P w=r at *
  split
  .rename_i el ht
   split
   .rename_i id off len cap hv
    rw[hv]at hx;have hl:=(AbN hx).2;unfold AiA
    split
    .rename_i ee l hb
     have hb':=AbS hb;intro⟨hp,hz,hrow,hone,h3,h4,h5⟩;subst h3;have hid:=(List.getElem?_eq_some_iff.1 hb').1;simp only[LfC,hb']at hl;obtain⟨i,z,hi,his,hib,hiz,hzc,hzs⟩:=AdQ hp hz;have noop:∀ ad c',vx=.slice ad 0 c'->len=0->Okv h ρ sto w r (.tup []) (sto.set id (.arr (tsize P el) (AbM l off (List.replicate len (AhY (isRow (P.underlying el)) (zav P el)))))):=by
      intro ad c' hvx hl0;subst hvx hl0;have hst:AbM l off (List.replicate 0 (AhY (isRow (P.underlying el)) (zav P el)))=l:=by simp[AbM]
      rw[hst,AlM hb'];refine⟨.tuple #[],_,_,_,.inl ?_,m,.refl ..,.tup [] [] .nil⟩
      cases ad <;> simp[hrun,Builtin.clear_,run_underlying ht]
     rcases hl.2 h4 with⟨rfl,h5',ad,rfl⟩|⟨g,tot,h5',rfl,h7⟩
     .grind
     .rcases m.own id _ hb' with⟨_,hno⟩|⟨g',tot',cur,tt,j3,j4,j5,j6,j7,j8,j9,j10,j11⟩
      .grind
      .rw [j3]at h5'
       simp at h5'
       obtain⟨rfl,rfl⟩:=h5'
       by_cases hl0:len=0
       .grind
       have hzel:=AeZ hz hrow hone;have hzl:z.cells.toList.length=tsize P el:=by omega
       have hcells:RL h (Lf ρ sto) false (Builtin.zeroCells z.cells len).toList (flat (List.replicate len (AhY (isRow (P.underlying el)) (zav P el)))):=by
        have:=zeros_ok (h:=h) (ρ:=ρ) (sto:=sto) (z:=z.cells.toList) (fl:=false) len (by omega)
        grind[flat_rep,Builtin.zeroCells,zav]
       have honec:∀ v∈(Builtin.zeroCells z.cells len).toList,v.oneCell'=true:=by
        refine ApZ ?_ (by omega) _;intro u hu;rw[<- hzc]at hu;have hr:RL (fun _ _=>none) (Lf (fun _=>none) []) false (AcS P el) (zav P el):=consts_ok _
        grind[AdP]
       have hle:(off+len)*tsize P el<=tot'*tsize P el:=lbk _ (by omega);rw[Nat.add_mul]at hle;have hst:=AaT P g' (off*tsize P el) tt (Builtin.zeroCells z.cells len).toList 0 cur w j4 (by grind[size_zeroCells]) honec;simp only[Nat.add_zero]at hst;have hm:=AiM m hb' j3 j4 j5 j6 j7 j8 j9 j10 j11 hcells (fun x hx=>by grind) honec (k:=off) (by grind);refine⟨.tuple #[],_,_,_,.inl ?_,hm.1,hm.2,.tup [] [] .nil⟩;have hzv:(zeroValue el).run P w=.ok z w:=by simp_all[zeroValue,typeInfo]
       obtain⟨len',rfl⟩:∃ len',len=len'+1:=⟨len-1,by omega⟩;rw[hrun];simp only[Builtin.clear_,List.getElem?_toArray,lbp,Sem.run_bind,run_underlying ht,Result.andThen_ok,hzv,hst,Sem.run_pure];rfl
    .trivial
   .trivial
  .trivial
 .trivial
theorem A3V{wr:Bool}{op:BinOp}{t yt:TypeId}{x y:Operand}{o:Oper}(ho:o.op=.binOp op t x y yt)(m:Mine h ρ sto w)(he:EnvOk h ρ sto e a) :
  Lc P h ρ sto w ((execOp a.eval o).run P w) (AhU wr sto (P.underlying t) op (ev e x) (ev e y)):=by
 have hx:=AaF he x;have hy:=AaF he y;have hrun:(execOp a.eval o).run P w=((do eqGuard op t x y (a.eval x) (a.eval y); Go.binOp op t (a.eval x) (a.eval y):Sem Value).run P w).andThen fun v w'=>.ok (.value v) w':=by
  simp[execOp,ho,AdB]
 unfold AhU
 split
 .rename_i el h1 h2
  rw[h1]at hy;have hv:=AaU hy;have keyE:∀ ad l c,a.eval x=.slice ad l c->op=.eql->Okv h ρ sto w ((execOp a.eval o).run P w) (.bool ad.isNone) sto:=fun ad l c hh hop=>by
   subst hop;refine AaA m ?_ (.bool _);have hg:(eqGuard .eql t x y (.slice ad l c) (.slice none 0 0)).run P w=.ok () w:=by unfold eqGuard; rfl
   rw[hrun,hh,hv,Sem.run_bind,hg]
   show((do pure (Value.bool (<- Op.equal t (.slice ad l c) (.slice none 0 0))):Sem Value).run P w).andThen _=_
   rw[Sem.run_bind,run_equal_slice_nil w t el ad l c h2]; rfl
  have keyN:∀ ad l c,a.eval x=.slice ad l c->op=.neq->Okv h ρ sto w ((execOp a.eval o).run P w) (.bool (!ad.isNone)) sto:=fun ad l c hh hop=>by
   subst hop;refine AaA m ?_ (.bool _);have hg:(eqGuard .neq t x y (.slice ad l c) (.slice none 0 0)).run P w=.ok () w:=by unfold eqGuard; rfl
   rw[hrun,hh,hv,Sem.run_bind,hg]
   show((do pure (Value.bool (!(<- Op.equal t (.slice ad l c) (.slice none 0 0)))):Sem Value).run P w).andThen _=_
   simp only[Sem.run_bind,run_equal_slice_nil w t el ad l c h2]; rfl
  have key:∀ neg,((neg=false/\op=.eql)\/(neg=true/\op=.neq))->Lc P h ρ sto w ((execOp a.eval o).run P w) (AdL sto neg (ev e x)):=by
   intro neg hneg;have k2:∀ ad l c,a.eval x=.slice ad l c->Okv h ρ sto w ((execOp a.eval o).run P w) (.bool (neg ^^ ad.isNone)) sto:=fun ad l c hh=>by
    rcases hneg with⟨rfl,hop⟩|⟨rfl,hop⟩
    .simpa using keyE ad l c hh hop
    .simpa using keyN ad l c hh hop
   unfold AdL
   split
   .rename_i ee y' l hv'
    rw[hv']at hx
    rcases AeN hx with⟨hh,_⟩|⟨b,oo,c,vs,hh,_⟩
    .simp at hh
    .show Okv _ _ _ _ _ _ _
     simpa using k2 _ _ _ hh
   .rename_i ee hv'
    rw[hv']at hx;intro _
    rcases AeN hx with⟨_,hh⟩|⟨b,oo,c,vs,hh,_⟩
    .exact ⟨_,k2 _ _ _ hh⟩
    .exact ⟨_,k2 _ _ _ hh⟩
   .rename_i id off len cap hv'
    rw[hv']at hx;have hlf:=(AbN hx).2
    split
    .rename_i ee l hb
     intro hcap;simp only[LfC,AbS hb]at hlf
     rcases hlf.2 hcap with⟨_,_,ad,hh⟩|⟨g,tot,_,hh,_⟩
     .exact ⟨_,k2 _ _ _ hh⟩
     .exact ⟨_,k2 _ _ _ hh⟩
    .trivial
   .rename_i hv'
    rw[hv']at hx;have:=k2 _ _ _ (AaU hx)
    show Okv _ _ _ _ _ _ _
    simpa using this
   .trivial
  split
  .exact key false (.inl ⟨rfl,rfl⟩)
  .exact key true (.inr ⟨rfl,rfl⟩)
  .trivial
 .rename_i kt et h1 h2
  rw[h1]at hy;have hv:=AaU hy;have keyE:∀ g,a.eval x=.map g->op=.eql->Okv h ρ sto w ((execOp a.eval o).run P w) (.bool g.isNone) sto:=fun g hh hop=>by
   subst hop;refine AaA m ?_ (.bool _);have hg:(eqGuard .eql t x y (.map g) (.map none)).run P w=.ok () w:=by unfold eqGuard; rfl
   rw[hrun,hh,hv,Sem.run_bind,hg]
   show((do pure (Value.bool (<- Op.equal t (.map g) (.map none))):Sem Value).run P w).andThen _=_
   rw[Sem.run_bind,run_equal_map_nil w t kt et g h2]; rfl
  have keyN:∀ g,a.eval x=.map g->op=.neq->Okv h ρ sto w ((execOp a.eval o).run P w) (.bool (!g.isNone)) sto:=fun g hh hop=>by
   subst hop;refine AaA m ?_ (.bool _);have hg:(eqGuard .neq t x y (.map g) (.map none)).run P w=.ok () w:=by unfold eqGuard; rfl
   rw[hrun,hh,hv,Sem.run_bind,hg]
   show((do pure (Value.bool (!(<- Op.equal t (.map g) (.map none)))):Sem Value).run P w).andThen _=_
   simp only[Sem.run_bind,run_equal_map_nil w t kt et g h2]; rfl
  have key:∀ neg,((neg=false/\op=.eql)\/(neg=true/\op=.neq))->Lc P h ρ sto w ((execOp a.eval o).run P w) (AcC sto neg (ev e x)):=by
   intro neg hneg;have k2:∀ g,a.eval x=.map g->Okv h ρ sto w ((execOp a.eval o).run P w) (.bool (neg ^^ g.isNone)) sto:=fun g hh=>by
    rcases hneg with⟨rfl,hop⟩|⟨rfl,hop⟩
    .simpa using keyE g hh hop
    .simpa using keyN g hh hop
   unfold AcC
   split
   .rename_i id hv'
    rw[hv']at hx;have hlf:=(AgT hx).2
    split
    .rename_i es hb
     simp only[LfC,AcX hb]at hlf;obtain⟨g,_,hh⟩:=hlf;have:=k2 _ hh
     show Okv _ _ _ _ _ _ _
     simpa using this
    .trivial
   .rename_i hv'
    rw[hv']at hx;have:=k2 _ (AaU hx)
    show Okv _ _ _ _ _ _ _
    simpa using this
   .trivial
  split
  .exact key false (.inl ⟨rfl,rfl⟩)
  .exact key true (.inr ⟨rfl,rfl⟩)
  .trivial
 .exact A3M ho m he
theorem A3W{wr:Bool}{op:BinOp}{t yt:TypeId}{x y:Operand}{o:Oper}(ho:o.op=.binOp op t x y yt)(m:Mine h ρ sto w)(he:EnvOk h ρ sto e a) :
  Lc P h ρ sto w ((execOp a.eval o).run P w) (AgZ P t wr sto op (ev e x) (ev e y)):=by
 have hx:=AaF he x;have hy:=AaF he y;have hrun:(execOp a.eval o).run P w=((do eqGuard op t x y (a.eval x) (a.eval y); Go.binOp op t (a.eval x) (a.eval y):Sem Value).run P w).andThen fun v w'=>.ok (.value v) w':=by
  simp[execOp,ho,AdB]
 unfold AgZ
 split
 .rename_i xs hxs
  rw[hxs]at hx
  split
  .rename_i ys hys
   rw[hys]at hy;unfold xeqs
   split
   .rename_i fs hfs
    obtain⟨vs,hvs,r1⟩:=inv_agg hx;obtain⟨us,hus,r2⟩:=inv_agg hy;have hfo:P.fieldsOf t=fs:=by simp[Program.fieldsOf,hfs]
    have fin:∀ b,P.eqGuardType P.depth t=false->(Op.equalIn 10000 t (.agg vs.toArray) (.agg us.toArray)).run P w=.ok b w->(op=.eql\/op=.neq)->(execOp a.eval o).run P w=.ok (.value (.bool (if op=.eql then b else !b))) w:=by
     intro b g1 heq hop;rw[hrun,hvs,hus,Sem.run_bind,run_eqGuard_agg w op t x y _ _ g1];simp only[Result.andThen_ok]
     rcases hop with rfl|rfl
     .rw [run_eql_struct,heq]; rfl
     .rw [run_neq_struct,heq]; rfl
    cases hb:eqFs P fs.toList xs ys with
    | none =>
     cases hn:eqFN P xs ys fs.toList with
     | none=>unfold AlE; trivial
     | some b =>
      have hrun2:AlD P t=true->(op=.eql\/op=.neq)->(execOp a.eval o).run P w=.ok (.value (.bool (if op=.eql then b else !b))) w:=by
       intro hp hop;unfold AlD at hp;rw[hfs]at hp;simp only[lac,laz]at hp;obtain⟨g1,g2,g3⟩:=hp;refine fin b g1 ?_ hop;rw[run_equalIn_struct w 9999 t _ _ (by rw[hfo]; exact hfs) g2,hfo];exact AvP (d:=9997) r1 r2 g3 hn
      simp only;unfold AlE
      cases op with
      | eql=>exact fun hp=>AaA m (hrun2 hp (.inl rfl)) (.bool _)
      | neq=>exact fun hp=>AaA m (hrun2 hp (.inr rfl)) (.bool _)
      | _=>trivial
    | some b =>
     have hrun2:AbR P t=true->(op=.eql\/op=.neq)->(execOp a.eval o).run P w=.ok (.value (.bool (if op=.eql then b else !b))) w:=by
      intro hp hop;unfold AbR at hp;rw[hfs]at hp;simp only[lac,laz]at hp;obtain⟨g1,g2,g3⟩:=hp;refine fin b g1 ?_ hop;rw[run_equalIn_struct w 9999 t _ _ (by rw[hfo]; exact hfs) g2,hfo];exact AdE (d:=9998) g3 (by simpa using r1) (by simpa using r2) hb
     simp only;unfold AlE
     cases op with
     | eql=>exact fun hp=>AaA m (hrun2 hp (.inl rfl)) (.bool _)
     | neq=>exact fun hp=>AaA m (hrun2 hp (.inr rfl)) (.bool _)
     | _=>trivial
   .trivial
  .trivial
 .exact A3V ho m he
theorem AcM{wr frz:Bool}{o:Oper}{e:Env}{a:Act}(m:Mine h ρ sto w)(he:EnvOk h ρ sto e a) :
  Lc P h ρ sto w ((execOp a.eval o).run P w) (xop wr frz P e sto o.op):=by
 cases ho:o.op with
 | move x=>exact AaA m (by simp[execOp,ho]) (AaF he x)
 | assign x=>exact AaA m (by simp[execOp,ho]) (AaF he x)
 | pick c x y=>exact A3O ho m he
 | binOp op t x y yt=>exact A3W ho m he
 | unOp op t x =>
  cases op with
  | not=>exact A6M ho m he
  | neg=>exact A6N ho m he
  | _=>trivial
 | extract x i=>exact AtJ ho m he
 | index t x i=>exact AyX ho m he
 | field t x f=>exact AyY ho m he
 | box t x=>exact A3T ho m he
 | alloc t=>exact AyV ho m
 | fieldAddr t x f=>exact AnL ho m he
 | indexAddr t x i=>exact AnM ho m he
 | load t x=>exact A3N ho m he
 | store t x v=>exact AyW ho m he
 | convert a b x=>exact AtK ho m he
 | build t parts=>exact AzA ho m he
 | buildSlice t len parts=>exact AlK ho m he
 | makeFunc f first cap=>exact ApX ho m he
 | slice t x lo hi mx=>exact A6S ho m he
 | makeSlice t n c=>exact A3U ho m he
 | nilCheck x=>exact A6V ho m he
 | makeMap t r =>
  cases r with
  | none=>exact AtM ho m
  | some x=>trivial
 | mapUpdate t m' k v=>exact AnT ho m he
 | lookup t m' k c=>exact AvW ho m he
 | mapEntry t m' k=>exact AqH ho m he
 | entryStore t m' n v=>exact AlP ho m he
 | range t x=>exact AzG ho m he
 | entry x=>exact AzH ho m he
 | call c =>
  simp only[xop]
  split
  .rename_i hc; exact A6O hc ho m he
  .rename_i hc; exact A6P hc ho m he
  .rename_i hc; exact AvN hc ho m he
  .rename_i hc; exact A3R hc ho m he
  .rename_i hc; exact AzI hc ho m he
  .rename_i hc; exact AvX hc ho m he
  .rename_i hc; exact A2E (big:=true) hc ho m he
  .rename_i hc; exact A2E (big:=false) hc ho m he
  .rename_i f hc; exact A3P hc ho m he
  .trivial
 | _=>trivial
end
end Go.Av
namespace Go.Av
open RowKit
variable [Tr]
inductive It where
 | ops (all rest:List Oper)
 | op (all:List Oper) (o:Oper) (rest:List Oper)
 | code (c:Code)
 | blk (id:Nat)
 | inv (J:Act->World->Prop)
def dOk(N:Nat):Option Tmp->Bool
 | some d=>decide (d<N)
 | none=>true
structure Stb(x:Mem->Own->World->Prop):Prop where
 later:∀ {h ρ sto w h' ρ' sto' w'},Mine h ρ sto w->Later h ρ sto w h' ρ' sto' w'->x h ρ w->x h' ρ' w'
 fewer:∀ {h:Mem} {ρ ρ':Own} {w:World},(∀ i g t,ρ' i=some (g,t)->∃ j t',ρ j=some (g,t'))->x h ρ w->x h ρ' w
def X0:Mem->Own->World->Prop:=fun _ _ _=>True
theorem stb0:Stb X0:=⟨fun _ _ _=>trivial,fun _ _=>trivial⟩
structure Cx where
 P:Program
 fn:Func
 h:Mem
 ρ:Own
 sto:LB
 w:World
 post:AV->LB->Prop
 x:Mem->Own->World->Prop
 hx:Stb x
def Fin(c:Cx)(a:Act)(w:World):Prop :=
 a.defers=[]/\∃ v r s h' ρ',(results c.fn a.tmps).run c.P w=.ok v w/\c.post r s/\Mine h' ρ' s w/\Later c.h c.ρ c.sto c.w h' ρ' s w/\RV h' (Lf ρ' s) false v r
def WQ(c:Cx):List It->Exit->Act->World->Prop
 | [],e,a,w=>match e with
  | .normal=>Fin c a w
  | .ret=>Fin c a w
  | _=>False
 | x::k,e,a,w=>match e with
  | .normal=>match x with
   | .ops all rest=>wpList c.P all.toArray (WQ c k) rest a w
   | .op all o rest=>dOk c.fn.ntmps o.dst=true->o.wp c.P a w (wpList c.P all.toArray (WQ c k) rest) (WQ c k)
   | .code y=>y.wp c.P (WQ c k) a w
   | .blk _=>WQ c k .normal a w
   | .inv J=>J a w
  | .exit id=>match x with
   | .blk i=>if id=i then WQ c k .normal a w else WQ c k (.exit id) a w
   | _=>WQ c k (.exit id) a w
  | e=>WQ c k e a w
def Sim(c:Cx)(e:Env)(s:LB)(a:Act)(w:World):Prop :=
 ∃ h ρ,Mine h ρ s w/\Later c.h c.ρ c.sto c.w h ρ s w/\EnvOk h ρ s e a/\a.defers=[]/\a.tmps.size=c.fn.ntmps/\c.x h ρ w
def AWp(c:Cx)(k:List It)(e:Env)(s:LB):Prop:=∀ a w,Sim c e s a w->WQ c k .normal a w
def ARet(c:Cx)(e:Env)(s:LB):Prop:=∀ a w,Sim c e s a w->Fin c a w
def AdF(c:Cx)(f:FuncId)(args:LA)(d:Option Tmp)(all os:List Oper)(k:List It)(e:Env)(s:LB):Prop :=
 ∀ a w h ρ vs,Mine h ρ s w->Later c.h c.ρ c.sto c.w h ρ s w->EnvOk h ρ s e a->a.defers=[]->a.tmps.size=c.fn.ntmps->c.x h ρ w->RL h (Lf ρ s) false vs args ->
  AaD c.P f=true/\Calls c.P f vs.toArray w fun en w'=>match en with
   | .returned v=>WQ c (.ops all os::k) .normal (a.put d v) w'
   | _=>False
def A6W(_:Oper)(_:Env):Prop:=False
def AdS(id:Nat):List It->Option (List It)
 | []=>none
 | .blk i::k=>bif id==i then some k else AdS id k
 | _::k=>AdS id k
inductive Nx where
 | go (k:List It) (e:Env) (s:LB)
 | two (b:Bool) (k:List It) (e:Env) (s:LB) (k':List It) (e':Env) (s':LB)
 | side (p:Prop) (k:List It) (e:Env) (s:LB)
 | leaf (p:Prop)
def resN(c:Cx)(o:Oper)(all os:List Oper)(k:List It)(e:Env)(s:LB):Res->Nx
 | .ok v=>.go (.ops all os::k) (put e o.dst v) s
 | .side p v=>.side p (.ops all os::k) (put e o.dst v) s
 | .sto p v s'=>.side p (.ops all os::k) (put e o.dst v) s'
 | .pick b x y=>.two b (.ops all os::k) (put e o.dst x) s (.ops all os::k) (put e o.dst y) s
 | .call f args=>.leaf (AdF c f args o.dst all os k e s)
 | .anyb p=>.leaf (p/\∀ b,AWp c (.ops all os::k) (put e o.dst (.bool b)) s)
 | .stuck=>.leaf (A6W o e)
def AlQ:Value->Bool
 | .bool _=>false
 | _=>true
theorem AlR:AlQ undef=true:=rfl
def yldV(want:Bool):AV->Option Bool
 | .bool b=>some b
 | .raw v=>bif AlQ v then some (!want) else none
 | _=>none
def yldD(want:Bool)(e:Env):Option Oper->Option Bool
 | some o=>match o.dst with
  | some d=>yldV want (get e d)
  | none=>none
 | none=>none
def grdN(want:Bool)(o:Oper)(all os:List Oper)(k:List It)(e:Env)(s:LB):Option Bool->Nx
 | some b=>bif want then .two b (.op all o os::k) e s (.ops all os::k) (put e o.dst (.raw undef)) s
  else .two b (.ops all os::k) (put e o.dst (.raw undef)) s (.op all o os::k) e s
 | none=>.leaf (A6W o e)
def opN(o:Oper)(all os:List Oper)(k:List It)(e:Env)(s:LB):Option (Nat×Bool)->Nx
 | none=>.go (.op all o os::k) e s
 | some (j,want)=>grdN want o all os k e s (yldD want e all[j]?)
def AtR(a b:Code)(k:List It)(e:Env)(s:LB):AV->Nx
 | .bool t=>.two t (.code a::k) e s (.code b::k) e s
 | _=>.leaf False
def AzJ(e:Env)(s:LB):Option (List It)->Nx
 | some k=>.go k e s
 | none=>.leaf False
def AzK(c:Cx)(k:List It)(e:Env)(s:LB):Nx:=.leaf (AWp c k e s)
def AvY(wr frz:Bool)(N:Nat)(c:Cx)(k:List It)(e:Env)(s:LB):Nx :=
 match k with
 | .ops _ []::k=>.go k e s
 | .ops all (o::os)::k=>bif dOk N o.dst then opN o all os k e s o.guard else .leaf False
 | .op all o os::k=>resN c o all os k e s (xop wr frz c.P e s o.op)
 | .code .skip::k=>.go k e s
 | .code (.region id ops draw)::k=>bif draw then AzK c (.code (.region id ops true)::k) e s else .go (.ops ops.toList ops.toList::k) e s
 | .code (.seq a b)::k=>.go (.code a::.code b::k) e s
 | .code (.cond x a b)::k=>AtR a b k e s (ev e x)
 | .code (.block id x)::k=>.go (.code x::.blk id::k) e s
 | .code (.exit id)::k=>AzJ e s (AdS id k)
 | .code .ret::_=>.leaf (ARet c e s)
 | .code x::k=>AzK c (.code x::k) e s
 | .blk _::k=>.go k e s
 | .inv J::k=>AzK c (.inv J::k) e s
 | []=>.leaf (ARet c e s)
mutual
def run(wr frz:Bool)(N:Nat)(c:Cx):Nat->List It->Env->LB->Prop
 | 0,k,e,s=>AWp c k e s
 | n+1,k,e,s=>cont wr frz N c n (AvY wr frz N c k e s)
def cont(wr frz:Bool)(N:Nat)(c:Cx):Nat->Nx->Prop
 | n,.go k e s=>run wr frz N c n k e s
 | n,.two b k e s k' e' s'=>br wr frz N c n b k e s k' e' s'
 | n,.side p k e s=>p/\run wr frz N c n k e s
 | _,.leaf p=>p
def br(wr frz:Bool)(N:Nat)(c:Cx):Nat->Bool->List It->Env->LB->List It->Env->LB->Prop
 | 0,b,k,e,s,k',e',s'=>(b=true->AWp c k e s)/\(b=false->AWp c k' e' s')
 | n+1,b,k,e,s,k',e',s'=>(b=true->run wr frz N c n k e s)/\(b=false->run wr frz N c n k' e' s')
end
theorem A3X{wr frz:Bool}{N:Nat}{c:Cx}{n:Nat} {k e s k' e' s'}:br wr frz N c (n+1) true k e s k' e' s'=run wr frz N c n k e s:=by grind[br]
theorem AzL{wr frz:Bool}{N:Nat}{c:Cx}{n:Nat} {k e s k' e' s'}:br wr frz N c (n+1) false k e s k' e' s'=run wr frz N c n k' e' s':=by grind[br]
def Nx.sem(c:Cx):Nx->Prop
 | .go k e s=>AWp c k e s
 | .two b k e s k' e' s'=>(b=true->AWp c k e s)/\(b=false->AWp c k' e' s')
 | .side p k e s=>p/\AWp c k e s
 | .leaf p=>p
section
variable {c:Cx}{k:List It}{e:Env}{s:LB}
theorem AgF{id:Nat}:∀ {k k':List It},AdS id k=some k'->∀ a w,WQ c k' .normal a w->WQ c k (.exit id) a w
 | [],_,h,_,_,_=>by grind[AdS]
 | x::k,k',h,a,w,hw=>by
  cases x with
  | blk i =>
   simp only[AdS]at h;simp only[WQ]
   by_cases hi:id=i
   .subst hi
    simp at h; subst h
    simp; exact hw
   .have:(id==i)=false:=by simpa using hi
    simp only[this,lap]at h;rw[if_neg hi];exact AgF h a w hw
  | ops _ _=>exact AgF (k:=k) h a w hw
  | op _ _ _=>exact AgF (k:=k) h a w hw
  | code _=>exact AgF (k:=k) h a w hw
  | inv _=>exact AgF (k:=k) h a w hw
theorem A2F:∀ {k:List It} {a w},Fin c a w->WQ c k .ret a w
 | [],_,_,h=>h
 | _::k,_,_,h=>A2F (k:=k) h
theorem EnvOk.put{h:Mem}{ρ:Own}{a:Act}{d:Option Tmp}{v:Value}{x:AV}(he:EnvOk h ρ s e a)(hd:dOk a.tmps.size d=true)(hv:RV h (Lf ρ s) false v x):EnvOk h ρ s (put e d x) (a.put d v):=by
 cases d with
 | none=>exact he
 | some d =>
  intro t;have hlt:d<a.tmps.size:=by grind[dOk]
  simp only[Av.put,get,Act.put]
  by_cases ht:d=t
  .simp_all
  .have:(d==t)=false:=by grind
   simp only[this,lap];have e1:(a.tmps.setIfInBounds d v).getD t undef=a.tmps.getD t undef:=by
    simp_all
   rw[e1];exact he t
theorem AbJ(a:Act)(d:Option Tmp)(v:Value):(a.put d v).tmps.size=a.tmps.size:=by cases d <;> simp[Act.put]
theorem AaJ(a:Act)(d:Option Tmp)(v:Value):(a.put d v).defers=a.defers:=by cases d <;> rfl
theorem AiR{h:Mem}{ρ:Own}{w:World}{a:Act}{o:Oper}{v:AV}{s':LB}{all os:List Oper}(hl:Later c.h c.ρ c.sto c.w h ρ s w)(he:EnvOk h ρ s e a)(hdf:a.defers=[])(hsz:a.tmps.size=c.fn.ntmps)(hm0:Mine h ρ s w)(hX:c.x h ρ w)
  (hd:dOk c.fn.ntmps o.dst=true) (ok:Okv h ρ s w ((execOp a.eval o).run c.P w) v s') (hk:AWp c (.ops all os::k) (put e o.dst v) s'):WQ c (.op all o os::k) .normal a w:=by
 obtain⟨u,w',h',ρ',hr,hm,hlt,rv⟩:=ok;have he':EnvOk h' ρ' s' e a:=fun t=>(he t).mono hlt.hle hlt.keep
 have hsim:Sim c (put e o.dst v) s' (a.put o.dst u) w':=⟨h',ρ',hm,hl.trans hlt,he'.put (by grind) rv,by grind[AaJ],by grind[AbJ],c.hx.later hm0 hlt hX⟩;have:=hk _ _ hsim;intro _;unfold Oper.wp
 rcases hr with hr|⟨hr,hu⟩
 .rw [hr]; exact this
 .rw [hr]; subst hu; exact this
theorem AeB{h:Mem}{ρ:Own}{a:Act}{all:List Oper}{j:Nat}{b want:Bool}(he:EnvOk h ρ s e a)(hb:yldD want e all[j]? = some b):(b=want->yielded all.toArray a.tmps j=some want)/\(b≠want->yielded all.toArray a.tmps j≠some want):=by
 unfold yldD at hb
 split at hb
 .rename_i oj hoj
  split at hb
  .rename_i d hd
   have hv:=he d;unfold yldV at hb
   split at hb
   .rename_i b' hb'
    rw[hb']at hv;have h1:=AaS hv
    simp at hb; have h2:a.tmps[d]? = some (.bool b'):=by
     rw[Array.getD_eq_getD_getElem?]at h1
     grind[undef]
    grind[yielded]
   .rename_i v hb'
    rw[hb']at hv;have h1:=AaU hv
    cases hn:AlQ v with
    | false=>grind
    | true =>
     have hy:yielded all.toArray a.tmps j=none:=by
      simp only[yielded,List.getElem?_toArray,hoj,hd,Option.bind_some];rw[Array.getD_eq_getD_getElem?]at h1
      grind[AlQ]
     grind
   grind
  grind
 grind
theorem AbU{wr frz:Bool}(h:(AvY wr frz c.fn.ntmps c k e s).sem c):AWp c k e s:=by
 intro a w hsim;have hsim':=hsim;obtain⟨hh,ρ,hm,hl,he,hdf,hsz,hX⟩:=hsim';unfold AvY at h
 split at h
 .exact (h a w hsim:WQ c _ .normal a w)
 .-- an operation's guard
  rename_i all o os k
  cases hd:dOk c.fn.ntmps o.dst with
  | false=>grind[Nx.sem]
  | true =>
  simp only[hd,lai]at h;unfold opN at h
  split at h
  .have:=h a w hsim
   grind[wpList,WQ,Region.wanted]
  .rename_i j want hg
   unfold grdN at h
   split at h
   .rename_i b hb
    have hy:=AeB he hb
    show wpList c.P all.toArray (WQ c k) (o::os) a w
    unfold wpList;have h1:b=want->AWp c (.op all o os::k) e s:=fun hh=>by
     subst hh
     cases b with
     | true=>exact h.1 rfl
     | false=>exact h.2 rfl
    have h2:b≠want->AWp c (.ops all os::k) (put e o.dst (.raw undef)) s:=fun hh=>by
     cases b <;> cases want <;> first|exact(hh rfl).elim|exact h.1 rfl|exact h.2 rfl
    by_cases hbw:b=want
    .rw [if_pos (by grind[Region.wanted])]
     exact .inl (h1 hbw a w hsim hd)
    .rw [if_neg (by grind[Region.wanted])]
     exact h2 hbw _ w ⟨hh,ρ,hm,hl,he.put (by grind) (.raw _),by grind[AaJ],by grind[AbJ],hX⟩
   .exact h.elim
 .-- an operation
  rename_i all o os k
  show _->_
  intro hd;have hs:=AcM (P:=c.P) (wr:=wr) (frz:=frz) (o:=o) hm he
  revert h hs
  cases hx:xop wr frz c.P e s o.op with
  | ok v=>intro h hs; exact AiR hl he hdf hsz hm hX hd hs h hd
  | side p v=>intro h hs; exact AiR hl he hdf hsz hm hX hd (hs h.1) h.2 hd
  | sto p v s'=>intro h hs; exact AiR hl he hdf hsz hm hX hd (hs h.1) h.2 hd
  | pick b x y =>
    intro h hs
    cases b with
    | true=>exact AiR hl he hdf hsz hm hX hd hs (h.1 rfl) hd
    | false=>exact AiR hl he hdf hsz hm hX hd hs (h.2 rfl) hd
  | call f args =>
    intro h hs;obtain⟨vs,hv,hr⟩:=hs;have hb:=(h a w hh ρ vs hm hl he hdf hsz hX hv).1
    replace hr:=hr hb
    have hc:=(h a w hh ρ vs hm hl he hdf hsz hX hv).2
    show o.wp c.P a w (wpList c.P all.toArray (WQ c k) os) (WQ c k)
    unfold Oper.wp;rw[hr];exact hc.mono fun en w' hw=>by
     cases en with
     | returned v=>exact hw
     | panicked ch=>grind
     | outgrown=>grind
  | anyb p=>intro h hs; obtain⟨b,hb⟩:=hs h.1; exact AiR hl he hdf hsz hm hX hd hb (h.2 b) hd
  | stuck=>intro h; exact h.elim
 .exact (h a w hsim:WQ c _ .normal a w) |> fun x=>wp_skip x
 .rename_i id ops draw k
  cases draw with
  | true=>exact h a w hsim
  | false =>
   have:=h a w hsim
   simp_all[wp_region_list,WQ]
 .rename_i x y k
  refine wp_seq (Code.wp_mono ?_ (h a w hsim));intro en a' w' hq
  cases en <;> exact hq
 .rename_i x y z k
  unfold AtR at h
  split at h
  .rename_i t ht
   have hx:=AaF he x;rw[ht]at hx;have hb:=AaS hx;refine wp_cond hb ?_
   cases t with
   | true=>exact h.1 rfl a w hsim
   | false=>exact h.2 rfl a w hsim
  .exact h.elim
 .rename_i id x k
  refine wp_block (Code.wp_mono ?_ (h a w hsim));intro en a' w' hq
  cases en <;> exact hq
 .rename_i id k
  unfold AzJ at h
  split at h
  .rename_i k' hk
   exact wp_exit (AgF hk a w (h a w hsim))
  .exact h.elim
 .exact wp_ret (A2F (h a w hsim))
 .exact h a w hsim
 .exact h a w hsim
 .exact h a w hsim
 .exact h a w hsim
theorem AzM{wr frz:Bool}{n:Nat}(ih:∀ m,m<=n->∀ k e s,run wr frz c.fn.ntmps c m k e s->AWp c k e s):∀ {x:Nx},cont wr frz c.fn.ntmps c n x->x.sem c
 | .go k e s,h=>ih n (lal _) k e s (by rw[cont]at h; exact h)
 | .two b k e s k' e' s',h=>by
  rw[cont]at h
  cases n with
  | zero=>rw[br]at h; exact h
  | succ n =>
   rw[br]at h;exact⟨fun hb=>ih n (by omega) _ _ _ (h.1 hb),fun hb=>ih n (by omega) _ _ _ (h.2 hb)⟩
 | .side p k e s,h=>by
  rw[cont]at h;exact⟨h.1,ih n (lal _) _ _ _ h.2⟩
 | .leaf p,h=>by rw[cont]at h; exact h
theorem AfJ{wr frz:Bool}(n:Nat):∀ (k:List It)(e:Env)(s:LB),run wr frz c.fn.ntmps c n k e s->AWp c k e s:=by
 induction n using Nat.strongRecOn with
 | _ n ih =>
  intro k e s h
  cases n with
  | zero=>rw[run]at h; exact h
  | succ n =>
   rw[run]at h;exact AbU (AzM (fun m hm=>ih m (by omega)) h)
theorem go{N:Nat}(hN:c.fn.ntmps=N)(n:Nat)(h:run false false N c n k e s):AWp c k e s:=by grind[AfJ]
theorem goW{N:Nat}(hN:c.fn.ntmps=N)(n:Nat)(h:run true false N c n k e s):AWp c k e s:=by grind[AfJ]
theorem goB{N:Nat}(hN:c.fn.ntmps=N)(n:Nat)(h:run true true N c n k e s):AWp c k e s:=by grind[AfJ]
theorem goF{N:Nat}(hN:c.fn.ntmps=N)(n:Nat)(h:run false true N c n k e s):AWp c k e s:=by grind[AfJ]
def Shift(c:Cx)(e:Env)(s:LB)(e':Env)(s':LB):Prop:=∀ a w,Sim c e s a w->Sim c e' s' a w
theorem Shift.refl:Shift c e s e s:=fun _ _ h=>h
theorem Shift.trans{e1 e2:Env}{s1 s2:LB}(x:Shift c e s e1 s1)(y:Shift c e1 s1 e2 s2):Shift c e s e2 s2:=fun a w h=>y a w (x a w h)
theorem AWp.shift{e':Env}{s':LB}(x:Shift c e s e' s')(h:AWp c k e' s'):AWp c k e s:=fun a w hs=>h a w (x a w hs)
theorem ARet.shift{e':Env}{s':LB}(x:Shift c e s e' s')(h:ARet c e' s'):ARet c e s:=fun a w hs=>h a w (x a w hs)
def wk(e:Env):Env->Prop
 | []=>True
 | (t,v)::r=>get e t=v/\wk e r
theorem A6X{e e':Env}(h:wk e e')(t:Nat):get e' t=.any\/get e' t=get e t:=by
 induction e' with
 | nil=>exact .inl rfl
 | cons x r ih =>
  obtain⟨k,v⟩:=x;simp only[get]
  by_cases hk:k=t
  .subst hk; simp; exact .inr h.1.symm
  .have:(k==t)=false:=by grind
   simp only[this,lap];exact ih h.2
theorem Ld{e':Env}(h:wk e e'):Shift c e s e' s:=by
 rintro a w ⟨hh,ρ,hm,hl,he,hdf,hsz,hX⟩;refine⟨hh,ρ,hm,hl,fun t=>?_,hdf,hsz,hX⟩
 rcases A6X h t with h1|h1
 .rw [h1]; exact .any _
 .rw [h1]; exact he t
theorem AbP{ι:Type}{B:Code}(μ:ι->Nat)(E:ι->Env)(S:ι->LB)(H:ι->Prop)(x0:ι)(hH:H x0)(hs:Shift c e s (E x0) (S x0))
  (step:∀ x,H x->∀ J:Act->World->Prop,(∀ y,H y->μ y<μ x->∀ a w,Sim c (E y) (S y) a w->J a w)->AWp c (.code B::.inv J::k) (E x) (S x)) :
  AWp c (.code (.loop B)::k) e s:=by
 intro a w hsim;refine wp_loop_ghost (fun n a w=>∃ x,H x/\μ x=n/\Sim c (E x) (S x) a w) (μ x0) ⟨x0,hH,rfl,hs a w hsim⟩ ?_;rintro n a w ⟨x,hx,rfl,hsx⟩;have:=step x hx (fun a w=>∃ n',n'<μ x/\∃ y,H y/\μ y=n'/\Sim c (E y) (S y) a w) (fun y hy hlt a w hs=>⟨_,hlt,y,hy,rfl,hs⟩) a w hsx;refine Code.wp_mono ?_ this;intro en a' w' hq
 cases en <;> exact hq
theorem ainv{J:Act->World->Prop}{e':Env}{s':LB}(hJ:∀ a w,Sim c e' s' a w->J a w)(x:Shift c e s e' s'):AWp c (.inv J::k) e s:=fun a w h=>hJ a w (x a w h)
def Ct(P:Program)(f:FuncId)(args:LA)(sto:LB)(post:AV->LB->Prop):Prop :=
 AaD P f=true/\∀ h ρ w vs,Mine h ρ sto w->RL h (Lf ρ sto) false vs args->Calls P f vs.toArray w fun en w' =>
  ∃ v r s h' ρ',en=.returned v/\post r s/\Mine h' ρ' s w'/\Later h ρ sto w h' ρ' s w'/\RV h' (Lf ρ' s) false v r
theorem A3Y{f:FuncId}{args:LA}{d:Option Tmp}{all os:List Oper}{post:AV->LB->Prop}(hc:Ct c.P f args s post){N:Nat}(hN:c.fn.ntmps=N)(hd:dOk N d=true)
  (hk:∀ r s',post r s'->AWp c (.ops all os::k) (put e d r) s'):AdF c f args d all os k e s:=by
 intro a w h ρ vs hm hl he hdf hsz hX hv;refine⟨hc.1,(hc.2 h ρ w vs hm hv).mono ?_⟩;rintro en w' ⟨v,r,s',h',ρ',rfl,hp,hm',hlt,rv⟩;have he':EnvOk h' ρ' s' e a:=fun t=>(he t).mono hlt.hle hlt.keep
 exact hk r s' hp _ _ ⟨h',ρ',hm',hl.trans hlt,he'.put (by grind) rv,by grind[AaJ],by grind[AbJ],c.hx.later hm hlt hX⟩
def resV(e:Env):List Tmp->AV
 | [t]=>get e t
 | ts=>.tup (ts.map (get e))
def resW(tmps:Array Value):List Tmp->Value
 | [t]=>tmps.getD t undef
 | ts=>.tuple (ts.map (fun t=>tmps.getD t undef)).toArray
theorem AqI{fn:Func}{P:Program}{ts:List Tmp}(hr:fn.results=(ts.map ResultVar.tmp).toArray)(tmps:Array Value)(w:World) :
  (results fn tmps).run P w=.ok (resW tmps ts) w:=by
 have h1:∀ l:List Tmp,((l.map ResultVar.tmp).mapM fun(x:ResultVar)=>(match x with
   | .tmp t=>pure (tmps.getD t undef)
   | .cell a t=>do loadVar t (<- asAddr (tmps.getD a undef)):Sem Value))=(pure (l.map fun t=>tmps.getD t undef):Sem (List Value)):=by
  intro l
  induction l<;>grind
 unfold results;rw[hr];simp only[List.mapM_toArray,h1]
 match ts with
 | []=>rfl
 | [t]=>rfl
 | t::u::r=>erw [h1]; simp[resW]
theorem A3Z{h:Mem}{ρ:Own}{a:Act}{w:World}{ts:List Tmp}(hr:c.fn.results=(ts.map ResultVar.tmp).toArray)(he:EnvOk h ρ s e a) :
  ∃ v,(results c.fn a.tmps).run c.P w=.ok v w/\RV h (Lf ρ s) false v (resV e ts):=by
 refine⟨_,AqI hr _ _,?_⟩;have hl:∀ l:List Tmp,RL h (Lf ρ s) false (l.map fun t=>a.tmps.getD t undef) (l.map (get e)):=by
  intro l
  induction l with
  | nil=>exact .nil
  | cons t l ih=>exact .cons (he t) ih
 match ts with
 | []=>exact .tup _ _ (hl [])
 | [t]=>exact he t
 | t::u::r=>exact .tup _ _ (hl (t::u::r))
theorem aret(ts:List Tmp)(hr:c.fn.results=(ts.map ResultVar.tmp).toArray)(hp:c.post (resV e ts) s):ARet c e s:=by
 rintro a w ⟨hh,ρ,hm,hl,he,hdf,hsz,_⟩;obtain⟨v,hv,rv⟩:=A3Z hr he;exact⟨hdf,v,_,s,hh,ρ,hv,hp,hm,hl,rv⟩
def args0:Nat->LA->Env
 | _,[]=>[]
 | n,x::r=>(n,x)::args0 (n+1) r
theorem AiS:∀ (n:Nat)(l:LA)(t:Nat),get (args0 n l) t=if n<=t then l.getD (t-n) .any else .any
 | n,[],t=>by grind[args0,get]
 | n,x::r,t=>by
  simp only[args0,get]
  by_cases h:n=t
  .subst h; simp
  .have h1:(n==t)=false:=by simpa using h
   simp only[h1,lap];rw[AiS (n+1) r t]
   by_cases h2:n<=t
   .rw [if_pos (by omega),if_pos h2,show t-n=(t-(n+1))+1 by omega]; rfl
   .rw [if_neg (by omega),if_neg h2]
theorem AcT{P:Program}{f:FuncId}{fn:Func}{body:Code}{N:Nat}{args:LA}{sto:LB}{post:AV->LB->Prop}(hf:P.funcs[f]? = some fn)(hb:fn.body=some body)(hn:fn.ntmps=N)(hx:AaD P f=true)
  (ha:args.length<=N) (h:∀ h ρ w,AWp ⟨P,fn,h,ρ,sto,w,post,X0,stb0⟩ [.code body] (args0 0 args) sto):Ct P f args sto post:=by
 refine⟨hx,fun hh ρ w vs hm hv=>?_⟩;refine calls_of_wp hf hb ?_;have hlen:=hv.length;have hsim:Sim ⟨P,fn,hh,ρ,sto,w,post,X0,stb0⟩ (args0 0 args) sto { tmps:=vs.toArray++Array.replicate (fn.ntmps-vs.toArray.size) undef,defers:=[] } w:=by
  refine⟨hh,ρ,hm,.refl ..,fun t=>?_,rfl,by grind,trivial⟩;rw[AiS];simp only[Nat.zero_le,if_true,Nat.sub_zero];have h1:=hv.getD t undef
  by_cases ht:t<vs.length
  .have:(vs.toArray++Array.replicate (fn.ntmps-vs.toArray.size) undef).getD t undef=vs.getD t undef:=by
    simp_all[Array.getElem?_append]
   grind
  .have:args.getD t .any=.any:=by grind
   rw[this]; exact .any _
 have:=h hh ρ w _ w hsim;refine Code.wp_mono ?_ (show body.wp P (WQ ⟨P,fn,hh,ρ,sto,w,post,X0,stb0⟩ []) _ w from this);intro en a' w' hq
 cases en with
 | normal=>obtain⟨hd,v,r,s,h',ρ',h1,h2⟩:=hq; exact⟨hd,v,h1,v,r,s,h',ρ',rfl,h2⟩
 | ret=>obtain⟨hd,v,r,s,h',ρ',h1,h2⟩:=hq; exact⟨hd,v,h1,v,r,s,h',ρ',rfl,h2⟩
 | _=>exact hq.elim
end
attribute [go_sem] wk
