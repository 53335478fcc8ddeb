/- What the library's contracts on strings.Builder ask besides. -/
import Derived.Test.YtnfkjpihaficbaaGreatDoorK15
import Derived.Lib.ItoaNum
import Derived.ChangeSame
import Derived.HandedShaped
import Derived.LaidMore
import Derived.Lay
import Derived.OpenShut
import Derived.ChangeSlices
import Derived.ProofKit
import Derived.Test.YtnfkjpihaficbaaGreatDoorCards
import Derived.Test.YtnfkjpihaficbaaGreatDoorTie
import Derived.Shelf.Vars
import Derived.LaidSub
import Derived.Lib.LaidTab
import Derived.Stop.LaidErr
set_option maxRecDepth 100000
namespace Go.Proofs
open Go.Shelf _root_.Go.Proofs.Tryz
theorem Tryz.Builder_Extra_105:Builder.Extra prog Tryz.lays105_ren:={
 sizeBuilder:=by kernel_rfl
 liesBuilder:=by kernel_rfl
 t5:=underlying5
 a5:=Tryz.isAgg5
 z5:=Tryz.sizeOf5
 v5:=Tryz.zeroValue5
 infoByte:=by kernel_rfl
 cellsByte:=by kernel_rfl
 sizeByte:=by kernel_rfl
 neB5:=by decide }
end Go.Proofs
set_option linter.unusedSimpArgs false
set_option linter.unusedVariables false
namespace Go.Proofs.YtnfkjpihaficbaaGreatDoor
open Go Go.Av Go.RowKit
structure LibOk(S:Std):Prop where
 maxlen:∃ m cs t z,S 1=some (.cells cs t z)/\cs[0]? = some (.int .i64 m)
 pow10:∃ t z,S 5=some (.cells (Lib.pow10Tab.map fun z=>Value.int .u64 z).toArray t z)
 syn:∃ te pe t z,S 3=some (.cells #[.iface te pe] t z)
theorem LibOk.cell{S:Std}(hS:LibOk S):∃ m,∀ w,AsZ S w->w.cell? ⟨Tryz.lays144_ren.g 1,0,none⟩=some (.int .i64 m):=by
 obtain⟨m,cs,t,z,h,h0⟩:=hS.maxlen;exact⟨m,fun w hw=>(Lib.cell_of_heap (hw _ _ h) 0).trans h0⟩
end Go.Proofs.YtnfkjpihaficbaaGreatDoor
set_option linter.unusedSectionVars false
namespace Go.Av
open Go Go.RowKit Go.WideShapes Go.ChangeShapes
variable [Tr]
theorem Same.below{W W':World}(s:Same W W'):Below W.heap.size W W':=⟨s.os,s.tape,s.output.1,s.size,s.block⟩
theorem BhJ{h:Mem}{v:Value}{b:Bool}(r:RV h Lf0 true v (.bool b)):v=.bool b:=by
 cases r with
 | bool=>rfl
section
variable {H:Type}{enc:TypeId×Value->H}{P:Program}
theorem AwJ{f:Func}{s:ChangeSpec}{apart fresh handsOn again:Bool}{W W':World}{args:Array Value}{v:Value}{ds gs:List (DataW H)}{before pa pv:List MemPlace}
  (hW:DataW.Whole enc P f.params.toList s.vars apart W args.toList ds gs before)
  (hres:∀ (b:Nat) (sp:Nat->Bool) (hd:Bool),DataW.TrodAll enc P W' b sp hd f.resultTypes.toList (v.resultList f.resultTypes.size) (s.fn H (ds++gs)).results [])
  (hargs:∀ sp:Nat->Bool,(∀ p∈before,sp p.block=true)->DataW.TrodAll enc P W' 0 sp true f.params.toList args.toList (s.fn H (ds++gs)).args pa)
  (hvars:∀ sp:Nat->Bool,(∀ p∈before,sp p.block=true)->DataW.TrodVars enc P W' sp s.vars (s.fn H (ds++gs)).vars pv)
  (hps:before=pa++pv) (hs:Same W W')
  (hok:∀ (j:Nat) (t:TypeId) (r:Value),f.resultTypes[j]? = some t->(v.resultList f.resultTypes.size)[j]? = some r->Value.okWide P W' .any 0 t r) :
  s.post enc P f apart fresh handsOn again W args v W':=by
 have hb:=hs.below;have hlt:∀ p∈before,p.block<W.heap.size:=fun p hp=>hW.lt p hp
 have hold:∀ p∈before,(fun b=>decide (b<W.heap.size)) p.block=true:=fun p hp=>decide_eq_true (hlt p hp)
 have hwritten:∀ p∈before,p∈before/\(p∈([]:List MemPlace)++pa\/p∈pv):=fun p hp=>⟨hp,by rw[hps]at hp; simpa using hp⟩
 refine⟨ds,gs,before,[],pa,pv,hW,hres _ _ _,hargs _ hold,hvars _ hold,World.keptBut_mono (fun p hp=>⟨hp,?_⟩) (hb.frame (·∈before)),fun _=>?_⟩
 .have:=(hwritten p hp).2
  simpa using this
 .obtain ⟨_,_,_,_,_,hz,hn⟩:=hW
  refine⟨hok,_,_,([]++pa)++pv,⟨[]++pa,pv,trodAll_append (hargs _ (fun _ _=>rfl)) (hres _ _ _),hvars _ (fun _ _=>rfl),rfl,?_,?_⟩,?_⟩
  .intro b off hp
   have hin:MemPlace.cell b off∈before:=by rw[hps]; simpa using hp
   rw[hb.frozen (hlt _ hin)];exact hz b off hin
  .intro ha
   have h2:=hn ha;rw[hps]at h2
   simpa using h2
  .intro p hp _
   rw[hps]
   simpa using hp
end
end Go.Av
namespace Go.Av
open Go Go.RowKit Go.WideShapes Go.ChangeShapes
variable [Tr]
def full(W:World):Mem:=fun b o=>(W.cell? ⟨b,o,none⟩).filter (·.oneCell')
theorem BhK{W:World}{b o:Nat}{v:Value}(h:W.cell? ⟨b,o,none⟩=some v)(hv:v.oneCell'=true):full W b o=some v:=by simp[full,h,Option.filter,hv]
theorem BhL{W:World}{b o:Nat}{v:Value}(h:full W b o=some v):W.cell? ⟨b,o,none⟩=some v/\v.oneCell'=true:=by
 unfold full at h;rw[Option.filter_eq_some_iff]at h;exact h
theorem PcH.atW{P:Program}{g:Std}{f:FuncId}{args:List AV}{b:Bool}(hc:PcH P g f args (· = .bool b)){W:World}{vs:List Value}(hg:AsZ g W)(hv:RL (full W) Lf0 true vs args) :
  Calls P f vs.toArray W fun e W'=>e=.returned (.bool b)/\Same W W' :=
 (hc.2 (full W) W vs hg (fun _ _ _ e=>BhL e) hv).mono fun e W' ⟨v,r,h',e1,e2,_,_,_,hs,rv⟩=>by
  subst e2;rw[BhJ rv]at e1;exact⟨e1,hs⟩
section
variable {H:Type}{enc:TypeId×Value->H}{P:Program}{t e:TypeId}{W:World}{base:Nat}{v:Value}{d:DataW H}{p:List MemPlace}
theorem BcH(ht:P.underlying t=some (.slice e))(he:P.underlying e=some (.int .i64))(hc:P.cellsOf e=1)(hval:Value.okWide P W .any base t v)(h0:DataW.Trod enc P W 0 (fun _=>true) true t v d p) :
  ∃ L:List Int,(∀ x∈L,(Lit.int .i64 x).wf=true)/\RV (full W) Lf0 true v (.fz 1 (L.map (.int .i64)))/\∀ W',Same W W'->∀ sp:Nat->Bool,(∀ x∈p,sp x.block=true)->DataW.Trod enc P W' 0 sp true t v d p:=by
 obtain⟨a0,len,cap,rfl⟩:=okWide_slice ht hval;obtain⟨fuel,hf⟩:=h0
 rcases Go.ChangeShapes.open_ints ht he hc hf with⟨hcs,hx⟩|⟨a,len',cap',zs,hcs,_,hl,hm,hz,hx,hcell,hwz⟩
 .simp only [Value.cells,List.cons.injEq,Value.slice.injEq,and_true]at hcs
  obtain⟨rfl,rfl,rfl⟩:=hcs;simp only[Prod.mk.injEq]at hx;obtain⟨rfl,rfl⟩:=hx;exact⟨[],by simp,.fznil 1,fun W' _ sp _=>shut_slice_nil ht⟩
 .simp only [Value.cells,List.cons.injEq,Value.slice.injEq,and_true]at hcs
  obtain⟨rfl,rfl,rfl⟩:=hcs;simp only[Prod.mk.injEq]at hx;obtain⟨rfl,rfl⟩:=hx;simp only[if_true]at hz;have hspot:a.spot=none:=by
   simp only[Value.okWide,ht,Cell.okWide,Cell.ok]at hval;exact hval.2.2.2.1
  obtain⟨b,off,spot⟩:=a;simp only at hspot;subst hspot;have hcell':∀ i,i<zs.length->W.cell? ⟨b,off+i,none⟩=some (.int .i64 (zs.getD i 0)):=fun i hi=>by rw[<- Go.WideShapes.add_plain]; exact hcell i hi
  have htl:(zs.take len).length=len:=by simp; omega
  refine⟨zs.take len,fun x hx=>hwz x (List.mem_of_mem_take hx),?_,fun W' hs sp hsp=>?_⟩
  .have:=RV.fz (h:=full W) (Lf:=Lf0) (fl:=true) b off cap 1 ((zs.take len).map (.int .i64)) ((zs.take len).map (.int .i64)) ?_ (fun x hx=>by obtain⟨z,_,rfl⟩:=List.mem_map.1 hx; rfl) ?_ (by simp; omega)
   .rwa [List.length_map,htl]at this
   .generalize zs.take len=l
    induction l with
    | nil=>exact .nil
    | cons x l ih=>exact .cons (.int _ _) ih
   .intro k u hu
    rw[List.getElem?_map]at hu;obtain⟨z,hz1,rfl⟩:=Option.map_eq_some_iff.1 hu;have hk:k<len:=by
     have:=(List.getElem?_eq_some_iff.1 hz1).1;omega
    rw[List.getElem?_take_of_lt hk]at hz1;have hkz:k<zs.length:=(List.getElem?_eq_some_iff.1 hz1).1;refine BhK ?_ rfl;rw[hcell' k hkz]
    simp[List.getD,hz1]
  .have hcell2:∀ i,i<zs.length->W'.cell? ⟨b,off+i,none⟩=some (.int .i64 (zs.getD i 0)):=fun i hi=>hs.cell (hcell' i hi)
   refine⟨0+2,?_⟩;refine Go.ChangeShapes.shut_ints' 0 ht he hc (Nat.zero_le _) hl hm ?_ hcell2 hwz
   rcases Nat.eq_zero_or_pos zs.length with h0|h0
   .split <;> omega
   .have hb:sp b=true:=hsp (.cell b off) (by
     have:0<zs.length:=h0;simp only[MemPlace.row];refine List.mem_map.2 ⟨0,by simp; omega,by simp⟩)
    rw[if_pos hb];exact hz
end
section
variable {H:Type}{enc:TypeId×Value->H}
theorem AoC{a:Assume}{C:Checked}{os:Os}{f:FuncId}{fn:Func}{s:ChangeSpec}{conds:List PathCond}{apart fresh handsOn again:Bool}{X:World->Array Value->Prop}
  (hX:∀ (w w':World) (args:Array Value),w.heap=w'.heap->X w args->X w' args)
  (own:ownKnob C.prog.godebug=none) (started:os.Started) (noInit:C.prog.inits.idxOf? f=none) (hfn:C.prog.funcs[f]? = some fn)
  (witness:∃ (w:World) (tape:Tape) (i:Input),w.os=os/\(w.forCall tape i).Shaped C.prog/\i.vars=[]/\Input.okWide C.prog (w.forCall tape i) .any w.heap.size f i /\
   ((s.pre enc C.prog fn conds apart (w.forCall tape i).memory i.args/\X (w.forCall tape i).memory i.args)/\sizedMet enc C.prog fn (OpenSpec.ofChange s) apart (w.forCall tape i).memory i.args)/\a.holds C.prog (lone (Frame.enter C.prog f i.args .normal) [] (w.forCall tape i)))
  (contract:∀ (W:World) (base:Nat) (args:Array Value) (ds gs:List (DataW H)) (before:List MemPlace),
   (∀ (j:Nat) t v,fn.params[j]? = some t->args[j]? = some v->Value.okWide C.prog W .any base t v) ->
   DataW.Whole enc C.prog fn.params.toList s.vars apart W args.toList ds gs before ->
   W.ShapedOpen C.prog->X W args ->
   Calls C.prog f args W fun e W'=>∃ v,e=.returned v/\s.post enc C.prog fn apart fresh handsOn again W args v W') :
  ReturnsInHanded a C os f .any (fun w args=>(s.pre enc C.prog fn conds apart w args/\X w args)/\sizedMet enc C.prog fn (OpenSpec.ofChange s) apart w args) (s.post enc C.prog fn apart fresh handsOn again):=by
 refine returnsInHanded_of_calls own started noInit witness ?_;intro w tape i _ hsh _ hok hpre hholds;obtain⟨_,_,_,fn',hfn',_,_,_,_,hval⟩:=hok;have e:fn'=fn:=Option.some.inj (hfn'.symm.trans hfn);subst e;obtain⟨⟨⟨ds,gs,before,hw,hc⟩,hx⟩,hz⟩:=hpre;have hw':=DataW.Whole.of_heap (w':=w.forCall tape i) (by rfl) hw;refine(contract (w.forCall tape i) w.heap.size i.args ds gs before hval hw' hsh (hX _ _ _ (by rfl) hx)).mono fun e W' ⟨v,he,hp⟩=>?_
 subst he;exact ChangeSpec.post_blind hp
end
end Go.Av
namespace Go.Proofs.YtnfkjpihaficbaaGreatDoor
open Go Go.Av Go.RowKit Go.ChangeShapes Go.WideShapes Go.ChangeAt _root_.Go.Proofs.Tryz
theorem own:ownKnob prog.godebug=none:=by kernel_rfl
theorem c3:prog.cellsOf 3=1:=by kernel_rfl
def A6A(W:World):Std:=fun k=>if k<1000 then W.heap[k]? else none
theorem stands(W:World):AsZ (A6A W) W:=fun k o e=>by
 unfold A6A at e
 split at e
 .exact e
 .cases e
theorem AqS{P:Program}{W:World}{n:String}{g:Nat}{cs:Array Value}(hg:P.globalNamed n=some g)(h:W.var? P n=some cs):∃ t z,W.heap[g]? = some (.cells cs t z):=by
 simp only[World.var?,hg,Option.bind_some]at h
 split at h
 .rename_i c t z hq
  cases h
  exact⟨t,z,hq⟩
 .cases h
theorem AtE : "*" ++ "errors.errorString" = "*errors.errorString":=by decide
theorem A6B (u:TypeId) (h:prog.typeName? 3 u=some "*errors.errorString"):u=356 :=
 typeName_ptr_named (nm:= "errors.errorString") (by rw [AtE]; kernel_rfl) (by kernel_rfl) (by decide) u (by rw [AtE]; exact h)
theorem BcI:Rows.laid_internal_strconv_uint64pow10=Lib.tabData (H:=Unit) .u64 Lib.pow10Tab:=by kernel_rfl
theorem BlG{W:World}(h:W.ShapedOpen prog){laid:List (String×DataW Unit)}(hp:(laid.all fun x=>x.2.handleName?.isNone)=true)(hL:laidMetH prog laid W)
  (e1:laid.filter (fun x=>x.1 == "internal/strconv.uint64pow10")=[("internal/strconv.uint64pow10",Rows.laid_internal_strconv_uint64pow10)])
  (e2:laid.filter (fun x=>x.1 == "strconv.ErrSyntax")=[("strconv.ErrSyntax",Rows.laid_strconv_ErrSyntax)]):LibOk (A6A W):=by
 rw [MakeChecks.laidMetH_plain _ _ _ hp] at hL;have h1:=hL.filter (fun x=>x.1 == "internal/strconv.uint64pow10");have h2:=hL.filter (fun x=>x.1 == "strconv.ErrSyntax");rw [e1,BcI] at h1;rw [e2] at h2;refine ⟨?_,?_,?_⟩
 .have hg:Tryz.lays144_ren.g 1=1:=rfl
  obtain⟨zero,t,hz⟩:∃ zero t,((begin prog (fun _ _=>0) default).world.heap[1]?).bind Obj.row? = some (zero,t)/\zero.size=1/\prog.buildable t=true/\prog.cellTypes prog.depth t=some [t]/\prog.underlying t=some (.int .i64):=by
   refine⟨#[.int .i64 0],3,by kernel_rfl,by kernel_rfl,by kernel_rfl,by kernel_rfl,by kernel_rfl⟩
  obtain⟨m,hm⟩:=Go.Proofs.cell_of_shapedOpen_int h (g:=1) (of_decide_eq_true (by kernel_rfl)) hz.1 hz.2.1 hz.2.2.1 hz.2.2.2.1 hz.2.2.2.2;unfold World.cell? at hm
  split at hm
  .rename_i cs t z hq
   exact⟨m,cs,t,z,hq,by simpa using hm⟩
  .cases hm
 .have ht:=Lib.tabIs_of_head (g:=5) (t:=353) (e:=254) (n:=20) (by kernel_rfl) (by kernel_rfl) underlying353 underlying254 (by kernel_rfl) (by kernel_rfl) h1
  exact AqS (by kernel_rfl) ht
 .obtain ⟨a0,s0,hv0,-,-,-⟩:=laid_sentinel h2 (g:=3) (by kernel_rfl) (by kernel_rfl) underlying176 A6B underlying356 underlying358 rfl rfl underlying9 (by kernel_rfl) (by kernel_rfl)
  obtain⟨t,z,hh⟩:=AqS (g:=3) (by kernel_rfl) hv0;exact⟨_,_,t,z,hh⟩
end Go.Proofs.YtnfkjpihaficbaaGreatDoor
namespace Go.Av
open Go Go.RowKit
variable [Tr]
def isApp:Op->Bool
 | .call c=>match c.callee with
  | .builtin .append=>true
  | _=>false
 | _=>false
def appOk(id:Nat)(e:Env):Op->Bool
 | .call c=>match c.args.toList with
  | x::_=>match ev e x with
   | .sl i _ _ _=>i==id
   | _=>true
  | []=>true
 | _=>true
def cka(id:Nat)(i:Nat)(e:Env)(s:List Blk)(o:Oper):Prop :=
 (bif isApp o.op then appOk id e o.op=true else True)/\(bif reader o.op&&!blind o.op then opOk s.length id e o.op=true else True)
theorem BcJ{P:Program}{sto s3:List Blk}{dst src w:AV}{tx td:Option TypeDesc}{p:Prop}(h:xapp P sto dst src tx td=.sto p w s3) :
  (∃ b,s3=sto++[b])\/∃ i o l c b,dst=.sl i o l c/\s3=sto.set i b:=by
 have hB:∀ {id off len cap sz bytes z L q b},A4F sto id off len cap sz bytes z L q b=.sto p w s3->∃ b',s3=sto.set id b':=by
  intro id off len cap sz bytes z L q b h;unfold A4F at h
  split at h
  .cases hc:(len==cap) <;> rw[hc]at h <;> simp only[cond_true,cond_false,Res.sto.injEq]at h <;> exact⟨_,h.2.2.symm⟩
  .cases h
 unfold xapp at h
 split at h
 .cases h1:AoN tx <;> rw[h1]at h <;> simp only[cond_true,cond_false]at h
  .cases h2:isI tx <;> rw[h2]at h <;> simp only[cond_true,cond_false]at h
   .cases h
   .unfold BaU at h
    split at h
    .simp only [Res.sto.injEq]at h
     exact .inl ⟨_,h.2.2.symm⟩
    .cases h
  .unfold BaT at h
   split at h
   .unfold BaS at h
    split at h
    .simp only [Res.sto.injEq]at h
     exact .inl ⟨_,h.2.2.symm⟩
    .obtain ⟨b',hb⟩:=hB h
     exact .inr ⟨_,_,_,_,b',rfl,hb⟩
    .cases h
   .cases h
 .cases h
theorem Agr.refl{n id:Nat}{s:List Blk}:Agr n id s s:=fun _ _ _=>rfl
theorem BhM{c:Cx}{ops:Array Oper}{s s1:List Blk}{o:Oper}{cv v:AV}{e:Env}{id:Nat}(ha:isApp o.op=true)(hk:appOk id e o.op=true)(h:Does c ops s o cv e v s1):Agr s.length id s s1/\s.length<=s1.length:=by
 have hd:DoesOp c s o cv e v s1->Agr s.length id s s1/\s.length<=s1.length:=by
  intro h;unfold DoesOp at h
  split at h <;> rename_i hq
  .rw [h.2]; exact⟨Agr.refl,Nat.le_refl _⟩
  .rw [h.2.2]; exact⟨Agr.refl,Nat.le_refl _⟩
  .obtain ⟨_,_,_,rfl⟩:=h
   cases hop:o.op <;> rw[hop]at ha hk hq <;> try(exfalso; revert ha; simp[isApp]; done)
   rename_i cl;simp only[isApp]at ha
   split at ha <;> try(cases ha; done)
   rename_i hcl;simp only[xop,hcl]at hq;unfold A1R at hq
   split at hq
   .rename_i x y t u hx hy
    simp only[appOk,hx]at hk
    rcases BcJ hq with⟨b,rfl⟩|⟨i,o',l,cc,b,hdst,rfl⟩
    .exact ⟨Agr.push b,by simp⟩
    .rw [hdst]at hk
     have:i=id:=by simpa using hk
     subst this;exact⟨Agr.set b,by simp⟩
   .cases hq
  .rw [h.2]; exact⟨Agr.refl,Nat.le_refl _⟩
  .rw [h.2.2.2]; exact⟨Agr.refl,Nat.le_refl _⟩
  .exact h.elim
 unfold Does at h
 split at h
 .exact hd h
 .split at h
  .rcases h with⟨_,h⟩|⟨_,_,rfl⟩
   .exact hd h
   .exact ⟨Agr.refl,Nat.le_refl _⟩
  .exact h.elim
theorem AwK{id:Nat}{e e':Env}{op:Op}(h:∀ x∈op.operands,ev e x=ev e' x):appOk id e op=appOk id e' op:=by
 unfold appOk
 cases op <;> try rfl
 rename_i c;simp only
 cases hc:c.args.toList with
 | nil=>rfl
 | cons x r =>
  have hm:x∈(Op.call c).operands:=by
   have:x∈c.args:=by
    rw[<- Array.mem_toList_iff,hc]; simp
   simp only[Op.operands,Go.Call.operands]
   split <;> simp[this]
  simp only[h x hm]
theorem AmL{id i:Nat}{e e':Env}{s s':List Blk}{o:Oper}(h:∀ x∈o.op.operands,ev e x=ev e' x)(hs:s.length<=s'.length)(hp:cka id i e s o):cka id i e' s' o:=by
 refine⟨?_,?_⟩
 .rw [<- AwK h]; exact hp.1
 .have h2:=hp.2
  cases hb:(reader o.op&&!blind o.op)with
  | false=>trivial
  | true =>
   rw[hb]at h2;simp only[cond_true]at h2 |-;rw[<- AaM h];exact AtC hs h2
def ChA(c:Cx)(ops:Array Oper)(id:Nat)(K:Env->List Blk->Prop):List Nat->Env->List Blk->Prop
 | [],e,s=>K e s
 | i::r,e,s=>match ops[i]? with
  | some o=>cka id i e s o/\∃ cv v s',Does c ops s o cv e v s'/\ChA c ops id K r (put e o.dst v) s'
  | none=>False
def okAp(ops:List Oper)(j i:Nat):Bool:=match ops[j]?,ops[i]? with
 | some oj,some oi=>oj.apart ops.toArray oi&&(together oj oi||(reader oj.op&&isApp oi.op))
 | _,_=>false
section
variable {cx:Cx}{ops:Array Oper}{K:Env->List Blk->Prop}{id:Nat}
theorem ChA.congr(hK:∀ e e' s,Eqv e e'->K e s->K e' s):∀ {l:List Nat}{e e':Env}{s:List Blk},Eqv e e'->ChA cx ops id K l e s->ChA cx ops id K l e' s
 | [],e,e',s,h,c=>hK e e' s h c
 | i::r,e,e',s,h,c=>by
  unfold ChA at c |-
  split at c
  .rename_i o ho
   obtain⟨h0,cv,v,s',h1,h2⟩:=c;exact⟨AmL (fun x _=>AeQ fun t _=>h t) (Nat.le_refl _) h0,cv,v,s',h1.agree fun t _=>h t,ChA.congr hK (h.put _ _) h2⟩
  .exact c.elim
theorem ChA.swap{opl:List Oper}(hops:ops=opl.toArray)(hK:∀ e e' s,Eqv e e'->K e s->K e' s){i j:Nat}{r:List Nat}(hok:okAp opl j i=true){e:Env}{s:List Blk}(c:ChA cx ops id K (j::i::r) e s) :
  ChA cx ops id K (i::j::r) e s:=by
 unfold okAp at hok
 split at hok
 rotate_left
 .cases hok
 rename_i oj oi hj' hi';have hj:ops[j]? = some oj:=by rw[hops]; simpa using hj'
 have hi:ops[i]? = some oi:=by rw[hops]; simpa using hi'
 simp only[Bool.and_eq_true,Bool.or_eq_true]at hok;obtain⟨ha,hok⟩:=hok;rw[<- hops]at ha;obtain⟨a1,a2,a3⟩:=Oper.apart_spec ha;simp only[ChA,hj,hi]at c |-;obtain⟨pj,cv,v,s1,h1,pi,cu,u,s2,h2,h3⟩:=c;have gi:∀ (e:Env) (v:AV),AfE ops oi (put e oj.dst v) e:=fun e v t ht=>by
  rw[get_put,if_neg]; intro h; exact a1 t h ht
 have gj:∀ (e:Env) (v:AV),AfE ops oj e (put e oi.dst v):=fun e v t ht=>by
  rw[get_put,if_neg]; intro h; exact a3 t h ht
 have h2':Does cx ops s1 oi cu e u s2:=h2.agree (gi e v);have h1':∀ {z z'},Does cx ops z oj cv e v z'->Does cx ops z oj cv (put e oi.dst u) v z':=fun hd=>hd.agree (gj e u)
 have h3':=ChA.congr hK (AfX a2) h3;have pi':∀ s',s1.length<=s'.length->cka id i e s' oi:=fun s' hs=>AmL (AaG (gi e v)) hs pi
 have pj':∀ s',s.length<=s'.length->cka id j (put e oi.dst u) s' oj:=fun s' hs=>AmL (AaG (gj e u)) hs pj
 have bj:blind oj.op=true->∀ s',cka id j (put e oi.dst u) s' oj:=fun hb s'=>⟨(pj' s (Nat.le_refl _)).1,by simp[hb]⟩
 have bi:blind oi.op=true->∀ s',cka id i e s' oi:=fun hb s'=>⟨(pi' s1 (Nat.le_refl _)).1,by simp[hb]⟩
 rcases hok with hok|hok
 .simp only [together,Bool.or_eq_true,Bool.and_eq_true]at hok
  rcases hok with(⟨c1,c2⟩|c1)|c1
  .have e1:=h1.calm c1
   subst e1;have e2:=h2.calm c2;subst e2;exact⟨pi' _ (Nat.le_refl _),cu,u,_,h2',pj' _ (Nat.le_refl _),cv,v,_,h1' h1,h3'⟩
  .have e1:=h1.calm (AaQ c1)
   subst e1;exact⟨pi' _ (Nat.le_refl _),cu,u,_,h2',bj c1 _,cv,v,_,h1' (h1.blind c1),h3'⟩
  .have e2:=h2.calm (AaQ c1)
   subst e2;exact⟨bi c1 _,cu,u,_,h2'.blind c1,pj' _ (Nat.le_refl _),cv,v,_,h1' h1,h3'⟩
 .obtain ⟨hr,hap⟩:=hok
  have e1:=h1.calm (AmK hr);subst e1;have pis:=pi' _ (Nat.le_refl _);have hk:appOk id e oi.op=true:=by have:=pis.1; rw[hap]at this; exact this
  obtain⟨hag,hle⟩:=BhM hap hk h2';have ok0:blind oj.op=false->opOk s1.length id e oj.op=true:=fun hb=>by have:=pj.2; rw[hr,hb]at this; exact this
  exact⟨pis,cu,u,_,h2',pj' _ hle,cv,v,_,h1' (AaL hr ok0 hag h1).2,h3'⟩
theorem ChA.front{opl:List Oper}(hops:ops=opl.toArray)(hK:∀ e e' s,Eqv e e'->K e s->K e' s){i:Nat}{r:List Nat}:∀ {l:List Nat}{e:Env}{s:List Blk},(∀ j∈l,okAp opl j i=true) ->
  ChA cx ops id K (l++i::r) e s->ChA cx ops id K (i::(l++r)) e s
 | [],_,_,_,c=>c
 | j::l,e,s,h,c=>by
  refine ChA.swap hops hK (h j (by simp)) ?_;simp only[List.cons_append,ChA]at c |-
  split at c
  .rename_i o ho
   obtain⟨h0,cv,v,s',h1,h2⟩:=c;exact⟨h0,cv,v,s',h1,ChA.front hops hK (fun k hk=>h k (by simp[hk])) h2⟩
  .exact c.elim
end
section
variable {c:Cx}{k:List It}{e:Env}{s:List Blk}
theorem AoW{all:List Oper}{id:Nat}:∀ {r:List Oper}{m n:Nat}{cs:List AV}{e:Env}{s:List Blk},(∀ (j:Nat),r[j]? = all[m+j]?)->all.length=m+r.length->dxg c all (cka id) k n r cs e s->ChA c all.toArray id (fun e s=>AWp c k e s) (List.range' m r.length) e s
 | [],m,n,cs,e,s,_,_,h=>by
  rw[dxg]at h;exact h
 | o::r,m,n,cs,e,s,hr,hlen,h=>by
  obtain⟨h0,cv,v,n',cs',s',h1,h2⟩:=BcG h;have hat:all.toArray[m]? = some o:=by have:=hr 0; simpa using this.symm
  have hix:rix all (o::r)=m:=by unfold rix; omega
  rw[hix]at h0;simp only[List.length_cons,List.range'_succ,ChA,hat];exact⟨h0,cv,v,s',h1,AoW (fun j=>by have:=hr (j+1); simpa[Nat.add_assoc,Nat.add_comm 1 j]using this) (by simp at hlen; omega) h2⟩
theorem BfF(bid:Nat)(cs:List AV){id:Nat}{ops:List Oper}(hm:c.P.follows .mixedOrders=true)(hok:AhE (okAp ops) ops=true){N:Nat}(hN:c.fn.ntmps=N)(hdst:ops.all (fun o=>dOk N o.dst)=true)(n:Nat)
  (h:dxg c ops (cka bid) k n ops cs e s):AWp c (.code (.region id ops.toArray true)::k) e s:=by
 intro a w hsim;have hch:=AoW (m:=0) (by intro j; simp) (by simp) h;rw[<- List.range_eq_range']at hch;refine wp_region_any hm ?_;have hsim':Sim c e s a { w with drawn:=w.drawn+1 }:=by
  obtain⟨hh,ρ,hmm,hl,he,hdf,hsz,hX⟩:=hsim;have sm:Same w { w with drawn:=w.drawn+1 }:=Same.drew w;exact⟨hh,ρ,hmm.same sm,hl.trans (Later.same sm),he,hdf,hsz,c.hx.later hmm (Later.same sm) hX⟩
 have hd:∀ o∈ops,dOk c.fn.ntmps o.dst=true:=fun o ho=>by rw[hN]; exact(List.all_eq_true.1 hdst) o ho
 refine AfY (okp:=okAp ops) (ChA c ops.toArray bid (fun e s=>AWp c k e s)) hok (fun e s x=>x) (fun l i r e s hj x=>ChA.front rfl AWp.K hj x)
  (fun i o r e s a w Kc ho x hs hK=>?_)
  ops.length (Array.replicate ops.length false) (List.range ops.length) e s a _ (by simp) ?_ (by simp) ?_ hch hsim'
 .have ho':ops.toArray[i]? = some o:=by simpa using ho
  simp only[ChA,ho']at x;obtain⟨_,cv,v,s',h1,h2⟩:=x;exact AhC hs (hd o (List.mem_of_getElem? ho)) h1 fun a w hs'=>hK _ _ a w h2 hs'
 .symm
  rw[List.filter_eq_self];intro i hi
  simp at hi
  simp[hi]
 .intro i hi j hj
  exfalso
  by_cases h1:i<ops.length
  .simp [h1]at hi
  .unfold AbT at hj
   have:ops[i]? = none:=by simp; omega
   simp[this]at hj
end
end Go.Av
namespace Go.Proofs.YtnfkjpihaficbaaGreatDoor
open Go Go.Av Go.RowKit
structure Cv where
 para:Int
 inn:Int
 out:Int
 on:Bool
deriving DecidableEq
structure Pp' where
 take:Nat
 cv:Cv
deriving DecidableEq
def fol(a b:Pp'):Bool:=a.take==b.take&&a.cv.out==b.cv.inn
end Go.Proofs.YtnfkjpihaficbaaGreatDoor
namespace Go.Proofs.YtnfkjpihaficbaaGreatDoor
open Go Go.RowKit Go.Lib _root_.Go.Proofs.Tryz
open Go.Av (Fr BbW BlE BhE)
theorem jb:∃ j,prog.info? 212=some j/\j.size=2:=Option.map_eq_some_iff.1 (show(prog.info? 212).map (·.size)=some 2 by kernel_rfl)
set_option maxRecDepth 100000 in
theorem BhN(b:Nat)(w:World)(h0:w.cell? ⟨b,0,none⟩=some (.pointer (some ⟨b,0,none⟩))) :
  Calls prog 175 #[.pointer (some ⟨b,0,none⟩)] w fun e w'=>e=.returned (.tuple #[])/\w'=w:=by
 obtain⟨j,hj,hjs⟩:=jb
 go_enter func175,ntmps175
 go_wp2
 rw[run_neq_ptr_same w _ underlying209 hj]
 go_wp2
 go_end0
 exact⟨rfl,rfl⟩
set_option maxRecDepth 100000 in
theorem BcK(b:Nat)(w:World)(h0:w.cell? ⟨b,0,none⟩=some (.pointer none))(hsh:w.shape? b=some (212,2))(hfz:w.frozen? ⟨b,0,none⟩=false) :
  Calls prog 175 #[.pointer (some ⟨b,0,none⟩)] w fun e w'=>e=.returned (.tuple #[])/\w'=w.setCell ⟨b,0,none⟩ (.pointer (some ⟨b,0,none⟩)):=by
 obtain⟨j,hj,hjs⟩:=jb
 go_enter func175,ntmps175
 go_wp2
 rw[run_to_unsafe w ⟨b,0,none⟩ underlying209 underlying301 hj (by rw[hjs]; decide) hsh (Nat.zero_lt_succ 1)];simp only[Result.andThen];rw[Oper.upon_value]
 go_wp2
 rw[run_callFunc_extern func234 (by kernel_rfl) (by kernel_rfl) (by kernel_rfl) (e:=Extern.AbiNoEscape.same) (by kernel_rfl)];rw[run_noEscape];simp only[Result.andThen];rw[Oper.upon_value]
 go_wp2
 rw[run_from_unsafe w ⟨b,0,none⟩ underlying301 underlying209 hj hsh (by kernel_rfl)];simp only[Result.andThen];rw[Oper.upon_value]
 go_wp2
 go_end0
 exact⟨rfl,rfl⟩
theorem cc(B b:Nat)(bs:List Value)(w:World)(h:IsBuilder 212 5 B b bs w):Calls prog 175 #[.pointer (some ⟨b,0,none⟩)] w fun e w'=>e=.returned (.tuple #[])/\BuilderAt 212 5 B b (.pointer (some ⟨b,0,none⟩)) bs w' /\
  Fr w w' b none/\w'.cell? ⟨b,1,none⟩=w.cell? ⟨b,1,none⟩:=by
 rcases h with h|h
 .refine (BcK b w h.cell0 h.shape h.frozen0).mono ?_
  rintro e w' ⟨rfl,rfl⟩;refine⟨rfl,h.used _,⟨rfl,rfl,rfl,by simp[World.setCell],fun k _ hk _=>heap_setCell_other w _ k _ hk⟩,World.cell?_setCell_other _ _ _ _ (by simp)⟩
 .refine (BhN b w h.cell0).mono ?_
  rintro e w' ⟨rfl,rfl⟩;exact⟨rfl,h,⟨rfl,rfl,rfl,Nat.le_refl _,fun _ _ _ _=>rfl⟩,rfl⟩
end Go.Proofs.YtnfkjpihaficbaaGreatDoor
namespace Go.Proofs.YtnfkjpihaficbaaGreatDoor
open Go Go.Av Go.RowKit _root_.Go.Proofs.Tryz
theorem AwL{g:Std}{f:FuncId}{args:List AV}{r:AV}(vs:List Value)(v:Value)(hb:AaB prog f=true)(ha:∀ h vs',RL h Lf0 true vs' args->vs'=vs)(hr:∀ h,RV h Lf0 true v r)
  (H:∀ w,AsZ g w->Calls prog f vs.toArray w fun e w'=>e=.returned v/\Same w w'):PcH prog g f args (· = r):=by
 refine⟨hb,fun h w vs' hg hm hv=>?_⟩;have:=ha h vs' hv;subst this;refine(H w hg).mono ?_;rintro e w' ⟨rfl,hs⟩;exact⟨v,r,h,rfl,rfl,fun b o v e=>⟨hs.cell (hm b o v e).1,(hm b o v e).2⟩,fun _ _ _ x=>x,fun b o e n=>(n e).elim,hs,hr h⟩
theorem AoX{f:FuncId}{args:List AV}{r:AV}(vs:List Value)(v:Value)(hb:AaB prog f=true)(ha:∀ h vs',RL h Lf0 true vs' args->vs'=vs)(hr:∀ h,RV h Lf0 true v r)
  (H:∀ w,Calls prog f vs.toArray w fun e w'=>e=.returned v/\Same w w'):Pc prog f args (· = r):=by
 refine⟨hb,fun h w vs' hm hv=>?_⟩;have:=ha h vs' hv;subst this;refine(H w).mono ?_;rintro e w' ⟨rfl,hs⟩;exact⟨v,r,h,rfl,rfl,fun b o v e=>⟨hs.cell (hm b o v e).1,(hm b o v e).2⟩,fun _ _ _ x=>x,fun b o e n=>(n e).elim,hs,hr h⟩
theorem AtF{h:Mem}{v:Value}{s:List UInt8}(r:RV h Lf0 true v (.str s)):v=.string ⟨s.toArray⟩:=by cases r with|str=>rfl
theorem A6C{h:Mem}{v:Value}{k:IntKind}{n:Int}(r:RV h Lf0 true v (.int k n)):v=.int k n:=by cases r with|int=>rfl
theorem AdB(s p:List UInt8):∀ h vs',RL h Lf0 true vs' [.str s,.str p]->vs'=[.string ⟨s.toArray⟩,.string ⟨p.toArray⟩]:=by
 intro h vs' r
 cases r with|cons r1 r=>cases r with|cons r2 r=>cases r; rw[AtF r1,AtF r2]
theorem AfH(s p:List UInt8):Pc prog 125 [.str s,.str p] (· = .bool (Lib.hasPrefix s p)) :=
 AoX [_,_] (.bool (Lib.hasPrefix s p)) hB125 (AdB s p) (fun h=>.bool _) fun w=>(Any.strings_HasPrefix Tryz.lays99 ⟨s.toArray⟩ ⟨p.toArray⟩ w).mono fun e w' ⟨h1,h2⟩=>⟨h1,h2▸.refl w⟩
theorem AcA(s p:List UInt8)(hs:s.length<=9223372036854775807):Pc prog 146 [.str s,.str p] (· = .bool (Lib.hasSuffix s p)) :=
 AoX [_,_] (.bool (Lib.hasSuffix s p)) hB146 (AdB s p) (fun h=>.bool _) fun w=>(Any.strings_HasSuffix Tryz.lays100 ⟨s.toArray⟩ ⟨p.toArray⟩ w hs).mono fun e w' ⟨h1,h2⟩=>⟨h1,h2▸.refl w⟩
theorem AcU(s:List UInt8)(c:Int):Pc prog 188 [.str s,.int .u8 c] (· = .int .i64 (Lib.indexByte s c.toNat.toUInt8)) :=
 AoX [.string ⟨s.toArray⟩,.int .u8 c] (.int .i64 (Lib.indexByte s c.toNat.toUInt8)) hB188 (fun h vs' r=>by cases r with|cons r1 r=>cases r with|cons r2 r=>cases r; rw[AtF r1,A6C r2]) (fun h=>.int _ _)
  fun w=>(Any.strings_IndexByte Tryz.lays137 ⟨s.toArray⟩ c w).mono fun e w' ⟨h1,h2⟩=>⟨h1,h2▸.refl w⟩
theorem AfI{S:Std}(hS:LibOk S)(s p:List UInt8)(hs:s.length<4294967281):PcH prog S 241 [.str s,.str p] (· = .bool (Lib.contains s p)) :=
 AwL [_,_] (.bool (Lib.contains s p)) hB241 (AdB s p) (fun h=>.bool _) fun w H=>(Any.strings_Contains Tryz.lays144 ⟨s.toArray⟩ ⟨p.toArray⟩ _ w hs (hS.cell.choose_spec w H)).mono fun e w' ⟨h1,h2⟩=>⟨h1,h2▸.refl w⟩
def splitL(s p:List UInt8):List (List UInt8):=(Lib.splitB ⟨p.toArray⟩ 0 (Lib.countB ⟨s.toArray⟩ ⟨p.toArray⟩) ⟨s.toArray⟩).map (·.data.toList)
theorem AmM{S:Std}(hS:LibOk S)(s p:List UInt8)(hs:s.length<4294967281)(hp:1<=p.length):PcH prog S 99 [.str s,.str p] (· = .fz 1 (splitL s p |>.map .str)):=by
 refine⟨hB99,fun h w vs' hg hm hv=>?_⟩;have:=AdB s p h vs' hv;subst this;refine(Any.strings_Split Tryz.lays146 (by kernel_rfl) ⟨s.toArray⟩ ⟨p.toArray⟩ _ w hs (hS.cell.choose_spec w hg) hp).mono ?_;rintro e w' ⟨rfl,rfl⟩;have hlen:=Lib.splitB_all ⟨p.toArray⟩ hp 0 _ ⟨s.toArray⟩ rfl;generalize hL:Lib.splitB ⟨p.toArray⟩ 0 (Lib.countB ⟨s.toArray⟩ ⟨p.toArray⟩) ⟨s.toArray⟩=L at hlen |-;have hsl:splitL s p=L.map (·.data.toList):=by rw[splitL,hL]
 have hval:L.map Value.string=(splitL s p).map sval:=by
  rw[hsl,List.map_map]; rfl
 rw[hval,<- hlen,show L.length=(splitL s p).length by rw[hsl]; simp];have h1:∀ v∈(splitL s p).map sval,v.oneCell'=true:=by intro v hv; obtain⟨x,_,rfl⟩:=List.mem_map.1 hv; rfl
 have hmine:Mine h (fun _=>none) [] w:=⟨hm,fun id blk e=>by simp at e,fun _ _=>rfl,fun i j g t t' e=>by simp at e,fun i g t e=>by simp at e⟩;obtain⟨m2,l2⟩:=hmine.freezeNew ((splitL s p).map sval) 9 h1;refine⟨_,_,Mem.add h w.heap.size ((splitL s p).map sval),rfl,rfl,m2.mem,l2.hle,fun b o e n=>?_,.alloc w _,?_⟩
 .rcases l2.hnew b o e n with⟨j,t,hj⟩|hs
  .cases hj
  .exact hs
 .have:=RV.fz (h:=Mem.add h w.heap.size ((splitL s p).map sval)) (Lf:=Lf0) (fl:=true) w.heap.size 0 (splitL s p).length 1 ((splitL s p).map .str) ((splitL s p).map sval) ?_ (by simp[cellsOf]) ?_ (by simp)
  .simpa using this
  .rw [AhV]
   generalize Mem.add h w.heap.size ((splitL s p).map sval)=hh;generalize splitL s p=z
   induction z with
   | nil=>exact .nil
   | cons x z ih=>exact .cons (.str x) ih
  .intro k v hv
   simp only[Mem.add,Nat.zero_add,if_true];exact hv
attribute [go_sem ↓] Go.Av.BgZ Go.Av.BbT Go.Av.BbV Go.Av.A5L Go.Av.A5Y Go.Av.A2F Go.Av.A5Z Go.Av.A2G
attribute [go_sem] Go.Av.run Go.Av.cont Go.Av.br Go.Av.dbr Go.Av.dx Go.Av.dxc Go.Av.dgrd Go.Av.dyld Go.Av.dres Go.Av.dcall Go.Av.calm Go.Av.AgY Go.Av.AyN Go.Av.BbS Go.Av.opN Go.Av.grdN Go.Av.resN Go.Av.A5I Go.Av.BgY Go.Av.BbR Go.Av.AeD Go.Av.dOk Go.Av.xop Go.Av.xbin Go.Av.xint Go.Av.xarith Go.Av.xstr Go.Av.BaP Go.Av.A3Y Go.Av.xnot Go.Av.xneg Go.Av.AhQ Go.Av.xpart Go.Av.xpartOk Go.Av.AsG Go.Av.AlO Go.Av.AlN Go.Av.xnew Go.Av.xbox Go.Av.xalloc Go.Av.AcM Go.Av.xptrAddIf Go.Av.AbS Go.Av.A3Z Go.Av.xload Go.Av.putCells Go.Av.reElem Go.Av.AlP Go.Av.AlQ Go.Av.BaR Go.Av.BfZ Go.Av.xlen Go.Av.AvN Go.Av.A4C Go.Av.AqB Go.Av.AsH Go.Av.cut Go.Av.rep Go.Av.AdH Go.Av.AcT Go.Av.isRow Go.Av.elemD Go.Av.isU8 Go.Av.ev Go.Av.evs Go.Av.evp Go.Av.put Go.Av.get Go.Av.AdV Go.Av.yldD Go.Av.yldV Go.Av.AqQ Go.Av.args0 Go.Av.cellsOf cond_true cond_false decide_true decide_false decide_eq_true_eq decide_eq_false_iff_not List.getElem?_cons_zero List.getElem?_cons_succ List.getElem?_nil List.getD_cons_zero List.getD_cons_succ List.getD_nil List.set_cons_zero List.set_cons_succ List.length_cons List.length_nil List.cons_append List.nil_append List.append_nil List.all_cons List.all_nil List.map_cons List.map_nil List.take_succ_cons List.take_zero List.drop_succ_cons List.drop_zero Bool.and_true Bool.true_and Bool.and_self Bool.and_false Bool.false_and Go.Av.one Go.Av.frozen beq_self_eq_true true_and and_true forall_const false_implies implies_true and_self Option.map_some Option.map_none Nat.zero_add Nat.add_zero Nat.zero_mul Nat.mul_one Nat.one_mul Int.toNat_zero ne_eq not_false_eq_true not_true_eq_false Bool.true_eq_false Bool.false_eq_true List.toList_toArray Go.Av.inr Go.Av.byteOf Go.Av.AdG decide_eq_decide Bool.not_true Bool.not_false Bool.not_eq_true' Bool.or_true Bool.true_or Bool.or_false Bool.false_or ge_iff_le gt_iff_lt and_assoc Bool.decide_eq_true beq_iff_eq beq_eq_false_iff_ne bne_iff_ne bne_self_eq_false if_true if_false Bool.and_eq_true Bool.or_eq_true Bool.and_eq_false_imp Bool.or_eq_false_iff Bool.not_eq_false' Go.Av.has Option.isSome_some Option.isSome_none Int.toNat_natCast Int.cast_ofNat_Int List.length_append Go.Av.A1R Go.Av.xapp Go.Av.BaT Go.Av.BaS Go.Av.A4F Go.Av.AoN Go.Av.A4E Go.Av.srcB Go.Av.AoM Go.Av.splice' Go.Av.xcut Go.Av.BaV Go.Av.BaW Go.Av.BaX Go.Av.BaY Go.Av.BgA Go.Av.cutL Go.Av.loOf Go.Av.hiOf Go.Av.evo Go.Av.BbA Go.Av.AlR Go.Av.xmax Go.Av.AsI Go.Av.A4H Go.Av.A4G Go.Av.xnil Go.Av.BgB Go.Av.BaZ Go.Av.ixOf Go.Av.AlS Go.Av.AvO List.getElem?_toArray Go.Av.ApZ Go.Av.AgQ Go.Av.AdW Go.Av.A4D Go.Av.A4I Go.Av.BbB Go.Av.A4J Go.Av.AlT Go.Av.AeY Go.Av.keyEq Go.Av.mfind Go.Av.AnZ Go.Av.xeqs Go.Av.AvM Go.Av.eqFs Go.Av.eqFN Go.Av.eqF1 Go.Av.bothB Go.Av.leafEq Go.Av.AsJ Go.Av.AyQ Go.Av.AyO Go.Av.A4A Go.Av.BgG Go.Av.BgH Go.Av.BgI Go.Av.BgJ Go.Av.BgK Go.Av.dxi Go.Av.dxic Go.Av.dbri Go.Av.rix Go.Av.dck Go.Av.reader Go.Av.blind Go.Av.opOk Go.Av.refOk Go.Op.operands Go.Call.operands List.contains_cons List.contains_nil Go.Av.dxg Go.Av.dxgc Go.Av.dbrg   List.lookup_cons List.lookup_nil Go.Av.BaQ Go.Av.BfY Go.Av.keyEqS Go.Av.AcW Go.Av.mfindS Go.Av.BgC Go.Av.A4K Go.Av.AyP Go.Av.AqC Go.Av.AqD Go.Av.AqE Go.Av.AqF Go.Av.AqG Go.Av.AvP Go.Av.AyS Go.Av.AvQ Go.Av.AvR Go.Av.AyT Go.Av.frozen0 Go.Av.isI Go.Av.BaU Go.Av.xcap Go.Av.A4B Go.Av.keyEqT Go.Av.AbZ Go.Av.mfindT Go.Av.eqLs Go.Av.A4L Go.Av.AyR Go.Av.A4M Go.Av.BgD Go.Av.BgE Go.Av.BgF Go.Av.xdel Go.Av.A4N Go.Av.AaR ts2 underlying2 ts3 tb3 zv3 zk3 za3 underlying3 ts4 tb4 zv4 zk4 za4 underlying4 ts5 tb5 za5 underlying5 fl7 fl8 ts9 tb9 zv9 zk9 za9 underlying9 ts10 underlying10 ts12 underlying12 fl13 fl14 fl18 fl19 ts21 underlying21 ts22 tb22 za22 underlying22 ts24 fl24 underlying24 ts25 za25 fl25 underlying25 ts26 underlying26 ts27 fl27 underlying27 ts28 za28 fl28 underlying28 ts30 underlying30 ts32 za32 underlying32 ts34 underlying34 ts35 underlying35 ts39 tb39 za39 underlying39 ts40 fl40 underlying40 ts41 tb41 za41 fl41 underlying41 ts43 fl43 underlying43 ts44 za44 fl44 underlying44 ts45 fl45 lf45 underlying45 ts46 tb46 zv46 zk46 za46 fl46 lf46 underlying46 ts48 fl48 lf48 underlying48 ts49 tb49 za49 fl49 lf49 underlying49 ts55 underlying55 ts56 zv56 zk56 underlying56 ts60 fl60 lf60 underlying60 ts61 tb61 za61 fl61 lf61 underlying61 ts62 underlying62 ts63 fl63 underlying63 ts64 tb64 za64 fl64 underlying64 ts65 za65 underlying65 ts69 fl69 lf69 underlying69 ts70 tb70 za70 fl70 lf70 underlying70 ts71 underlying71 fl83 fl84 ts89 fl89 lf89 underlying89 ts90 tb90 za90 fl90 lf90 underlying90 ts95 fl95 underlying95 ts96 tb96 zv96 zk96 za96 fl96 underlying96 ts105 underlying105 ts108 underlying108 ts112 underlying112 ts113 tb113 za113 underlying113 ts114 fl114 underlying114 ts115 tb115 za115 fl115 underlying115 ts116 fl116 underlying116 ts117 tb117 za117 fl117 underlying117 ts118 underlying118 ts122 underlying122 ts126 underlying126 ts129 fl129 underlying129 ts130 tb130 za130 fl130 underlying130 ts131 underlying131 ts139 underlying139 ts140 fl140 underlying140 ts141 za141 fl141 underlying141 ts146 underlying146 ts159 fl159 lf159 underlying159 ts160 za160 fl160 lf160 underlying160 ts164 za164 underlying164 ts176 underlying176 ts187 underlying187 ts188 tb188 za188 underlying188 ts194 underlying194 ts195 fl195 lf195 underlying195 ts196 za196 fl196 lf196 underlying196 ts206 underlying206 ts210 underlying210 ts211 fl211 underlying211 ts212 za212 fl212 underlying212 ts218 fl218 underlying218 ts219 tb219 za219 fl219 underlying219 ts221 underlying221 ts222 underlying222 ts224 underlying224 ts230 underlying230 ts232 fl232 underlying232 ts233 tb233 za233 fl233 underlying233 ts247 underlying247 ts248 fl248 lf248 underlying248 ts249 za249 fl249 lf249 underlying249 ts251 underlying251 ts254 underlying254 ts257 underlying257 ts270 za270 underlying270 ts274 underlying274 ts281 underlying281 ts287 underlying287 ts301 underlying301 ts304 underlying304 ts305 fl305 underlying305 ts306 tb306 za306 fl306 underlying306 ts308 underlying308 ts314 underlying314 ts321 fl321 underlying321 ts322 fl322 underlying322 ts329 za329 underlying329 ts340 underlying340 ts341 underlying341 ts342 fl342 underlying342 ts343 fl343 underlying343 ts344 underlying344 ts345 fl345 underlying345 ts346 tb346 za346 fl346 underlying346 ts348 fl348 underlying348 ts349 tb349 za349 fl349 underlying349 ts353 underlying353 ts357 fl357 underlying357 ts358 fl358 underlying358 ts365 underlying365 ts366 underlying366 ts367 fl367 underlying367 ts368 fl368 underlying368 ts369 underlying369 ts371 underlying371 ts372 underlying372 fl373 fl374 fl383 fl384
attribute [go_sem] ntmps7 ntmps8 ntmps9 ntmps11 ntmps12 ntmps19 ntmps21 ntmps23 ntmps27 ntmps28 ntmps30 ntmps34 ntmps35 ntmps36 ntmps37 ntmps38 ntmps39 ntmps40 ntmps41 ntmps42 ntmps43 ntmps44 ntmps45 ntmps46 ntmps47 ntmps48 ntmps49 ntmps50 ntmps51 ntmps52 ntmps53 ntmps54 ntmps55 ntmps56 ntmps60 ntmps61 ntmps62 ntmps63 ntmps64 ntmps65 ntmps66 ntmps67 ntmps68 ntmps71 ntmps73 ntmps74 ntmps75 ntmps76 ntmps77 ntmps78 ntmps83 ntmps84 ntmps85 ntmps87 ntmps88 ntmps89 ntmps90 ntmps92 ntmps93 ntmps96 ntmps97 ntmps100 ntmps101 ntmps102 ntmps103 ntmps104 ntmps105 ntmps106 ntmps107 ntmps108 ntmps109 ntmps110 ntmps111 ntmps112 ntmps114 ntmps115 ntmps116 ntmps117 ntmps118 ntmps119 ntmps120 ntmps121 ntmps122 ntmps123 ntmps132 ntmps133 ntmps135 ntmps136 ntmps137 ntmps138 ntmps139 ntmps141 ntmps142 ntmps148 ntmps149 ntmps150 ntmps151 ntmps152 ntmps153 ntmps154 ntmps155 ntmps156 ntmps157 ntmps158 ntmps159 ntmps160 ntmps161 ntmps163 ntmps164 ntmps165 ntmps166 ntmps167 ntmps168 ntmps169 ntmps170 ntmps171 ntmps175 ntmps186 ntmps187 ntmps189 ntmps190 ntmps191 ntmps193 ntmps199 ntmps203 ntmps204 ntmps205 ntmps206 ntmps207 ntmps208 ntmps209 ntmps210 ntmps211 ntmps212 ntmps213 ntmps222 ntmps224 ntmps225 ntmps226 ntmps243 ntmps255 ntmps256 ntmps257 ntmps258 ntmps259 ntmps260 ntmps261 ntmps262 ntmps268 ntmps269 ntmps270 ntmps290 ntmps291 ntmps293 ntmps294 ntmps296 ntmps304 ntmps305
attribute [go_sem] Nat.reduceAdd Nat.reduceMul Nat.reduceSub Nat.reduceBEq Nat.reduceLT Nat.reduceLeDiff reduceIte reduceCtorEq Int.reduceToNat Int.reduceLE Int.reduceLT Int.reduceNe Int.reduceMul Int.reduceAdd Int.reduceSub Int.reduceDiv Int.reduceMod Int.reduceEq Int.reduceGE Int.reduceGT Int.reduceNeg Int.reduceBEq Int.reduceBNe Nat.reduceEqDiff
