/- From a contract in plain data to a row whose law takes a list of integers, reads listed. -/
import Derived.Test.YtccfklnmolggiaaGreatDoorZ13
import Derived.HandedShaped
import Derived.LaidMore
import Derived.Lay
import Derived.OpenShut
import Derived.ChangeSlices
import Derived.ProofKit
import Derived.Test.YtccfklnmolggiaaGreatDoorCards
import Derived.Test.YtccfklnmolggiaaGreatDoorTie
import Derived.Shelf.Vars
import Derived.LaidSub
import Derived.Lib.LaidTab
import Derived.Stop.LaidErr
set_option linter.all false
namespace Go.Av
open RowKit WideShapes ChangeShapes
variable [Tr]
def full(W:World):Mem:=fun b o=>(W.cell? ⟨b,o,none⟩).filter (·.oneCell')
theorem BgH{W:World}{b o:Nat}{v:Value}(h:W.cell? ⟨b,o,none⟩=some v)(hv:v.oneCell'=true):full W b o=some v:=by grind[full]
theorem BgI{W:World}{b o:Nat}{v:Value}(h:full W b o=some v):W.cell? ⟨b,o,none⟩=some v/\v.oneCell'=true:=by
 grind[full,Option.filter_eq_some_iff]
theorem PcH.atW{P:Program}{g:Std}{f:FuncId}{args:LY}{b:Bool}(hc:PcH P g f args (· = .bool b)){W:World}{vs:List Value}(hg:ArZ g W)(hv:RL (full W) Lf0 true vs args) :
  Calls P f vs.toArray W fun e W'=>e=.returned (.bool b)/\Same W W' :=
 (hc.2 (full W) W vs hg (fun _ _ _ e=>BgI e) hv).mono fun e W' ⟨v,r,h',e1,e2,_,_,_,hs,rv⟩=>by
  grind[BgG]
section
variable {H:Type}{enc:TypeId×Value->H}{P:Program}{t e:TypeId}{W:World}{base:Nat}{v:Value}{d:DataW H}{p:List MemPlace}
theorem BbH(ht:P.underlying t=some (.slice e))(he:P.underlying e=some (.int .i64))(hc:P.cellsOf e=1)(hval:Value.okWide P W .any base t v)(h0:DataW.Trod enc P W 0 (fun _=>true) true t v d p) :
  ∃ L:List Int,(∀ x∈L,(Lit.int .i64 x).wf=true)/\RV (full W) Lf0 true v (.fz 1 (L.map (.int .i64)))/\∀ W',Same W W'->∀ sp:Nat->Bool,(∀ x∈p,sp x.block=true)->DataW.Trod enc P W' 0 sp true t v d p:=by
 obtain⟨a0,len,cap,rfl⟩:=okWide_slice ht hval;obtain⟨fuel,hf⟩:=h0
 rcases Go.ChangeShapes.open_ints ht he hc hf with⟨hcs,hx⟩|⟨a,len',cap',zs,hcs,_,hl,hm,hz,hx,hcell,hwz⟩
 .obtain ⟨rfl,rfl,rfl⟩:=hcs
  obtain⟨rfl,rfl⟩:=hx;exact⟨[],by simp,.fznil 1,fun W' _ sp _=>shut_slice_nil ht⟩
 .obtain ⟨rfl,rfl,rfl⟩:=hcs
  obtain⟨rfl,rfl⟩:=hx;have hspot:a.spot=none:=by
   simp only[Value.okWide,ht,Cell.okWide,Cell.ok]at hval;exact hval.2.2.2.1
  obtain⟨b,off,spot⟩:=a;subst hspot;have hcell':∀ i,i<zs.length->W.cell? ⟨b,off+i,none⟩=some (.int .i64 (zs.getD i 0)):=fun i hi=>by grind[Go.WideShapes.add_plain]
  refine⟨zs.take len,fun x hx=>hwz x (lbh hx),?_,fun W' hs sp hsp=>?_⟩
  .have:=RV.fz (h:=full W) (Lf:=Lf0) (fl:=true) b off cap 1 ((zs.take len).map (.int .i64)) ((zs.take len).map (.int .i64)) ?_ (fun x hx=>by obtain⟨z,_,rfl⟩:=List.mem_map.1 hx; rfl) ?_ (by grind)
   .grind
   .generalize zs.take len=l
    induction l with
    | nil=>exact .nil
    | cons x l ih=>exact .cons (.int _ _) ih
   .intro k u hu
    rw[lbf]at hu;obtain⟨z,hz1,rfl⟩:=Option.map_eq_some_iff.1 hu;have hk:k<len:=by
     grind
    refine BgH ?_ rfl<;>grind
  .have hcell2:=fun i hi=>hs.cell (hcell' i hi)
   refine⟨0+2,?_⟩;refine Go.ChangeShapes.shut_ints' 0 ht he hc (lbq _) hl hm ?_ hcell2 hwz
   rcases Nat.eq_zero_or_pos zs.length with h0|h0
   .grind
   .have hb:sp b=true:=hsp (.cell b off) (by
     simp_all[MemPlace.row])
    grind
end
section
variable {H:Type}{enc:TypeId×Value->H}
theorem AmV{a:Assume}{C:Checked}{os:Os}{f:FuncId}{fn:Func}{s:ChangeSpec}{conds:List PathCond}{apart fresh handsOn again:Bool}{X:World->Array Value->Prop}
  (hX:∀ (w w':World) (args:Array Value),w.heap=w'.heap->X w args->X w' args)
  (own:ownKnob C.prog.godebug=none) (started:os.Started) (noInit:C.prog.inits.idxOf? f=none) (hfn:C.prog.funcs[f]? = some fn)
  (witness:∃ (w:World) (tape:Tape) (i:Input),w.os=os/\(w.forCall tape i).Shaped C.prog/\i.vars=[]/\Input.okWide C.prog (w.forCall tape i) .any w.heap.size f i /\
   ((s.pre enc C.prog fn conds apart (w.forCall tape i).memory i.args/\X (w.forCall tape i).memory i.args)/\sizedMet enc C.prog fn (OpenSpec.ofChange s) apart (w.forCall tape i).memory i.args)/\a.holds C.prog (lone (Frame.enter C.prog f i.args .normal) [] (w.forCall tape i)))
  (contract:∀ (W:World) (base:Nat) (args:Array Value) (ds gs:List (DataW H)) (before:List MemPlace),
   (∀ (j:Nat) t v,fn.params[j]? = some t->args[j]? = some v->Value.okWide C.prog W .any base t v) ->
   DataW.Whole enc C.prog fn.params.toList s.vars apart W args.toList ds gs before ->
   W.ShapedOpen C.prog->X W args ->
   Calls C.prog f args W fun e W'=>∃ v,e=.returned v/\s.post enc C.prog fn apart fresh handsOn again W args v W') :
  ReturnsInHanded a C os f .any (fun w args=>(s.pre enc C.prog fn conds apart w args/\X w args)/\sizedMet enc C.prog fn (OpenSpec.ofChange s) apart w args) (s.post enc C.prog fn apart fresh handsOn again):=by
 refine returnsInHanded_of_calls own started noInit witness ?_;intro w tape i _ hsh _ hok hpre hholds;obtain⟨_,_,_,fn',hfn',_,_,_,_,hval⟩:=hok;have e:=Option.some.inj (hfn'.symm.trans hfn);subst e;obtain⟨⟨⟨ds,gs,before,hw,hc⟩,hx⟩,hz⟩:=hpre;have hw':=DataW.Whole.of_heap (w':=w.forCall tape i) (by rfl) hw;refine(contract (w.forCall tape i) w.heap.size i.args ds gs before hval hw' hsh (hX _ _ _ (by rfl) hx)).mono fun e W' ⟨v,he,hp⟩=>?_<;>grind[ChangeSpec.post_blind]
end
end Go.Av
set_option maxRecDepth 100000
set_option maxHeartbeats 2000000
namespace Go.Proofs.YtccfklnmolggiaaGreatDoor
open Av RowKit ChangeShapes WideShapes ChangeAt Proofs.Tryz
theorem own:ownKnob prog.godebug=none:=by kernel_rfl
theorem c3:prog.cellsOf 3=1:=by kernel_rfl
def A4U(W:World):Std:=fun k=>if k<1000 then W.heap[k]? else none
theorem stands(W:World):ArZ (A4U W) W:=fun k o e=>by
 grind[A4U]
theorem ApQ{P:Program}{W:World}{n:String}{g:Nat}{cs:Array Value}(hg:P.globalNamed n=some g)(h:W.var? P n=some cs):∃ t z,W.heap[g]? = some (.cells cs t z):=by
 grind[World.var?]
theorem AsE : "*" ++ "errors.errorString" = "*errors.errorString":=by decide
theorem A4V (u:TypeId) (h:prog.typeName? 3 u=some "*errors.errorString"):u=233 :=
 typeName_ptr_named (nm:= "errors.errorString") (by rw [AsE]; kernel_rfl) (by kernel_rfl) (by decide) u (by rw [AsE]; exact h)
theorem BbI:Rows.laid_internal_strconv_uint64pow10=Lib.tabData (H:=Unit) .u64 Lib.pow10Tab:=by kernel_rfl
theorem BjH{W:World}(h:W.ShapedOpen prog){laid:List (String×DataW Unit)}(hp:(laid.all fun x=>x.2.handleName?.isNone)=true)(hL:laidMetH prog laid W)
  (e1:laid.filter (fun x=>x.1 == "internal/strconv.uint64pow10")=[("internal/strconv.uint64pow10",Rows.laid_internal_strconv_uint64pow10)])
  (e2:laid.filter (fun x=>x.1 == "strconv.ErrSyntax")=[("strconv.ErrSyntax",Rows.laid_strconv_ErrSyntax)]):LibOk (A4U W):=by
 rw [MakeChecks.laidMetH_plain _ _ _ hp] at hL;have h1:=hL.filter (fun x=>x.1 == "internal/strconv.uint64pow10");have h2:=hL.filter (fun x=>x.1 == "strconv.ErrSyntax");rw [e1,BbI] at h1;rw [e2] at h2;refine ⟨?_,?_,?_⟩
 .have hg:Tryz.lays144_ren.g 1=4:=rfl
  obtain⟨zero,t,hz⟩:∃ zero t,((begin prog (fun _ _=>0) default).world.heap[4]?).bind Obj.row? = some (zero,t)/\zero.size=1/\prog.buildable t=true/\prog.cellTypes prog.depth t=some [t]/\prog.underlying t=some (.int .i64):=by
   refine⟨#[.int .i64 0],3,by kernel_rfl,by kernel_rfl,by kernel_rfl,by kernel_rfl,by kernel_rfl⟩
  obtain⟨m,hm⟩:=Go.Proofs.cell_of_shapedOpen_int h (g:=4) (of_decide_eq_true (by kernel_rfl)) hz.1 hz.2.1 hz.2.2.1 hz.2.2.2.1 hz.2.2.2.2;unfold World.cell? at hm
  split at hm
  .rename_i cs t z hq
   exact⟨m,cs,t,z,hq,by simpa using hm⟩
  .cases hm
 .have ht:=Lib.tabIs_of_head (g:=0) (t:=195) (e:=165) (n:=20) (by kernel_rfl) (by kernel_rfl) underlying195 underlying165 (by kernel_rfl) (by kernel_rfl) h1
  exact ApQ (by kernel_rfl) ht
 .obtain ⟨a0,s0,hv0,-,-,-⟩:=laid_sentinel h2 (g:=2) (by kernel_rfl) (by kernel_rfl) underlying113 A4V underlying233 underlying235 rfl rfl underlying9 (by kernel_rfl) (by kernel_rfl)
  obtain⟨t,z,hh⟩:=ApQ (g:=2) (by kernel_rfl) hv0;exact⟨_,_,t,z,hh⟩
end Go.Proofs.YtccfklnmolggiaaGreatDoor
namespace Go.Proofs.YtccfklnmolggiaaGreatDoor
open RowKit Lib Proofs.Tryz
open Go.Av (Fr rowOf A4I AvP)
theorem jb:∃ j,prog.info? 109=some j/\j.size=2:=Option.map_eq_some_iff.1 (show(prog.info? 109).map (·.size)=some 2 by kernel_rfl)
set_option maxRecDepth 100000 in
theorem BgJ(b:Nat)(w:World)(h0:w.cell? ⟨b,0,none⟩=some (.pointer (some ⟨b,0,none⟩))) :
  Calls prog 107 #[.pointer (some ⟨b,0,none⟩)] w fun e w'=>e=.returned (.tuple #[])/\w'=w:=by
 obtain⟨j,hj,hjs⟩:=jb
 go_enter func107,ntmps107
 go_wp2
 rw[run_neq_ptr_same w _ underlying106 hj]
 go_wp2
 go_end0
 exact⟨rfl,rfl⟩
set_option maxRecDepth 100000 in
theorem BbJ(b:Nat)(w:World)(h0:w.cell? ⟨b,0,none⟩=some (.pointer none))(hsh:w.shape? b=some (109,2))(hfz:w.frozen? ⟨b,0,none⟩=false) :
  Calls prog 107 #[.pointer (some ⟨b,0,none⟩)] w fun e w'=>e=.returned (.tuple #[])/\w'=w.setCell ⟨b,0,none⟩ (.pointer (some ⟨b,0,none⟩)):=by
 obtain⟨j,hj,hjs⟩:=jb
 go_enter func107,ntmps107
 go_wp2
 rw[run_to_unsafe w ⟨b,0,none⟩ underlying106 underlying172 hj (by rw[hjs]; decide) hsh (Nat.zero_lt_succ 1)];simp only[Result.andThen];rw[Oper.upon_value]
 go_wp2
 rw[run_callFunc_extern func145 (by kernel_rfl) (by kernel_rfl) (by kernel_rfl) (e:=Extern.AbiNoEscape.same) (by kernel_rfl)];rw[run_noEscape];simp only[Result.andThen];rw[Oper.upon_value]
 go_wp2
 rw[run_from_unsafe w ⟨b,0,none⟩ underlying172 underlying106 hj hsh (by kernel_rfl)];simp only[Result.andThen];rw[Oper.upon_value]
 go_wp2
 go_end0
 exact⟨rfl,rfl⟩
theorem cc(B b:Nat)(bs:List Value)(w:World)(h:IsBuilder 109 5 B b bs w):Calls prog 107 #[.pointer (some ⟨b,0,none⟩)] w fun e w'=>e=.returned (.tuple #[])/\BuilderAt 109 5 B b (.pointer (some ⟨b,0,none⟩)) bs w' /\
  Fr w w' b none/\w'.cell? ⟨b,1,none⟩=w.cell? ⟨b,1,none⟩:=by
 rcases h with h|h
 .refine (BbJ b w h.cell0 h.shape h.frozen0).mono ?_
  rintro e w' ⟨rfl,rfl⟩;refine⟨rfl,h.used _,⟨rfl,rfl,rfl,by simp[World.setCell],fun k _ hk _=>heap_setCell_other w _ k _ hk⟩,World.cell?_setCell_other _ _ _ _ (by simp)⟩
 .refine (BgJ b w h.cell0).mono ?_
  rintro e w' ⟨rfl,rfl⟩;exact⟨rfl,h,⟨rfl,rfl,rfl,lab _,fun _ _ _ _=>rfl⟩,rfl⟩
theorem AsF{w:World}{B:Nat}{v v':Value}{n:Nat}{xs:List Value}{s:ByteArray}{ty:TypeId}{w':World}{i:TypeInfo}(hi:prog.info? 5=some i)(hz:i.zero=some (.int .u8 0))(hsize:i.size=1)(hby:i.bytes=1)
  (hown:w.ownsRow B 5 1 v n xs) (h63:n+s.size<=maxLen) (hb:n+s.size<=140737488355328) (hB:B<=w.heap.size) (hr:(Builtin.append_ #[107,9] ty #[v,.string s]).run prog w=.ok v' w') :
  v'.ownBlock=none\/v'.ownBlock=v.ownBlock\/v'.ownBlock=some w.heap.size:=by
 have hm63:n+s.size<=9223372036854775807:=by unfold maxLen at h63; omega
 have hxl:xs.length=n:=by simpa using hown.1
 obtain⟨v1,w1,hr1,_,_,h4⟩:=run_append_own_string (P:=prog) w B 107 9 ty 5 i underlying107 underlying9 hi hz hsize hby v n xs hown s h63 hb hB;rw[hr]at hr1;obtain⟨rfl,_⟩:v'=v1/\w'=w1:=by simpa using hr1
 rcases hown.2 with⟨rfl,rfl⟩|⟨g,cap,cur,rfl,hbg,hg,hnc,hcm,hcs,htake⟩
 .by_cases hm:s.size=0
  .rw [h4.2 ⟨rfl,hm⟩]; exact .inl rfl
  .have h:=run_append_nil_string (P:=prog) w 107 9 ty 5 i (.int .u8 0) underlying107 underlying9 hi hz s (by omega) (by omega) (by rw[hby]; omega)
   rw[hr]at h;have:v'=.slice (some ⟨w.heap.size,0,none⟩) s.size (grownCap w s.size 0 5):=(show v'=_/\w'=_ by simpa using h).1;rw[this]; exact .inr (.inr rfl)
 .by_cases hroom:n+s.size<=cap
  .have h:=run_append_room_string (P:=prog) w 107 9 ty 5 i underlying107 underlying9 hi hsize g n cap cur hg s hroom (by omega)
   rw[hr]at h;have:v'=.slice (some ⟨g,0,none⟩) (n+s.size) cap:=(show v'=_/\w'=_ by simpa using h).1;rw[this]; exact .inr (.inl rfl)
  .have h:=run_append_grow_string (P:=prog) w 107 9 ty 5 i (.int .u8 0) underlying107 underlying9 hi hz ⟨g,0,none⟩ n cap xs (by rw[hsize]; simpa using hxl) (hown.cells (g:=g) rfl) s (by omega) (by omega) (by rw[hby]; exact growslice_fits (by omega) (by omega))
   rw[hr]at h;have:v'=.slice (some ⟨w.heap.size,0,none⟩) (n+s.size) (grownCap w (n+s.size) cap 5):=(show v'=_/\w'=_ by simpa using h).1;rw[this]; exact .inr (.inr rfl)
theorem ApR{w:World}{ops:Array Oper}{rest:List Oper}{o:Oper}{a:Act}{Q:Exit->Act->World->Prop}(hgd:o.guard=none)(sl x:Operand)
  (ho:o.op=.call { callee:=.builtin .append,args:=#[sl,x],argTypes:=#[107,9] }) (B:Nat) (i:TypeInfo) (hi:prog.info? 5=some i) (hz:i.zero=some (.int .u8 0)) (hsize:i.size=1) (hby:i.bytes=1)
  (v:Value) (n:Nat) (xs:List Value) (hs:a.eval sl=v) (hown:w.ownsRow B 5 1 v n xs) (s:ByteArray) (hx:a.eval x=.string s) (h63:n+s.size<=maxLen) (hb:n+s.size<=140737488355328) (hB:B<=w.heap.size)
  (h:∀ v' w',w'.ownsRow B 5 1 v' (n+s.size) (xs++strCells s)->w.grownBy w' v.ownBlock->(v'.ownBlock=none\/v'.ownBlock=v.ownBlock\/v'.ownBlock=some w.heap.size)->wpList prog ops Q rest (a.put o.dst v') w'):wpList prog ops Q (o::rest) a w:=by
 refine wpList_plain hgd fun K hK=>?_
 obtain⟨v',w',hr,h2,h3,_⟩:=run_append_own_string (P:=prog) w B 107 9 o.type 5 i underlying107 underlying9 hi hz hsize hby v n xs hown s h63 hb hB;have hbk:=AsF hi hz hsize hby hown h63 hb hB hr;unfold Oper.wp execOp;simp only[ho,resolve,invoke,builtin,Sem.run_bind,Sem.run_pure,Result.andThen_ok,List.map_toArray,lah,laq,hs,hx,hr];exact hK _ _ (h v' w' h2 h3 hbk)
set_option maxRecDepth 100000 in
theorem wstr(B b:Nat)(bs:List Value)(s:ByteArray)(w:World)(h:IsBuilder 109 5 B b bs w)(hlen:bs.length+s.size<=140737488355328)(hBw:B<=w.heap.size) :
  Calls prog 64 #[.pointer (some ⟨b,0,none⟩),.string s] w fun e w'=>e=.returned (.tuple #[.int .i64 s.size,.nilIface])/\BuilderAt 109 5 B b (.pointer (some ⟨b,0,none⟩)) (bs++strCells s) w' /\
   Fr w w' b (rowOf w b)/\∀ r,rowOf w' b=some r->rowOf w b=some r\/w.heap.size<=r:=by
 obtain⟨i0,hi,hz0,hz1,hz2⟩:=info_parts Tryz.Builder_Extra_169.infoByte
 go_enter func64,ntmps64
 go_wp2_with (go_at_call 107; refine(cc B b bs _ h).mono ?_)
 rintro e w1 ⟨rfl,h1,hf,hc1⟩;obtain⟨hB,v,hbk,hown,hne⟩:=h1;have c0:w1.cell? ⟨b,0,none⟩=some (.pointer (some ⟨b,0,none⟩)):=by rw[cell_of_heap hbk]; rfl
 have c1:w1.cell? ⟨b,1,none⟩=some v:=by rw[cell_of_heap hbk]; rfl
 have hrow:rowOf w b=v.ownBlock:=by rw[rowOf,<- hc1,c1]; rfl
 clear hc1
 go_wp2_with (at_builtin; refine ApR rfl _ _ rfl B i0 hi hz0 hz1 hz2 _ _ _ rfl hown s rfl ?c3 ?c4 ?c5 ?_)
 case c3=>unfold maxLen; omega
 case c4=>omega
 case c5=>have:=hf.size; omega
 intro v' w2 hown' hgrow hblk;have hlt:b<w1.heap.size:=by
  rcases Nat.lt_or_ge b w1.heap.size with h'|h'
  .exact h'
  .simp [Array.getElem?_eq_none h']at hbk
 have hb2:w2.heap[b]? = some (.cells #[.pointer (some ⟨b,0,none⟩),v] 109 (0,0)):=by
  rw[hgrow.block b hlt (fun e=>hne e.symm)];exact hbk
 have d0:w2.cell? ⟨b,0,none⟩=some (.pointer (some ⟨b,0,none⟩)):=by rw[cell_of_heap hb2]; rfl
 have d1:w2.cell? ⟨b,1,none⟩=some v:=by rw[cell_of_heap hb2]; rfl
 have f1:w2.frozen? ⟨b,1,none⟩=false:=frozen_of_heap hb2 1;obtain⟨ao,n',cap,rfl⟩:∃ ao n' cap,v'=.slice ao n' cap:=by
  rcases hown'.2 with⟨hv,_⟩|⟨g,cap,cur,hv,_⟩
  .exact ⟨_,_,_,hv⟩
  .exact ⟨_,_,_,hv⟩
 go_wp2
 go_ret2
 refine⟨rfl,BuilderAt.put (T:=109) (e:=5) hB hb2 (bs':=bs++strCells s) (by simpa[strCells_length]using hown') (by decide),?_⟩;have hw2:rowOf (w2.setCell ⟨b,1,none⟩ (.slice ao n' cap)) b=Value.ownBlock (.slice ao n' cap):=by
  rw[rowOf,World.cell?_setCell_same _ _ _ d1]; rfl
 rw[hrow];refine⟨⟨(hgrow.os.trans hf.os),(hgrow.tape.trans hf.tape),(hgrow.output.trans hf.output),by have:=hf.size; have:=hgrow.size; simp[World.setCell]; omega,fun k hk hkb hkr=>by
  rw[heap_setCell_other _ _ k _ hkb,hgrow.block k (by have:=hf.size; omega) hkr,hf.block k hk hkb (by simp)]⟩,fun r hr=>?_⟩
 rw[hw2]at hr
 rcases hblk with h|h|h
 .rw [h]at hr; cases hr
 .rw [h]at hr; exact .inl hr
 .rw [h]at hr
  have:=hf.size
  simp at hr
  exact .inr (by omega)
theorem AkZ:A4I prog 64 109 5:=⟨hB64,fun B b bs s w h h1 h2=>wstr B b bs s w h h1 h2⟩
theorem AyJ:AvP prog 66 109 5:=⟨hB66,fun B b l w h h2=>Any.Builder_String_any Tryz.lays169 Tryz.Builder_Extra_169 B b l w h h2⟩
end Go.Proofs.YtccfklnmolggiaaGreatDoor
namespace Go.Proofs.YtccfklnmolggiaaGreatDoor
open Av RowKit Proofs.Tryz
theorem ApS{g:Std}{f:FuncId}{args:LY}{r:AV}(vs:List Value)(v:Value)(hb:AaB prog f=true)(ha:∀ h vs',RL h Lf0 true vs' args->vs'=vs)(hr:∀ h,RV h Lf0 true v r)
  (H:∀ w,ArZ g w->Calls prog f vs.toArray w fun e w'=>e=.returned v/\Same w w'):PcH prog g f args (· = r):=by
 refine⟨hb,fun h w vs' hg hm hv=>?_⟩;have:=ha h vs' hv;subst this;refine(H w hg).mono ?_;rintro e w' ⟨rfl,hs⟩;exact⟨v,r,h,rfl,rfl,fun b o v e=>⟨hs.cell (hm b o v e).1,(hm b o v e).2⟩,fun _ _ _ x=>x,fun b o e n=>(n e).elim,hs,hr h⟩
theorem AiW{f:FuncId}{args:LY}{r:AV}(vs:List Value)(v:Value)(hb:AaB prog f=true)(ha:∀ h vs',RL h Lf0 true vs' args->vs'=vs)(hr:∀ h,RV h Lf0 true v r)
  (H:∀ w,Calls prog f vs.toArray w fun e w'=>e=.returned v/\Same w w'):Pc prog f args (· = r):=by
 refine⟨hb,fun h w vs' hm hv=>?_⟩;have:=ha h vs' hv;subst this;refine(H w).mono ?_;rintro e w' ⟨rfl,hs⟩;exact⟨v,r,h,rfl,rfl,fun b o v e=>⟨hs.cell (hm b o v e).1,(hm b o v e).2⟩,fun _ _ _ x=>x,fun b o e n=>(n e).elim,hs,hr h⟩
theorem rv_str{h:Mem}{v:Value}{s:LU}(r:RV h Lf0 true v (.str s)):v=.string ⟨s.toArray⟩:=by cases r<;>grind
theorem A4W{h:Mem}{v:Value}{k:IntKind}{n:Int}(r:RV h Lf0 true v (.int k n)):v=.int k n:=by cases r<;>grind
theorem AbY(s p:LU):∀ h vs',RL h Lf0 true vs' [.str s,.str p]->vs'=[.string ⟨s.toArray⟩,.string ⟨p.toArray⟩]:=by
 intro h vs' r
 cases r with|cons r1 r=>cases r with|cons r2 r=>cases r<;>grind[rv_str]
theorem AiX(s p:LU):Pc prog 73 [.str s,.str p] (· = .tup [.str (Lib.trimPrefix s p),.bool (Lib.hasPrefix s p)]) :=
 AiW [_,_] (.tuple #[.string ⟨(Lib.trimPrefix s p).toArray⟩,.bool (Lib.hasPrefix s p)]) hB73 (AbY s p) (fun h=>.tup [_,_] [_,_] (.cons (.str _) (.cons (.bool _) .nil)))
  fun w=>(Any.strings_CutPrefix Tryz.lays103 ⟨s.toArray⟩ ⟨p.toArray⟩ w).mono fun e w' ⟨h1,h2⟩=>⟨h1,h2▸.refl w⟩
theorem AcP(s p:LU):Pc prog 63 [.str s,.str p] (· = .bool (Lib.hasPrefix s p)) :=
 AiW [_,_] (.bool (Lib.hasPrefix s p)) hB63 (AbY s p) (fun h=>.bool _) fun w=>(Any.strings_HasPrefix Tryz.lays99 ⟨s.toArray⟩ ⟨p.toArray⟩ w).mono fun e w' ⟨h1,h2⟩=>⟨h1,h2▸.refl w⟩
theorem AdR(s p:LU)(hs:s.length<=9223372036854775807):Pc prog 85 [.str s,.str p] (· = .bool (Lib.hasSuffix s p)) :=
 AiW [_,_] (.bool (Lib.hasSuffix s p)) hB85 (AbY s p) (fun h=>.bool _) fun w=>(Any.strings_HasSuffix Tryz.lays100 ⟨s.toArray⟩ ⟨p.toArray⟩ w hs).mono fun e w' ⟨h1,h2⟩=>⟨h1,h2▸.refl w⟩
theorem AsG(s p:LU)(hs:s.length<4611686018427387904):Pc prog 187 [.str s,.str p] (· = .int .i64 (Lib.lastIndex s p)) :=
 AiW [_,_] (.int .i64 (Lib.lastIndex s p)) hB187 (AbY s p) (fun h=>.int _ _) fun w=>(Any.strings_LastIndex Tryz.lays148 ⟨s.toArray⟩ ⟨p.toArray⟩ hs w).mono fun e w' ⟨h1,h2⟩=>⟨h1,h2▸.refl w⟩
theorem AiY(s:LU)(c:Int):Pc prog 104 [.str s,.int .u8 c] (· = .int .i64 (Lib.indexByte s c.toNat.toUInt8)) :=
 AiW [.string ⟨s.toArray⟩,.int .u8 c] (.int .i64 (Lib.indexByte s c.toNat.toUInt8)) hB104 (fun h vs' r=>by cases r with|cons r1 r=>cases r with|cons r2 r=>cases r; rw[rv_str r1,A4W r2]) (fun h=>.int _ _)
  fun w=>(Any.strings_IndexByte Tryz.lays137 ⟨s.toArray⟩ c w).mono fun e w' ⟨h1,h2⟩=>⟨h1,h2▸.refl w⟩
theorem AiZ{S:Std}(hS:LibOk S)(s p:LU)(hs:s.length<4294967281):PcH prog S 86 [.str s,.str p] (· = .bool (Lib.contains s p)) :=
 ApS [_,_] (.bool (Lib.contains s p)) hB86 (AbY s p) (fun h=>.bool _) fun w H=>(Any.strings_Contains Tryz.lays144 ⟨s.toArray⟩ ⟨p.toArray⟩ _ w hs (hS.cell.choose_spec w H)).mono fun e w' ⟨h1,h2⟩=>⟨h1,h2▸.refl w⟩
theorem A1A(w:World):∀ n,Same w (w.drewN n):=fun n=>⟨rfl,rfl,⟨rfl,trivial⟩,lab _,fun _ _=>rfl⟩
theorem A4X{S:Std}(hS:LibOk S)(s p:LU)(hs:s.length<4294967281):PcH prog S 186 [.str s,.str p] (· = .tup [.str (Lib.cut s p).1,.str (Lib.cut s p).2.1,.bool (Lib.cut s p).2.2]) :=
 ApS [_,_] (.tuple #[.string ⟨(Lib.cut s p).1.toArray⟩,.string ⟨(Lib.cut s p).2.1.toArray⟩,.bool (Lib.cut s p).2.2]) hB186 (AbY s p) (fun h=>.tup [_,_,_] [_,_,_] (.cons (.str _) (.cons (.str _) (.cons (.bool _) .nil))))
  fun w H=>(Any.strings_Cut Tryz.lays145 ⟨s.toArray⟩ ⟨p.toArray⟩ _ w hs (hS.cell.choose_spec w H)).mono fun e w' ⟨h1,n,h2⟩=>⟨h1,h2▸A1A w n⟩
def splitL(s p:LU):List LU:=(Lib.splitB ⟨p.toArray⟩ 0 (Lib.countB ⟨s.toArray⟩ ⟨p.toArray⟩) ⟨s.toArray⟩).map (·.data.toList)
theorem A4Y{S:Std}(hS:LibOk S)(s p:LU)(hs:s.length<4294967281)(hp:1<=p.length):PcH prog S 71 [.str s,.str p] (· = .fz 1 (splitL s p |>.map .str)):=by
 refine⟨hB71,fun h w vs' hg hm hv=>?_⟩;have:=AbY s p h vs' hv;subst this;refine(Any.strings_Split Tryz.lays146 (by kernel_rfl) ⟨s.toArray⟩ ⟨p.toArray⟩ _ w hs (hS.cell.choose_spec w hg) hp).mono ?_;rintro e w' ⟨rfl,rfl⟩;have hlen:=Lib.splitB_all ⟨p.toArray⟩ hp 0 _ ⟨s.toArray⟩ rfl;generalize hL:Lib.splitB ⟨p.toArray⟩ 0 (Lib.countB ⟨s.toArray⟩ ⟨p.toArray⟩) ⟨s.toArray⟩=L at hlen |-;have hsl:splitL s p=L.map (·.data.toList):=by rw[splitL,hL]
 have hval:L.map Value.string=(splitL s p).map sval:=by
  rw[hsl,List.map_map]; rfl
 rw[hval,<- hlen,show L.length=(splitL s p).length by rw[hsl]; simp];have h1:∀ v∈(splitL s p).map sval,v.oneCell'=true:=by intro v hv; obtain⟨x,_,rfl⟩:=List.mem_map.1 hv; rfl
 have hmine:Mine h (fun _=>none) [] w:=⟨hm,fun id blk e=>by simp at e,fun _ _=>rfl,fun i j g t t' e=>by simp at e,fun i g t e=>by simp at e⟩;obtain⟨m2,l2⟩:=hmine.freezeNew ((splitL s p).map sval) 9 h1;refine⟨_,_,Mem.add h w.heap.size ((splitL s p).map sval),rfl,rfl,m2.mem,l2.hle,fun b o e n=>?_,.alloc w _,?_⟩
 .rcases l2.hnew b o e n with⟨j,t,hj⟩|hs
  .cases hj
  .exact hs
 .have:=RV.fz (h:=Mem.add h w.heap.size ((splitL s p).map sval)) (Lf:=Lf0) (fl:=true) w.heap.size 0 (splitL s p).length 1 ((splitL s p).map .str) ((splitL s p).map sval) ?_ (by simp[cellsOf]) ?_ (by simp)
  .simpa using this
  .rw [AkW]
   generalize Mem.add h w.heap.size ((splitL s p).map sval)=hh;generalize splitL s p=z
   induction z with
   | nil=>exact .nil
   | cons x z ih=>exact .cons (.str x) ih
  .intro k v hv
   simp only[Mem.add,lau,if_true];exact hv
attribute [go_sem ↓] Go.Av.BfY Go.Av.BaT Go.Av.BaV Go.Av.A4E Go.Av.A4S Go.Av.A0Y Go.Av.A4T Go.Av.A0Z
attribute [go_sem] Go.Av.run Go.Av.cont Go.Av.br Go.Av.dbr Go.Av.dx Go.Av.dxc Go.Av.dgrd Go.Av.dyld Go.Av.dres Go.Av.dcall Go.Av.calm Go.Av.AgL Go.Av.AxS Go.Av.step1 Go.Av.opN Go.Av.grdN Go.Av.resN Go.Av.A4C Go.Av.BfX Go.Av.BaS Go.Av.AeD Go.Av.dOk Go.Av.xop Go.Av.xbin Go.Av.xint Go.Av.ArD Go.Av.xstr Go.Av.A9Q Go.Av.A2V Go.Av.xnot Go.Av.xneg Go.Av.AgW Go.Av.xpart Go.Av.xpartOk Go.Av.ArF Go.Av.AkC Go.Av.AkB Go.Av.xnew Go.Av.xbox Go.Av.AgX Go.Av.AdB Go.Av.xptrAddIf Go.Av.AcA Go.Av.A2W Go.Av.xload Go.Av.putCells Go.Av.reElem Go.Av.AuV Go.Av.AxR Go.Av.A9S Go.Av.BeY Go.Av.xlen Go.Av.AuW Go.Av.A2Z Go.Av.AoT Go.Av.ArG Go.Av.cut Go.Av.rep Go.Av.AdG Go.Av.AcO Go.Av.isRow Go.Av.elemD Go.Av.isU8 Go.Av.ev Go.Av.evs Go.Av.evp Go.Av.put Go.Av.get Go.Av.AdU Go.Av.yldD Go.Av.yldV Go.Av.ApJ Go.Av.args0 Go.Av.cellsOf lav lba decide_true decide_false lao lbu List.getElem?_cons_zero List.getElem?_cons_succ List.getElem?_nil List.getD_cons_zero List.getD_cons_succ List.getD_nil lbs List.set_cons_succ laf lar las lbm lbg laz List.all_nil lah laq lcb List.take_zero List.drop_succ_cons List.drop_zero lbw lbn lbo Bool.and_false Bool.false_and Go.Av.one Go.Av.frozen lbi true_and and_true forall_const false_implies implies_true and_self lca Option.map_none lau Nat.add_zero Nat.zero_mul Nat.mul_one Nat.one_mul Int.toNat_zero ne_eq not_false_eq_true not_true_eq_false Bool.true_eq_false lan List.toList_toArray Go.Av.inr Go.Av.byteOf Go.Av.AdF decide_eq_decide Bool.not_true Bool.not_false lbr Bool.or_true Bool.true_or Bool.or_false Bool.false_or ge_iff_le gt_iff_lt and_assoc Bool.decide_eq_true lbx lbd bne_iff_ne bne_self_eq_false if_true if_false lac lbj Bool.and_eq_false_imp Bool.or_eq_false_iff Bool.not_eq_false' Go.Av.has Option.isSome_some Option.isSome_none Int.toNat_natCast Int.cast_ofNat_Int lak Go.Av.A0L Go.Av.xapp Go.Av.A9U Go.Av.A9T Go.Av.A3B Go.Av.AnE Go.Av.A3A Go.Av.srcB Go.Av.AnD Go.Av.AbS Go.Av.xcut Go.Av.A9W Go.Av.A9X Go.Av.A9Y Go.Av.A9Z Go.Av.BeZ Go.Av.cutL Go.Av.loOf Go.Av.hiOf Go.Av.evo Go.Av.BaB Go.Av.AkD Go.Av.xmax Go.Av.ArH Go.Av.A3D Go.Av.A3C Go.Av.xnil Go.Av.BfA Go.Av.BaA Go.Av.ixOf Go.Av.AkE Go.Av.AuX List.getElem?_toArray Go.Av.ArE Go.Av.AgG Go.Av.AdV Go.Av.BdT Go.Av.A3E Go.Av.BaC Go.Av.A3F Go.Av.AkF Go.Av.AeZ Go.Av.keyEq Go.Av.mfind Go.Av.AoS Go.Av.xeqs Go.Av.AuU Go.Av.eqFs Go.Av.eqFN Go.Av.eqF1 Go.Av.bothB Go.Av.AaX Go.Av.ArI Go.Av.AxV Go.Av.AxT Go.Av.A2X Go.Av.BfF Go.Av.BfG Go.Av.BfH Go.Av.BfI Go.Av.BfJ Go.Av.dxi Go.Av.dxic Go.Av.dbri Go.Av.rix Go.Av.dck Go.Av.reader Go.Av.blind Go.Av.opOk Go.Av.refOk Go.Op.operands Go.Call.operands List.contains_cons List.contains_nil Go.Av.dxg Go.Av.dxgc Go.Av.dbrg List.lookup_cons List.lookup_nil Go.Av.A9R Go.Av.BeX Go.Av.AdY Go.Av.AcV Go.Av.mfindS Go.Av.BfB Go.Av.A3G Go.Av.AxU Go.Av.AoU Go.Av.AoV Go.Av.AoW Go.Av.AoX Go.Av.AoY Go.Av.AuY Go.Av.AxX Go.Av.AuZ Go.Av.AvA Go.Av.AxY Go.Av.frozen0 Go.Av.isI Go.Av.A9V Go.Av.xcap Go.Av.A2Y Go.Av.AeW Go.Av.AcU Go.Av.mfindT Go.Av.eqLs Go.Av.A3H Go.Av.AxW Go.Av.A3I Go.Av.BfC Go.Av.BfD Go.Av.BfE Go.Av.xdel Go.Av.A3J Go.Av.liveK ts2 underlying2 ts3 tb3 za3 underlying3 ts4 tb4 zv4 zk4 za4 underlying4 ts5 tb5 za5 underlying5 fl7 fl8 ts9 tb9 za9 underlying9 ts12 underlying12 fl13 fl14 fl18 fl19 ts21 underlying21 ts22 underlying22 ts24 fl24 underlying24 ts25 za25 fl25 underlying25 ts26 underlying26 ts27 fl27 underlying27 ts28 za28 fl28 underlying28 ts30 underlying30 ts34 underlying34 ts44 tb44 za44 underlying44 ts45 fl45 underlying45 ts46 tb46 za46 fl46 underlying46 ts56 underlying56 ts57 fl57 underlying57 ts58 tb58 za58 fl58 underlying58 ts61 underlying61 ts62 fl62 underlying62 ts63 za63 fl63 underlying63 ts72 fl72 underlying72 ts73 tb73 za73 fl73 underlying73 ts78 underlying78 ts81 underlying81 ts92 underlying92 ts95 underlying95 ts100 underlying100 ts103 tb103 za103 underlying103 ts107 underlying107 ts108 fl108 underlying108 ts109 za109 fl109 underlying109 ts113 underlying113 ts118 fl118 underlying118 ts119 za119 fl119 underlying119 ts120 tb120 za120 underlying120 ts121 fl121 underlying121 ts122 tb122 za122 fl122 underlying122 ts128 fl128 lf128 underlying128 ts129 za129 fl129 lf129 underlying129 ts142 fl142 underlying142 ts143 tb143 za143 fl143 underlying143 ts150 underlying150 ts165 underlying165 ts172 underlying172 ts174 underlying174 ts195 underlying195 ts196 underlying196 ts200 underlying200 fl220 fl221 fl228 fl229 ts234 fl234 underlying234 ts235 fl235 underlying235 fl241 fl242 fl244 fl245 fl247 fl248 fl250 fl251 ts255 fl255 underlying255 ts256 fl256 underlying256 ts260 underlying260 ts261 underlying261 ts263 underlying263 ts264 underlying264 ts265 fl265 underlying265 ts266 fl266 underlying266
attribute [go_sem] ntmps3 ntmps4 ntmps5 ntmps6 ntmps7 ntmps8 ntmps9 ntmps10 ntmps11 ntmps12 ntmps13 ntmps14 ntmps15 ntmps16 ntmps17 ntmps18 ntmps19 ntmps20 ntmps22 ntmps23 ntmps24 ntmps25 ntmps26 ntmps27 ntmps28 ntmps29 ntmps30 ntmps31 ntmps32 ntmps33 ntmps34 ntmps35 ntmps36 ntmps37 ntmps38 ntmps39 ntmps40 ntmps41 ntmps42 ntmps43 ntmps44 ntmps45 ntmps46 ntmps47 ntmps48 ntmps49 ntmps50 ntmps52 ntmps53 ntmps54 ntmps55 ntmps56 ntmps57 ntmps58 ntmps59 ntmps60 ntmps61 ntmps62 ntmps64 ntmps65 ntmps67 ntmps68 ntmps69 ntmps70 ntmps72 ntmps74 ntmps75 ntmps76 ntmps79 ntmps80 ntmps81 ntmps82 ntmps83 ntmps84 ntmps87 ntmps88 ntmps89 ntmps91 ntmps92 ntmps93 ntmps94 ntmps95 ntmps96 ntmps97 ntmps98 ntmps99 ntmps100 ntmps101 ntmps102 ntmps103 ntmps105 ntmps107 ntmps108 ntmps109 ntmps110 ntmps111 ntmps113 ntmps114 ntmps115 ntmps118 ntmps120 ntmps124 ntmps125 ntmps126 ntmps127 ntmps129 ntmps130 ntmps138 ntmps139 ntmps140 ntmps141 ntmps142 ntmps143 ntmps150 ntmps151 ntmps154 ntmps155 ntmps156 ntmps167 ntmps176 ntmps188 ntmps205 ntmps217
attribute [go_sem] Nat.reduceAdd Nat.reduceMul Nat.reduceSub Nat.reduceBEq Nat.reduceLT Nat.reduceLeDiff reduceIte reduceCtorEq Int.reduceToNat Int.reduceLE Int.reduceLT Int.reduceNe Int.reduceMul Int.reduceAdd Int.reduceSub Int.reduceDiv Int.reduceMod Int.reduceEq Int.reduceGE Int.reduceGT Int.reduceNeg Int.reduceBEq Int.reduceBNe Nat.reduceEqDiff
def digI(n:Int):Bool:=decide (n>=48)&&decide (n<=57)
def capI(n:Int):Bool:=decide (n>=65)&&decide (n<=90)
theorem AcJ(n:Int):Pc prog 62 [.int .u8 n] (· = .bool (digI n)):=by
 refine AbG (AaZ func62 rfl ntmps62 hB62 (by simp) fun h ρ w=>go rfl 200 ?_)
 by_cases h1:n>=48
 .have d1:decide (n>=48)=true:=by simpa using h1
  simp only[go_sem,d1];exact aret [2] rfl ⟨by simp[resV,Av.get,digI,h1],rfl⟩
 .have d1:decide (n>=48)=false:=by simpa using h1
  simp only[go_sem,d1];exact aret [2] rfl ⟨by simp[resV,Av.get,digI,h1],rfl⟩
theorem AaO(n:Int):Pc prog 67 [.int .u8 n] (· = .bool (capI n)):=by
 refine AbG (AaZ func67 rfl ntmps67 hB67 (by simp) fun h ρ w=>go rfl 200 ?_)
 by_cases h1:n>=65
 .have d1:decide (n>=65)=true:=by simpa using h1
  simp only[go_sem,d1];exact aret [2] rfl ⟨by simp[resV,Av.get,capI,h1],rfl⟩
 .have d1:decide (n>=65)=false:=by simpa using h1
  simp only[go_sem,d1];exact aret [2] rfl ⟨by simp[resV,Av.get,capI,h1],rfl⟩
def okB(c:UInt8):Bool:=!(decide ((c.toNat:Int)<32))&&!(decide ((c.toNat:Int)>126))
def plainL(s:LU):Bool:=s.all okB&&(!Lib.hasPrefix s [32]&&(!Lib.hasSuffix s [32]&&!Lib.contains s [32,32]))
theorem AbA{α:Type}{p:α->Bool}{s:List α}{i:Nat}(h:i<s.length)(h1:(s.take i).all p=true)(h2:p s[i]=true):(s.take (i+1)).all p=true:=by
 rw[lal h,List.all_append,h1]
 simpa using h2
theorem AcQ{α:Type}{p:α->Bool}{s:List α}{i:Nat}(h:i<s.length)(h2:p s[i]=false):s.all p=false:=by
 rw[List.all_eq_false];exact⟨s[i],lai h,by simp[h2]⟩
theorem AcF{S:Std}(hS:LibOk S)(s:LU)(hs:s.length<1000000):PcH prog S 47 [.str s] (· = .bool (plainL s)):=by
 refine AbW (AdH func47 rfl ntmps47 hB47 (by simp) fun h ρ w hg=>go rfl 200 ?_);simp only[go_sem];refine AaI (ι:=Nat) (fun i=>s.length-i) (fun i=>[(6,.int .i64 i),(5,.int .i64 s.length),(0,.str s)]) (fun _=>[]) (fun i=>i<=s.length/\(s.take i).all okB=true) 0 ⟨by omega,by simp⟩ ?_ ?_
 .refine Lo ?_
  simp only[go_sem]
 .rintro i ⟨g1,g2⟩ J hJ
  refine go rfl 200 ?_
  by_cases hi:(i:Int)<s.length
  .have hil:i<s.length:=by omega
   have hgd:s.getD i 0=s[i]:=by simp[List.getD,hil]
   by_cases hc1:((s[i].toNat:Int)<32)
   .have d1:decide ((s[i].toNat:Int)<32)=true:=by simpa using hc1
    simp only[go_sem,hi,hgd,d1];refine⟨by omega,aret [2] rfl ⟨?_,rfl⟩⟩
    simp[resV,Av.get,plainL,AcQ hil (p:=okB) (by simp[okB]; omega)]
   .have d1:decide ((s[i].toNat:Int)<32)=false:=by simpa using hc1
    by_cases hc2:((s[i].toNat:Int)>126)
    .have d2:decide ((s[i].toNat:Int)>126)=true:=by simpa using hc2
     simp only[go_sem,hi,hgd,d1,d2];refine⟨by omega,by omega,aret [2] rfl ⟨?_,rfl⟩⟩
     simp[resV,Av.get,plainL,AcQ hil (p:=okB) (by simp[okB]; omega)]
    .have d2:decide ((s[i].toNat:Int)>126)=false:=by simpa using hc2
     simp only[go_sem,hi,hgd,d1,d2];rw[ic i]
     repeat refine ao ?_
     refine ainv (hJ (i+1) ⟨by omega,AbA hil g2 (by simp[okB]; omega)⟩ (by omega)) (Lo ?_);simp only[go_sem]
  .simp only [go_sem,hi]
   have hall:s.all okB=true:=by rw[<- g2,lag (by omega)]
   refine AcH (AcP s [32]) rfl rfl rfl (go rfl 200 ?_)
   cases e1:Lib.hasPrefix s [32]with
   | true =>
    simp only[go_sem];refine aret [2] rfl ⟨?_,rfl⟩
    simp[resV,Av.get,plainL,e1]
   | false =>
    simp only[go_sem];refine AcH (AdR s [32] (by omega)) rfl rfl rfl (go rfl 200 ?_)
    cases e2:Lib.hasSuffix s [32]with
    | true =>
     simp only[go_sem];refine aret [2] rfl ⟨?_,rfl⟩
     simp[resV,Av.get,plainL,e2]
    | false =>
     simp only[go_sem];refine ApK hg (AiZ hS s [32,32] (by omega)) rfl rfl rfl (go rfl 200 ?_);simp only[go_sem];refine aret [2] rfl ⟨?_,rfl⟩
     simp[resV,Av.get,plainL,e1,e2,hall]
def okP(o:LU)(c:UInt8):Bool:=capI c.toNat||(digI c.toNat||(((c.toNat:Int)==32)||!(decide (Lib.indexByte o c<0))))
def properL(s:LU)(most:Int)(o:LU):Bool :=
 !(decide ((s.length:Int)<1))&&(!(decide ((s.length:Int)>most))&&(capI (s.getD 0 0).toNat&&(plainL s&&s.all (okP o))))
theorem AnL{S:Std}(hS:LibOk S)(s:LU)(most:Int)(o:LU)(hs:s.length<1000000):PcH prog S 54 [.str s,.int .i64 most,.str o] (· = .bool (properL s most o)):=by
 refine zqIN func54 rfl fun h ρ w hg=>?_
 by_cases h1:(s.length:Int)<1
 .have d1:decide ((s.length:Int)<1)=true:=by simpa using h1
  simp only[go_sem,d1];exact aret [6] rfl ⟨by simp[resV,Av.get,properL,h1],rfl⟩
 have d1:decide ((s.length:Int)<1)=false:=by simpa using h1
 by_cases h2:(s.length:Int)>most
 .have d2:decide ((s.length:Int)>most)=true:=by simpa using h2
  simp only[go_sem,d1,d2];exact aret [6] rfl ⟨by simp[resV,Av.get,properL,h2],rfl⟩
 have d2:decide ((s.length:Int)>most)=false:=by simpa using h2
 simp only[go_sem,d1,d2];have hpos:0<s.length:=by omega
 refine⟨by omega,?_⟩;refine zpN (AaO _) ?_
 cases e1:capI (s.getD 0 0).toNat with
 | false =>
  simp only[go_sem];exact aret [6] rfl ⟨by simp only[resV,Av.get,properL,e1]; simp,rfl⟩
 | true =>
 simp only[go_sem];refine zqN hg (AcF hS s hs) ?_
 cases e2:plainL s with
 | false =>
  simp only[go_sem];exact aret [6] rfl ⟨by simp only[resV,Av.get,properL,e2]; simp,rfl⟩
 | true =>
 simp only[go_sem];have hval:properL s most o=s.all (okP o):=by simp only[properL,d1,d2,e1,e2]; simp
 rw[hval];refine AaI (ι:=Nat) (fun i=>s.length-i) (fun i=>[(30,.int .i64 i),(29,.int .i64 s.length),(0,.str s),(2,.str o)]) (fun _=>[]) (fun i=>i<=s.length/\(s.take i).all (okP o)=true) 0 ⟨by omega,by simp⟩ ?_ ?_
 .refine Lo ?_
  simp only[go_sem]
 .rintro i ⟨g1,g2⟩ J hJ
  apply zgN
  by_cases hi:(i:Int)<s.length
  .have hil:i<s.length:=by omega
   have hgd:s.getD i 0=s[i]:=by simp[List.getD,hil]
   simp only[go_sem,hi,hgd];refine⟨by omega,?_⟩;refine zpN (AaO _) ?_
   cases c1:capI (s[i].toNat:Int)with
   | true =>
    simp only[go_sem];rw[ic i]
    repeat refine ao ?_
    refine ainv (hJ (i+1) ⟨by omega,AbA hil g2 (by simp only[okP,c1]; rfl)⟩ (by omega)) (Lo ?_);simp only[go_sem]
   | false =>
    simp only[go_sem,hi,hgd];refine⟨by omega,?_⟩;refine zpN (AcJ _) ?_
    cases c2:digI (s[i].toNat:Int)with
    | true =>
     simp only[go_sem];rw[ic i]
     repeat refine ao ?_
     refine ainv (hJ (i+1) ⟨by omega,AbA hil g2 (by simp only[okP,c1,c2]; rfl)⟩ (by omega)) (Lo ?_);simp only[go_sem]
    | false =>
     cases c3:((s[i].toNat:Int)==32)with
     | true =>
      have c3':((s[i].toNat:Int) != 32)=false:=by simpa using c3
      simp only[go_sem,hi,hgd,c3'];rw[ic i]
      repeat refine ao ?_
      refine ainv (hJ (i+1) ⟨by omega,AbA hil g2 (by simp only[okP,c1,c2,c3]; rfl)⟩ (by omega)) (Lo ?_);simp only[go_sem]
     | false =>
      have c3':((s[i].toNat:Int) != 32)=true:=by simpa using c3
      simp only[go_sem,hi,hgd,c3'];refine⟨by omega,by omega,?_⟩;refine zpN (AiY o (s[i].toNat:Int)) ?_;have hb:((s[i].toNat:Int)).toNat.toUInt8=s[i]:=by simp
      rw[hb]
      cases c4:decide (Lib.indexByte o s[i]<0)with
      | false =>
       simp only[go_sem,c4];rw[ic i]
       repeat refine ao ?_
       refine ainv (hJ (i+1) ⟨by omega,AbA hil g2 (by simp only[okP,c1,c2,c3,c4]; rfl)⟩ (by omega)) (Lo ?_);simp only[go_sem]
      | true =>
       simp only[go_sem,c4];refine aret [6] rfl ⟨?_,rfl⟩
       simp[resV,Av.get,AcQ hil (p:=okP o) (by simp only[okP,c1,c2,c3,c4]; rfl)]
  .simp only [go_sem,hi]
   have hall:s.all (okP o)=true:=by rw[<- g2,lag (by omega)]
   exact aret [6] rfl ⟨by simp[resV,Av.get,hall],rfl⟩
def isSetL(s:LU):Bool:=properL s 60 [39,46,45,47]&&(!Lib.contains s [32,45,32]&&!Lib.hasSuffix s [32,45])
theorem AlA{S:Std}(hS:LibOk S)(s:LU)(hs:s.length<1000000):PcH prog S 87 [.str s] (· = .bool (isSetL s)):=by
 refine zqIN func87 rfl fun h ρ w hg=>?_
 simp only[go_sem];refine zqN hg (AnL hS s 60 [39,46,45,47] hs) ?_
 cases e1:properL s 60 [39,46,45,47]with
 | false =>
  simp only[go_sem];exact aret [2] rfl ⟨by simp[resV,Av.get,isSetL,e1],rfl⟩
 | true =>
  simp only[go_sem];refine zqN hg (AiZ hS s [32,45,32] (by omega)) ?_
  cases e2:Lib.contains s [32,45,32]with
  | true =>
   simp only[go_sem];exact aret [2] rfl ⟨by simp[resV,Av.get,isSetL,e2],rfl⟩
  | false =>
   simp only[go_sem];refine zpN (AdR s [32,45] (by omega)) ?_;simp only[go_sem];exact aret [2] rfl ⟨by simp[resV,Av.get,isSetL,e1,e2],rfl⟩
