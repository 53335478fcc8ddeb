/- What the library's contracts on strings.Builder ask besides. -/
import Derived.Test.YtmhjbljckkgeoaaGreatDoorC11
import Derived.Lib.ItoaNum
import Derived.ChangeSame
import Derived.HandedShaped
import Derived.LaidMore
import Derived.Lay
import Derived.OpenShut
import Derived.ChangeSlices
import Derived.ProofKit
import Derived.Test.YtmhjbljckkgeoaaGreatDoorCards
import Derived.Test.YtmhjbljckkgeoaaGreatDoorTie
import Derived.Shelf.Vars
import Derived.LaidSub
import Derived.Lib.LaidTab
import Derived.Stop.LaidErr
set_option maxRecDepth 100000
set_option maxHeartbeats 2000000
namespace Go.Proofs
open Shelf Proofs.Tryz
theorem Tryz.Builder_Extra_169:Builder.Extra prog Tryz.lays169_ren:={
 sizeBuilder:=by kernel_rfl
 liesBuilder:=by kernel_rfl
 t5:=underlying5
 a5:=Tryz.isAgg5
 z5:=Tryz.sizeOf5
 v5:=Tryz.zeroValue5
 infoByte:=by kernel_rfl
 cellsByte:=by kernel_rfl
 sizeByte:=by kernel_rfl
 neB5:=by decide }
theorem Tryz.Builder_Extra_105:Builder.Extra prog Tryz.lays105_ren:={
 sizeBuilder:=by kernel_rfl
 liesBuilder:=by kernel_rfl
 t5:=underlying5
 a5:=Tryz.isAgg5
 z5:=Tryz.sizeOf5
 v5:=Tryz.zeroValue5
 infoByte:=by kernel_rfl
 cellsByte:=by kernel_rfl
 sizeByte:=by kernel_rfl
 neB5:=by decide }
end Go.Proofs
set_option linter.all false
namespace Go.Proofs.YtmhjbljckkgeoaaGreatDoor
open Av RowKit
structure LibOk(S:Std):Prop where
 maxlen:∃ m cs t z,S 0=some (.cells cs t z)/\cs[0]? = some (.int .i64 m)
 pow10:∃ t z,S 5=some (.cells (Lib.pow10Tab.map fun z=>Value.int .u64 z).toArray t z)
 syn:∃ te pe t z,S 1=some (.cells #[.iface te pe] t z)
theorem LibOk.cell{S:Std}(hS:LibOk S):∃ m,∀ w,AvV S w->w.cell? ⟨Tryz.lays144_ren.g 1,0,none⟩=some (.int .i64 m):=by
 obtain⟨m,cs,t,z,h,h0⟩:=hS.maxlen;exact⟨m,fun w hw=>(Lib.cell_of_heap (hw _ _ h) 0).trans h0⟩
end Go.Proofs.YtmhjbljckkgeoaaGreatDoor
namespace Go.Av
open RowKit WideShapes ChangeShapes
variable [Tr]
theorem Same.below{W W':World}(s:Same W W'):Below W.heap.size W W':=⟨s.os,s.tape,s.output.1,s.size,s.block⟩
theorem BrC{h:Mem}{v:Value}{b:Bool}(r:RV h Lf0 true v (.bool b)):v=.bool b:=by
 cases r<;>grind
section
variable {H:Type}{enc:TypeId×Value->H}{P:Program}
theorem A0J{f:Func}{s:ChangeSpec}{apart fresh handsOn again:Bool}{W W':World}{args:Array Value}{v:Value}{ds gs:List (DataW H)}{before pa pv:List MemPlace}
  (hW:DataW.Whole enc P f.params.toList s.vars apart W args.toList ds gs before)
  (hres:∀ (b:Nat) (sp:Nat->Bool) (hd:Bool),DataW.TrodAll enc P W' b sp hd f.resultTypes.toList (v.resultList f.resultTypes.size) (s.fn H (ds++gs)).results [])
  (hargs:∀ sp:Nat->Bool,(∀ p∈before,sp p.block=true)->DataW.TrodAll enc P W' 0 sp true f.params.toList args.toList (s.fn H (ds++gs)).args pa)
  (hvars:∀ sp:Nat->Bool,(∀ p∈before,sp p.block=true)->DataW.TrodVars enc P W' sp s.vars (s.fn H (ds++gs)).vars pv)
  (hps:before=pa++pv) (hs:Same W W')
  (hok:∀ (j:Nat) (t:TypeId) (r:Value),f.resultTypes[j]? = some t->(v.resultList f.resultTypes.size)[j]? = some r->Value.okWide P W' .any 0 t r) :
  s.post enc P f apart fresh handsOn again W args v W':=by
 have hb:=hs.below;have hlt:=fun p hp=>hW.lt p hp
 have hold:=fun p hp=>decide_eq_true (hlt p hp)
 refine⟨ds,gs,before,[],pa,pv,hW,hres _ _ _,hargs _ hold,hvars _ hold,World.keptBut_mono (fun p hp=>⟨hp,?_⟩) (hb.frame (·∈before)),fun _=>?_⟩
 .grind
 .obtain ⟨_,_,_,_,_,hz,hn⟩:=hW
  refine⟨hok,_,_,([]++pa)++pv,⟨[]++pa,pv,trodAll_append (hargs _ (fun _ _=>rfl)) (hres _ _ _),hvars _ (fun _ _=>rfl),rfl,?_,?_⟩,?_⟩
  .intro b off hp
   have hin:MemPlace.cell b off∈before:=by grind
   rw[hb.frozen (hlt _ hin)];exact hz b off hin
  all_goals grind
end
end Go.Av
namespace Go.Av
open RowKit WideShapes ChangeShapes
variable [Tr]
def full(W:World):Mem:=fun b o=>(W.cell? ⟨b,o,none⟩).filter (·.oneCell')
theorem BrD{W:World}{b o:Nat}{v:Value}(h:W.cell? ⟨b,o,none⟩=some v)(hv:v.oneCell'=true):full W b o=some v:=by grind[full]
theorem BrE{W:World}{b o:Nat}{v:Value}(h:full W b o=some v):W.cell? ⟨b,o,none⟩=some v/\v.oneCell'=true:=by
 grind[full,Option.filter_eq_some_iff]
theorem PcH.atW{P:Program}{g:Std}{f:FuncId}{args:LY}{b:Bool}(hc:PcH P g f args (· = .bool b)){W:World}{vs:List Value}(hg:AvV g W)(hv:RL (full W) Lf0 true vs args) :
  Calls P f vs.toArray W fun e W'=>e=.returned (.bool b)/\Same W W' :=
 (hc.2 (full W) W vs hg (fun _ _ _ e=>BrE e) hv).mono fun e W' ⟨v,r,h',e1,e2,_,_,_,hs,rv⟩=>by
  grind[BrC]
section
variable {H:Type}{enc:TypeId×Value->H}{P:Program}{t e:TypeId}{W:World}{base:Nat}{v:Value}{d:DataW H}{p:List MemPlace}
theorem BjU(ht:P.underlying t=some (.slice e))(he:P.underlying e=some (.int .i64))(hc:P.cellsOf e=1)(hval:Value.okWide P W .any base t v)(h0:DataW.Trod enc P W 0 (fun _=>true) true t v d p) :
  ∃ L:List Int,(∀ x∈L,(Lit.int .i64 x).wf=true)/\RV (full W) Lf0 true v (.fz 1 (L.map (.int .i64)))/\∀ W',Same W W'->∀ sp:Nat->Bool,(∀ x∈p,sp x.block=true)->DataW.Trod enc P W' 0 sp true t v d p:=by
 obtain⟨a0,len,cap,rfl⟩:=okWide_slice ht hval;obtain⟨fuel,hf⟩:=h0
 rcases Go.ChangeShapes.open_ints ht he hc hf with⟨hcs,hx⟩|⟨a,len',cap',zs,hcs,_,hl,hm,hz,hx,hcell,hwz⟩
 .obtain ⟨rfl,rfl,rfl⟩:=hcs
  obtain⟨rfl,rfl⟩:=hx;exact⟨[],by simp,.fznil 1,fun W' _ sp _=>shut_slice_nil ht⟩
 .obtain ⟨rfl,rfl,rfl⟩:=hcs
  obtain⟨rfl,rfl⟩:=hx;have hspot:a.spot=none:=by
   simp only[Value.okWide,ht,Cell.okWide,Cell.ok]at hval;exact hval.2.2.2.1
  obtain⟨b,off,spot⟩:=a;subst hspot;have hcell':∀ i,i<zs.length->W.cell? ⟨b,off+i,none⟩=some (.int .i64 (zs.getD i 0)):=fun i hi=>by grind[Go.WideShapes.add_plain]
  refine⟨zs.take len,fun x hx=>hwz x (lat hx),?_,fun W' hs sp hsp=>?_⟩
  .have:=RV.fz (h:=full W) (Lf:=Lf0) (fl:=true) b off cap 1 ((zs.take len).map (.int .i64)) ((zs.take len).map (.int .i64)) ?_ (fun x hx=>by obtain⟨z,_,rfl⟩:=List.mem_map.1 hx; rfl) ?_ (by grind)
   .grind
   .generalize zs.take len=l
    induction l with
    | nil=>exact .nil
    | cons x l ih=>exact .cons (.int _ _) ih
   .intro k u hu
    rw[lbw]at hu;obtain⟨z,hz1,rfl⟩:=Option.map_eq_some_iff.1 hu;have hk:k<len:=by
     grind
    refine BrD ?_ rfl<;>grind
  .have hcell2:=fun i hi=>hs.cell (hcell' i hi)
   refine⟨0+2,?_⟩;refine Go.ChangeShapes.shut_ints' 0 ht he hc (Nat.zero_le _) hl hm ?_ hcell2 hwz
   rcases Nat.eq_zero_or_pos zs.length with h0|h0
   .grind
   .have hb:sp b=true:=hsp (.cell b off) (by
     simp_all[MemPlace.row])
    grind
end
section
variable {H:Type}{enc:TypeId×Value->H}
theorem ApW{a:Assume}{C:Checked}{os:Os}{f:FuncId}{fn:Func}{s:ChangeSpec}{conds:List PathCond}{apart fresh handsOn again:Bool}{X:World->Array Value->Prop}
  (hX:∀ (w w':World) (args:Array Value),w.heap=w'.heap->X w args->X w' args)
  (own:ownKnob C.prog.godebug=none) (started:os.Started) (noInit:C.prog.inits.idxOf? f=none) (hfn:C.prog.funcs[f]? = some fn)
  (witness:∃ (w:World) (tape:Tape) (i:Input),w.os=os/\(w.forCall tape i).Shaped C.prog/\i.vars=[]/\Input.okWide C.prog (w.forCall tape i) .any w.heap.size f i /\
   ((s.pre enc C.prog fn conds apart (w.forCall tape i).memory i.args/\X (w.forCall tape i).memory i.args)/\sizedMet enc C.prog fn (OpenSpec.ofChange s) apart (w.forCall tape i).memory i.args)/\a.holds C.prog (lone (Frame.enter C.prog f i.args .normal) [] (w.forCall tape i)))
  (contract:∀ (W:World) (base:Nat) (args:Array Value) (ds gs:List (DataW H)) (before:List MemPlace),
   (∀ (j:Nat) t v,fn.params[j]? = some t->args[j]? = some v->Value.okWide C.prog W .any base t v) ->
   DataW.Whole enc C.prog fn.params.toList s.vars apart W args.toList ds gs before ->
   W.ShapedOpen C.prog->X W args ->
   Calls C.prog f args W fun e W'=>∃ v,e=.returned v/\s.post enc C.prog fn apart fresh handsOn again W args v W') :
  ReturnsInHanded a C os f .any (fun w args=>(s.pre enc C.prog fn conds apart w args/\X w args)/\sizedMet enc C.prog fn (OpenSpec.ofChange s) apart w args) (s.post enc C.prog fn apart fresh handsOn again):=by
 refine returnsInHanded_of_calls own started noInit witness ?_;intro w tape i _ hsh _ hok hpre hholds;obtain⟨_,_,_,fn',hfn',_,_,_,_,hval⟩:=hok;have e:=Option.some.inj (hfn'.symm.trans hfn);subst e;obtain⟨⟨⟨ds,gs,before,hw,hc⟩,hx⟩,hz⟩:=hpre;have hw':=DataW.Whole.of_heap (w':=w.forCall tape i) (by rfl) hw;refine(contract (w.forCall tape i) w.heap.size i.args ds gs before hval hw' hsh (hX _ _ _ (by rfl) hx)).mono fun e W' ⟨v,he,hp⟩=>?_<;>grind[ChangeSpec.post_blind]
end
end Go.Av
namespace Go.Proofs.YtmhjbljckkgeoaaGreatDoor
open Av RowKit ChangeShapes WideShapes ChangeAt Proofs.Tryz
theorem own:ownKnob prog.godebug=none:=by kernel_rfl
theorem c3:prog.cellsOf 3=1:=by kernel_rfl
def BbF(W:World):Std:=fun k=>if k<1000 then W.heap[k]? else none
theorem BvR(W:World):AvV (BbF W) W:=fun k o e=>by
 grind[BbF]
theorem AsL{P:Program}{W:World}{n:String}{g:Nat}{cs:Array Value}(hg:P.globalNamed n=some g)(h:W.var? P n=some cs):∃ t z,W.heap[g]? = some (.cells cs t z):=by
 grind[World.var?]
theorem AwA : "*" ++ "errors.errorString" = "*errors.errorString":=by decide
theorem BbG (u:TypeId) (h:prog.typeName? 3 u=some "*errors.errorString"):u=306 :=
 typeName_ptr_named (nm:= "errors.errorString") (by rw [AwA]; kernel_rfl) (by kernel_rfl) (by decide) u (by rw [AwA]; exact h)
theorem BjV:Rows.laid_internal_strconv_uint64pow10=Lib.tabData (H:=Unit) .u64 Lib.pow10Tab:=by kernel_rfl
theorem BvS{W:World}(h:W.ShapedOpen prog){laid:List (String×DataW Unit)}(hp:(laid.all fun x=>x.2.handleName?.isNone)=true)(hL:laidMetH prog laid W)
  (e1:laid.filter (fun x=>x.1 == "internal/strconv.uint64pow10")=[("internal/strconv.uint64pow10",Rows.laid_internal_strconv_uint64pow10)])
  (e2:laid.filter (fun x=>x.1 == "strconv.ErrSyntax")=[("strconv.ErrSyntax",Rows.laid_strconv_ErrSyntax)]):LibOk (BbF W):=by
 have h1:=hL.filter (fun x=>x.1 == "internal/strconv.uint64pow10");have h2:=hL.filter (fun x=>x.1 == "strconv.ErrSyntax");rw [e1,BjV] at h1;rw [e2] at h2;refine ⟨?_,?_,?_⟩
 .obtain ⟨zero,t,hz⟩:∃ zero t,((begin prog (fun _ _=>0) default).world.heap[0]?).bind Obj.row? = some (zero,t)/\zero.size=1/\prog.buildable t=true/\prog.cellTypes prog.depth t=some [t]/\prog.underlying t=some (.int .i64):=by
   refine⟨#[.int .i64 0],3,by kernel_rfl,by grind,by kernel_rfl,by kernel_rfl,by simp_all⟩
  obtain⟨m,hm⟩:=Go.Proofs.cell_of_shapedOpen_int h (of_decide_eq_true (by simp_all)) hz.1 hz.2.1 hz.2.2.1 hz.2.2.2.1 hz.2.2.2.2;unfold World.cell? at hm
  split at hm
  .rename_i cs t z hq
   exact⟨m,cs,t,z,hq,by grind⟩
  grind
 .have ht:=Lib.tabIs_of_head (g:=5) (by kernel_rfl) (by kernel_rfl) underlying317 underlying259 (by kernel_rfl) (by kernel_rfl) h1
  exact AsL (by kernel_rfl) ht
 .obtain ⟨a0,s0,hv0,-,-,-⟩:=laid_sentinel h2 (g:=1) (by kernel_rfl) (by kernel_rfl) underlying119 BbG underlying306 underlying308 rfl rfl underlying9 (by kernel_rfl) (by kernel_rfl)
  obtain⟨t,z,hh⟩:=AsL (by kernel_rfl) hv0;exact⟨_,_,t,z,hh⟩
end Go.Proofs.YtmhjbljckkgeoaaGreatDoor
namespace Go.Proofs.YtmhjbljckkgeoaaGreatDoor
open RowKit Lib Proofs.Tryz
open Go.Av (Fr rowOf BaT A0I)
theorem jb:∃ j,prog.info? 179=some j/\j.size=2:=Option.map_eq_some_iff.1 (show(prog.info? 179).map (·.size)=some 2 by kernel_rfl)
set_option maxRecDepth 100000 in
theorem BrF(b:Nat)(w:World)(h0:w.cell? ⟨b,0,none⟩=some (.pointer (some ⟨b,0,none⟩))) :
  Calls prog 202 #[.pointer (some ⟨b,0,none⟩)] w fun e w'=>e=.returned (.tuple #[])/\w'=w:=by
 obtain⟨j,hj,hjs⟩:=jb
 go_wp2
 rw[run_neq_ptr_same w _ underlying176 hj]
 go_wp2
 go_end0
 grind
set_option maxRecDepth 100000 in
theorem BjW(b:Nat)(w:World)(h0:w.cell? ⟨b,0,none⟩=some (.pointer none))(hsh:w.shape? b=some (179,2))(hfz:w.frozen? ⟨b,0,none⟩=false) :
  Calls prog 202 #[.pointer (some ⟨b,0,none⟩)] w fun e w'=>e=.returned (.tuple #[])/\w'=w.setCell ⟨b,0,none⟩ (.pointer (some ⟨b,0,none⟩)):=by
 obtain⟨j,hj,hjs⟩:=jb
 go_wp2
 rw[run_to_unsafe w ⟨b,0,none⟩ underlying176 underlying275 hj (by omega) hsh (Nat.zero_lt_succ 1)]
 go_wp2
 rw[run_callFunc_extern func260 (by kernel_rfl) (by kernel_rfl) (by kernel_rfl) (by kernel_rfl)];rw[run_noEscape]
 simp
 go_wp2
 rw[run_from_unsafe w ⟨b,0,none⟩ underlying275 underlying176 hj hsh (by kernel_rfl)]
 simp
 go_wp2
 go_end0
 grind
theorem cc(B b:Nat)(bs:List Value)(w:World)(h:IsBuilder 179 5 B b bs w):Calls prog 202 #[.pointer (some ⟨b,0,none⟩)] w fun e w'=>e=.returned (.tuple #[])/\BuilderAt 179 5 B b (.pointer (some ⟨b,0,none⟩)) bs w' /\
  Fr w w' b none/\w'.cell? ⟨b,1,none⟩=w.cell? ⟨b,1,none⟩:=by
 rcases h with h|h
 .refine (BjW b w h.cell0 h.shape h.frozen0).mono ?_
  rintro e w' ⟨rfl,rfl⟩;refine⟨rfl,h.used _,⟨rfl,rfl,rfl,by simp_all,fun k _ hk _=>heap_setCell_other w _ k _ hk⟩,World.cell?_setCell_other _ _ _ _ (by simp)⟩
 .refine (BrF b w h.cell0).mono ?_
  rintro e w' ⟨rfl,rfl⟩;exact⟨rfl,h,⟨rfl,rfl,rfl,lab _,fun _ _ _ _=>rfl⟩,rfl⟩
theorem AwB{w:World}{B:Nat}{v v':Value}{n:Nat}{xs:List Value}{s:ByteArray}{ty:TypeId}{w':World}{i:TypeInfo}(hi:prog.info? 5=some i)(hz:i.zero=some (.int .u8 0))(hsize:i.size=1)(hby:i.bytes=1)
  (hown:w.ownsRow B 5 1 v n xs) (h63:n+s.size<=maxLen) (hb:n+s.size<=140737488355328) (hB:B<=w.heap.size) (hr:(Builtin.append_ #[177,9] ty #[v,.string s]).run prog w=.ok v' w') :
  v'.ownBlock=none\/v'.ownBlock=v.ownBlock\/v'.ownBlock=some w.heap.size:=by
 obtain⟨v1,w1,hr1,_,_,h4⟩:=run_append_own_string w B 177 9 ty 5 i underlying177 underlying9 hi hz hsize hby v n xs hown s h63 hb hB
 rcases hown.2 with⟨rfl,rfl⟩|⟨g,cap,cur,rfl,hbg,hg,hnc,hcm,hcs,htake⟩
 .by_cases hm:s.size=0
  .grind
  .have h:=run_append_nil_string w 177 9 ty 5 i (.int .u8 0) underlying177 underlying9 hi hz s (by omega) (by omega) (by grind)
   rw[hr]at h;have:=(show v'=_/\w'=_ by simpa using h).1;rw[this]; exact .inr (.inr rfl)
 .by_cases hroom:n+s.size<=cap
  .have h:=run_append_room_string w 177 9 ty 5 i underlying177 underlying9 hi hsize g n cap cur hg s hroom (by omega)
   rw[hr]at h;have:=(show v'=_/\w'=_ by simpa using h).1;rw[this]; exact .inr (.inl rfl)
  .have h:=run_append_grow_string w 177 9 ty 5 i (.int .u8 0) underlying177 underlying9 hi hz ⟨g,0,none⟩ n cap xs (by grind) (hown.cells rfl) s (by omega) (by omega) (by rw[hby]; exact growslice_fits (by omega) (by omega))
   rw[hr]at h;have:=(show v'=_/\w'=_ by simpa using h).1;rw[this]; exact .inr (.inr rfl)
theorem AsM{w:World}{ops:Array Oper}{rest:List Oper}{o:Oper}{a:Act}{Q:Exit->Act->World->Prop}(hgd:o.guard=none)(sl x:Operand)
  (ho:o.op=.call { callee:=.builtin .append,args:=#[sl,x],argTypes:=#[177,9] }) (B:Nat) (i:TypeInfo) (hi:prog.info? 5=some i) (hz:i.zero=some (.int .u8 0)) (hsize:i.size=1) (hby:i.bytes=1)
  (v:Value) (n:Nat) (xs:List Value) (hs:a.eval sl=v) (hown:w.ownsRow B 5 1 v n xs) (s:ByteArray) (hx:a.eval x=.string s) (h63:n+s.size<=maxLen) (hb:n+s.size<=140737488355328) (hB:B<=w.heap.size)
  (h:∀ v' w',w'.ownsRow B 5 1 v' (n+s.size) (xs++strCells s)->w.grownBy w' v.ownBlock->(v'.ownBlock=none\/v'.ownBlock=v.ownBlock\/v'.ownBlock=some w.heap.size)->wpList prog ops Q rest (a.put o.dst v') w'):wpList prog ops Q (o::rest) a w:=by
 refine wpList_plain hgd fun K hK=>?_
 obtain⟨v',w',hr,h2,h3,_⟩:=run_append_own_string w B 177 9 o.type 5 i underlying177 underlying9 hi hz hsize hby v n xs hown s h63 hb hB;have hbk:=AwB hi hz hsize hby hown h63 hb hB hr;unfold Oper.wp execOp;simp only[ho,resolve,invoke,builtin,Sem.run_bind,Sem.run_pure,Result.andThen_ok,List.map_toArray,lak,lao,hs,hx,hr];exact hK _ _ (h v' w' h2 h3 hbk)
set_option maxRecDepth 100000 in
theorem wstr(B b:Nat)(bs:List Value)(s:ByteArray)(w:World)(h:IsBuilder 179 5 B b bs w)(hlen:bs.length+s.size<=140737488355328)(hBw:B<=w.heap.size) :
  Calls prog 139 #[.pointer (some ⟨b,0,none⟩),.string s] w fun e w'=>e=.returned (.tuple #[.int .i64 s.size,.nilIface])/\BuilderAt 179 5 B b (.pointer (some ⟨b,0,none⟩)) (bs++strCells s) w' /\
   Fr w w' b (rowOf w b)/\∀ r,rowOf w' b=some r->rowOf w b=some r\/w.heap.size<=r:=by
 obtain⟨i0,hi,hz0,hz1,hz2⟩:=info_parts Tryz.Builder_Extra_169.infoByte
 go_enter func139,ntmps139
 go_wp2_with (go_at_call 202; refine(cc B b bs _ h).mono ?_)
 rintro e w1 ⟨rfl,h1,hf,hc1⟩;obtain⟨hB,v,hbk,hown,hne⟩:=h1;have c1:w1.cell? ⟨b,1,none⟩=some v:=by rw[cell_of_heap hbk]; rfl
 have hrow:rowOf w b=v.ownBlock:=by grind[rowOf]
 clear hc1
 go_wp2_with (at_builtin; refine AsM rfl _ _ rfl B i0 hi hz0 hz1 hz2 _ _ _ rfl hown s rfl ?c3 ?c4 ?c5 ?_)
 case c3=>grind[maxLen]
 case c4=>omega
 case c5=>grind
 intro v' w2 hown' hgrow hblk;have hlt:b<w1.heap.size:=by
  grind
 have hb2:w2.heap[b]? = some (.cells #[.pointer (some ⟨b,0,none⟩),v] 179 (0,0)):=by
  rw[hgrow.block b hlt (fun e=>hne e.symm)];omega
 have d1:w2.cell? ⟨b,1,none⟩=some v:=by rw[cell_of_heap hb2]; rfl
 have f1:=frozen_of_heap hb2 1;obtain⟨ao,n',cap,rfl⟩:∃ ao n' cap,v'=.slice ao n' cap:=by
  rcases hown'.2 with⟨hv,_⟩|⟨g,cap,cur,hv,_⟩<;>grind
 go_wp2
 go_ret2
 refine⟨rfl,BuilderAt.put hB hb2 (by grind[strCells_length]) (by decide),?_⟩;have hw2:rowOf (w2.setCell ⟨b,1,none⟩ (.slice ao n' cap)) b=Value.ownBlock (.slice ao n' cap):=by
  grind[rowOf,World.cell?_setCell_same]
 rw[hrow];refine⟨⟨(hgrow.os.trans hf.os),(hgrow.tape.trans hf.tape),(hgrow.output.trans hf.output),by have:=hf.size; have:=hgrow.size; grind[World.setCell],fun k hk hkb hkr=>by
  rw[heap_setCell_other _ _ k _ hkb,hgrow.block k (by have:=hf.size; omega) hkr,hf.block k hk hkb (by simp)]⟩,fun r hr=>?_⟩
 rw[hw2]at hr
 rcases hblk with h|h|h
 .grind
 .grind
 .rw [h]at hr
  have:=hf.size
  grind
theorem AsN:BaT prog 139 179 5:=⟨hB139,fun B b bs s w h h1 h2=>wstr B b bs s w h h1 h2⟩
theorem BjX:A0I prog 142 179 5:=⟨hB142,fun B b l w h h2=>Any.Builder_String_any Tryz.lays169 Tryz.Builder_Extra_169 B b l w h h2⟩
end Go.Proofs.YtmhjbljckkgeoaaGreatDoor
namespace Go.Proofs.YtmhjbljckkgeoaaGreatDoor
open Av RowKit Proofs.Tryz
theorem AsO{g:Std}{f:FuncId}{args:LY}{r:AV}(vs:List Value)(v:Value)(hb:AaA prog f=true)(ha:∀ h vs',RL h Lf0 true vs' args->vs'=vs)(hr:∀ h,RV h Lf0 true v r)
  (H:∀ w,AvV g w->Calls prog f vs.toArray w fun e w'=>e=.returned v/\Same w w'):PcH prog g f args (· = r):=by
 refine⟨hb,fun h w vs' hg hm hv=>?_⟩;have:=ha h vs' hv;subst this;refine(H w hg).mono ?_;rintro e w' ⟨rfl,hs⟩;exact⟨v,r,h,rfl,rfl,fun b o v e=>⟨hs.cell (hm b o v e).1,(hm b o v e).2⟩,fun _ _ _ x=>x,fun b o e n=>(n e).elim,hs,hr h⟩
theorem AlC{f:FuncId}{args:LY}{r:AV}(vs:List Value)(v:Value)(hb:AaA prog f=true)(ha:∀ h vs',RL h Lf0 true vs' args->vs'=vs)(hr:∀ h,RV h Lf0 true v r)
  (H:∀ w,Calls prog f vs.toArray w fun e w'=>e=.returned v/\Same w w'):Pc prog f args (· = r):=by
 refine⟨hb,fun h w vs' hm hv=>?_⟩;have:=ha h vs' hv;subst this;refine(H w).mono ?_;rintro e w' ⟨rfl,hs⟩;exact⟨v,r,h,rfl,rfl,fun b o v e=>⟨hs.cell (hm b o v e).1,(hm b o v e).2⟩,fun _ _ _ x=>x,fun b o e n=>(n e).elim,hs,hr h⟩
theorem rv_str{h:Mem}{v:Value}{s:LU}(r:RV h Lf0 true v (.str s)):v=.string ⟨s.toArray⟩:=by cases r<;>grind
theorem BbH{h:Mem}{v:Value}{k:IntKind}{n:Int}(r:RV h Lf0 true v (.int k n)):v=.int k n:=by cases r<;>grind
theorem AcA(s p:LU):∀ h vs',RL h Lf0 true vs' [.str s,.str p]->vs'=[.string ⟨s.toArray⟩,.string ⟨p.toArray⟩]:=by
 intro h vs' r
 cases r with|cons r1 r=>cases r with|cons r2 r=>cases r<;>grind[rv_str]
theorem AlD(s p:LU):Pc prog 88 [.str s,.str p] (· = .tup [.str (Lib.trimPrefix s p),.bool (Lib.hasPrefix s p)]) :=
 AlC [_,_] (.tuple #[.string ⟨(Lib.trimPrefix s p).toArray⟩,.bool (Lib.hasPrefix s p)]) hB88 (AcA s p) (fun h=>.tup [_,_] [_,_] (.cons (.str _) (.cons (.bool _) .nil)))
  fun w=>(Any.strings_CutPrefix Tryz.lays103 ⟨s.toArray⟩ ⟨p.toArray⟩ w).mono fun e w' ⟨h1,h2⟩=>⟨h1,h2▸.refl w⟩
theorem AwC(s p:LU):Pc prog 115 [.str s,.str p] (· = .bool (Lib.hasPrefix s p)) :=
 AlC [_,_] (.bool (Lib.hasPrefix s p)) hB115 (AcA s p) (fun h=>.bool _) fun w=>(Any.strings_HasPrefix Tryz.lays99 ⟨s.toArray⟩ ⟨p.toArray⟩ w).mono fun e w' ⟨h1,h2⟩=>⟨h1,h2▸.refl w⟩
theorem AbC(s p:LU)(hs:s.length<=9223372036854775807):Pc prog 33 [.str s,.str p] (· = .bool (Lib.hasSuffix s p)) :=
 AlC [_,_] (.bool (Lib.hasSuffix s p)) hB33 (AcA s p) (fun h=>.bool _) fun w=>(Any.strings_HasSuffix Tryz.lays100 ⟨s.toArray⟩ ⟨p.toArray⟩ w hs).mono fun e w' ⟨h1,h2⟩=>⟨h1,h2▸.refl w⟩
theorem AwD(s p:LU)(hs:s.length<4611686018427387904):Pc prog 259 [.str s,.str p] (· = .int .i64 (Lib.lastIndex s p)) :=
 AlC [_,_] (.int .i64 (Lib.lastIndex s p)) hB259 (AcA s p) (fun h=>.int _ _) fun w=>(Any.strings_LastIndex Tryz.lays148 ⟨s.toArray⟩ ⟨p.toArray⟩ hs w).mono fun e w' ⟨h1,h2⟩=>⟨h1,h2▸.refl w⟩
theorem AlE(s:LU)(c:Int):Pc prog 200 [.str s,.int .u8 c] (· = .int .i64 (Lib.indexByte s c.toNat.toUInt8)) :=
 AlC [.string ⟨s.toArray⟩,.int .u8 c] (.int .i64 (Lib.indexByte s c.toNat.toUInt8)) hB200 (fun h vs' r=>by cases r with|cons r1 r=>cases r with|cons r2 r=>cases r<;>grind[rv_str,BbH]) (fun h=>.int _ _)
  fun w=>(Any.strings_IndexByte Tryz.lays137 ⟨s.toArray⟩ c w).mono fun e w' ⟨h1,h2⟩=>⟨h1,h2▸.refl w⟩
theorem AfX{S:Std}(hS:LibOk S)(s p:LU)(hs:s.length<4294967281):PcH prog S 116 [.str s,.str p] (· = .bool (Lib.contains s p)) :=
 AsO [_,_] (.bool (Lib.contains s p)) hB116 (AcA s p) (fun h=>.bool _) fun w H=>(Any.strings_Contains Tryz.lays144 ⟨s.toArray⟩ ⟨p.toArray⟩ _ w hs (hS.cell.choose_spec w H)).mono fun e w' ⟨h1,h2⟩=>⟨h1,h2▸.refl w⟩
theorem A7D(w:World):∀ n,Same w (w.drewN n):=fun n=>⟨rfl,rfl,⟨rfl,trivial⟩,lab _,fun _ _=>rfl⟩
theorem AnA{S:Std}(hS:LibOk S)(s p:LU)(hs:s.length<4294967281):PcH prog S 74 [.str s,.str p] (· = .tup [.str (Lib.cut s p).1,.str (Lib.cut s p).2.1,.bool (Lib.cut s p).2.2]) :=
 AsO [_,_] (.tuple #[.string ⟨(Lib.cut s p).1.toArray⟩,.string ⟨(Lib.cut s p).2.1.toArray⟩,.bool (Lib.cut s p).2.2]) hB74 (AcA s p) (fun h=>.tup [_,_,_] [_,_,_] (.cons (.str _) (.cons (.str _) (.cons (.bool _) .nil))))
  fun w H=>(Any.strings_Cut Tryz.lays145 ⟨s.toArray⟩ ⟨p.toArray⟩ _ w hs (hS.cell.choose_spec w H)).mono fun e w' ⟨h1,n,h2⟩=>⟨h1,h2▸A7D w n⟩
def splitL(s p:LU):List LU:=(Lib.splitB ⟨p.toArray⟩ 0 (Lib.countB ⟨s.toArray⟩ ⟨p.toArray⟩) ⟨s.toArray⟩).map (·.data.toList)
theorem BbI{S:Std}(hS:LibOk S)(s p:LU)(hs:s.length<4294967281)(hp:1<=p.length):PcH prog S 86 [.str s,.str p] (· = .fz 1 (splitL s p |>.map .str)):=by
 refine⟨hB86,fun h w vs' hg hm hv=>?_⟩;have:=AcA s p h vs' hv;subst this;refine(Any.strings_Split Tryz.lays146 (by kernel_rfl) ⟨s.toArray⟩ ⟨p.toArray⟩ _ w hs (hS.cell.choose_spec w hg) hp).mono ?_;rintro e w' ⟨rfl,rfl⟩;have hlen:=Lib.splitB_all ⟨p.toArray⟩ hp 0 _ ⟨s.toArray⟩ rfl;generalize hL:Lib.splitB ⟨p.toArray⟩ 0 (Lib.countB ⟨s.toArray⟩ ⟨p.toArray⟩) ⟨s.toArray⟩=L at hlen |-;have hsl:splitL s p=L.map (·.data.toList):=by grind[splitL]
 have hval:L.map Value.string=(splitL s p).map sval:=by
  simp_all
 rw[hval,<- hlen,show L.length=(splitL s p).length by grind];have h1:∀ v∈(splitL s p).map sval,v.oneCell'=true:=by intro v hv; obtain⟨x,_,rfl⟩:=List.mem_map.1 hv; rfl
 have hmine:Mine h (fun _=>none) [] w:=⟨hm,fun id blk e=>by grind,fun _ _=>rfl,fun i j g t t' e=>by grind,fun i g t e=>by grind⟩;obtain⟨m2,l2⟩:=hmine.freezeNew ((splitL s p).map sval) 9 h1;refine⟨_,_,Mem.add h w.heap.size ((splitL s p).map sval),rfl,rfl,m2.mem,l2.hle,fun b o e n=>?_,.alloc w _,?_⟩
 .rcases l2.hnew b o e n with⟨j,t,hj⟩|hs<;>grind
 .have:=RV.fz (h:=Mem.add h w.heap.size ((splitL s p).map sval)) (Lf:=Lf0) (fl:=true) w.heap.size 0 (splitL s p).length 1 ((splitL s p).map .str) ((splitL s p).map sval) ?_ (by simp[cellsOf]) ?_ (by simp)
  .grind
  .generalize Mem.add h w.heap.size ((splitL s p).map sval)=hh
   generalize splitL s p=z
   induction z with
   | nil=>exact .nil
   | cons x z ih=>exact .cons (.str x) ih
  grind[Mem.add]
attribute [go_sem ↓] Go.Av.BqT Go.Av.BjI Go.Av.BjK Go.Av.BaR Go.Av.BbD Go.Av.A7A Go.Av.BbE Go.Av.A7C
attribute [go_sem] Go.Av.run Go.Av.cont Go.Av.br Go.Av.dbr Go.Av.dx Go.Av.dxc Go.Av.dgrd Go.Av.dyld Go.Av.dres Go.Av.dcall Go.Av.calm Go.Av.AhS Go.Av.A3J Go.Av.step1 Go.Av.opN Go.Av.grdN Go.Av.resN Go.Av.BaP Go.Av.BqS Go.Av.BjH Go.Av.AeX Go.Av.dOk Go.Av.xop Go.Av.xbin Go.Av.xint Go.Av.AvA Go.Av.xstr Go.Av.BiJ Go.Av.A9U Go.Av.xnot Go.Av.xneg Go.Av.AiK Go.Av.AvB Go.Av.xpartOk Go.Av.AvC Go.Av.AmM Go.Av.AmL Go.Av.xnew Go.Av.xbox Go.Av.AiL Go.Av.AcT Go.Av.xptrAddIf Go.Av.AbX Go.Av.A9V Go.Av.xload Go.Av.putCells Go.Av.reElem Go.Av.AzY Go.Av.AqG Go.Av.BiL Go.Av.BpY Go.Av.xlen Go.Av.AzZ Go.Av.A9Y Go.Av.AmN Go.Av.AvD Go.Av.cut Go.Av.rep Go.Av.AdU Go.Av.AdC Go.Av.isRow Go.Av.elemD Go.Av.isU8 Go.Av.ev Go.Av.evs Go.Av.evp Go.Av.put Go.Av.get Go.Av.AdT Go.Av.yldD Go.Av.yldV Go.Av.AsI Go.Av.args0 Go.Av.cellsOf cond_true cond_false decide_true decide_false laj lai List.getElem?_cons_zero List.getElem?_cons_succ List.getElem?_nil List.getD_cons_zero List.getD_cons_succ List.getD_nil lby List.set_cons_succ lal laq lbc lbs lbp las lba lak lao lbk lcc List.drop_succ_cons lbu lau laz lbh Bool.and_false lce Go.Av.one Go.Av.frozen lbf true_and and_true forall_const false_implies implies_true and_self Option.map_some Option.map_none lay Nat.add_zero Nat.zero_mul Nat.mul_one Nat.one_mul Int.toNat_zero ne_eq not_false_eq_true not_true_eq_false Bool.true_eq_false lan List.toList_toArray Go.Av.inr Go.Av.AkZ Go.Av.AeV decide_eq_decide Bool.not_true Bool.not_false lcb Bool.or_true Bool.true_or Bool.or_false Bool.false_or ge_iff_le gt_iff_lt and_assoc Bool.decide_eq_true beq_iff_eq lax bne_iff_ne bne_self_eq_false if_true if_false lag lbi Bool.and_eq_false_imp Bool.or_eq_false_iff Bool.not_eq_false' Go.Av.has Option.isSome_some Option.isSome_none Int.toNat_natCast Int.cast_ofNat_Int lah Go.Av.A6Q Go.Av.xapp Go.Av.BiN Go.Av.BiM Go.Av.BaA Go.Av.AqI Go.Av.A9Z Go.Av.srcB Go.Av.AqH Go.Av.AdN Go.Av.xcut Go.Av.BiP Go.Av.BiQ Go.Av.BiR Go.Av.BiS Go.Av.cutL Go.Av.loOf Go.Av.hiOf Go.Av.evo Go.Av.BiT Go.Av.A0A Go.Av.xmax Go.Av.AvE Go.Av.BaC Go.Av.BaB Go.Av.xnil List.getElem?_toArray Go.Av.ApS Go.Av.AhJ Go.Av.BoH Go.Av.BaD Go.Av.BiU Go.Av.BaE Go.Av.BoI Go.Av.AvF Go.Av.keyEq Go.Av.mfind Go.Av.AvG Go.Av.A3K Go.Av.BaF Go.Av.A9W Go.Av.BpZ Go.Av.BqA Go.Av.BqB Go.Av.BqC Go.Av.BqD Go.Av.dxi Go.Av.dxic Go.Av.dbri Go.Av.rix Go.Av.dck Go.Av.reader Go.Av.blind Go.Av.opOk Go.Av.refOk Go.Op.operands Go.Call.operands List.contains_cons List.contains_nil Go.Av.dxg Go.Av.dxgc Go.Av.dbrg List.lookup_cons List.lookup_nil Go.Av.BiK Go.Av.BpX Go.Av.frozen0 Go.Av.isI Go.Av.BiO Go.Av.xcap Go.Av.A9X ts2 underlying2 ts3 tb3 za3 underlying3 ts4 tb4 zv4 zk4 za4 underlying4 ts5 tb5 za5 underlying5 ts9 tb9 zv9 zk9 za9 underlying9 ts10 underlying10 ts22 underlying22 ts24 underlying24 ts25 za25 underlying25 ts26 underlying26 ts28 underlying28 ts29 underlying29 ts30 za30 underlying30 ts31 tb31 za31 underlying31 ts32 underlying32 ts33 tb33 za33 underlying33 ts35 underlying35 ts38 underlying38 ts39 za39 underlying39 ts53 underlying53 ts54 tb54 zv54 zk54 za54 underlying54 ts61 underlying61 ts70 underlying70 ts72 underlying72 ts81 underlying81 ts82 underlying82 ts83 tb83 zv83 zk83 za83 underlying83 ts92 underlying92 ts93 tb93 za93 underlying93 ts106 underlying106 ts108 tb108 za108 underlying108 ts109 underlying109 ts119 underlying119 ts123 underlying123 ts124 za124 underlying124 ts128 underlying128 ts129 za129 underlying129 ts146 underlying146 ts148 underlying148 ts150 underlying150 ts151 tb151 za151 underlying151 ts161 underlying161 ts162 underlying162 ts163 underlying163 ts166 underlying166 ts167 tb167 za167 underlying167 ts169 underlying169 ts170 za170 underlying170 ts177 underlying177 ts178 underlying178 ts179 za179 underlying179 ts187 underlying187 ts188 tb188 za188 underlying188 ts189 underlying189 ts190 tb190 za190 underlying190 ts191 underlying191 ts200 underlying200 ts202 underlying202 ts203 tb203 za203 underlying203 ts207 underlying207 ts235 underlying235 ts236 za236 underlying236 ts237 underlying237 ts238 tb238 za238 underlying238 ts259 underlying259 ts263 underlying263 ts275 underlying275 ts307 underlying307 ts308 underlying308 ts317 underlying317
attribute [go_sem] ntmps3 ntmps5 ntmps6 ntmps7 ntmps8 ntmps9 ntmps10 ntmps11 ntmps12 ntmps13 ntmps19 ntmps20 ntmps21 ntmps22 ntmps23 ntmps24 ntmps25 ntmps26 ntmps27 ntmps28 ntmps29 ntmps30 ntmps31 ntmps32 ntmps34 ntmps35 ntmps36 ntmps37 ntmps38 ntmps39 ntmps40 ntmps41 ntmps42 ntmps43 ntmps44 ntmps45 ntmps46 ntmps49 ntmps54 ntmps55 ntmps56 ntmps57 ntmps58 ntmps59 ntmps60 ntmps61 ntmps62 ntmps63 ntmps64 ntmps65 ntmps66 ntmps67 ntmps68 ntmps69 ntmps70 ntmps71 ntmps72 ntmps73 ntmps75 ntmps76 ntmps77 ntmps79 ntmps80 ntmps83 ntmps84 ntmps85 ntmps87 ntmps89 ntmps90 ntmps91 ntmps92 ntmps99 ntmps101 ntmps102 ntmps103 ntmps104 ntmps105 ntmps107 ntmps108 ntmps109 ntmps110 ntmps111 ntmps112 ntmps113 ntmps114 ntmps117 ntmps118 ntmps119 ntmps120 ntmps121 ntmps123 ntmps124 ntmps125 ntmps127 ntmps131 ntmps133 ntmps134 ntmps137 ntmps139 ntmps140 ntmps141 ntmps143 ntmps144 ntmps148 ntmps150 ntmps151 ntmps152 ntmps153 ntmps154 ntmps156 ntmps158 ntmps159 ntmps160 ntmps161 ntmps164 ntmps165 ntmps167 ntmps170 ntmps171 ntmps172 ntmps173 ntmps174 ntmps175 ntmps176 ntmps177 ntmps178 ntmps179 ntmps180 ntmps181 ntmps184 ntmps185 ntmps196 ntmps199 ntmps201 ntmps203 ntmps204 ntmps205 ntmps212 ntmps213 ntmps214 ntmps215 ntmps216 ntmps217 ntmps218 ntmps219 ntmps223 ntmps224 ntmps225 ntmps226 ntmps227 ntmps228 ntmps229 ntmps241 ntmps242 ntmps243 ntmps244 ntmps249 ntmps256 ntmps264 ntmps265 ntmps266 ntmps267 ntmps268 ntmps269 ntmps270 ntmps271 ntmps293 ntmps315
attribute [go_sem] Nat.reduceAdd Nat.reduceMul Nat.reduceSub Nat.reduceBEq Nat.reduceLT Nat.reduceLeDiff reduceIte reduceCtorEq Int.reduceToNat Int.reduceLE Int.reduceLT Int.reduceNe Int.reduceMul Int.reduceAdd Int.reduceSub Int.reduceDiv Int.reduceMod Int.reduceEq Int.reduceGE Int.reduceGT Int.reduceNeg Int.reduceBEq Int.reduceBNe Nat.reduceEqDiff
def digI(n:Int):Bool:=decide (n>=48)&&decide (n<=57)
def capI(n:Int):Bool:=decide (n>=65)&&decide (n<=90)
theorem AkC(n:Int):Pc prog 117 [.int .u8 n] (· = .bool (digI n)):=by
 refine AaJ (AaI func117 rfl ntmps117 hB117 (by simp) fun h ρ w=>go rfl 200 ?_)
 by_cases h1:n>=48
 .have d1:decide (n>=48)=true:=by simpa using h1
  simp only[go_sem,d1];exact aret [2] rfl ⟨by simp[resV,Av.get,digI,h1],rfl⟩
 .have d1:decide (n>=48)=false:=by simpa using h1
  simp only[go_sem,d1];exact aret [2] rfl ⟨by simp[resV,Av.get,digI,h1],rfl⟩
theorem AbG(n:Int):Pc prog 118 [.int .u8 n] (· = .bool (capI n)):=by
 refine AaJ (AaI func118 rfl ntmps118 hB118 (by simp) fun h ρ w=>go rfl 200 ?_)
 by_cases h1:n>=65
 .have d1:decide (n>=65)=true:=by simpa using h1
  simp only[go_sem,d1];exact aret [2] rfl ⟨by simp[resV,Av.get,capI,h1],rfl⟩
 .have d1:decide (n>=65)=false:=by simpa using h1
  simp only[go_sem,d1];exact aret [2] rfl ⟨by simp[resV,Av.get,capI,h1],rfl⟩
def okB(c:UInt8):Bool:=!(decide ((c.toNat:Int)<32))&&!(decide ((c.toNat:Int)>126))
def plainL(s:LU):Bool:=s.all okB&&(!Lib.hasPrefix s [32]&&(!Lib.hasSuffix s [32]&&!Lib.contains s [32,32]))
theorem AaK{α:Type}{p:α->Bool}{s:List α}{i:Nat}(h:i<s.length)(h1:(s.take i).all p=true)(h2:p s[i]=true):(s.take (i+1)).all p=true:=by
 rw[lad h,List.all_append,h1]
 simpa using h2
theorem all_false_at{α:Type}{p:α->Bool}{s:List α}{i:Nat}(h:i<s.length)(h2:p s[i]=false):s.all p=false:=by
 rw[List.all_eq_false];exact⟨s[i],lac h,by simp[h2]⟩
theorem AcQ{S:Std}(hS:LibOk S)(s:LU)(hs:s.length<1000000):PcH prog S 62 [.str s] (· = .bool (plainL s)):=by
 refine AcF (AcP func62 rfl ntmps62 hB62 (by simp) fun h ρ w hg=>go rfl 200 ?_);simp only[go_sem];refine AaC (ι:=Nat) (fun i=>s.length-i) (fun i=>[(6,.int .i64 i),(5,.int .i64 s.length),(0,.str s)]) (fun _=>[]) (fun i=>i<=s.length/\(s.take i).all okB=true) 0 ⟨by omega,by simp⟩ ?_ ?_
 .refine Ls ?_
  simp only[go_sem]
 .rintro i ⟨g1,g2⟩ J hJ
  refine go rfl 200 ?_
  by_cases hi:(i:Int)<s.length
  .have hil:i<s.length:=by omega
   have hgd:s.getD i 0=s[i]:=by simp[List.getD,hil]
   by_cases hc1:((s[i].toNat:Int)<32)
   .have d1:decide ((s[i].toNat:Int)<32)=true:=by simpa using hc1
    simp only[go_sem,hi,hgd,d1];refine⟨by omega,aret [2] rfl ⟨?_,rfl⟩⟩
    simp[resV,Av.get,plainL,all_false_at hil (p:=okB) (by simp[okB]; omega)]
   .have d1:decide ((s[i].toNat:Int)<32)=false:=by simpa using hc1
    by_cases hc2:((s[i].toNat:Int)>126)
    .have d2:decide ((s[i].toNat:Int)>126)=true:=by simpa using hc2
     simp only[go_sem,hi,hgd,d1,d2];refine⟨by omega,by omega,aret [2] rfl ⟨?_,rfl⟩⟩
     simp[resV,Av.get,plainL,all_false_at hil (p:=okB) (by simp[okB]; omega)]
    .have d2:decide ((s[i].toNat:Int)>126)=false:=by simpa using hc2
     simp only[go_sem,hi,hgd,d1,d2];rw[ic i]
     repeat refine ao ?_
     refine ainv (hJ (i+1) ⟨by omega,AaK hil g2 (by simp[okB]; omega)⟩ (by omega)) (Ls ?_);simp only[go_sem]
  .simp only [go_sem,hi]
   have hall:s.all okB=true:=by rw[<- g2,lae (by omega)]
   refine AaL (AwC s [32]) rfl rfl rfl (go rfl 200 ?_)
   cases e1:Lib.hasPrefix s [32]with
   | true =>
    simp only[go_sem];refine aret [2] rfl ⟨?_,rfl⟩
    simp[resV,Av.get,plainL,e1]
   | false =>
    simp only[go_sem];refine AaL (AbC s [32] (by omega)) rfl rfl rfl (go rfl 200 ?_)
    cases e2:Lib.hasSuffix s [32]with
    | true =>
     simp only[go_sem];refine aret [2] rfl ⟨?_,rfl⟩
     simp[resV,Av.get,plainL,e2]
    | false =>
     simp only[go_sem];refine AmY hg (AfX hS s [32,32] (by omega)) rfl rfl rfl (go rfl 200 ?_);simp only[go_sem];refine aret [2] rfl ⟨?_,rfl⟩
     simp[resV,Av.get,plainL,e1,e2,hall]
def okP(o:LU)(c:UInt8):Bool:=capI c.toNat||(digI c.toNat||(((c.toNat:Int)==32)||!(decide (Lib.indexByte o c<0))))
def properL(s:LU)(most:Int)(o:LU):Bool :=
 !(decide ((s.length:Int)<1))&&(!(decide ((s.length:Int)>most))&&(capI (s.getD 0 0).toNat&&(plainL s&&s.all (okP o))))
theorem AqN{S:Std}(hS:LibOk S)(s:LU)(most:Int)(o:LU)(hs:s.length<1000000):PcH prog S 164 [.str s,.int .i64 most,.str o] (· = .bool (properL s most o)):=by
 refine zqIN func164 rfl fun h ρ w hg=>?_
 by_cases h1:(s.length:Int)<1
 .have d1:decide ((s.length:Int)<1)=true:=by simpa using h1
  simp only[go_sem,d1];exact aret [6] rfl ⟨by simp[resV,Av.get,properL,h1],rfl⟩
 have d1:decide ((s.length:Int)<1)=false:=by simpa using h1
 by_cases h2:(s.length:Int)>most
 .have d2:decide ((s.length:Int)>most)=true:=by simpa using h2
  simp only[go_sem,d1,d2];exact aret [6] rfl ⟨by simp[resV,Av.get,properL,h2],rfl⟩
 have d2:decide ((s.length:Int)>most)=false:=by simpa using h2
 simp only[go_sem,d1,d2];have hpos:0<s.length:=by omega
 refine⟨by omega,?_⟩;refine zpN (AbG _) ?_
 cases e1:capI (s.getD 0 0).toNat with
 | false =>
  simp only[go_sem];exact aret [6] rfl ⟨by simp only[resV,Av.get,properL,e1]; simp,rfl⟩
 | true =>
 simp only[go_sem];refine zqN hg (AcQ hS s hs) ?_
 cases e2:plainL s with
 | false =>
  simp only[go_sem];exact aret [6] rfl ⟨by simp only[resV,Av.get,properL,e2]; simp,rfl⟩
 | true =>
 simp only[go_sem];have hval:properL s most o=s.all (okP o):=by simp only[properL,d1,d2,e1,e2]; simp
 rw[hval];refine AaC (ι:=Nat) (fun i=>s.length-i) (fun i=>[(30,.int .i64 i),(29,.int .i64 s.length),(0,.str s),(2,.str o)]) (fun _=>[]) (fun i=>i<=s.length/\(s.take i).all (okP o)=true) 0 ⟨by omega,by simp⟩ ?_ ?_
 .refine Ls ?_
  simp only[go_sem]
 .rintro i ⟨g1,g2⟩ J hJ
  apply zgN
  by_cases hi:(i:Int)<s.length
  .have hil:i<s.length:=by omega
   have hgd:s.getD i 0=s[i]:=by simp[List.getD,hil]
   simp only[go_sem,hi,hgd];refine⟨by omega,?_⟩;refine zpN (AbG _) ?_
   cases c1:capI (s[i].toNat:Int)with
   | true =>
    simp only[go_sem];rw[ic i]
    repeat refine ao ?_
    refine ainv (hJ (i+1) ⟨by omega,AaK hil g2 (by simp only[okP,c1]; rfl)⟩ (by omega)) (Ls ?_);simp only[go_sem]
   | false =>
    simp only[go_sem,hi,hgd];refine⟨by omega,?_⟩;refine zpN (AkC _) ?_
    cases c2:digI (s[i].toNat:Int)with
    | true =>
     simp only[go_sem];rw[ic i]
     repeat refine ao ?_
     refine ainv (hJ (i+1) ⟨by omega,AaK hil g2 (by simp only[okP,c1,c2]; rfl)⟩ (by omega)) (Ls ?_);simp only[go_sem]
    | false =>
     cases c3:((s[i].toNat:Int)==32)with
     | true =>
      have c3':((s[i].toNat:Int) != 32)=false:=by simpa using c3
      simp only[go_sem,hi,hgd,c3'];rw[ic i]
      repeat refine ao ?_
      refine ainv (hJ (i+1) ⟨by omega,AaK hil g2 (by simp only[okP,c1,c2,c3]; rfl)⟩ (by omega)) (Ls ?_);simp only[go_sem]
     | false =>
      have c3':((s[i].toNat:Int) != 32)=true:=by simpa using c3
      simp only[go_sem,hi,hgd,c3'];refine⟨by omega,by omega,?_⟩;refine zpN (AlE o (s[i].toNat:Int)) ?_;have hb:((s[i].toNat:Int)).toNat.toUInt8=s[i]:=by simp
      rw[hb]
      cases c4:decide (Lib.indexByte o s[i]<0)with
      | false =>
       simp only[go_sem,c4];rw[ic i]
       repeat refine ao ?_
       refine ainv (hJ (i+1) ⟨by omega,AaK hil g2 (by simp only[okP,c1,c2,c3,c4]; rfl)⟩ (by omega)) (Ls ?_);simp only[go_sem]
      | true =>
       simp only[go_sem,c4];refine aret [6] rfl ⟨?_,rfl⟩
       simp[resV,Av.get,all_false_at hil (p:=okP o) (by simp only[okP,c1,c2,c3,c4]; rfl)]
  .simp only [go_sem,hi]
   have hall:s.all (okP o)=true:=by rw[<- g2,lae (by omega)]
   exact aret [6] rfl ⟨by simp[resV,Av.get,hall],rfl⟩
def isSetL(s:LU):Bool:=properL s 60 [39,46,45,47]&&(!Lib.contains s [32,45,32]&&!Lib.hasSuffix s [32,45])
theorem AnB{S:Std}(hS:LibOk S)(s:LU)(hs:s.length<1000000):PcH prog S 119 [.str s] (· = .bool (isSetL s)):=by
 refine zqIN func119 rfl fun h ρ w hg=>?_
 simp only[go_sem];refine zqN hg (AqN hS s 60 [39,46,45,47] hs) ?_
 cases e1:properL s 60 [39,46,45,47]with
 | false =>
  simp only[go_sem];exact aret [2] rfl ⟨by simp[resV,Av.get,isSetL,e1],rfl⟩
 | true =>
  simp only[go_sem];refine zqN hg (AfX hS s [32,45,32] (by omega)) ?_
  cases e2:Lib.contains s [32,45,32]with
  | true =>
   simp only[go_sem];exact aret [2] rfl ⟨by simp[resV,Av.get,isSetL,e2],rfl⟩
  | false =>
   simp only[go_sem];refine zpN (AbC s [32,45] (by omega)) ?_;simp only[go_sem];exact aret [2] rfl ⟨by simp[resV,Av.get,isSetL,e1,e2],rfl⟩
