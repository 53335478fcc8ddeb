/- What the library's contracts on strings.Builder ask besides. -/
import Derived.Test.YtgenkcmfeeakoaaGreatDoorX12
import Derived.Lib.ItoaNum
import Derived.ChangeSame
import Derived.HandedShaped
import Derived.LaidMore
import Derived.Lay
import Derived.OpenShut
import Derived.ChangeSlices
import Derived.ProofKit
import Derived.Test.YtgenkcmfeeakoaaGreatDoorCards
import Derived.Test.YtgenkcmfeeakoaaGreatDoorTie
import Derived.Shelf.Vars
import Derived.LaidSub
import Derived.Lib.LaidTab
import Derived.Stop.LaidErr
import Derived.Shelf.Strings.IndexAnyAll
import Derived.Shelf.Strings.SlTrimAscii
import Derived.Shelf.Strconv.AtoiErr
set_option maxRecDepth 100000
namespace Go.Proofs
open Shelf Proofs.Tryz
theorem Tryz.Builder_Extra_105:Builder.Extra prog Tryz.lays105_ren:={
 sizeBuilder:=by kernel_rfl
 liesBuilder:=by kernel_rfl
 t5:=underlying5
 a5:=Tryz.isAgg5
 z5:=Tryz.sizeOf5
 v5:=Tryz.zeroValue5
 infoByte:=by kernel_rfl
 cellsByte:=by kernel_rfl
 sizeByte:=by kernel_rfl
 neB5:=by decide }
end Go.Proofs
set_option linter.all false
namespace Go.Proofs.YtgenkcmfeeakoaaGreatDoor
open Av RowKit
structure LibOk(S:Std):Prop where
 maxlen:∃ m cs t z,S 1=some (.cells cs t z)/\cs[0]? = some (.int .i64 m)
 pow10:∃ t z,S 5=some (.cells (Lib.pow10Tab.map fun z=>Value.int .u64 z).toArray t z)
 syn:∃ te pe t z,S 2=some (.cells #[.iface te pe] t z)
theorem LibOk.cell{S:Std}(hS:LibOk S):∃ m,∀ w,AxI S w->w.cell? ⟨Tryz.lays144_ren.g 1,0,none⟩=some (.int .i64 m):=by
 obtain⟨m,cs,t,z,h,h0⟩:=hS.maxlen;exact⟨m,fun w hw=>(Lib.cell_of_heap (hw _ _ h) 0).trans h0⟩
end Go.Proofs.YtgenkcmfeeakoaaGreatDoor
namespace Go.Av
open RowKit WideShapes ChangeShapes
variable [Tr]
theorem Same.below{W W':World}(s:Same W W'):Below W.heap.size W W':=⟨s.os,s.tape,s.output.1,s.size,s.block⟩
theorem BvI{h:Mem}{v:Value}{b:Bool}(r:RV h Lf0 true v (.bool b)):v=.bool b:=by
 cases r<;>grind
section
variable {H:Type}{enc:TypeId×Value->H}{P:Program}
theorem A2F{f:Func}{s:ChangeSpec}{apart fresh handsOn again:Bool}{W W':World}{args:Array Value}{v:Value}{ds gs:List (DataW H)}{before pa pv:List MemPlace}
  (hW:DataW.Whole enc P f.params.toList s.vars apart W args.toList ds gs before)
  (hres:∀ (b:Nat) (sp:Nat->Bool) (hd:Bool),DataW.TrodAll enc P W' b sp hd f.resultTypes.toList (v.resultList f.resultTypes.size) (s.fn H (ds++gs)).results [])
  (hargs:∀ sp:Nat->Bool,(∀ p∈before,sp p.block=true)->DataW.TrodAll enc P W' 0 sp true f.params.toList args.toList (s.fn H (ds++gs)).args pa)
  (hvars:∀ sp:Nat->Bool,(∀ p∈before,sp p.block=true)->DataW.TrodVars enc P W' sp s.vars (s.fn H (ds++gs)).vars pv)
  (hps:before=pa++pv) (hs:Same W W')
  (hok:∀ (j:Nat) (t:TypeId) (r:Value),f.resultTypes[j]? = some t->(v.resultList f.resultTypes.size)[j]? = some r->Value.okWide P W' .any 0 t r) :
  s.post enc P f apart fresh handsOn again W args v W':=by
 have hb:=hs.below;have hlt:=fun p hp=>hW.lt p hp
 have hold:=fun p hp=>decide_eq_true (hlt p hp)
 refine⟨ds,gs,before,[],pa,pv,hW,hres _ _ _,hargs _ hold,hvars _ hold,World.keptBut_mono (fun p hp=>⟨hp,?_⟩) (hb.frame (·∈before)),fun _=>?_⟩
 .grind
 .obtain ⟨_,_,_,_,_,hz,hn⟩:=hW
  refine⟨hok,_,_,([]++pa)++pv,⟨[]++pa,pv,trodAll_append (hargs _ (fun _ _=>rfl)) (hres _ _ _),hvars _ (fun _ _=>rfl),rfl,?_,?_⟩,?_⟩
  .intro b off hp
   have hin:MemPlace.cell b off∈before:=by grind
   rw[hb.frozen (hlt _ hin)];exact hz b off hin
  all_goals grind
end
end Go.Av
namespace Go.Av
open RowKit WideShapes ChangeShapes
variable [Tr]
def full(W:World):Mem:=fun b o=>(W.cell? ⟨b,o,none⟩).filter (·.oneCell')
theorem BvJ{W:World}{b o:Nat}{v:Value}(h:W.cell? ⟨b,o,none⟩=some v)(hv:v.oneCell'=true):full W b o=some v:=by grind[full]
theorem BvK{W:World}{b o:Nat}{v:Value}(h:full W b o=some v):W.cell? ⟨b,o,none⟩=some v/\v.oneCell'=true:=by
 grind[full,Option.filter_eq_some_iff]
theorem PcH.atW{P:Program}{g:Std}{f:FuncId}{args:LA}{b:Bool}(hc:PcH P g f args (· = .bool b)){W:World}{vs:List Value}(hg:AxI g W)(hv:RL (full W) Lf0 true vs args) :
  Calls P f vs.toArray W fun e W'=>e=.returned (.bool b)/\Same W W' :=
 (hc.2 (full W) W vs hg (fun _ _ _ e=>BvK e) hv).mono fun e W' ⟨v,r,h',e1,e2,_,_,_,hs,rv⟩=>by
  grind[BvI]
section
variable {H:Type}{enc:TypeId×Value->H}{P:Program}{t e:TypeId}{W:World}{base:Nat}{v:Value}{d:DataW H}{p:List MemPlace}
theorem BnI(ht:P.underlying t=some (.slice e))(he:P.underlying e=some (.int .i64))(hc:P.cellsOf e=1)(hval:Value.okWide P W .any base t v)(h0:DataW.Trod enc P W 0 (fun _=>true) true t v d p) :
  ∃ L:List Int,(∀ x∈L,(Lit.int .i64 x).wf=true)/\RV (full W) Lf0 true v (.fz 1 (L.map (.int .i64)))/\∀ W',Same W W'->∀ sp:Nat->Bool,(∀ x∈p,sp x.block=true)->DataW.Trod enc P W' 0 sp true t v d p:=by
 obtain⟨a0,len,cap,rfl⟩:=okWide_slice ht hval;obtain⟨fuel,hf⟩:=h0
 rcases Go.ChangeShapes.open_ints ht he hc hf with⟨hcs,hx⟩|⟨a,len',cap',zs,hcs,_,hl,hm,hz,hx,hcell,hwz⟩
 .obtain ⟨rfl,rfl,rfl⟩:=hcs
  obtain⟨rfl,rfl⟩:=hx;exact⟨[],by simp,.fznil 1,fun W' _ sp _=>shut_slice_nil ht⟩
 .obtain ⟨rfl,rfl,rfl⟩:=hcs
  obtain⟨rfl,rfl⟩:=hx;have hspot:a.spot=none:=by
   simp only[Value.okWide,ht,Cell.okWide,Cell.ok]at hval;exact hval.2.2.2.1
  obtain⟨b,off,spot⟩:=a;subst hspot;have hcell':∀ i,i<zs.length->W.cell? ⟨b,off+i,none⟩=some (.int .i64 (zs.getD i 0)):=fun i hi=>by grind[Go.WideShapes.add_plain]
  refine⟨zs.take len,fun x hx=>hwz x (lau hx),?_,fun W' hs sp hsp=>?_⟩
  .have:=RV.fz (h:=full W) (Lf:=Lf0) (fl:=true) b off cap 1 ((zs.take len).map (.int .i64)) ((zs.take len).map (.int .i64)) ?_ (fun x hx=>by obtain⟨z,_,rfl⟩:=List.mem_map.1 hx; rfl) ?_ (by grind)
   .grind
   .generalize zs.take len=l
    induction l with
    | nil=>exact .nil
    | cons x l ih=>exact .cons (.int _ _) ih
   .intro k u hu
    rw[lby]at hu;obtain⟨z,hz1,rfl⟩:=Option.map_eq_some_iff.1 hu;have hk:k<len:=by
     grind
    refine BvJ ?_ rfl<;>grind
  .have hcell2:=fun i hi=>hs.cell (hcell' i hi)
   refine⟨0+2,?_⟩;refine Go.ChangeShapes.shut_ints' 0 ht he hc (Nat.zero_le _) hl hm ?_ hcell2 hwz
   rcases Nat.eq_zero_or_pos zs.length with h0|h0
   .grind
   .have hb:sp b=true:=hsp (.cell b off) (by
     simp_all[MemPlace.row])
    grind
end
section
variable {H:Type}{enc:TypeId×Value->H}
theorem AqU{a:Assume}{C:Checked}{os:Os}{f:FuncId}{fn:Func}{s:ChangeSpec}{conds:List PathCond}{apart fresh handsOn again:Bool}{X:World->Array Value->Prop}
  (hX:∀ (w w':World) (args:Array Value),w.heap=w'.heap->X w args->X w' args)
  (own:ownKnob C.prog.godebug=none) (started:os.Started) (noInit:C.prog.inits.idxOf? f=none) (hfn:C.prog.funcs[f]? = some fn)
  (witness:∃ (w:World) (tape:Tape) (i:Input),w.os=os/\(w.forCall tape i).Shaped C.prog/\i.vars=[]/\Input.okWide C.prog (w.forCall tape i) .any w.heap.size f i /\
   ((s.pre enc C.prog fn conds apart (w.forCall tape i).memory i.args/\X (w.forCall tape i).memory i.args)/\sizedMet enc C.prog fn (OpenSpec.ofChange s) apart (w.forCall tape i).memory i.args)/\a.holds C.prog (lone (Frame.enter C.prog f i.args .normal) [] (w.forCall tape i)))
  (contract:∀ (W:World) (base:Nat) (args:Array Value) (ds gs:List (DataW H)) (before:List MemPlace),
   (∀ (j:Nat) t v,fn.params[j]? = some t->args[j]? = some v->Value.okWide C.prog W .any base t v) ->
   DataW.Whole enc C.prog fn.params.toList s.vars apart W args.toList ds gs before ->
   W.ShapedOpen C.prog->X W args ->
   Calls C.prog f args W fun e W'=>∃ v,e=.returned v/\s.post enc C.prog fn apart fresh handsOn again W args v W') :
  ReturnsInHanded a C os f .any (fun w args=>(s.pre enc C.prog fn conds apart w args/\X w args)/\sizedMet enc C.prog fn (OpenSpec.ofChange s) apart w args) (s.post enc C.prog fn apart fresh handsOn again):=by
 refine returnsInHanded_of_calls own started noInit witness ?_;intro w tape i _ hsh _ hok hpre hholds;obtain⟨_,_,_,fn',hfn',_,_,_,_,hval⟩:=hok;have e:=lcm (hfn'.symm.trans hfn);subst e;obtain⟨⟨⟨ds,gs,before,hw,hc⟩,hx⟩,hz⟩:=hpre;have hw':=DataW.Whole.of_heap (w':=w.forCall tape i) (by rfl) hw;refine(contract (w.forCall tape i) w.heap.size i.args ds gs before hval hw' hsh (hX _ _ _ (by rfl) hx)).mono fun e W' ⟨v,he,hp⟩=>?_<;>grind[ChangeSpec.post_blind]
end
end Go.Av
namespace Go.Proofs.YtgenkcmfeeakoaaGreatDoor
open Av RowKit ChangeShapes WideShapes ChangeAt Proofs.Tryz
theorem own:ownKnob prog.godebug=none:=by kernel_rfl
theorem c3:prog.cellsOf 3=1:=by kernel_rfl
def BeF(W:World):Std:=fun k=>if k<1000 then W.heap[k]? else none
theorem BzX(W:World):AxI (BeF W) W:=fun k o e=>by
 grind[BeF]
theorem AuR{P:Program}{W:World}{n:String}{g:Nat}{cs:Array Value}(hg:P.globalNamed n=some g)(h:W.var? P n=some cs):∃ t z,W.heap[g]? = some (.cells cs t z):=by
 grind[World.var?]
theorem AxN : "*" ++ "errors.errorString" = "*errors.errorString":=by decide
theorem BeG (u:TypeId) (h:prog.typeName? 3 u=some "*errors.errorString"):u=290 :=
 typeName_ptr_named (nm:= "errors.errorString") (by rw [AxN]; kernel_rfl) (by kernel_rfl) (by decide) u (by rw [AxN]; exact h)
theorem BnJ:Rows.laid_internal_strconv_uint64pow10=Lib.tabData (H:=Unit) .u64 Lib.pow10Tab:=by kernel_rfl
theorem BzY{W:World}(h:W.ShapedOpen prog){laid:List (String×DataW Unit)}(hp:(laid.all fun x=>x.2.handleName?.isNone)=true)(hL:laidMetH prog laid W)
  (e1:laid.filter (fun x=>x.1 == "internal/strconv.uint64pow10")=[("internal/strconv.uint64pow10",Rows.laid_internal_strconv_uint64pow10)])
  (e2:laid.filter (fun x=>x.1 == "strconv.ErrSyntax")=[("strconv.ErrSyntax",Rows.laid_strconv_ErrSyntax)]):LibOk (BeF W):=by
 rw [MakeChecks.laidMetH_plain _ _ _ hp] at hL;have h1:=hL.filter (fun x=>x.1 == "internal/strconv.uint64pow10");have h2:=hL.filter (fun x=>x.1 == "strconv.ErrSyntax");rw [e1,BnJ] at h1;rw [e2] at h2;refine ⟨?_,?_,?_⟩
 .have hg:Tryz.lays144_ren.g 1=1:=rfl
  obtain⟨zero,t,hz⟩:∃ zero t,((begin prog (fun _ _=>0) default).world.heap[1]?).bind Obj.row? = some (zero,t)/\zero.size=1/\prog.buildable t=true/\prog.cellTypes prog.depth t=some [t]/\prog.underlying t=some (.int .i64):=by
   refine⟨#[.int .i64 0],3,by kernel_rfl,by kernel_rfl,by kernel_rfl,by kernel_rfl,by kernel_rfl⟩
  obtain⟨m,hm⟩:=Go.Proofs.cell_of_shapedOpen_int h (g:=1) (of_decide_eq_true (by kernel_rfl)) hz.1 hz.2.1 hz.2.2.1 hz.2.2.2.1 hz.2.2.2.2;unfold World.cell? at hm
  split at hm
  .rename_i cs t z hq
   exact⟨m,cs,t,z,hq,by simpa using hm⟩
  .cases hm
 .have ht:=Lib.tabIs_of_head (g:=5) (t:=285) (e:=248) (n:=20) (by kernel_rfl) (by kernel_rfl) underlying285 underlying248 (by kernel_rfl) (by kernel_rfl) h1
  exact AuR (by kernel_rfl) ht
 .obtain ⟨a0,s0,hv0,-,-,-⟩:=laid_sentinel h2 (g:=2) (by kernel_rfl) (by kernel_rfl) underlying119 BeG underlying290 underlying292 rfl rfl underlying9 (by kernel_rfl) (by kernel_rfl)
  obtain⟨t,z,hh⟩:=AuR (g:=2) (by kernel_rfl) hv0;exact⟨_,_,t,z,hh⟩
end Go.Proofs.YtgenkcmfeeakoaaGreatDoor
namespace Go.Proofs.YtgenkcmfeeakoaaGreatDoor
open RowKit Lib Proofs.Tryz
open Go.Av (Fr BnA BzW BvD)
theorem jb:∃ j,prog.info? 229=some j/\j.size=2:=Option.map_eq_some_iff.1 (show(prog.info? 229).map (·.size)=some 2 by kernel_rfl)
set_option maxRecDepth 100000 in
theorem BvL(b:Nat)(w:World)(h0:w.cell? ⟨b,0,none⟩=some (.pointer (some ⟨b,0,none⟩))) :
  Calls prog 223 #[.pointer (some ⟨b,0,none⟩)] w fun e w'=>e=.returned (.tuple #[])/\w'=w:=by
 obtain⟨j,hj,hjs⟩:=jb
 go_enter func223,ntmps223
 go_wp2
 rw[run_neq_ptr_same w _ underlying227 hj]
 go_wp2
 go_end0
 exact⟨rfl,rfl⟩
set_option maxRecDepth 100000 in
theorem BnK(b:Nat)(w:World)(h0:w.cell? ⟨b,0,none⟩=some (.pointer none))(hsh:w.shape? b=some (229,2))(hfz:w.frozen? ⟨b,0,none⟩=false) :
  Calls prog 223 #[.pointer (some ⟨b,0,none⟩)] w fun e w'=>e=.returned (.tuple #[])/\w'=w.setCell ⟨b,0,none⟩ (.pointer (some ⟨b,0,none⟩)):=by
 obtain⟨j,hj,hjs⟩:=jb
 go_enter func223,ntmps223
 go_wp2
 rw[run_to_unsafe w ⟨b,0,none⟩ underlying227 underlying293 hj (by rw[hjs]; decide) hsh (Nat.zero_lt_succ 1)];simp only[Result.andThen];rw[Oper.upon_value]
 go_wp2
 rw[run_callFunc_extern func249 (by kernel_rfl) (by kernel_rfl) (by kernel_rfl) (e:=Extern.AbiNoEscape.same) (by kernel_rfl)];rw[run_noEscape];simp only[Result.andThen];rw[Oper.upon_value]
 go_wp2
 rw[run_from_unsafe w ⟨b,0,none⟩ underlying293 underlying227 hj hsh (by kernel_rfl)];simp only[Result.andThen];rw[Oper.upon_value]
 go_wp2
 go_end0
 exact⟨rfl,rfl⟩
theorem cc(B b:Nat)(bs:List Value)(w:World)(h:IsBuilder 229 5 B b bs w):Calls prog 223 #[.pointer (some ⟨b,0,none⟩)] w fun e w'=>e=.returned (.tuple #[])/\BuilderAt 229 5 B b (.pointer (some ⟨b,0,none⟩)) bs w' /\
  Fr w w' b none/\w'.cell? ⟨b,1,none⟩=w.cell? ⟨b,1,none⟩:=by
 rcases h with h|h
 .refine (BnK b w h.cell0 h.shape h.frozen0).mono ?_
  rintro e w' ⟨rfl,rfl⟩;refine⟨rfl,h.used _,⟨rfl,rfl,rfl,by simp[World.setCell],fun k _ hk _=>heap_setCell_other w _ k _ hk⟩,World.cell?_setCell_other _ _ _ _ (by simp)⟩
 .refine (BvL b w h.cell0).mono ?_
  rintro e w' ⟨rfl,rfl⟩;exact⟨rfl,h,⟨rfl,rfl,rfl,lad _,fun _ _ _ _=>rfl⟩,rfl⟩
end Go.Proofs.YtgenkcmfeeakoaaGreatDoor
namespace Go.Proofs.YtgenkcmfeeakoaaGreatDoor
open Av RowKit Proofs.Tryz
theorem A2G{g:Std}{f:FuncId}{args:LA}{r:AV}(vs:List Value)(v:Value)(hb:AaB prog f=true)(ha:∀ h vs',RL h Lf0 true vs' args->vs'=vs)(hr:∀ h,RV h Lf0 true v r)
  (H:∀ w,AxI g w->Calls prog f vs.toArray w fun e w'=>e=.returned v/\Same w w'):PcH prog g f args (· = r):=by
 refine⟨hb,fun h w vs' hg hm hv=>?_⟩;have:=ha h vs' hv;subst this;refine(H w hg).mono ?_;rintro e w' ⟨rfl,hs⟩;exact⟨v,r,h,rfl,rfl,fun b o v e=>⟨hs.cell (hm b o v e).1,(hm b o v e).2⟩,fun _ _ _ x=>x,fun b o e n=>(n e).elim,hs,hr h⟩
theorem ArM{f:FuncId}{args:LA}{r:AV}(vs:List Value)(v:Value)(hb:AaB prog f=true)(ha:∀ h vs',RL h Lf0 true vs' args->vs'=vs)(hr:∀ h,RV h Lf0 true v r)
  (H:∀ w,Calls prog f vs.toArray w fun e w'=>e=.returned v/\Same w w'):Pc prog f args (· = r):=by
 refine⟨hb,fun h w vs' hm hv=>?_⟩;have:=ha h vs' hv;subst this;refine(H w).mono ?_;rintro e w' ⟨rfl,hs⟩;exact⟨v,r,h,rfl,rfl,fun b o v e=>⟨hs.cell (hm b o v e).1,(hm b o v e).2⟩,fun _ _ _ x=>x,fun b o e n=>(n e).elim,hs,hr h⟩
theorem rv_str{h:Mem}{v:Value}{s:LU}(r:RV h Lf0 true v (.str s)):v=.string ⟨s.toArray⟩:=by cases r<;>grind
theorem BeH{h:Mem}{v:Value}{k:IntKind}{n:Int}(r:RV h Lf0 true v (.int k n)):v=.int k n:=by cases r<;>grind
theorem AdN(s p:LU):∀ h vs',RL h Lf0 true vs' [.str s,.str p]->vs'=[.string ⟨s.toArray⟩,.string ⟨p.toArray⟩]:=by
 intro h vs' r
 cases r with|cons r1 r=>cases r with|cons r2 r=>cases r<;>grind[rv_str]
theorem AxO(s p:LU):Pc prog 172 [.str s,.str p] (· = .bool (Lib.hasPrefix s p)) :=
 ArM [_,_] (.bool (Lib.hasPrefix s p)) hB172 (AdN s p) (fun h=>.bool _) fun w=>(Any.strings_HasPrefix Tryz.lays99 ⟨s.toArray⟩ ⟨p.toArray⟩ w).mono fun e w' ⟨h1,h2⟩=>⟨h1,h2▸.refl w⟩
theorem AbR(s p:LU)(hs:s.length<=9223372036854775807):Pc prog 120 [.str s,.str p] (· = .bool (Lib.hasSuffix s p)) :=
 ArM [_,_] (.bool (Lib.hasSuffix s p)) hB120 (AdN s p) (fun h=>.bool _) fun w=>(Any.strings_HasSuffix Tryz.lays100 ⟨s.toArray⟩ ⟨p.toArray⟩ w hs).mono fun e w' ⟨h1,h2⟩=>⟨h1,h2▸.refl w⟩
theorem AxP(s:LU)(c:Int):Pc prog 262 [.str s,.int .u8 c] (· = .int .i64 (Lib.indexByte s c.toNat.toUInt8)) :=
 ArM [.string ⟨s.toArray⟩,.int .u8 c] (.int .i64 (Lib.indexByte s c.toNat.toUInt8)) hB262 (fun h vs' r=>by cases r with|cons r1 r=>cases r with|cons r2 r=>cases r; rw[rv_str r1,BeH r2]) (fun h=>.int _ _)
  fun w=>(Any.strings_IndexByte Tryz.lays137 ⟨s.toArray⟩ c w).mono fun e w' ⟨h1,h2⟩=>⟨h1,h2▸.refl w⟩
theorem AgZ{S:Std}(hS:LibOk S)(s p:LU)(hs:s.length<4294967281):PcH prog S 207 [.str s,.str p] (· = .bool (Lib.contains s p)) :=
 A2G [_,_] (.bool (Lib.contains s p)) hB207 (AdN s p) (fun h=>.bool _) fun w H=>(Any.strings_Contains Tryz.lays144 ⟨s.toArray⟩ ⟨p.toArray⟩ _ w hs (hS.cell.choose_spec w H)).mono fun e w' ⟨h1,h2⟩=>⟨h1,h2▸.refl w⟩
theorem A9Q(w:World):∀ n,Same w (w.drewN n):=fun n=>⟨rfl,rfl,⟨rfl,trivial⟩,lad _,fun _ _=>rfl⟩
theorem BvM{S:Std}(hS:LibOk S)(s p:LU)(hs:s.length<4294967281):PcH prog S 143 [.str s,.str p] (· = .tup [.str (Lib.cut s p).1,.str (Lib.cut s p).2.1,.bool (Lib.cut s p).2.2]) :=
 A2G [_,_] (.tuple #[.string ⟨(Lib.cut s p).1.toArray⟩,.string ⟨(Lib.cut s p).2.1.toArray⟩,.bool (Lib.cut s p).2.2]) hB143 (AdN s p) (fun h=>.tup [_,_,_] [_,_,_] (.cons (.str _) (.cons (.str _) (.cons (.bool _) .nil))))
  fun w H=>(Any.strings_Cut Tryz.lays145 ⟨s.toArray⟩ ⟨p.toArray⟩ _ w hs (hS.cell.choose_spec w H)).mono fun e w' ⟨h1,n,h2⟩=>⟨h1,h2▸A9Q w n⟩
attribute [go_sem ↓] Go.Av.BuZ Go.Av.BmU Go.Av.BmX Go.Av.BdQ Go.Av.BeD Go.Av.A9O Go.Av.BeE Go.Av.A9P
attribute [go_sem] Go.Av.run Go.Av.cont Go.Av.br Go.Av.dbr Go.Av.dx Go.Av.dxc Go.Av.dgrd Go.Av.dyld Go.Av.dres Go.Av.dcall Go.Av.calm Go.Av.AiR Go.Av.A5I Go.Av.BmT Go.Av.opN Go.Av.grdN Go.Av.resN Go.Av.BmR Go.Av.BuY Go.Av.BmS Go.Av.AlY Go.Av.dOk Go.Av.xop Go.Av.xbin Go.Av.xint Go.Av.AwN Go.Av.xstr Go.Av.BlP Go.Av.BcI Go.Av.xnot Go.Av.xneg Go.Av.AjH Go.Av.xpart Go.Av.xpartOk Go.Av.AwP Go.Av.AnH Go.Av.AnG Go.Av.xnew Go.Av.xbox Go.Av.AjI Go.Av.AdT Go.Av.xptrAddIf Go.Av.AcG Go.Av.BcJ Go.Av.xload Go.Av.putCells Go.Av.reElem Go.Av.A1M Go.Av.A5H Go.Av.BlR Go.Av.BuA Go.Av.xlen Go.Av.A1N Go.Av.BcM Go.Av.AnI Go.Av.AwQ Go.Av.cut Go.Av.rep Go.Av.AdX Go.Av.AcY Go.Av.isRow Go.Av.elemD Go.Av.isU8 Go.Av.ev Go.Av.evs Go.Av.evp Go.Av.put Go.Av.get Go.Av.AdW Go.Av.yldD Go.Av.yldV Go.Av.AuM Go.Av.args0 Go.Av.cellsOf lav lbp decide_true decide_false lag lai List.getElem?_cons_zero List.getElem?_cons_succ List.getElem?_nil List.getD_cons_zero List.getD_cons_succ List.getD_nil List.set_cons_zero List.set_cons_succ lam lap lbb lbx lca lat lbn lal las List.take_succ_cons List.take_zero List.drop_succ_cons lcj lax lbt lbh Bool.and_false Bool.false_and Go.Av.one Go.Av.frozen lbl true_and and_true forall_const false_implies implies_true and_self lcp Option.map_none laq Nat.add_zero Nat.zero_mul Nat.mul_one Nat.one_mul Int.toNat_zero ne_eq not_false_eq_true not_true_eq_false Bool.true_eq_false lan List.toList_toArray Go.Av.inr Go.Av.AlW Go.Av.AfE decide_eq_decide Bool.not_true Bool.not_false lbv Bool.or_true Bool.true_or Bool.or_false Bool.false_or ge_iff_le gt_iff_lt and_assoc Bool.decide_eq_true lbr lbe bne_iff_ne bne_self_eq_false if_true if_false lae lbj Bool.and_eq_false_imp lch Bool.not_eq_false' Go.Av.has Option.isSome_some Option.isSome_none Int.toNat_natCast Int.cast_ofNat_Int lah Go.Av.A8Y Go.Av.xapp Go.Av.BlT Go.Av.BlS Go.Av.BcO Go.Av.ArE Go.Av.BcN Go.Av.srcB Go.Av.ArD Go.Av.AbZ Go.Av.xcut Go.Av.BlV Go.Av.BlW Go.Av.BlX Go.Av.BlY Go.Av.BuB Go.Av.cutL Go.Av.loOf Go.Av.hiOf Go.Av.evo Go.Av.BmA Go.Av.AnJ Go.Av.xmax Go.Av.AwR Go.Av.BcQ Go.Av.BcP Go.Av.xnil Go.Av.BuC Go.Av.BlZ Go.Av.ixOf Go.Av.AnK Go.Av.A1O List.getElem?_toArray Go.Av.AwO Go.Av.AiL Go.Av.AfA Go.Av.BsN Go.Av.BcR Go.Av.BmB Go.Av.BcS Go.Av.AnL Go.Av.AgT Go.Av.keyEq Go.Av.mfind Go.Av.AtW Go.Av.xeqs Go.Av.A1L Go.Av.eqFs Go.Av.eqFN Go.Av.eqF1 Go.Av.bothB Go.Av.leafEq Go.Av.AwS Go.Av.A5L Go.Av.A5J Go.Av.BcK Go.Av.BuH Go.Av.BuI Go.Av.BuJ Go.Av.BuK Go.Av.BuL Go.Av.dxi Go.Av.dxic Go.Av.dbri Go.Av.rix Go.Av.dck Go.Av.reader Go.Av.blind Go.Av.opOk Go.Av.refOk Go.Op.operands Go.Call.operands List.contains_cons List.contains_nil Go.Av.dxg Go.Av.dxgc Go.Av.dbrg List.lookup_cons List.lookup_nil Go.Av.BlQ Go.Av.BtZ Go.Av.keyEqS Go.Av.AdL Go.Av.mfindS Go.Av.BuD Go.Av.BcT Go.Av.A5K Go.Av.AtX Go.Av.AtY Go.Av.AtZ Go.Av.AuA Go.Av.AuB Go.Av.A1P Go.Av.A5N Go.Av.A1Q Go.Av.A1R Go.Av.A5O Go.Av.frozen0 Go.Av.isI Go.Av.BlU Go.Av.xcap Go.Av.BcL Go.Av.AgP Go.Av.AdK Go.Av.mfindT Go.Av.eqLs Go.Av.BcU Go.Av.A5M Go.Av.BcV Go.Av.BuE Go.Av.BuF Go.Av.BuG Go.Av.xdel Go.Av.BcW Go.Av.liveK ts2 underlying2 ts3 tb3 zv3 zk3 za3 underlying3 ts4 tb4 zv4 zk4 za4 underlying4 ts5 tb5 za5 underlying5 fl7 fl8 ts9 tb9 za9 underlying9 ts10 underlying10 fl13 fl14 fl18 fl19 ts22 underlying22 ts24 fl24 underlying24 ts25 za25 fl25 underlying25 ts26 underlying26 ts27 fl27 underlying27 ts28 za28 fl28 underlying28 ts29 underlying29 ts30 za30 underlying30 ts34 tb34 za34 underlying34 ts35 underlying35 ts36 fl36 lf36 underlying36 ts37 za37 fl37 lf37 underlying37 ts38 tb38 za38 underlying38 ts46 underlying46 ts47 fl47 underlying47 ts48 tb48 za48 fl48 underlying48 ts52 fl52 underlying52 ts53 tb53 za53 fl53 underlying53 ts66 underlying66 ts67 fl67 underlying67 ts68 tb68 za68 fl68 underlying68 ts71 underlying71 ts73 underlying73 ts75 fl75 underlying75 ts76 tb76 za76 fl76 underlying76 ts78 fl78 underlying78 ts79 tb79 za79 fl79 underlying79 ts92 underlying92 ts94 underlying94 ts96 zv96 zk96 underlying96 ts97 underlying97 ts101 tb101 za101 underlying101 ts109 fl109 underlying109 ts110 tb110 za110 fl110 underlying110 ts119 underlying119 ts126 underlying126 ts127 tb127 za127 underlying127 ts128 fl128 underlying128 ts129 tb129 za129 fl129 underlying129 ts130 underlying130 ts131 underlying131 ts141 underlying141 ts143 fl143 underlying143 ts144 tb144 za144 fl144 underlying144 ts151 underlying151 ts152 underlying152 ts153 fl153 underlying153 ts154 za154 fl154 underlying154 ts159 zv159 zk159 underlying159 ts160 fl160 underlying160 ts161 tb161 za161 fl161 underlying161 ts166 fl166 underlying166 ts167 tb167 za167 fl167 underlying167 ts169 underlying169 ts180 underlying180 ts186 fl186 underlying186 ts187 za187 fl187 underlying187 ts188 fl188 underlying188 ts189 tb189 za189 fl189 underlying189 ts198 underlying198 ts207 underlying207 ts228 fl228 underlying228 ts229 za229 fl229 underlying229 ts248 underlying248 ts256 underlying256 ts257 tb257 za257 underlying257 ts258 za258 underlying258 fl265 fl266 fl274 fl275 ts285 underlying285 ts291 fl291 underlying291 ts292 fl292 underlying292 ts293 underlying293 fl298 fl299 fl300 fl301 fl303 fl304 fl310 fl311 fl318 fl319 fl328 fl329
attribute [go_sem] ntmps3 ntmps4 ntmps5 ntmps6 ntmps7 ntmps8 ntmps9 ntmps10 ntmps11 ntmps12 ntmps13 ntmps14 ntmps15 ntmps16 ntmps17 ntmps18 ntmps19 ntmps20 ntmps21 ntmps22 ntmps23 ntmps24 ntmps25 ntmps26 ntmps27 ntmps28 ntmps30 ntmps31 ntmps32 ntmps33 ntmps34 ntmps35 ntmps36 ntmps37 ntmps38 ntmps39 ntmps40 ntmps41 ntmps42 ntmps43 ntmps44 ntmps45 ntmps46 ntmps47 ntmps48 ntmps49 ntmps50 ntmps51 ntmps52 ntmps53 ntmps54 ntmps55 ntmps56 ntmps57 ntmps58 ntmps60 ntmps61 ntmps62 ntmps63 ntmps64 ntmps65 ntmps66 ntmps67 ntmps69 ntmps71 ntmps72 ntmps73 ntmps74 ntmps75 ntmps76 ntmps77 ntmps78 ntmps79 ntmps80 ntmps81 ntmps82 ntmps83 ntmps87 ntmps88 ntmps89 ntmps90 ntmps91 ntmps92 ntmps93 ntmps94 ntmps95 ntmps96 ntmps97 ntmps98 ntmps99 ntmps100 ntmps101 ntmps102 ntmps103 ntmps104 ntmps105 ntmps106 ntmps107 ntmps108 ntmps109 ntmps110 ntmps111 ntmps112 ntmps113 ntmps114 ntmps115 ntmps119 ntmps123 ntmps124 ntmps125 ntmps126 ntmps127 ntmps128 ntmps129 ntmps130 ntmps134 ntmps135 ntmps136 ntmps137 ntmps138 ntmps139 ntmps140 ntmps141 ntmps142 ntmps144 ntmps145 ntmps146 ntmps149 ntmps150 ntmps151 ntmps152 ntmps153 ntmps154 ntmps155 ntmps156 ntmps157 ntmps158 ntmps159 ntmps160 ntmps161 ntmps163 ntmps164 ntmps181 ntmps182 ntmps184 ntmps185 ntmps186 ntmps187 ntmps188 ntmps189 ntmps208 ntmps209 ntmps210 ntmps211 ntmps212 ntmps213 ntmps214 ntmps223 ntmps241 ntmps242 ntmps243 ntmps244
attribute [go_sem] Nat.reduceAdd Nat.reduceMul Nat.reduceSub Nat.reduceBEq Nat.reduceLT Nat.reduceLeDiff reduceIte reduceCtorEq Int.reduceToNat Int.reduceLE Int.reduceLT Int.reduceNe Int.reduceMul Int.reduceAdd Int.reduceSub Int.reduceDiv Int.reduceMod Int.reduceEq Int.reduceGE Int.reduceGT Int.reduceNeg Int.reduceBEq Int.reduceBNe Nat.reduceEqDiff
def digI(n:Int):Bool:=decide (n>=48)&&decide (n<=57)
def capI(n:Int):Bool:=decide (n>=65)&&decide (n<=90)
theorem ArN(n:Int):Pc prog 208 [.int .u8 n] (· = .bool (digI n)):=by
 refine AbV (AbC func208 rfl ntmps208 hB208 (by simp) fun h ρ w=>go rfl 200 ?_)
 by_cases h1:n>=48
 .have d1:decide (n>=48)=true:=by simpa using h1
  simp only[go_sem,d1];exact aret [2] rfl ⟨by simp[resV,Av.get,digI,h1],rfl⟩
 .have d1:decide (n>=48)=false:=by simpa using h1
  simp only[go_sem,d1];exact aret [2] rfl ⟨by simp[resV,Av.get,digI,h1],rfl⟩
theorem AeR(n:Int):Pc prog 209 [.int .u8 n] (· = .bool (capI n)):=by
 refine AbV (AbC func209 rfl ntmps209 hB209 (by simp) fun h ρ w=>go rfl 200 ?_)
 by_cases h1:n>=65
 .have d1:decide (n>=65)=true:=by simpa using h1
  simp only[go_sem,d1];exact aret [2] rfl ⟨by simp[resV,Av.get,capI,h1],rfl⟩
 .have d1:decide (n>=65)=false:=by simpa using h1
  simp only[go_sem,d1];exact aret [2] rfl ⟨by simp[resV,Av.get,capI,h1],rfl⟩
def okB(c:UInt8):Bool:=!(decide ((c.toNat:Int)<32))&&!(decide ((c.toNat:Int)>126))
def plainL(s:LU):Bool:=s.all okB&&(!Lib.hasPrefix s [32]&&(!Lib.hasSuffix s [32]&&!Lib.contains s [32,32]))
theorem AaR{α:Type}{p:α->Bool}{s:List α}{i:Nat}(h:i<s.length)(h1:(s.take i).all p=true)(h2:p s[i]=true):(s.take (i+1)).all p=true:=by
 rw[laf h,lbo,h1]
 simpa using h2
theorem AcH{α:Type}{p:α->Bool}{s:List α}{i:Nat}(h:i<s.length)(h2:p s[i]=false):s.all p=false:=by
 rw[List.all_eq_false];exact⟨s[i],lac h,by simp[h2]⟩
theorem AeC{S:Std}(hS:LibOk S)(s:LU)(hs:s.length<1000000):PcH prog S 153 [.str s] (· = .bool (plainL s)):=by
 refine AgY (AgX func153 rfl ntmps153 hB153 (by simp) fun h ρ w hg=>go rfl 200 ?_);simp only[go_sem];refine AaE (ι:=Nat) (fun i=>s.length-i) (fun i=>[(6,.int .i64 i),(5,.int .i64 s.length),(0,.str s)]) (fun _=>[]) (fun i=>i<=s.length/\(s.take i).all okB=true) 0 ⟨by omega,by simp⟩ ?_ ?_
 .refine Lr ?_
  simp only[go_sem]
 .rintro i ⟨g1,g2⟩ J hJ
  refine go rfl 200 ?_
  by_cases hi:(i:Int)<s.length
  .have hil:i<s.length:=by omega
   have hgd:s.getD i 0=s[i]:=by simp[List.getD,hil]
   by_cases hc1:((s[i].toNat:Int)<32)
   .have d1:decide ((s[i].toNat:Int)<32)=true:=by simpa using hc1
    simp only[go_sem,hi,hgd,d1];refine⟨by omega,aret [2] rfl ⟨?_,rfl⟩⟩
    simp[resV,Av.get,plainL,AcH hil (p:=okB) (by simp[okB]; omega)]
   .have d1:decide ((s[i].toNat:Int)<32)=false:=by simpa using hc1
    by_cases hc2:((s[i].toNat:Int)>126)
    .have d2:decide ((s[i].toNat:Int)>126)=true:=by simpa using hc2
     simp only[go_sem,hi,hgd,d1,d2];refine⟨by omega,by omega,aret [2] rfl ⟨?_,rfl⟩⟩
     simp[resV,Av.get,plainL,AcH hil (p:=okB) (by simp[okB]; omega)]
    .have d2:decide ((s[i].toNat:Int)>126)=false:=by simpa using hc2
     simp only[go_sem,hi,hgd,d1,d2];rw[ic i]
     repeat refine ao ?_
     refine ainv (hJ (i+1) ⟨by omega,AaR hil g2 (by simp[okB]; omega)⟩ (by omega)) (Lr ?_);simp only[go_sem]
  .simp only [go_sem,hi]
   have hall:s.all okB=true:=by rw[<- g2,laj (by omega)]
   refine AaX (AxO s [32]) rfl rfl rfl (go rfl 200 ?_)
   cases e1:Lib.hasPrefix s [32]with
   | true =>
    simp only[go_sem];refine aret [2] rfl ⟨?_,rfl⟩
    simp[resV,Av.get,plainL,e1]
   | false =>
    simp only[go_sem];refine AaX (AbR s [32] (by omega)) rfl rfl rfl (go rfl 200 ?_)
    cases e2:Lib.hasSuffix s [32]with
    | true =>
     simp only[go_sem];refine aret [2] rfl ⟨?_,rfl⟩
     simp[resV,Av.get,plainL,e2]
    | false =>
     simp only[go_sem];refine AuN hg (AgZ hS s [32,32] (by omega)) rfl rfl rfl (go rfl 200 ?_);simp only[go_sem];refine aret [2] rfl ⟨?_,rfl⟩
     simp[resV,Av.get,plainL,e1,e2,hall]
def okP(o:LU)(c:UInt8):Bool:=capI c.toNat||(digI c.toNat||(((c.toNat:Int)==32)||!(decide (Lib.indexByte o c<0))))
def properL(s:LU)(most:Int)(o:LU):Bool :=
 !(decide ((s.length:Int)<1))&&(!(decide ((s.length:Int)>most))&&(capI (s.getD 0 0).toNat&&(plainL s&&s.all (okP o))))
theorem ArO{S:Std}(hS:LibOk S)(s:LU)(most:Int)(o:LU)(hs:s.length<1000000):PcH prog S 241 [.str s,.int .i64 most,.str o] (· = .bool (properL s most o)):=by
 refine zqIN func241 rfl fun h ρ w hg=>?_
 by_cases h1:(s.length:Int)<1
 .have d1:decide ((s.length:Int)<1)=true:=by simpa using h1
  simp only[go_sem,d1];exact aret [6] rfl ⟨by simp[resV,Av.get,properL,h1],rfl⟩
 have d1:decide ((s.length:Int)<1)=false:=by simpa using h1
 by_cases h2:(s.length:Int)>most
 .have d2:decide ((s.length:Int)>most)=true:=by simpa using h2
  simp only[go_sem,d1,d2];exact aret [6] rfl ⟨by simp[resV,Av.get,properL,h2],rfl⟩
 have d2:decide ((s.length:Int)>most)=false:=by simpa using h2
 simp only[go_sem,d1,d2];have hpos:0<s.length:=by omega
 refine⟨by omega,?_⟩;refine zpN (AeR _) ?_
 cases e1:capI (s.getD 0 0).toNat with
 | false =>
  simp only[go_sem];exact aret [6] rfl ⟨by simp only[resV,Av.get,properL,e1]; simp,rfl⟩
 | true =>
 simp only[go_sem];refine zqN hg (AeC hS s hs) ?_
 cases e2:plainL s with
 | false =>
  simp only[go_sem];exact aret [6] rfl ⟨by simp only[resV,Av.get,properL,e2]; simp,rfl⟩
 | true =>
 simp only[go_sem];have hval:properL s most o=s.all (okP o):=by simp only[properL,d1,d2,e1,e2]; simp
 rw[hval];refine AaE (ι:=Nat) (fun i=>s.length-i) (fun i=>[(30,.int .i64 i),(29,.int .i64 s.length),(0,.str s),(2,.str o)]) (fun _=>[]) (fun i=>i<=s.length/\(s.take i).all (okP o)=true) 0 ⟨by omega,by simp⟩ ?_ ?_
 .refine Lr ?_
  simp only[go_sem]
 .rintro i ⟨g1,g2⟩ J hJ
  apply zgN
  by_cases hi:(i:Int)<s.length
  .have hil:i<s.length:=by omega
   have hgd:s.getD i 0=s[i]:=by simp[List.getD,hil]
   simp only[go_sem,hi,hgd];refine⟨by omega,?_⟩;refine zpN (AeR _) ?_
   cases c1:capI (s[i].toNat:Int)with
   | true =>
    simp only[go_sem];rw[ic i]
    repeat refine ao ?_
    refine ainv (hJ (i+1) ⟨by omega,AaR hil g2 (by simp only[okP,c1]; rfl)⟩ (by omega)) (Lr ?_);simp only[go_sem]
   | false =>
    simp only[go_sem,hi,hgd];refine⟨by omega,?_⟩;refine zpN (ArN _) ?_
    cases c2:digI (s[i].toNat:Int)with
    | true =>
     simp only[go_sem];rw[ic i]
     repeat refine ao ?_
     refine ainv (hJ (i+1) ⟨by omega,AaR hil g2 (by simp only[okP,c1,c2]; rfl)⟩ (by omega)) (Lr ?_);simp only[go_sem]
    | false =>
     cases c3:((s[i].toNat:Int)==32)with
     | true =>
      have c3':((s[i].toNat:Int) != 32)=false:=by simpa using c3
      simp only[go_sem,hi,hgd,c3'];rw[ic i]
      repeat refine ao ?_
      refine ainv (hJ (i+1) ⟨by omega,AaR hil g2 (by simp only[okP,c1,c2,c3]; rfl)⟩ (by omega)) (Lr ?_);simp only[go_sem]
     | false =>
      have c3':((s[i].toNat:Int) != 32)=true:=by simpa using c3
      simp only[go_sem,hi,hgd,c3'];refine⟨by omega,by omega,?_⟩;refine zpN (AxP o (s[i].toNat:Int)) ?_;have hb:((s[i].toNat:Int)).toNat.toUInt8=s[i]:=by simp
      rw[hb]
      cases c4:decide (Lib.indexByte o s[i]<0)with
      | false =>
       simp only[go_sem,c4];rw[ic i]
       repeat refine ao ?_
       refine ainv (hJ (i+1) ⟨by omega,AaR hil g2 (by simp only[okP,c1,c2,c3,c4]; rfl)⟩ (by omega)) (Lr ?_);simp only[go_sem]
      | true =>
       simp only[go_sem,c4];refine aret [6] rfl ⟨?_,rfl⟩
       simp[resV,Av.get,AcH hil (p:=okP o) (by simp only[okP,c1,c2,c3,c4]; rfl)]
  .simp only [go_sem,hi]
   have hall:s.all (okP o)=true:=by rw[<- g2,laj (by omega)]
   exact aret [6] rfl ⟨by simp[resV,Av.get,hall],rfl⟩
def isSetL(s:LU):Bool:=properL s 60 [39,46,45,47]&&(!Lib.contains s [32,45,32]&&!Lib.hasSuffix s [32,45])
theorem BeI{S:Std}(hS:LibOk S)(s:LU)(hs:s.length<1000000):PcH prog S 210 [.str s] (· = .bool (isSetL s)):=by
 refine zqIN func210 rfl fun h ρ w hg=>?_
 simp only[go_sem];refine zqN hg (ArO hS s 60 [39,46,45,47] hs) ?_
 cases e1:properL s 60 [39,46,45,47]with
 | false =>
  simp only[go_sem];exact aret [2] rfl ⟨by simp[resV,Av.get,isSetL,e1],rfl⟩
 | true =>
  simp only[go_sem];refine zqN hg (AgZ hS s [32,45,32] (by omega)) ?_
  cases e2:Lib.contains s [32,45,32]with
  | true =>
   simp only[go_sem];exact aret [2] rfl ⟨by simp[resV,Av.get,isSetL,e2],rfl⟩
  | false =>
   simp only[go_sem];refine zpN (AbR s [32,45] (by omega)) ?_;simp only[go_sem];exact aret [2] rfl ⟨by simp[resV,Av.get,isSetL,e1,e2],rfl⟩
end Go.Proofs.YtgenkcmfeeakoaaGreatDoor
namespace Go.Proofs
open Shelf Proofs.Tryz
def Tryz.lays150_ren:Go.Shelf.Ren:=⟨fun|150=>183|153=>229|152=>246|226=>254|227=>163|228=>214|137=>262|119=>263|224=>260|225=>259|217=>258|266=>265|n=>n,fun|9=>9|4=>4|3=>3|5=>5|21=>21|117=>215|116=>214|0=>0|46=>198|124=>218|n=>n,fun|n=>n⟩
theorem Tryz.lays150:Go.Proofs.Lays.n150 prog Tryz.lays150_ren:=by constructor <;> intros <;> kernel_rfl
def Tryz.lays160_ren:Go.Shelf.Ren:=⟨fun|160=>177|232=>225|231=>162|227=>163|234=>226|233=>164|236=>227|235=>165|228=>214|271=>251|151=>216|197=>215|120=>264|152=>246|260=>245|137=>262|119=>263|224=>260|225=>259|217=>258|266=>265|n=>n,fun|9=>9|4=>4|3=>3|5=>5|117=>215|116=>214|0=>0|124=>218|21=>21|105=>259|46=>198|119=>232|139=>312|138=>311|n=>n,fun|3=>6|4=>7|n=>n⟩
theorem Tryz.lays160:Go.Proofs.Lays.n160 prog Tryz.lays160_ren:=by constructor <;> intros <;> kernel_rfl
def Tryz.lays161_ren:Go.Shelf.Ren:=⟨fun|161=>115|231=>162|227=>163|233=>164|235=>165|228=>214|197=>215|151=>216|260=>245|152=>246|137=>262|119=>263|224=>260|225=>259|217=>258|266=>265|n=>n,fun|9=>9|4=>4|3=>3|5=>5|117=>215|116=>214|0=>0|124=>218|105=>259|21=>21|119=>232|46=>198|139=>312|138=>311|n=>n,fun|3=>6|4=>7|n=>n⟩
theorem Tryz.lays161:Go.Proofs.Lays.n161 prog Tryz.lays161_ren:=by constructor <;> intros <;> kernel_rfl
def Tryz.laysC172_ren:Go.Shelf.Ren:=⟨fun|172=>59|244=>116|245=>117|247=>166|279=>167|280=>168|281=>169|282=>170|287=>217|316=>218|171=>29|205=>219|321=>247|322=>248|243=>70|246=>133|283=>200|284=>201|285=>202|286=>203|129=>199|317=>235|318=>236|319=>237|320=>238|337=>256|338=>257|n=>n,fun|9=>9|3=>3|75=>119|76=>120|4=>4|5=>5|167=>219|37=>180|0=>0|85=>220|2=>2|168=>222|53=>248|175=>262|46=>198|210=>266|127=>272|145=>292|143=>290|21=>21|171=>249|173=>251|212=>285|51=>246|20=>20|213=>286|232=>315|233=>316|80=>231|n=>n,fun|15=>2|16=>3|17=>5|18=>8|19=>9|n=>n⟩
theorem Tryz.laysC172:Go.Proofs.LaysC.n172 prog Tryz.laysC172_ren:=by constructor <;> intros <;> first|kernel_rfl|(constructor <;> intros <;> first|kernel_rfl|(constructor <;> intros <;> kernel_rfl))
