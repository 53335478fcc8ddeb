/- This seat has no strings.Builder. -/
import Derived.Test.YtooohdocabpblaaGreatDoorV13
import Derived.Lib.ItoaNum
import Derived.ChangeSame
import Derived.HandedShaped
import Derived.LaidMore
import Derived.Lay
import Derived.OpenShut
import Derived.ChangeSlices
import Derived.ProofKit
import Derived.Test.YtooohdocabpblaaGreatDoorCards
import Derived.Test.YtooohdocabpblaaGreatDoorTie
import Derived.Shelf.Vars
import Derived.LaidSub
import Derived.Lib.LaidTab
import Derived.Stop.LaidErr
set_option linter.all false
namespace Go.Proofs.YtooohdocabpblaaGreatDoor
open Av RowKit
structure LibOk(S:Std):Prop where
 maxlen:∃ m cs t z,S 2=some (.cells cs t z)/\cs[0]? = some (.int .i64 m)
 pow10:∃ t z,S 7=some (.cells (Lib.pow10Tab.map fun z=>Value.int .u64 z).toArray t z)
 syn:∃ te pe t z,S 5=some (.cells #[.iface te pe] t z)
theorem LibOk.cell{S:Std}(hS:LibOk S):∃ m,∀ w,AnZ S w->w.cell? ⟨Tryz.lays144_ren.g 1,0,none⟩=some (.int .i64 m):=by
 obtain⟨m,cs,t,z,h,h0⟩:=hS.maxlen;exact⟨m,fun w hw=>(Lib.cell_of_heap (hw _ _ h) 0).trans h0⟩
end Go.Proofs.YtooohdocabpblaaGreatDoor
namespace Go.Av
open RowKit WideShapes ChangeShapes
variable [Tr]
theorem Same.below{W W':World}(s:Same W W'):Below W.heap.size W W':=⟨s.os,s.tape,s.output.1,s.size,s.block⟩
theorem A4F{h:Mem}{v:Value}{b:Bool}(r:RV h Lf0 true v (.bool b)):v=.bool b:=by
 cases r<;>grind
section
variable {H:Type}{enc:TypeId×Value->H}{P:Program}
theorem AqJ{f:Func}{s:ChangeSpec}{apart fresh handsOn again:Bool}{W W':World}{args:Array Value}{v:Value}{ds gs:List (DataW H)}{before pa pv:List MemPlace}
  (hW:DataW.Whole enc P f.params.toList s.vars apart W args.toList ds gs before)
  (hres:∀ (b:Nat) (sp:Nat->Bool) (hd:Bool),DataW.TrodAll enc P W' b sp hd f.resultTypes.toList (v.resultList f.resultTypes.size) (s.fn H (ds++gs)).results [])
  (hargs:∀ sp:Nat->Bool,(∀ p∈before,sp p.block=true)->DataW.TrodAll enc P W' 0 sp true f.params.toList args.toList (s.fn H (ds++gs)).args pa)
  (hvars:∀ sp:Nat->Bool,(∀ p∈before,sp p.block=true)->DataW.TrodVars enc P W' sp s.vars (s.fn H (ds++gs)).vars pv)
  (hps:before=pa++pv) (hs:Same W W')
  (hok:∀ (j:Nat) (t:TypeId) (r:Value),f.resultTypes[j]? = some t->(v.resultList f.resultTypes.size)[j]? = some r->Value.okWide P W' .any 0 t r) :
  s.post enc P f apart fresh handsOn again W args v W':=by
 have hb:=hs.below;have hlt:=fun p hp=>hW.lt p hp
 have hold:=fun p hp=>decide_eq_true (hlt p hp)
 refine⟨ds,gs,before,[],pa,pv,hW,hres _ _ _,hargs _ hold,hvars _ hold,World.keptBut_mono (fun p hp=>⟨hp,?_⟩) (hb.frame (·∈before)),fun _=>?_⟩
 .grind
 .obtain ⟨_,_,_,_,_,hz,hn⟩:=hW
  refine⟨hok,_,_,([]++pa)++pv,⟨[]++pa,pv,trodAll_append (hargs _ (fun _ _=>rfl)) (hres _ _ _),hvars _ (fun _ _=>rfl),rfl,?_,?_⟩,?_⟩
  .intro b off hp
   have hin:MemPlace.cell b off∈before:=by grind
   rw[hb.frozen (hlt _ hin)];exact hz b off hin
  all_goals grind
end
end Go.Av
namespace Go.Av
open RowKit WideShapes ChangeShapes
variable [Tr]
def full(W:World):Mem:=fun b o=>(W.cell? ⟨b,o,none⟩).filter (·.oneCell')
theorem A4G{W:World}{b o:Nat}{v:Value}(h:W.cell? ⟨b,o,none⟩=some v)(hv:v.oneCell'=true):full W b o=some v:=by grind[full]
theorem A4H{W:World}{b o:Nat}{v:Value}(h:full W b o=some v):W.cell? ⟨b,o,none⟩=some v/\v.oneCell'=true:=by
 grind[full,Option.filter_eq_some_iff]
theorem PcH.atW{P:Program}{g:Std}{f:FuncId}{args:LA}{b:Bool}(hc:PcH P g f args (· = .bool b)){W:World}{vs:List Value}(hg:AnZ g W)(hv:RL (full W) Lf0 true vs args) :
  Calls P f vs.toArray W fun e W'=>e=.returned (.bool b)/\Same W W' :=
 (hc.2 (full W) W vs hg (fun _ _ _ e=>A4H e) hv).mono fun e W' ⟨v,r,h',e1,e2,_,_,_,hs,rv⟩=>by
  grind[A4F]
section
variable {H:Type}{enc:TypeId×Value->H}{P:Program}{t e:TypeId}{W:World}{base:Nat}{v:Value}{d:DataW H}{p:List MemPlace}
theorem AzX(ht:P.underlying t=some (.slice e))(he:P.underlying e=some (.int .i64))(hc:P.cellsOf e=1)(hval:Value.okWide P W .any base t v)(h0:DataW.Trod enc P W 0 (fun _=>true) true t v d p) :
  ∃ L:List Int,(∀ x∈L,(Lit.int .i64 x).wf=true)/\RV (full W) Lf0 true v (.fz 1 (L.map (.int .i64)))/\∀ W',Same W W'->∀ sp:Nat->Bool,(∀ x∈p,sp x.block=true)->DataW.Trod enc P W' 0 sp true t v d p:=by
 obtain⟨a0,len,cap,rfl⟩:=okWide_slice ht hval;obtain⟨fuel,hf⟩:=h0
 rcases Go.ChangeShapes.open_ints ht he hc hf with⟨hcs,hx⟩|⟨a,len',cap',zs,hcs,_,hl,hm,hz,hx,hcell,hwz⟩
 .obtain ⟨rfl,rfl,rfl⟩:=hcs
  obtain⟨rfl,rfl⟩:=hx;exact⟨[],by simp,.fznil 1,fun W' _ sp _=>shut_slice_nil ht⟩
 .obtain ⟨rfl,rfl,rfl⟩:=hcs
  obtain⟨rfl,rfl⟩:=hx;have hspot:a.spot=none:=by
   simp only[Value.okWide,ht,Cell.okWide,Cell.ok]at hval;exact hval.2.2.2.1
  obtain⟨b,off,spot⟩:=a;subst hspot;have hcell':∀ i,i<zs.length->W.cell? ⟨b,off+i,none⟩=some (.int .i64 (zs.getD i 0)):=fun i hi=>by grind[Go.WideShapes.add_plain]
  refine⟨zs.take len,fun x hx=>hwz x (lbb hx),?_,fun W' hs sp hsp=>?_⟩
  .have:=RV.fz (h:=full W) (Lf:=Lf0) (fl:=true) b off cap 1 ((zs.take len).map (.int .i64)) ((zs.take len).map (.int .i64)) ?_ (fun x hx=>by obtain⟨z,_,rfl⟩:=List.mem_map.1 hx; rfl) ?_ (by grind)
   .grind
   .generalize zs.take len=l
    induction l with
    | nil=>exact .nil
    | cons x l ih=>exact .cons (.int _ _) ih
   .intro k u hu
    rw[lbh]at hu;obtain⟨z,hz1,rfl⟩:=Option.map_eq_some_iff.1 hu;have hk:k<len:=by
     grind
    refine A4G ?_ rfl<;>grind
  .have hcell2:=fun i hi=>hs.cell (hcell' i hi)
   refine⟨0+2,?_⟩;refine Go.ChangeShapes.shut_ints' 0 ht he hc (Nat.zero_le _) hl hm ?_ hcell2 hwz
   rcases Nat.eq_zero_or_pos zs.length with h0|h0
   .grind
   .have hb:sp b=true:=hsp (.cell b off) (by
     simp_all[MemPlace.row])
    grind
end
section
variable {H:Type}{enc:TypeId×Value->H}
theorem AjR{a:Assume}{C:Checked}{os:Os}{f:FuncId}{fn:Func}{s:ChangeSpec}{conds:List PathCond}{apart fresh handsOn again:Bool}{X:World->Array Value->Prop}
  (hX:∀ (w w':World) (args:Array Value),w.heap=w'.heap->X w args->X w' args)
  (own:ownKnob C.prog.godebug=none) (started:os.Started) (noInit:C.prog.inits.idxOf? f=none) (hfn:C.prog.funcs[f]? = some fn)
  (witness:∃ (w:World) (tape:Tape) (i:Input),w.os=os/\(w.forCall tape i).Shaped C.prog/\i.vars=[]/\Input.okWide C.prog (w.forCall tape i) .any w.heap.size f i /\
   ((s.pre enc C.prog fn conds apart (w.forCall tape i).memory i.args/\X (w.forCall tape i).memory i.args)/\sizedMet enc C.prog fn (OpenSpec.ofChange s) apart (w.forCall tape i).memory i.args)/\a.holds C.prog (lone (Frame.enter C.prog f i.args .normal) [] (w.forCall tape i)))
  (contract:∀ (W:World) (base:Nat) (args:Array Value) (ds gs:List (DataW H)) (before:List MemPlace),
   (∀ (j:Nat) t v,fn.params[j]? = some t->args[j]? = some v->Value.okWide C.prog W .any base t v) ->
   DataW.Whole enc C.prog fn.params.toList s.vars apart W args.toList ds gs before ->
   W.ShapedOpen C.prog->X W args ->
   Calls C.prog f args W fun e W'=>∃ v,e=.returned v/\s.post enc C.prog fn apart fresh handsOn again W args v W') :
  ReturnsInHanded a C os f .any (fun w args=>(s.pre enc C.prog fn conds apart w args/\X w args)/\sizedMet enc C.prog fn (OpenSpec.ofChange s) apart w args) (s.post enc C.prog fn apart fresh handsOn again):=by
 refine returnsInHanded_of_calls own started noInit witness ?_;intro w tape i _ hsh _ hok hpre hholds;obtain⟨_,_,_,fn',hfn',_,_,_,_,hval⟩:=hok;have e:=Option.some.inj (hfn'.symm.trans hfn);subst e;obtain⟨⟨⟨ds,gs,before,hw,hc⟩,hx⟩,hz⟩:=hpre;have hw':=DataW.Whole.of_heap (w':=w.forCall tape i) (by rfl) hw;refine(contract (w.forCall tape i) w.heap.size i.args ds gs before hval hw' hsh (hX _ _ _ (by rfl) hx)).mono fun e W' ⟨v,he,hp⟩=>?_<;>grind[ChangeSpec.post_blind]
end
end Go.Av
set_option maxRecDepth 100000
namespace Go.Proofs.YtooohdocabpblaaGreatDoor
open Av RowKit ChangeShapes WideShapes ChangeAt Proofs.Tryz
theorem own:ownKnob prog.godebug=none:=by kernel_rfl
theorem c3:prog.cellsOf 3=1:=by kernel_rfl
def AtZ(W:World):Std:=fun k=>if k<1000 then W.heap[k]? else none
theorem A2L(W:World):AnZ (AtZ W) W:=fun k o e=>by
 grind[AtZ]
theorem AhL{P:Program}{W:World}{n:String}{g:Nat}{cs:Array Value}(hg:P.globalNamed n=some g)(h:W.var? P n=some cs):∃ t z,W.heap[g]? = some (.cells cs t z):=by
 grind[World.var?]
theorem AoD : "*" ++ "errors.errorString" = "*errors.errorString":=by decide
theorem AwP (u:TypeId) (h:prog.typeName? 3 u=some "*errors.errorString"):u=396 :=
 typeName_ptr_named (nm:= "errors.errorString") (by rw [AoD]; kernel_rfl) (by kernel_rfl) (by decide) u (by rw [AoD]; exact h)
theorem AzY:Rows.laid_internal_strconv_uint64pow10=Lib.tabData (H:=Unit) .u64 Lib.pow10Tab:=by kernel_rfl
theorem A7F{W:World}(h:W.ShapedOpen prog){laid:List (String×DataW Unit)}(hp:(laid.all fun x=>x.2.handleName?.isNone)=true)(hL:laidMetH prog laid W)
  (e1:laid.filter (fun x=>x.1 == "internal/strconv.uint64pow10")=[("internal/strconv.uint64pow10",Rows.laid_internal_strconv_uint64pow10)])
  (e2:laid.filter (fun x=>x.1 == "strconv.ErrSyntax")=[("strconv.ErrSyntax",Rows.laid_strconv_ErrSyntax)]):LibOk (AtZ W):=by
 rw [MakeChecks.laidMetH_plain _ _ _ hp] at hL;have h1:=hL.filter (fun x=>x.1 == "internal/strconv.uint64pow10");have h2:=hL.filter (fun x=>x.1 == "strconv.ErrSyntax");rw [e1,AzY] at h1;rw [e2] at h2;refine ⟨?_,?_,?_⟩
 .have hg:Tryz.lays144_ren.g 1=2:=rfl
  obtain⟨zero,t,hz⟩:∃ zero t,((begin prog (fun _ _=>0) default).world.heap[2]?).bind Obj.row? = some (zero,t)/\zero.size=1/\prog.buildable t=true/\prog.cellTypes prog.depth t=some [t]/\prog.underlying t=some (.int .i64):=by
   refine⟨#[.int .i64 0],3,by kernel_rfl,by kernel_rfl,by kernel_rfl,by kernel_rfl,by kernel_rfl⟩
  obtain⟨m,hm⟩:=Go.Proofs.cell_of_shapedOpen_int h (g:=2) (of_decide_eq_true (by kernel_rfl)) hz.1 hz.2.1 hz.2.2.1 hz.2.2.2.1 hz.2.2.2.2;unfold World.cell? at hm
  split at hm
  .rename_i cs t z hq
   exact⟨m,cs,t,z,hq,by simpa using hm⟩
  .cases hm
 .have ht:=Lib.tabIs_of_head (g:=7) (t:=405) (e:=208) (n:=20) (by kernel_rfl) (by kernel_rfl) underlying405 underlying208 (by kernel_rfl) (by kernel_rfl) h1
  exact AhL (by kernel_rfl) ht
 .obtain ⟨a0,s0,hv0,-,-,-⟩:=laid_sentinel h2 (g:=5) (by kernel_rfl) (by kernel_rfl) underlying338 AwP underlying396 underlying398 rfl rfl underlying9 (by kernel_rfl) (by kernel_rfl)
  obtain⟨t,z,hh⟩:=AhL (g:=5) (by kernel_rfl) hv0;exact⟨_,_,t,z,hh⟩
end Go.Proofs.YtooohdocabpblaaGreatDoor
namespace Go.Proofs.YtooohdocabpblaaGreatDoor
open Av RowKit
abbrev kI(n:Int):AV:=.int .i64 n
structure Minor where
 under:Int
 long:Int
 early:Int
 late:Int
 rest:Int
structure Pers where
 key:LU
 born:Int
 week:Int
 fr:Int
 til:Int
 away:List (Int×Int)
 long:Int
 rest:Int
 row:Int
structure Sun where
 day:Int
 rise:Int
 set:Int
structure Site where
 key:LU
 glow:Int
 suns:List Sun
structure Road where
 a:LU
 b:LU
 m:Int
structure Crew where
 minors:List Minor
 people:List Pers
 sites:List Site
 roads:List Road
structure Look where
 kind:Int
 name:LU
 facet:LU
 value:LU
structure Strip where
 scene:LU
 eighths:Int
 minutes:Int
 site:LU
 light:Int
 outside:Bool
 people:List LU
 looks:List Look
structure Rules where
 start:Int
 eighths:Int
 moves:Int
 change:Int
 gap:Int
 day:Int
 move:Int
 hold:Int
 look:Int
structure Plan where
 crew:Crew
 strips:List Strip
 rules:Rules
structure BDay where
 day:Int
 Lb:List LU
abbrev strA(l:List LU):AV:=.fz 1 (l.map .str)
def minorA(x:Minor):AV:=.agg [kI x.under,kI x.long,kI x.early,kI x.late,kI x.rest]
def spanA(x:Int×Int):AV:=.agg [kI x.1,kI x.2]
def persA(x:Pers):AV:=.agg [.str x.key,kI x.born,kI x.week,kI x.fr,kI x.til,.fz 2 (x.away.map spanA),kI x.long,kI x.rest,kI x.row]
def sunA(x:Sun):AV:=.agg [kI x.day,kI x.rise,kI x.set]
def siteA(x:Site):AV:=.agg [.str x.key,kI x.glow,.fz 3 (x.suns.map sunA)]
def roadA(x:Road):AV:=.agg [.str x.a,.str x.b,kI x.m]
def crewC(x:Crew):LA:=[.fz 5 (x.minors.map minorA),.fz 9 (x.people.map persA),.fz 3 (x.sites.map siteA),.fz 3 (x.roads.map roadA)]
def lookA(x:Look):AV:=.agg [kI x.kind,.str x.name,.str x.facet,.str x.value]
def stripA(x:Strip):AV:=.agg [.str x.scene,kI x.eighths,kI x.minutes,.str x.site,kI x.light,.bool x.outside,strA x.people,.fz 4 (x.looks.map lookA)]
def planC(x:Plan):LA:=[.fz 5 (x.crew.minors.map minorA),.fz 9 (x.crew.people.map persA),.fz 3 (x.crew.sites.map siteA),.fz 3 (x.crew.roads.map roadA),.fz 8 (x.strips.map stripA),
 kI x.rules.start,kI x.rules.eighths,kI x.rules.moves,kI x.rules.change,kI x.rules.gap,kI x.rules.day,kI x.rules.move,kI x.rules.hold,kI x.rules.look]
def bdayA(x:BDay):AV:=.agg [kI x.day,strA x.Lb]
def boardA(l:List BDay):AV:=.agg [.fz 2 (l.map bdayA)]
section
variable {i:Nat}
theorem AuA(l:List Minor)(h:i<l.length):(l.map minorA).getD i .any=minorA l[i]:=by simp[List.getD,h]
theorem AfM(l:List Pers)(h:i<l.length):(l.map persA).getD i .any=persA l[i]:=by simp[List.getD,h]
theorem AfN(l:List Sun)(h:i<l.length):(l.map sunA).getD i .any=sunA l[i]:=by simp[List.getD,h]
theorem AcO(l:List Site)(h:i<l.length):(l.map siteA).getD i .any=siteA l[i]:=by simp[List.getD,h]
theorem AoE(l:List Road)(h:i<l.length):(l.map roadA).getD i .any=roadA l[i]:=by simp[List.getD,h]
theorem AoF(l:List Look)(h:i<l.length):(l.map lookA).getD i .any=lookA l[i]:=by simp[List.getD,h]
theorem AcH(l:List Strip)(h:i<l.length):(l.map stripA).getD i .any=stripA l[i]:=by simp[List.getD,h]
theorem AfO(l:List (Int×Int))(h:i<l.length):(l.map spanA).getD i .any=spanA l[i]:=by simp[List.getD,h]
theorem AbZ(l:List BDay)(h:i<l.length):(l.map bdayA).getD i .any=bdayA l[i]:=by simp[List.getD,h]
theorem AdU(l:List LU)(h:i<l.length):(l.map AV.str).getD i .any=.str l[i]:=by simp[List.getD,h]
end
section
theorem AcD{α:Type}{f:α->AV}(hf:∀ x,(cellsOf (f x)).all Av.frozen=true):∀ l:List α,(flat (l.map f)).all Av.frozen=true
 | []=>rfl
 | x::l=>by simp only[lak,flat,lbd,hf x,AcD hf l,Bool.and_self]
theorem AoG(l:List Minor):(flat (l.map minorA)).all Av.frozen=true:=AcD (fun _=>rfl) l
theorem ArV(l:List Pers):(flat (l.map persA)).all Av.frozen=true:=AcD (fun _=>rfl) l
theorem AhM(l:List (Int×Int)):(flat (l.map spanA)).all Av.frozen=true:=AcD (fun _=>rfl) l
theorem A4I(l:List Sun):(flat (l.map sunA)).all Av.frozen=true:=AcD (fun _=>rfl) l
theorem ArW(l:List Site):(flat (l.map siteA)).all Av.frozen=true:=AcD (fun _=>rfl) l
theorem ArX(l:List Road):(flat (l.map roadA)).all Av.frozen=true:=AcD (fun _=>rfl) l
theorem AlW(l:List Look):(flat (l.map lookA)).all Av.frozen=true:=AcD (fun _=>rfl) l
theorem AoH(l:List Strip):(flat (l.map stripA)).all Av.frozen=true:=AcD (fun _=>rfl) l
theorem AlX(l:List BDay):(flat (l.map bdayA)).all Av.frozen=true:=AcD (fun _=>rfl) l
theorem AcU(l:List LU):(flat (l.map AV.str)).all Av.frozen=true:=AcD (fun _=>rfl) l
end
end Go.Proofs.YtooohdocabpblaaGreatDoor
namespace Go.Proofs.YtooohdocabpblaaGreatDoor
open Av RowKit Proofs.Tryz
theorem AhB{α:Type}(l:List α)(x:α):l.length+1=(l++[x]).length:=by simp
structure MinorOk(x:Minor):Prop where
 under:1<=x.under/\x.under<=30
 long:1<=x.long/\x.long<=1440
 early:0<=x.early/\x.early<=1439
 late:x.early+1<=x.late/\x.late<=2880
 rest:0<=x.rest/\x.rest<=2880
structure PersOk(x:Pers):Prop where
 born:-40000<=x.born/\x.born<=2000
 week:1<=x.week/\x.week<=127
 fr:0<=x.fr/\x.fr<=x.til/\x.til<=2000
 long:1<=x.long/\x.long<=1440
 rest:0<=x.rest/\x.rest<=2880
 row:1<=x.row/\x.row<=14
 few:x.away.length<=20
 away:∀ a∈x.away,0<=a.1/\a.1<=a.2/\a.2<=2000
 ord:x.away.Pairwise fun a b=>a.2<b.1
structure SiteOk(x:Site):Prop where
 glow:0<=x.glow/\x.glow<=120
 some:1<=x.suns.length/\x.suns.length<=60
 suns:∀ a∈x.suns,(0<=a.day/\a.day<=2000)/\x.glow<=a.rise/\a.rise<a.set/\a.set<=1440-x.glow
 ord:x.suns.Pairwise fun a b=>a.day<b.day
def PeopleL:List LU:=[[97,110,110],[98,111,98],[99,105,100],[100,97,110,45,50],[101,118,101],[122,57]]
def SitesL:List LU:=[[104,97,108,108],[109,105,108,108],[100,111,99,107],[97,45,49]]
structure CrewOk(x:Crew):Prop where
 minors:x.minors.length<=10/\(∀ m∈x.minors,MinorOk m)/\x.minors.Pairwise fun a b=>a.under<b.under
 people:1<=x.people.length/\x.people.length<=4/\x.people.map (·.key)=PeopleL.take x.people.length/\∀ p∈x.people,PersOk p
 sites:1<=x.sites.length/\x.sites.length<=4/\x.sites.map (·.key)=SitesL.take x.sites.length/\∀ s∈x.sites,SiteOk s
 roads:x.roads.length<=16/\(∀ r∈x.roads,r.a∈x.sites.map (·.key)/\r.b∈x.sites.map (·.key)/\bytesLess r.a r.b=true/\1<=r.m/\r.m<=1440)/\x.roads.Pairwise fun a b=>¬ (a.a=b.a/\a.b=b.b)
structure RulesOk(x:Rules):Prop where
 start:0<=x.start/\x.start<=1439
 eighths:1<=x.eighths/\x.eighths<=200
 moves:0<=x.moves/\x.moves<=20
 change:0<=x.change/\x.change<=240
 gap:1<=x.gap/\x.gap<=100
 day:0<=x.day/\x.day<=1000000
 move:0<=x.move/\x.move<=1000000
 hold:0<=x.hold/\x.hold<=1000000
 look:0<=x.look/\x.look<=1000000
def NumL:List LU:=[[49],[50],[51],[52,66],[49,48],[49,50],[48,67],[57,57,57],[53,66,67]]
def ballN:LU:=[98,97,108,108]
def coatN:LU:=[99,111,97,116]
def hatN:LU:=[104,97,116]
def stateF:LU:=[115,116,97,116,101]
def ValL:List LU:=[[110,101,119],[116,111,114,110],[119,101,116]]
def AdV(i:Nat)(v:LU):Look:=⟨2+(i%2:Nat),[ballN,coatN,hatN].getD i [],stateF,v⟩
def AaW:Nat->List (List Look)
 | 0=>[[]]
 | i+1=>AaW i++(AaW i).flatMap fun l=>ValL.map fun v=>l++[AdV i v]
def AdW(l:List Look):List Look:=l.filter (fun x=>x.kind==2)++l.filter fun x=>x.kind==3
structure StripOk(c:Crew)(x:Strip):Prop where
 eighths:1<=x.eighths/\x.eighths<=200
 minutes:1<=x.minutes/\x.minutes<=1440
 site:x.site∈c.sites.map (·.key)
 light:0<=x.light/\x.light<=4
 people:x.people.Sublist (PeopleL.take c.people.length)
 looks:∃ l0∈AaW 3,x.looks=AdW l0
structure PlanOk(p:Plan):Prop where
 crew:CrewOk p.crew
 rules:RulesOk p.rules
 few:p.strips.length<=9
 Lb:p.strips.map (·.scene)=NumL.take p.strips.length
 strips:∀ x∈p.strips,StripOk p.crew x
attribute [go_sem ↓] Go.Av.A3X Go.Av.AzL Go.Av.AzN Go.Av.AwA Go.Av.AwN Go.Av.AtX Go.Av.AwO Go.Av.AtY
attribute [go_sem] Go.Av.run Go.Av.cont Go.Av.br Go.Av.dbr Go.Av.dx Go.Av.dxc Go.Av.dgrd Go.Av.dyld Go.Av.dres Go.Av.dcall Go.Av.calm Go.Av.AeV Go.Av.AnF Go.Av.AvY Go.Av.opN Go.Av.grdN Go.Av.resN Go.Av.AtR Go.Av.AzJ Go.Av.AzK Go.Av.AdS Go.Av.dOk Go.Av.xop Go.Av.xbin Go.Av.xint Go.Av.AjY Go.Av.xstr Go.Av.AtA Go.Av.xpick Go.Av.xnot Go.Av.xneg Go.Av.xextract Go.Av.xpart Go.Av.xpartOk Go.Av.AhV Go.Av.AeU Go.Av.AhW Go.Av.xnew Go.Av.xbox Go.Av.AdN Go.Av.AbH Go.Av.xptrAddIf Go.Av.AaV Go.Av.AnD Go.Av.xload Go.Av.putCells Go.Av.reElem Go.Av.AhX Go.Av.AgR Go.Av.AtC Go.Av.AuX Go.Av.xlen Go.Av.AlF Go.Av.ApQ Go.Av.AlG Go.Av.AgS Go.Av.cut Go.Av.rep Go.Av.AbO Go.Av.AbE Go.Av.isRow Go.Av.elemD Go.Av.isU8 Go.Av.ev Go.Av.evs Go.Av.evp Go.Av.put Go.Av.get Go.Av.AcV Go.Av.yldD Go.Av.yldV Go.Av.AlR Go.Av.args0 Go.Av.cellsOf lai lap decide_true decide_false lar decide_eq_false_iff_not lbp List.getElem?_cons_succ List.getElem?_nil List.getD_cons_zero List.getD_cons_succ List.getD_nil List.set_cons_zero List.set_cons_succ lan lbm lah lax lbn lay List.all_nil lak List.map_nil List.take_succ_cons List.take_zero List.drop_succ_cons List.drop_zero lbg Bool.true_and Bool.and_self Bool.and_false Bool.false_and Go.Av.one Go.Av.frozen beq_self_eq_true true_and and_true forall_const false_implies implies_true and_self lbr Option.map_none lbc Nat.add_zero Nat.zero_mul Nat.mul_one Nat.one_mul Int.toNat_zero ne_eq not_false_eq_true not_true_eq_false Bool.true_eq_false Bool.false_eq_true List.toList_toArray Go.Av.inr Go.Av.AjZ Go.Av.AdO decide_eq_decide Bool.not_true Bool.not_false laz Bool.or_true Bool.true_or Bool.or_false Bool.false_or ge_iff_le gt_iff_lt and_assoc Bool.decide_eq_true beq_iff_eq beq_eq_false_iff_ne bne_iff_ne bne_self_eq_false if_true if_false lac Bool.or_eq_true Bool.and_eq_false_imp Bool.or_eq_false_iff Bool.not_eq_false' Go.Av.has Option.isSome_some Option.isSome_none Int.toNat_natCast Int.cast_ofNat_Int lat Go.Av.ApS Go.Av.xapp Go.Av.AyT Go.Av.AuZ Go.Av.AuY Go.Av.AnG Go.Av.ApR Go.Av.srcB Go.Av.AkA Go.Av.AbM Go.Av.xcut Go.Av.AtD Go.Av.AtE Go.Av.AtF Go.Av.AtG Go.Av.AvB Go.Av.cutL Go.Av.loOf Go.Av.hiOf Go.Av.evo Go.Av.AtI Go.Av.AhY Go.Av.xmax Go.Av.xmm Go.Av.xmms Go.Av.AhZ Go.Av.AnI Go.Av.AnH Go.Av.xnil Go.Av.AvC Go.Av.AtH Go.Av.ixOf Go.Av.AeW Go.Av.AiA List.getElem?_toArray Go.Av.AhU Go.Av.AdL Go.Av.AcC Go.Av.ArM Go.Av.ArN Go.Av.AhA Go.Av.AeK Go.Av.xmputF Go.Av.AdA Go.Av.keyEq Go.Av.mfind Go.Av.AgZ Go.Av.xeqs Go.Av.AlE Go.Av.eqFs Go.Av.eqFN Go.Av.eqF1 Go.Av.bothB Go.Av.leafEq Go.Av.AjO Go.Av.AkD Go.Av.AkB Go.Av.AnE Go.Av.A3F Go.Av.A3G Go.Av.A3H Go.Av.A3I Go.Av.A3J Go.Av.dxi Go.Av.dxic Go.Av.dbri Go.Av.rix Go.Av.dck Go.Av.reader Go.Av.blind Go.Av.opOk Go.Av.refOk Go.Op.operands Go.Call.operands List.contains_cons List.contains_nil Go.Av.dxg Go.Av.dxgc Go.Av.dbrg Go.Av.pck Go.Av.putD List.lookup_cons List.lookup_nil Go.Av.AtB Go.Av.AuW Go.Av.keyEqS Go.Av.isKeyS Go.Av.mfindS Go.Av.xputS Go.Av.AeL Go.Av.AkC Go.Av.AfE Go.Av.AfF Go.Av.AfY Go.Av.AfG Go.Av.AfZ Go.Av.AiB Go.Av.AkF Go.Av.AiC Go.Av.AiD Go.Av.AkG Go.Av.AcJ Go.Av.isI Go.Av.AvA Go.Av.xcap Go.Av.ApP Go.Av.keyEqT Go.Av.isKeyT Go.Av.mfindT Go.Av.eqLs Go.Av.AeM Go.Av.AkE Go.Av.ApT Go.Av.AvD Go.Av.AvE Go.Av.AvF Go.Av.xdel Go.Av.ApU Go.Av.liveK ts2 underlying2 ts3 tb3 zv3 zk3 za3 underlying3 ts4 zv4 zk4 underlying4 ts5 underlying5 ts6 underlying6 fl7 fl8 ts9 tb9 za9 underlying9 fl13 fl14 fl18 fl19 ts22 zv22 zk22 underlying22 ts24 fl24 underlying24 ts25 za25 fl25 underlying25 ts26 underlying26 ts27 underlying27 ts28 underlying28 ts29 underlying29 ts30 fl30 underlying30 ts31 za31 fl31 underlying31 ts32 underlying32 ts33 fl33 underlying33 ts34 za34 fl34 underlying34 ts35 fl35 lf35 underlying35 ts36 za36 fl36 lf36 underlying36 ts39 underlying39 ts40 fl40 underlying40 ts41 tb41 za41 fl41 underlying41 ts43 underlying43 ts44 underlying44 ts47 underlying47 ts51 fl51 underlying51 ts52 tb52 za52 fl52 underlying52 ts53 underlying53 ts54 tb54 za54 underlying54 ts55 fl55 underlying55 ts56 tb56 za56 fl56 underlying56 ts58 underlying58 ts59 underlying59 ts60 fl60 underlying60 ts61 tb61 za61 fl61 underlying61 ts64 fl64 underlying64 ts65 tb65 za65 fl65 underlying65 ts70 za70 underlying70 ts71 underlying71 ts72 fl72 underlying72 ts73 tb73 zv73 zk73 za73 fl73 underlying73 ts77 underlying77 ts78 fl78 underlying78 ts79 tb79 za79 fl79 underlying79 ts89 fl89 underlying89 ts90 za90 fl90 underlying90 ts91 underlying91 ts92 underlying92 ts93 underlying93 ts94 fl94 underlying94 ts95 za95 fl95 underlying95 ts98 underlying98 ts99 fl99 underlying99 ts100 tb100 za100 fl100 underlying100 ts103 underlying103 ts106 fl106 underlying106 ts107 tb107 za107 fl107 underlying107 ts108 underlying108 ts109 underlying109 ts110 fl110 underlying110 ts111 tb111 za111 fl111 underlying111 ts113 fl113 underlying113 ts114 tb114 za114 fl114 underlying114 ts115 underlying115 ts117 underlying117 ts119 fl119 underlying119 ts120 tb120 za120 fl120 underlying120 ts121 za121 underlying121 ts122 fl122 underlying122 ts123 za123 fl123 underlying123 ts125 fl125 lf125 underlying125 ts126 tb126 za126 fl126 lf126 underlying126 ts133 underlying133 ts137 underlying137 ts139 zv139 zk139 underlying139 ts140 underlying140 ts141 underlying141 ts142 underlying142 ts143 underlying143 ts144 underlying144 ts145 underlying145 fl150 lf150 fl151 lf151 fl157 fl158 fl159 lf159 fl160 lf160 ts166 fl166 underlying166 ts167 tb167 za167 fl167 underlying167 fl168 lf168 fl169 lf169 ts184 fl184 underlying184 ts185 tb185 za185 fl185 underlying185 ts192 fl192 underlying192 ts193 tb193 za193 fl193 underlying193 ts194 fl194 underlying194 ts195 tb195 za195 fl195 underlying195 ts208 underlying208 ts210 underlying210 ts212 tb212 za212 underlying212 ts213 tb213 za213 underlying213 ts214 fl214 lf214 underlying214 ts215 za215 fl215 lf215 underlying215 ts241 fl241 underlying241 ts242 tb242 za242 fl242 underlying242 fl248 fl249 ts256 tb256 za256 fl256 underlying256 fl260 fl261 fl270 fl271 ts292 underlying292 ts293 fl293 underlying293 ts294 za294 fl294 underlying294 ts338 underlying338 ts362 fl362 underlying362 ts363 za363 fl363 underlying363 fl373 fl374 fl390 fl391 ts397 fl397 underlying397 ts398 fl398 underlying398 ts405 underlying405 fl410 fl411 fl420 fl421
attribute [go_sem] ntmps3 ntmps4 ntmps5 ntmps6 ntmps7 ntmps8 ntmps9 ntmps10 ntmps11 ntmps12 ntmps13 ntmps14 ntmps15 ntmps16 ntmps17 ntmps18 ntmps20 ntmps21 ntmps22 ntmps23 ntmps28 ntmps29 ntmps30 ntmps31 ntmps32 ntmps38 ntmps39 ntmps40 ntmps41 ntmps42 ntmps45 ntmps77 ntmps79 ntmps80 ntmps81 ntmps82 ntmps83 ntmps84 ntmps85 ntmps89 ntmps90 ntmps91 ntmps92 ntmps93 ntmps143 ntmps148 ntmps149 ntmps154 ntmps202 ntmps203 ntmps244 ntmps266
attribute [go_sem] Nat.reduceAdd Nat.reduceMul Nat.reduceSub Nat.reduceBEq Nat.reduceLT Nat.reduceLeDiff reduceIte reduceCtorEq Int.reduceToNat Int.reduceLE Int.reduceLT Int.reduceNe Int.reduceMul Int.reduceAdd Int.reduceSub Int.reduceDiv Int.reduceMod Int.reduceEq Int.reduceGE Int.reduceGT Int.reduceNeg Int.reduceBEq Int.reduceBNe Nat.reduceEqDiff
set_option maxRecDepth 100000
theorem AlY(x n:Int)(h1:1<=n)(h2:n<=9223372036854775807) :
  Pc prog 31 [.int .i64 x,.int .i64 n] (· = .int .i64 (x%n)):=by
 refine AhH (AcT func31 rfl ntmps31 hB31 (by simp) fun h ρ w=>goW rfl 200 ?_);have hm:x.tmod n=if 0<=x\/n ∣ x then x%n else x%n-n.natAbs:=by
  rw[Int.tmod_eq_emod]; split <;> simp
 have hlt:=Int.emod_lt_of_pos x (show 0<n by omega);have hge:=Int.emod_nonneg x (show n≠0 by omega);have hna:(n.natAbs:Int)=n:=by omega
 rw[hna]at hm;simp only[go_sem];refine⟨fun _=>by omega,fun _=>⟨by omega,fun h3=>?_,fun h3=>?_⟩⟩
 .refine aret [4] rfl ⟨?_,rfl⟩
  show AV.int .i64 _=_
  rw[hm]at h3 |-
  split at h3
  .omega
  .rw [if_neg (by assumption),show x%n-n+n=x%n by omega]
   exact congrArg _ (IntWalk.i64_in _ ⟨by omega,by omega⟩)
 .refine aret [4] rfl ⟨?_,rfl⟩
  show AV.int .i64 _=_
  rw[hm]at h3 |-
  split at h3
  .rw [if_pos (by assumption)]
  .omega
def str(L:List Int)(at':Int):AV:=.agg [.fz 1 (L.map (.int .i64)),.int .i64 at']
theorem AdX(L:List Int)(k n:Int)(h1:1<=n)(h2:n<=9223372036854775807)(h3:0<=k)(h4:k<=1000000) :
  Mc prog 16 2 (str L k) [.int .i64 n] (fun r s=>(∃ v,r=.int .i64 v/\0<=v/\v<n)/\s=str L (k+1)):=by
 refine AcT func16 rfl ntmps16 hB16 (by simp) fun h ρ w=>goW rfl 200 ?_
 have hw:IntKind.i64.wrap (k+1)=k+1:=IntWalk.i64_in _ ⟨by omega,by omega⟩;have hk:k+1-1=k:=by omega
 have hwk:IntKind.i64.wrap k=k:=IntWalk.i64_in _ ⟨by omega,by omega⟩;have fin:∀ x:Int,0<=x%n/\x%n<n:=fun x=>⟨Int.emod_nonneg x (by omega),Int.emod_lt_of_pos x (by omega)⟩
 simp only[go_sem,str,hw];refine⟨fun h5=>?_,fun h5=>?_⟩
 .refine AiT (AlY _ n h1 h2) rfl rfl rfl (goW rfl 200 ?_)
  simp only[go_sem];exact aret [4] rfl ⟨_,_,rfl,⟨_,rfl,fin _⟩,rfl,rfl,rfl⟩
 .refine zr [] AaL ?_
  simp only[go_sem,hw,hk,hwk];have hm0:0<((List.map (AV.int .i64) L).length:Int):=by omega
  have hmL:((List.map (AV.int .i64) L).length:Int)=L.length:=by simp
  generalize hM:((List.map (AV.int .i64) L).length:Int)=M at *;have d1:0<=k / M:=Int.ediv_nonneg h3 (by omega);have d2:k / M<=k:=Int.ediv_le_self _ h3;have d3:0<=k%M:=Int.emod_nonneg k (by omega);have d4:k%M<M:=Int.emod_lt_of_pos k hm0;have d5:k%M<=k:=by
   have q1:=Int.mul_ediv_add_emod k M;have q2:0<=M*(k / M):=Int.mul_nonneg (by omega) d1;omega
  have d6:0<=k / M*(7919+k%M):=Int.mul_nonneg d1 (by omega);have d7:k / M*(7919+k%M)<=1000000*1007919:=Int.mul_le_mul (by omega) (by omega) (by omega) (by omega);refine⟨by omega,by omega,by omega,by omega,?_⟩;refine goW rfl 200 ?_;simp only[go_sem,hw,hk,hwk,hM];refine zr [] AaL ?_;simp only[go_sem,hw,hk,hwk,hM];refine⟨by omega,by omega,by omega,by omega,by omega,by omega,?_⟩;have hx:∃ x,(List.map (AV.int .i64) L).getD (k%M).toNat .any=.int .i64 x:=by
   have:(k%M).toNat<L.length:=by omega
   exact⟨L[(k%M).toNat],by simp[List.getD,this]⟩
  obtain⟨x,hx⟩:=hx;have f1:0<=x%1073741824:=Int.emod_nonneg x (by omega);have f2:x%1073741824<1073741824:=Int.emod_lt_of_pos x (by omega);refine goW rfl 200 ?_;simp only[go_sem,hw,hk,hwk,hM,hx];refine⟨by omega,by omega,by simp; omega,?_⟩;refine AiT (AlY _ _ (by omega) (by omega)) rfl rfl rfl (goW rfl 200 ?_);simp only[go_sem];refine AiT (AlY _ n h1 h2) rfl rfl rfl (goW rfl 200 ?_);simp only[go_sem];exact aret [4] rfl ⟨_,_,rfl,⟨_,rfl,fin _⟩,rfl,rfl,rfl⟩
end Go.Proofs.YtooohdocabpblaaGreatDoor
namespace Go.Proofs.YtooohdocabpblaaGreatDoor
open Av RowKit Proofs.Tryz
theorem A4J{g:Std}{f:FuncId}{args:LA}{r:AV}(vs:List Value)(v:Value)(hb:AaD prog f=true)(ha:∀ h vs',RL h Lf0 true vs' args->vs'=vs)(hr:∀ h,RV h Lf0 true v r)
  (H:∀ w,AnZ g w->Calls prog f vs.toArray w fun e w'=>e=.returned v/\Same w w'):PcH prog g f args (· = r):=by
 refine⟨hb,fun h w vs' hg hm hv=>?_⟩;have:=ha h vs' hv;subst this;refine(H w hg).mono ?_;rintro e w' ⟨rfl,hs⟩;exact⟨v,r,h,rfl,rfl,fun b o v e=>⟨hs.cell (hm b o v e).1,(hm b o v e).2⟩,fun _ _ _ x=>x,fun b o e n=>(n e).elim,hs,hr h⟩
theorem ArY{f:FuncId}{args:LA}{r:AV}(vs:List Value)(v:Value)(hb:AaD prog f=true)(ha:∀ h vs',RL h Lf0 true vs' args->vs'=vs)(hr:∀ h,RV h Lf0 true v r)
  (H:∀ w,Calls prog f vs.toArray w fun e w'=>e=.returned v/\Same w w'):Pc prog f args (· = r):=by
 refine⟨hb,fun h w vs' hm hv=>?_⟩;have:=ha h vs' hv;subst this;refine(H w).mono ?_;rintro e w' ⟨rfl,hs⟩;exact⟨v,r,h,rfl,rfl,fun b o v e=>⟨hs.cell (hm b o v e).1,(hm b o v e).2⟩,fun _ _ _ x=>x,fun b o e n=>(n e).elim,hs,hr h⟩
theorem A2M{h:Mem}{v:Value}{s:LU}(r:RV h Lf0 true v (.str s)):v=.string ⟨s.toArray⟩:=by cases r<;>grind
theorem AfP(s p:LU):∀ h vs',RL h Lf0 true vs' [.str s,.str p]->vs'=[.string ⟨s.toArray⟩,.string ⟨p.toArray⟩]:=by
 intro h vs' r
 cases r with|cons r1 r=>cases r with|cons r2 r=>cases r<;>grind[A2M]
theorem AoI(s p:LU):Pc prog 241 [.str s,.str p] (· = .bool (Lib.hasPrefix s p)) :=
 ArY [_,_] (.bool (Lib.hasPrefix s p)) hB241 (AfP s p) (fun h=>.bool _) fun w=>(Any.strings_HasPrefix Tryz.lays99 ⟨s.toArray⟩ ⟨p.toArray⟩ w).mono fun e w' ⟨h1,h2⟩=>⟨h1,h2▸.refl w⟩
theorem AoJ(s p:LU)(hs:s.length<=9223372036854775807):Pc prog 146 [.str s,.str p] (· = .bool (Lib.hasSuffix s p)) :=
 ArY [_,_] (.bool (Lib.hasSuffix s p)) hB146 (AfP s p) (fun h=>.bool _) fun w=>(Any.strings_HasSuffix Tryz.lays100 ⟨s.toArray⟩ ⟨p.toArray⟩ w hs).mono fun e w' ⟨h1,h2⟩=>⟨h1,h2▸.refl w⟩
theorem AoK{S:Std}(hS:LibOk S)(s p:LU)(hs:s.length<4294967281):PcH prog S 242 [.str s,.str p] (· = .bool (Lib.contains s p)) :=
 A4J [_,_] (.bool (Lib.contains s p)) hB242 (AfP s p) (fun h=>.bool _) fun w H=>(Any.strings_Contains Tryz.lays144 ⟨s.toArray⟩ ⟨p.toArray⟩ _ w hs (hS.cell.choose_spec w H)).mono fun e w' ⟨h1,h2⟩=>⟨h1,h2▸.refl w⟩
def splitL(s p:LU):List LU:=(Lib.splitB ⟨p.toArray⟩ 0 (Lib.countB ⟨s.toArray⟩ ⟨p.toArray⟩) ⟨s.toArray⟩).map (·.data.toList)
theorem AwQ{S:Std}(hS:LibOk S)(s p:LU)(hs:s.length<4294967281)(hp:1<=p.length):PcH prog S 43 [.str s,.str p] (· = .fz 1 (splitL s p |>.map .str)):=by
 refine⟨hB43,fun h w vs' hg hm hv=>?_⟩;have:=AfP s p h vs' hv;subst this;refine(Any.strings_Split Tryz.lays146 (by kernel_rfl) ⟨s.toArray⟩ ⟨p.toArray⟩ _ w hs (hS.cell.choose_spec w hg) hp).mono ?_;rintro e w' ⟨rfl,rfl⟩;have hlen:=Lib.splitB_all ⟨p.toArray⟩ hp 0 _ ⟨s.toArray⟩ rfl;generalize hL:Lib.splitB ⟨p.toArray⟩ 0 (Lib.countB ⟨s.toArray⟩ ⟨p.toArray⟩) ⟨s.toArray⟩=L at hlen |-;have hsl:splitL s p=L.map (·.data.toList):=by rw[splitL,hL]
 have hval:L.map Value.string=(splitL s p).map sval:=by
  rw[hsl,List.map_map]; rfl
 rw[hval,<- hlen,show L.length=(splitL s p).length by rw[hsl]; simp];have h1:∀ v∈(splitL s p).map sval,v.oneCell'=true:=by intro v hv; obtain⟨x,_,rfl⟩:=List.mem_map.1 hv; rfl
 have hmine:Mine h (fun _=>none) [] w:=⟨hm,fun id blk e=>by simp at e,fun _ _=>rfl,fun i j g t t' e=>by simp at e,fun i g t e=>by simp at e⟩;obtain⟨m2,l2⟩:=hmine.freezeNew ((splitL s p).map sval) 9 h1;refine⟨_,_,Mem.add h w.heap.size ((splitL s p).map sval),rfl,rfl,m2.mem,l2.hle,fun b o e n=>?_,.alloc w _,?_⟩
 .rcases l2.hnew b o e n with⟨j,t,hj⟩|hs
  .cases hj
  .exact hs
 .have:=RV.fz (h:=Mem.add h w.heap.size ((splitL s p).map sval)) (Lf:=Lf0) (fl:=true) w.heap.size 0 (splitL s p).length 1 ((splitL s p).map .str) ((splitL s p).map sval) ?_ (by simp[cellsOf]) ?_ (by simp)
  .simpa using this
  .rw [AnY]
   generalize Mem.add h w.heap.size ((splitL s p).map sval)=hh;generalize splitL s p=z
   induction z with
   | nil=>exact .nil
   | cons x z ih=>exact .cons (.str x) ih
  .intro k v hv
   simp only[Mem.add,lbc,if_true];exact hv
def digI(n:Int):Bool:=decide (n>=48)&&decide (n<=57)
theorem AdI(L:List Int)(k n:Int)(h1:1<=n)(h2:n<=1000)(h3:0<=k)(h4:k<=1000000) :
  Mc prog 17 2 (str L k) [.int .i64 n] (fun r s=>(∃ b,r=.bool b)/\s=str L (k+1)):=by
 refine zcIN func17 rfl fun h ρ w=>?_
 simp only[go_sem];refine zm 0 (AdX L k _ (by omega) (by omega) h3 h4) ?_;rintro _ _ ⟨⟨v,rfl,hv0,hv1⟩,rfl⟩;apply zgN;simp only[go_sem];exact aret [4] rfl ⟨_,_,rfl,⟨_,rfl⟩,rfl,rfl,rfl⟩
theorem AaM(L:List Int)(k:Int)(ls:List Int)(h1:1<=ls.length)(h2:ls.length<=1000)(h3:0<=k)(h4:k<=1000000) :
  Mc prog 15 2 (str L k) [.fz 1 (ls.map (.int .i64))] (fun r s=>(∃ x∈ls,r=.int .i64 x)/\s=str L (k+1)):=by
 have hlen:((List.map (AV.int .i64) ls).length:Int)=ls.length:=by simp
 refine zcIN func15 rfl fun h ρ w=>?_
 simp only[go_sem];refine zm 0 (AdX L k _ (by omega) (by omega) h3 h4) ?_;rintro _ _ ⟨⟨v,rfl,hv0,hv1⟩,rfl⟩;have hv:v.toNat<ls.length:=by omega
 have hx:(List.map (AV.int .i64) ls).getD v.toNat .any=.int .i64 ls[v.toNat]:=by simp[List.getD,hv]
 apply zgN;simp only[go_sem,hx];refine⟨by omega,by omega,by simpa using hv,?_⟩;exact aret [4] rfl ⟨_,_,rfl,⟨_,lae hv,rfl⟩,rfl,rfl,rfl⟩
