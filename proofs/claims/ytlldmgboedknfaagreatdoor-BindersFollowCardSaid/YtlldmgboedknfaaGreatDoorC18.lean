/- strings.Builder: what writing a string does to memory, to the block. -/
import Derived.Test.YtlldmgboedknfaaGreatDoorC14
set_option linter.unusedVariables false
set_option linter.unusedSimpArgs false
namespace Go.Proofs.YtlldmgboedknfaaGreatDoor
open Go Go.RowKit Go.Lib _root_.Go.Proofs.Tryz
open Go.Av (Fr rowOf BbD A0Y)
theorem jb:∃ j,prog.info? 146=some j/\j.size=2:=Option.map_eq_some_iff.1 (show(prog.info? 146).map (·.size)=some 2 by kernel_rfl)
set_option maxRecDepth 100000 in
theorem BoT(b:Nat)(w:World)(h0:w.cell? ⟨b,0,none⟩=some (.pointer (some ⟨b,0,none⟩))) :
  Calls prog 147 #[.pointer (some ⟨b,0,none⟩)] w fun e w'=>e=.returned (.tuple #[])/\w'=w:=by
 obtain⟨j,hj,hjs⟩:=jb
 go_enter func147,ntmps147
 go_wp2
 rw[run_neq_ptr_same w _ underlying143 hj]
 go_wp2
 go_end0
 exact⟨rfl,rfl⟩
set_option maxRecDepth 100000 in
theorem BiH(b:Nat)(w:World)(h0:w.cell? ⟨b,0,none⟩=some (.pointer none))(hsh:w.shape? b=some (146,2))(hfz:w.frozen? ⟨b,0,none⟩=false) :
  Calls prog 147 #[.pointer (some ⟨b,0,none⟩)] w fun e w'=>e=.returned (.tuple #[])/\w'=w.setCell ⟨b,0,none⟩ (.pointer (some ⟨b,0,none⟩)):=by
 obtain⟨j,hj,hjs⟩:=jb
 go_enter func147,ntmps147
 go_wp2
 rw[run_to_unsafe w ⟨b,0,none⟩ underlying143 underlying226 hj (by rw[hjs]; decide) hsh (Nat.zero_lt_succ 1)];simp only[Result.andThen];rw[Oper.upon_value]
 go_wp2
 rw[run_callFunc_extern func198 (by kernel_rfl) (by kernel_rfl) (by kernel_rfl) (e:=Extern.AbiNoEscape.same) (by kernel_rfl)];rw[run_noEscape];simp only[Result.andThen];rw[Oper.upon_value]
 go_wp2
 rw[run_from_unsafe w ⟨b,0,none⟩ underlying226 underlying143 hj hsh (by kernel_rfl)];simp only[Result.andThen];rw[Oper.upon_value]
 go_wp2
 go_end0
 exact⟨rfl,rfl⟩
theorem cc(B b:Nat)(bs:List Value)(w:World)(h:IsBuilder 146 5 B b bs w):Calls prog 147 #[.pointer (some ⟨b,0,none⟩)] w fun e w'=>e=.returned (.tuple #[])/\BuilderAt 146 5 B b (.pointer (some ⟨b,0,none⟩)) bs w' /\
  Fr w w' b none/\w'.cell? ⟨b,1,none⟩=w.cell? ⟨b,1,none⟩:=by
 rcases h with h|h
 .refine (BiH b w h.cell0 h.shape h.frozen0).mono ?_
  rintro e w' ⟨rfl,rfl⟩;refine⟨rfl,h.used _,⟨rfl,rfl,rfl,by simp[World.setCell],fun k _ hk _=>heap_setCell_other w _ k _ hk⟩,World.cell?_setCell_other _ _ _ _ (by simp)⟩
 .refine (BoT b w h.cell0).mono ?_
  rintro e w' ⟨rfl,rfl⟩;exact⟨rfl,h,⟨rfl,rfl,rfl,Nat.le_refl _,fun _ _ _ _=>rfl⟩,rfl⟩
theorem AwQ{w:World}{B:Nat}{v v':Value}{n:Nat}{xs:List Value}{s:ByteArray}{ty:TypeId}{w':World}{i:TypeInfo}(hi:prog.info? 5=some i)(hz:i.zero=some (.int .u8 0))(hsize:i.size=1)(hby:i.bytes=1)
  (hown:w.ownsRow B 5 1 v n xs) (h63:n+s.size<=maxLen) (hb:n+s.size<=140737488355328) (hB:B<=w.heap.size) (hr:(Builtin.append_ #[144,9] ty #[v,.string s]).run prog w=.ok v' w') :
  v'.ownBlock=none\/v'.ownBlock=v.ownBlock\/v'.ownBlock=some w.heap.size:=by
 have hm63:n+s.size<=9223372036854775807:=by unfold maxLen at h63; omega
 have hxl:xs.length=n:=by simpa using hown.1
 obtain⟨v1,w1,hr1,_,_,h4⟩:=run_append_own_string (P:=prog) w B 144 9 ty 5 i underlying144 underlying9 hi hz hsize hby v n xs hown s h63 hb hB;rw[hr]at hr1;obtain⟨rfl,_⟩:v'=v1/\w'=w1:=by simpa using hr1
 rcases hown.2 with⟨rfl,rfl⟩|⟨g,cap,cur,rfl,hbg,hg,hnc,hcm,hcs,htake⟩
 .by_cases hm:s.size=0
  .rw [h4.2 ⟨rfl,hm⟩]; exact .inl rfl
  .have h:=run_append_nil_string (P:=prog) w 144 9 ty 5 i (.int .u8 0) underlying144 underlying9 hi hz s (by omega) (by omega) (by rw[hby]; omega)
   rw[hr]at h;have:v'=.slice (some ⟨w.heap.size,0,none⟩) s.size (grownCap w s.size 0 5):=(show v'=_/\w'=_ by simpa using h).1;rw[this]; exact .inr (.inr rfl)
 .by_cases hroom:n+s.size<=cap
  .have h:=run_append_room_string (P:=prog) w 144 9 ty 5 i underlying144 underlying9 hi hsize g n cap cur hg s hroom (by omega)
   rw[hr]at h;have:v'=.slice (some ⟨g,0,none⟩) (n+s.size) cap:=(show v'=_/\w'=_ by simpa using h).1;rw[this]; exact .inr (.inl rfl)
  .have h:=run_append_grow_string (P:=prog) w 144 9 ty 5 i (.int .u8 0) underlying144 underlying9 hi hz ⟨g,0,none⟩ n cap xs (by rw[hsize]; simpa using hxl) (hown.cells (g:=g) rfl) s (by omega) (by omega) (by rw[hby]; exact growslice_fits (by omega) (by omega))
   rw[hr]at h;have:v'=.slice (some ⟨w.heap.size,0,none⟩) (n+s.size) (grownCap w (n+s.size) cap 5):=(show v'=_/\w'=_ by simpa using h).1;rw[this]; exact .inr (.inr rfl)
theorem AtL{w:World}{ops:Array Oper}{rest:List Oper}{o:Oper}{a:Act}{Q:Exit->Act->World->Prop}(hgd:o.guard=none)(sl x:Operand)
  (ho:o.op=.call { callee:=.builtin .append,args:=#[sl,x],argTypes:=#[144,9] }) (B:Nat) (i:TypeInfo) (hi:prog.info? 5=some i) (hz:i.zero=some (.int .u8 0)) (hsize:i.size=1) (hby:i.bytes=1)
  (v:Value) (n:Nat) (xs:List Value) (hs:a.eval sl=v) (hown:w.ownsRow B 5 1 v n xs) (s:ByteArray) (hx:a.eval x=.string s) (h63:n+s.size<=maxLen) (hb:n+s.size<=140737488355328) (hB:B<=w.heap.size)
  (h:∀ v' w',w'.ownsRow B 5 1 v' (n+s.size) (xs++strCells s)->w.grownBy w' v.ownBlock->(v'.ownBlock=none\/v'.ownBlock=v.ownBlock\/v'.ownBlock=some w.heap.size)->wpList prog ops Q rest (a.put o.dst v') w'):wpList prog ops Q (o::rest) a w:=by
 refine wpList_plain hgd fun K hK=>?_
 obtain⟨v',w',hr,h2,h3,_⟩:=run_append_own_string (P:=prog) w B 144 9 o.type 5 i underlying144 underlying9 hi hz hsize hby v n xs hown s h63 hb hB;have hbk:=AwQ hi hz hsize hby hown h63 hb hB hr;unfold Oper.wp execOp;simp only[ho,resolve,invoke,builtin,Sem.run_bind,Sem.run_pure,Result.andThen_ok,List.map_toArray,List.map_cons,List.map_nil,hs,hx,hr];exact hK _ _ (h v' w' h2 h3 hbk)
set_option maxRecDepth 100000 in
theorem wstr(B b:Nat)(bs:List Value)(s:ByteArray)(w:World)(h:IsBuilder 146 5 B b bs w)(hlen:bs.length+s.size<=140737488355328)(hBw:B<=w.heap.size) :
  Calls prog 92 #[.pointer (some ⟨b,0,none⟩),.string s] w fun e w'=>e=.returned (.tuple #[.int .i64 s.size,.nilIface])/\BuilderAt 146 5 B b (.pointer (some ⟨b,0,none⟩)) (bs++strCells s) w' /\
   Fr w w' b (rowOf w b)/\∀ r,rowOf w' b=some r->rowOf w b=some r\/w.heap.size<=r:=by
 obtain⟨i0,hi,hz0,hz1,hz2⟩:=info_parts Tryz.Builder_Extra_169.infoByte
 go_enter func92,ntmps92
 go_wp2_with (go_at_call 147; refine(cc B b bs _ h).mono ?_)
 rintro e w1 ⟨rfl,h1,hf,hc1⟩;obtain⟨hB,v,hbk,hown,hne⟩:=h1;have c0:w1.cell? ⟨b,0,none⟩=some (.pointer (some ⟨b,0,none⟩)):=by rw[cell_of_heap hbk]; rfl
 have c1:w1.cell? ⟨b,1,none⟩=some v:=by rw[cell_of_heap hbk]; rfl
 have hrow:rowOf w b=v.ownBlock:=by rw[rowOf,<- hc1,c1]; rfl
 clear hc1
 go_wp2_with (at_builtin; refine AtL rfl _ _ rfl B i0 hi hz0 hz1 hz2 _ _ _ rfl hown s rfl ?c3 ?c4 ?c5 ?_)
 case c3=>unfold maxLen; omega
 case c4=>omega
 case c5=>have:=hf.size; omega
 intro v' w2 hown' hgrow hblk;have hlt:b<w1.heap.size:=by
  rcases Nat.lt_or_ge b w1.heap.size with h'|h'
  .exact h'
  .simp [Array.getElem?_eq_none h']at hbk
 have hb2:w2.heap[b]? = some (.cells #[.pointer (some ⟨b,0,none⟩),v] 146 (0,0)):=by
  rw[hgrow.block b hlt (fun e=>hne e.symm)];exact hbk
 have d0:w2.cell? ⟨b,0,none⟩=some (.pointer (some ⟨b,0,none⟩)):=by rw[cell_of_heap hb2]; rfl
 have d1:w2.cell? ⟨b,1,none⟩=some v:=by rw[cell_of_heap hb2]; rfl
 have f1:w2.frozen? ⟨b,1,none⟩=false:=frozen_of_heap hb2 1;obtain⟨ao,n',cap,rfl⟩:∃ ao n' cap,v'=.slice ao n' cap:=by
  rcases hown'.2 with⟨hv,_⟩|⟨g,cap,cur,hv,_⟩
  .exact ⟨_,_,_,hv⟩
  .exact ⟨_,_,_,hv⟩
 go_wp2
 go_ret2
 refine⟨rfl,BuilderAt.put (T:=146) (e:=5) hB hb2 (bs':=bs++strCells s) (by simpa[strCells_length]using hown') (by decide),?_⟩;have hw2:rowOf (w2.setCell ⟨b,1,none⟩ (.slice ao n' cap)) b=Value.ownBlock (.slice ao n' cap):=by
  rw[rowOf,World.cell?_setCell_same _ _ _ d1]; rfl
 rw[hrow];refine⟨⟨(hgrow.os.trans hf.os),(hgrow.tape.trans hf.tape),(hgrow.output.trans hf.output),by have:=hf.size; have:=hgrow.size; simp[World.setCell]; omega,fun k hk hkb hkr=>by
  rw[heap_setCell_other _ _ k _ hkb,hgrow.block k (by have:=hf.size; omega) hkr,hf.block k hk hkb (by simp)]⟩,fun r hr=>?_⟩
 rw[hw2]at hr
 rcases hblk with h|h|h
 .rw [h]at hr; cases hr
 .rw [h]at hr; exact .inl hr
 .rw [h]at hr
  have:=hf.size
  simp at hr
  exact .inr (by omega)
theorem AtM:BbD prog 92 146 5:=⟨hB92,fun B b bs s w h h1 h2=>wstr B b bs s w h h1 h2⟩
theorem BiI:A0Y prog 94 146 5:=⟨hB94,fun B b l w h h2=>Any.Builder_String_any Tryz.lays169 Tryz.Builder_Extra_169 B b l w h h2⟩
end Go.Proofs.YtlldmgboedknfaaGreatDoor
namespace Go.Proofs.YtlldmgboedknfaaGreatDoor
open Go Go.Av Go.RowKit _root_.Go.Proofs.Tryz
theorem AtN{g:Std}{f:FuncId}{args:List AV}{r:AV}(vs:List Value)(v:Value)(hb:AaB prog f=true)(ha:∀ h vs',RL h Lf0 true vs' args->vs'=vs)(hr:∀ h,RV h Lf0 true v r)
  (H:∀ w,AwK g w->Calls prog f vs.toArray w fun e w'=>e=.returned v/\Same w w'):PcH prog g f args (· = r):=by
 refine⟨hb,fun h w vs' hg hm hv=>?_⟩;have:=ha h vs' hv;subst this;refine(H w hg).mono ?_;rintro e w' ⟨rfl,hs⟩;exact⟨v,r,h,rfl,rfl,fun b o v e=>⟨hs.cell (hm b o v e).1,(hm b o v e).2⟩,fun _ _ _ x=>x,fun b o e n=>(n e).elim,hs,hr h⟩
theorem AlL{f:FuncId}{args:List AV}{r:AV}(vs:List Value)(v:Value)(hb:AaB prog f=true)(ha:∀ h vs',RL h Lf0 true vs' args->vs'=vs)(hr:∀ h,RV h Lf0 true v r)
  (H:∀ w,Calls prog f vs.toArray w fun e w'=>e=.returned v/\Same w w'):Pc prog f args (· = r):=by
 refine⟨hb,fun h w vs' hm hv=>?_⟩;have:=ha h vs' hv;subst this;refine(H w).mono ?_;rintro e w' ⟨rfl,hs⟩;exact⟨v,r,h,rfl,rfl,fun b o v e=>⟨hs.cell (hm b o v e).1,(hm b o v e).2⟩,fun _ _ _ x=>x,fun b o e n=>(n e).elim,hs,hr h⟩
theorem AwR{h:Mem}{v:Value}{s:List UInt8}(r:RV h Lf0 true v (.str s)):v=.string ⟨s.toArray⟩:=by cases r with|str=>rfl
theorem BbS{h:Mem}{v:Value}{k:IntKind}{n:Int}(r:RV h Lf0 true v (.int k n)):v=.int k n:=by cases r with|int=>rfl
theorem AcA(s p:List UInt8):∀ h vs',RL h Lf0 true vs' [.str s,.str p]->vs'=[.string ⟨s.toArray⟩,.string ⟨p.toArray⟩]:=by
 intro h vs' r
 cases r with|cons r1 r=>cases r with|cons r2 r=>cases r; rw[AwR r1,AwR r2]
theorem AlM(s p:List UInt8):Pc prog 88 [.str s,.str p] (· = .tup [.str (Lib.trimPrefix s p),.bool (Lib.hasPrefix s p)]) :=
 AlL [_,_] (.tuple #[.string ⟨(Lib.trimPrefix s p).toArray⟩,.bool (Lib.hasPrefix s p)]) hB88 (AcA s p) (fun h=>.tup [_,_] [_,_] (.cons (.str _) (.cons (.bool _) .nil)))
  fun w=>(Any.strings_CutPrefix Tryz.lays103 ⟨s.toArray⟩ ⟨p.toArray⟩ w).mono fun e w' ⟨h1,h2⟩=>⟨h1,h2▸.refl w⟩
theorem AwS(s p:List UInt8):Pc prog 38 [.str s,.str p] (· = .bool (Lib.hasPrefix s p)) :=
 AlL [_,_] (.bool (Lib.hasPrefix s p)) hB38 (AcA s p) (fun h=>.bool _) fun w=>(Any.strings_HasPrefix Tryz.lays99 ⟨s.toArray⟩ ⟨p.toArray⟩ w).mono fun e w' ⟨h1,h2⟩=>⟨h1,h2▸.refl w⟩
theorem AcJ(s p:List UInt8)(hs:s.length<=9223372036854775807):Pc prog 35 [.str s,.str p] (· = .bool (Lib.hasSuffix s p)) :=
 AlL [_,_] (.bool (Lib.hasSuffix s p)) hB35 (AcA s p) (fun h=>.bool _) fun w=>(Any.strings_HasSuffix Tryz.lays100 ⟨s.toArray⟩ ⟨p.toArray⟩ w hs).mono fun e w' ⟨h1,h2⟩=>⟨h1,h2▸.refl w⟩
theorem AwT(s p:List UInt8)(hs:s.length<4611686018427387904):Pc prog 225 [.str s,.str p] (· = .int .i64 (Lib.lastIndex s p)) :=
 AlL [_,_] (.int .i64 (Lib.lastIndex s p)) hB225 (AcA s p) (fun h=>.int _ _) fun w=>(Any.strings_LastIndex Tryz.lays148 ⟨s.toArray⟩ ⟨p.toArray⟩ hs w).mono fun e w' ⟨h1,h2⟩=>⟨h1,h2▸.refl w⟩
theorem AlN(s:List UInt8)(c:Int):Pc prog 195 [.str s,.int .u8 c] (· = .int .i64 (Lib.indexByte s c.toNat.toUInt8)) :=
 AlL [.string ⟨s.toArray⟩,.int .u8 c] (.int .i64 (Lib.indexByte s c.toNat.toUInt8)) hB195 (fun h vs' r=>by cases r with|cons r1 r=>cases r with|cons r2 r=>cases r; rw[AwR r1,BbS r2]) (fun h=>.int _ _)
  fun w=>(Any.strings_IndexByte Tryz.lays137 ⟨s.toArray⟩ c w).mono fun e w' ⟨h1,h2⟩=>⟨h1,h2▸.refl w⟩
theorem AlO{S:Std}(hS:LibOk S)(s p:List UInt8)(hs:s.length<4294967281):PcH prog S 105 [.str s,.str p] (· = .bool (Lib.contains s p)) :=
 AtN [_,_] (.bool (Lib.contains s p)) hB105 (AcA s p) (fun h=>.bool _) fun w H=>(Any.strings_Contains Tryz.lays144 ⟨s.toArray⟩ ⟨p.toArray⟩ _ w hs (hS.cell.choose_spec w H)).mono fun e w' ⟨h1,h2⟩=>⟨h1,h2▸.refl w⟩
theorem A7J(w:World):∀ n,Same w (w.drewN n):=fun n=>⟨rfl,rfl,⟨rfl,trivial⟩,Nat.le_refl _,fun _ _=>rfl⟩
theorem AtO{S:Std}(hS:LibOk S)(s p:List UInt8)(hs:s.length<4294967281):PcH prog S 100 [.str s,.str p] (· = .tup [.str (Lib.cut s p).1,.str (Lib.cut s p).2.1,.bool (Lib.cut s p).2.2]) :=
 AtN [_,_] (.tuple #[.string ⟨(Lib.cut s p).1.toArray⟩,.string ⟨(Lib.cut s p).2.1.toArray⟩,.bool (Lib.cut s p).2.2]) hB100 (AcA s p) (fun h=>.tup [_,_,_] [_,_,_] (.cons (.str _) (.cons (.str _) (.cons (.bool _) .nil))))
  fun w H=>(Any.strings_Cut Tryz.lays145 ⟨s.toArray⟩ ⟨p.toArray⟩ _ w hs (hS.cell.choose_spec w H)).mono fun e w' ⟨h1,n,h2⟩=>⟨h1,h2▸A7J w n⟩
def splitL(s p:List UInt8):List (List UInt8):=(Lib.splitB ⟨p.toArray⟩ 0 (Lib.countB ⟨s.toArray⟩ ⟨p.toArray⟩) ⟨s.toArray⟩).map (·.data.toList)
theorem BbT{S:Std}(hS:LibOk S)(s p:List UInt8)(hs:s.length<4294967281)(hp:1<=p.length):PcH prog S 86 [.str s,.str p] (· = .fz 1 (splitL s p |>.map .str)):=by
 refine⟨hB86,fun h w vs' hg hm hv=>?_⟩;have:=AcA s p h vs' hv;subst this;refine(Any.strings_Split Tryz.lays146 (by kernel_rfl) ⟨s.toArray⟩ ⟨p.toArray⟩ _ w hs (hS.cell.choose_spec w hg) hp).mono ?_;rintro e w' ⟨rfl,rfl⟩;have hlen:=Lib.splitB_all ⟨p.toArray⟩ hp 0 _ ⟨s.toArray⟩ rfl;generalize hL:Lib.splitB ⟨p.toArray⟩ 0 (Lib.countB ⟨s.toArray⟩ ⟨p.toArray⟩) ⟨s.toArray⟩=L at hlen |-;have hsl:splitL s p=L.map (·.data.toList):=by rw[splitL,hL]
 have hval:L.map Value.string=(splitL s p).map sval:=by
  rw[hsl,List.map_map]; rfl
 rw[hval,<- hlen,show L.length=(splitL s p).length by rw[hsl]; simp];have h1:∀ v∈(splitL s p).map sval,v.oneCell'=true:=by intro v hv; obtain⟨x,_,rfl⟩:=List.mem_map.1 hv; rfl
 have hmine:Mine h (fun _=>none) [] w:=⟨hm,fun id blk e=>by simp at e,fun _ _=>rfl,fun i j g t t' e=>by simp at e,fun i g t e=>by simp at e⟩;obtain⟨m2,l2⟩:=hmine.freezeNew ((splitL s p).map sval) 9 h1;refine⟨_,_,Mem.add h w.heap.size ((splitL s p).map sval),rfl,rfl,m2.mem,l2.hle,fun b o e n=>?_,.alloc w _,?_⟩
 .rcases l2.hnew b o e n with⟨j,t,hj⟩|hs
  .cases hj
  .exact hs
 .have:=RV.fz (h:=Mem.add h w.heap.size ((splitL s p).map sval)) (Lf:=Lf0) (fl:=true) w.heap.size 0 (splitL s p).length 1 ((splitL s p).map .str) ((splitL s p).map sval) ?_ (by simp[cellsOf]) ?_ (by simp)
  .simpa using this
  .rw [AwJ]
   generalize Mem.add h w.heap.size ((splitL s p).map sval)=hh;generalize splitL s p=z
   induction z with
   | nil=>exact .nil
   | cons x z ih=>exact .cons (.str x) ih
  .intro k v hv
   simp only[Mem.add,Nat.zero_add,if_true];exact hv
attribute [go_sem ↓] Go.Av.BoI Go.Av.BhT Go.Av.BhV Go.Av.BbB Go.Av.BbO Go.Av.A7H Go.Av.BbQ Go.Av.A7I
attribute [go_sem] Go.Av.run Go.Av.cont Go.Av.br Go.Av.dbr Go.Av.dx Go.Av.dxc Go.Av.dgrd Go.Av.dyld Go.Av.dres Go.Av.dcall Go.Av.calm Go.Av.AiC Go.Av.A3H Go.Av.step1 Go.Av.opN Go.Av.grdN Go.Av.resN Go.Av.BaY Go.Av.BoH Go.Av.BhS Go.Av.AeZ Go.Av.dOk Go.Av.xop Go.Av.xbin Go.Av.xint Go.Av.xarith Go.Av.xstr Go.Av.BgT Go.Av.A9R Go.Av.xnot Go.Av.xneg Go.Av.AiS Go.Av.xpart Go.Av.xpartOk Go.Av.AvR Go.Av.AmY Go.Av.AmX Go.Av.xnew Go.Av.xbox Go.Av.xalloc Go.Av.AcU Go.Av.xptrAddIf Go.Av.AbZ Go.Av.A9S Go.Av.xload Go.Av.putCells Go.Av.reElem Go.Av.A0C Go.Av.ArC Go.Av.BgV Go.Av.BnE Go.Av.xlen Go.Av.A0D Go.Av.A9V Go.Av.AmZ Go.Av.AvS Go.Av.cut Go.Av.rep Go.Av.AdV Go.Av.AdC Go.Av.isRow Go.Av.elemD Go.Av.isU8 Go.Av.ev Go.Av.evs Go.Av.evp Go.Av.put Go.Av.get Go.Av.AdU Go.Av.yldD Go.Av.yldV Go.Av.AtI Go.Av.args0 Go.Av.cellsOf cond_true cond_false decide_true decide_false decide_eq_true_eq decide_eq_false_iff_not List.getElem?_cons_zero List.getElem?_cons_succ List.getElem?_nil List.getD_cons_zero List.getD_cons_succ List.getD_nil List.set_cons_zero List.set_cons_succ List.length_cons List.length_nil List.cons_append List.nil_append List.append_nil List.all_cons List.all_nil List.map_cons List.map_nil List.take_succ_cons List.take_zero List.drop_succ_cons List.drop_zero Bool.and_true Bool.true_and Bool.and_self Bool.and_false Bool.false_and Go.Av.one Go.Av.frozen beq_self_eq_true true_and and_true forall_const false_implies implies_true and_self Option.map_some Option.map_none Nat.zero_add Nat.add_zero Nat.zero_mul Nat.mul_one Nat.one_mul Int.toNat_zero ne_eq not_false_eq_true not_true_eq_false Bool.true_eq_false Bool.false_eq_true List.toList_toArray Go.Av.inr Go.Av.AhS Go.Av.AeU decide_eq_decide Bool.not_true Bool.not_false Bool.not_eq_true' Bool.or_true Bool.true_or Bool.or_false Bool.false_or ge_iff_le gt_iff_lt and_assoc Bool.decide_eq_true beq_iff_eq beq_eq_false_iff_ne bne_iff_ne bne_self_eq_false if_true if_false Bool.and_eq_true Bool.or_eq_true Bool.and_eq_false_imp Bool.or_eq_false_iff Bool.not_eq_false' Go.Av.has Option.isSome_some Option.isSome_none Int.toNat_natCast Int.cast_ofNat_Int List.length_append Go.Av.A9Y Go.Av.xapp Go.Av.BnH Go.Av.BnG Go.Av.BnF Go.Av.AvT Go.Av.A9X Go.Av.srcB Go.Av.ArD Go.Av.splice' Go.Av.xcut Go.Av.BgW Go.Av.BgX Go.Av.BgY Go.Av.BgZ Go.Av.BnJ Go.Av.cutL Go.Av.loOf Go.Av.hiOf Go.Av.evo Go.Av.BhB Go.Av.AnA Go.Av.xmax Go.Av.AvU Go.Av.BaA Go.Av.A9Z Go.Av.xnil Go.Av.BnK Go.Av.BhA Go.Av.ixOf Go.Av.AnB Go.Av.A0E List.getElem?_toArray Go.Av.AsS Go.Av.AhR Go.Av.AeN Go.Av.A9W Go.Av.BaB Go.Av.BhC Go.Av.BaC Go.Av.AnC Go.Av.AfX Go.Av.keyEq Go.Av.mfind Go.Av.AqQ Go.Av.xeqs Go.Av.A0B Go.Av.eqFs Go.Av.eqFN Go.Av.eqF1 Go.Av.bothB Go.Av.AbE Go.Av.AvV Go.Av.A3K Go.Av.A3I Go.Av.A9T Go.Av.BnP Go.Av.BnQ Go.Av.BnR Go.Av.BnS Go.Av.BnT Go.Av.dxi Go.Av.dxic Go.Av.dbri Go.Av.rix Go.Av.dck Go.Av.reader Go.Av.blind Go.Av.opOk Go.Av.refOk Go.Op.operands Go.Call.operands List.contains_cons List.contains_nil Go.Av.dxg Go.Av.dxgc Go.Av.dbrg List.lookup_cons List.lookup_nil Go.Av.BgU Go.Av.BnD Go.Av.AeV Go.Av.AdL Go.Av.mfindS Go.Av.BnL Go.Av.BaD Go.Av.A3J Go.Av.AsU Go.Av.AsV Go.Av.AsW Go.Av.AsX Go.Av.AsY Go.Av.A0F Go.Av.A3M Go.Av.A0G Go.Av.A0H Go.Av.A3N Go.Av.frozen0 Go.Av.isI Go.Av.BnI Go.Av.xcap Go.Av.A9U Go.Av.AfW Go.Av.AdK Go.Av.mfindT Go.Av.eqLs Go.Av.BaE Go.Av.A3L Go.Av.BaF Go.Av.BnM Go.Av.BnN Go.Av.BnO Go.Av.xdel Go.Av.BaG Go.Av.AaW ts2 underlying2 ts3 tb3 za3 underlying3 ts4 zv4 zk4 underlying4 ts5 tb5 za5 underlying5 fl7 fl8 ts9 tb9 zv9 zk9 za9 underlying9 fl13 fl14 fl18 fl19 ts21 underlying21 ts22 underlying22 ts24 fl24 underlying24 ts25 za25 fl25 underlying25 ts26 underlying26 ts27 fl27 underlying27 ts28 za28 fl28 underlying28 ts29 tb29 za29 underlying29 ts30 underlying30 ts31 fl31 lf31 underlying31 ts32 za32 fl32 lf32 underlying32 ts33 underlying33 ts39 underlying39 ts40 fl40 underlying40 ts41 tb41 zv41 zk41 za41 fl41 underlying41 ts49 fl49 underlying49 ts50 za50 fl50 underlying50 ts69 underlying69 ts70 fl70 underlying70 ts71 tb71 zv71 zk71 za71 fl71 underlying71 ts73 underlying73 ts87 underlying87 ts89 underlying89 ts101 underlying101 ts102 underlying102 ts103 underlying103 ts106 fl106 underlying106 ts107 tb107 za107 fl107 underlying107 ts109 fl109 underlying109 ts110 za110 fl110 underlying110 ts116 underlying116 ts124 underlying124 ts126 tb126 za126 underlying126 ts137 fl137 lf137 underlying137 ts138 za138 fl138 lf138 underlying138 ts140 underlying140 ts144 underlying144 ts145 fl145 underlying145 ts146 za146 fl146 underlying146 ts154 fl154 underlying154 ts155 za155 fl155 underlying155 ts161 fl161 underlying161 ts162 tb162 za162 fl162 underlying162 ts178 underlying178 ts181 underlying181 ts184 underlying184 ts192 underlying192 ts195 underlying195 ts204 underlying204 ts215 underlying215 ts226 underlying226 ts230 underlying230 ts234 underlying234 ts237 underlying237 ts245 fl245 underlying245 ts246 fl246 underlying246 ts255 fl255 underlying255 ts256 fl256 underlying256 ts259 underlying259 ts260 underlying260 ts262 fl262 underlying262 ts263 fl263 underlying263 ts264 underlying264 fl265 fl266 fl275 fl276
attribute [go_sem] ntmps4 ntmps5 ntmps6 ntmps7 ntmps8 ntmps10 ntmps11 ntmps13 ntmps14 ntmps15 ntmps16 ntmps17 ntmps18 ntmps19 ntmps20 ntmps21 ntmps23 ntmps24 ntmps25 ntmps26 ntmps27 ntmps28 ntmps29 ntmps30 ntmps31 ntmps32 ntmps33 ntmps36 ntmps39 ntmps40 ntmps41 ntmps42 ntmps43 ntmps44 ntmps45 ntmps46 ntmps47 ntmps48 ntmps49 ntmps50 ntmps51 ntmps52 ntmps53 ntmps54 ntmps55 ntmps56 ntmps57 ntmps58 ntmps59 ntmps60 ntmps63 ntmps64 ntmps67 ntmps68 ntmps69 ntmps70 ntmps71 ntmps72 ntmps73 ntmps74 ntmps75 ntmps76 ntmps77 ntmps78 ntmps79 ntmps80 ntmps87 ntmps89 ntmps92 ntmps96 ntmps97 ntmps98 ntmps99 ntmps101 ntmps102 ntmps103 ntmps104 ntmps106 ntmps107 ntmps108 ntmps109 ntmps110 ntmps111 ntmps113 ntmps114 ntmps115 ntmps116 ntmps117 ntmps118 ntmps119 ntmps120 ntmps121 ntmps122 ntmps123 ntmps124 ntmps125 ntmps132 ntmps133 ntmps134 ntmps135 ntmps136 ntmps137 ntmps142 ntmps144 ntmps147 ntmps149 ntmps150 ntmps153 ntmps154 ntmps156 ntmps157 ntmps158 ntmps159 ntmps160 ntmps161 ntmps162 ntmps163 ntmps188 ntmps189 ntmps194 ntmps196 ntmps197 ntmps200 ntmps203 ntmps226 ntmps232
attribute [go_sem] Nat.reduceAdd Nat.reduceMul Nat.reduceSub Nat.reduceBEq Nat.reduceLT Nat.reduceLeDiff reduceIte reduceCtorEq Int.reduceToNat Int.reduceLE Int.reduceLT Int.reduceNe Int.reduceMul Int.reduceAdd Int.reduceSub Int.reduceDiv Int.reduceMod Int.reduceEq Int.reduceGE Int.reduceGT Int.reduceNeg Int.reduceBEq Int.reduceBNe Nat.reduceEqDiff
set_option maxRecDepth 100000
set_option maxHeartbeats 2000000
def digI(n:Int):Bool:=decide (n>=48)&&decide (n<=57)
def capI(n:Int):Bool:=decide (n>=65)&&decide (n<=90)
theorem AkO(n:Int):Pc prog 106 [.int .u8 n] (· = .bool (digI n)):=by
 refine AbM (AaV func106 rfl ntmps106 hB106 (by simp) fun h ρ w=>go rfl 200 ?_)
 by_cases h1:n>=48
 .have d1:decide (n>=48)=true:=by simpa using h1
  simp only[go_sem,d1];exact aret [2] rfl ⟨by simp[resV,Av.get,digI,h1],rfl⟩
 .have d1:decide (n>=48)=false:=by simpa using h1
  simp only[go_sem,d1];exact aret [2] rfl ⟨by simp[resV,Av.get,digI,h1],rfl⟩
theorem AbP(n:Int):Pc prog 107 [.int .u8 n] (· = .bool (capI n)):=by
 refine AbM (AaV func107 rfl ntmps107 hB107 (by simp) fun h ρ w=>go rfl 200 ?_)
 by_cases h1:n>=65
 .have d1:decide (n>=65)=true:=by simpa using h1
  simp only[go_sem,d1];exact aret [2] rfl ⟨by simp[resV,Av.get,capI,h1],rfl⟩
 .have d1:decide (n>=65)=false:=by simpa using h1
  simp only[go_sem,d1];exact aret [2] rfl ⟨by simp[resV,Av.get,capI,h1],rfl⟩
def okB(c:UInt8):Bool:=!(decide ((c.toNat:Int)<32))&&!(decide ((c.toNat:Int)>126))
def plainL(s:List UInt8):Bool:=s.all okB&&(!Lib.hasPrefix s [32]&&(!Lib.hasSuffix s [32]&&!Lib.contains s [32,32]))
theorem AaO{α:Type}{p:α->Bool}{s:List α}{i:Nat}(h:i<s.length)(h1:(s.take i).all p=true)(h2:p s[i]=true):(s.take (i+1)).all p=true:=by
 rw[List.take_succ_eq_append_getElem h,List.all_append,h1]
 simpa using h2
theorem AdE{α:Type}{p:α->Bool}{s:List α}{i:Nat}(h:i<s.length)(h2:p s[i]=false):s.all p=false:=by
 rw[List.all_eq_false];exact⟨s[i],List.getElem_mem h,by simp[h2]⟩
theorem AcO{S:Std}(hS:LibOk S)(s:List UInt8)(hs:s.length<1000000):PcH prog S 52 [.str s] (· = .bool (plainL s)):=by
 refine AcF (AcN func52 rfl ntmps52 hB52 (by simp) fun h ρ w hg=>go rfl 200 ?_);simp only[go_sem];refine AaI (ι:=Nat) (fun i=>s.length-i) (fun i=>[(6,.int .i64 i),(5,.int .i64 s.length),(0,.str s)]) (fun _=>[]) (fun i=>i<=s.length/\(s.take i).all okB=true) 0 ⟨by omega,by simp⟩ ?_ ?_
 .refine Shift.weak ?_
  simp only[go_sem]
 .rintro i ⟨g1,g2⟩ J hJ
  refine go rfl 200 ?_
  by_cases hi:(i:Int)<s.length
  .have hil:i<s.length:=by omega
   have hgd:s.getD i 0=s[i]:=by simp[List.getD,hil]
   by_cases hc1:((s[i].toNat:Int)<32)
   .have d1:decide ((s[i].toNat:Int)<32)=true:=by simpa using hc1
    simp only[go_sem,hi,hgd,d1];refine⟨by omega,aret [2] rfl ⟨?_,rfl⟩⟩
    simp[resV,Av.get,plainL,AdE hil (p:=okB) (by simp[okB]; omega)]
   .have d1:decide ((s[i].toNat:Int)<32)=false:=by simpa using hc1
    by_cases hc2:((s[i].toNat:Int)>126)
    .have d2:decide ((s[i].toNat:Int)>126)=true:=by simpa using hc2
     simp only[go_sem,hi,hgd,d1,d2];refine⟨by omega,by omega,aret [2] rfl ⟨?_,rfl⟩⟩
     simp[resV,Av.get,plainL,AdE hil (p:=okB) (by simp[okB]; omega)]
    .have d2:decide ((s[i].toNat:Int)>126)=false:=by simpa using hc2
     simp only[go_sem,hi,hgd,d1,d2];rw[ic i]
     repeat refine ao ?_
     refine ainv (hJ (i+1) ⟨by omega,AaO hil g2 (by simp[okB]; omega)⟩ (by omega)) (Shift.weak ?_);simp only[go_sem]
  .simp only [go_sem,hi]
   have hall:s.all okB=true:=by rw[<- g2,List.take_of_length_le (by omega)]
   refine AcS (AwS s [32]) rfl rfl rfl (go rfl 200 ?_)
   cases e1:Lib.hasPrefix s [32]with
   | true =>
    simp only[go_sem];refine aret [2] rfl ⟨?_,rfl⟩
    simp[resV,Av.get,plainL,e1]
   | false =>
    simp only[go_sem];refine AcS (AcJ s [32] (by omega)) rfl rfl rfl (go rfl 200 ?_)
    cases e2:Lib.hasSuffix s [32]with
    | true =>
     simp only[go_sem];refine aret [2] rfl ⟨?_,rfl⟩
     simp[resV,Av.get,plainL,e2]
    | false =>
     simp only[go_sem];refine AtJ hg (AlO hS s [32,32] (by omega)) rfl rfl rfl (go rfl 200 ?_);simp only[go_sem];refine aret [2] rfl ⟨?_,rfl⟩
     simp[resV,Av.get,plainL,e1,e2,hall]
def okP(o:List UInt8)(c:UInt8):Bool:=capI c.toNat||(digI c.toNat||(((c.toNat:Int)==32)||!(decide (Lib.indexByte o c<0))))
def properL(s:List UInt8)(most:Int)(o:List UInt8):Bool :=
 !(decide ((s.length:Int)<1))&&(!(decide ((s.length:Int)>most))&&(capI (s.getD 0 0).toNat&&(plainL s&&s.all (okP o))))
theorem ArL{S:Std}(hS:LibOk S)(s:List UInt8)(most:Int)(o:List UInt8)(hs:s.length<1000000):PcH prog S 153 [.str s,.int .i64 most,.str o] (· = .bool (properL s most o)):=by
 refine zqIN func153 rfl fun h ρ w hg=>?_
 by_cases h1:(s.length:Int)<1
 .have d1:decide ((s.length:Int)<1)=true:=by simpa using h1
  simp only[go_sem,d1];exact aret [6] rfl ⟨by simp[resV,Av.get,properL,h1],rfl⟩
 have d1:decide ((s.length:Int)<1)=false:=by simpa using h1
 by_cases h2:(s.length:Int)>most
 .have d2:decide ((s.length:Int)>most)=true:=by simpa using h2
  simp only[go_sem,d1,d2];exact aret [6] rfl ⟨by simp[resV,Av.get,properL,h2],rfl⟩
 have d2:decide ((s.length:Int)>most)=false:=by simpa using h2
 simp only[go_sem,d1,d2];have hpos:0<s.length:=by omega
 refine⟨by omega,?_⟩;refine zpN (AbP _) ?_
 cases e1:capI (s.getD 0 0).toNat with
 | false =>
  simp only[go_sem];exact aret [6] rfl ⟨by simp only[resV,Av.get,properL,e1]; simp,rfl⟩
 | true =>
 simp only[go_sem];refine zqN hg (AcO hS s hs) ?_
 cases e2:plainL s with
 | false =>
  simp only[go_sem];exact aret [6] rfl ⟨by simp only[resV,Av.get,properL,e2]; simp,rfl⟩
 | true =>
 simp only[go_sem];have hval:properL s most o=s.all (okP o):=by simp only[properL,d1,d2,e1,e2]; simp
 rw[hval];refine AaI (ι:=Nat) (fun i=>s.length-i) (fun i=>[(30,.int .i64 i),(29,.int .i64 s.length),(0,.str s),(2,.str o)]) (fun _=>[]) (fun i=>i<=s.length/\(s.take i).all (okP o)=true) 0 ⟨by omega,by simp⟩ ?_ ?_
 .refine Shift.weak ?_
  simp only[go_sem]
 .rintro i ⟨g1,g2⟩ J hJ
  refine zgN ?_
  by_cases hi:(i:Int)<s.length
  .have hil:i<s.length:=by omega
   have hgd:s.getD i 0=s[i]:=by simp[List.getD,hil]
   simp only[go_sem,hi,hgd];refine⟨by omega,?_⟩;refine zpN (AbP _) ?_
   cases c1:capI (s[i].toNat:Int)with
   | true =>
    simp only[go_sem];rw[ic i]
    repeat refine ao ?_
    refine ainv (hJ (i+1) ⟨by omega,AaO hil g2 (by simp only[okP,c1]; rfl)⟩ (by omega)) (Shift.weak ?_);simp only[go_sem]
   | false =>
    simp only[go_sem,hi,hgd];refine⟨by omega,?_⟩;refine zpN (AkO _) ?_
    cases c2:digI (s[i].toNat:Int)with
    | true =>
     simp only[go_sem];rw[ic i]
     repeat refine ao ?_
     refine ainv (hJ (i+1) ⟨by omega,AaO hil g2 (by simp only[okP,c1,c2]; rfl)⟩ (by omega)) (Shift.weak ?_);simp only[go_sem]
    | false =>
     cases c3:((s[i].toNat:Int)==32)with
     | true =>
      have c3':((s[i].toNat:Int) != 32)=false:=by simpa using c3
      simp only[go_sem,hi,hgd,c3'];rw[ic i]
      repeat refine ao ?_
      refine ainv (hJ (i+1) ⟨by omega,AaO hil g2 (by simp only[okP,c1,c2,c3]; rfl)⟩ (by omega)) (Shift.weak ?_);simp only[go_sem]
     | false =>
      have c3':((s[i].toNat:Int) != 32)=true:=by simpa using c3
      simp only[go_sem,hi,hgd,c3'];refine⟨by omega,by omega,?_⟩;refine zpN (AlN o (s[i].toNat:Int)) ?_;have hb:((s[i].toNat:Int)).toNat.toUInt8=s[i]:=by simp
      rw[hb]
      cases c4:decide (Lib.indexByte o s[i]<0)with
      | false =>
       simp only[go_sem,c4];rw[ic i]
       repeat refine ao ?_
       refine ainv (hJ (i+1) ⟨by omega,AaO hil g2 (by simp only[okP,c1,c2,c3,c4]; rfl)⟩ (by omega)) (Shift.weak ?_);simp only[go_sem]
      | true =>
       simp only[go_sem,c4];refine aret [6] rfl ⟨?_,rfl⟩
       simp[resV,Av.get,AdE hil (p:=okP o) (by simp only[okP,c1,c2,c3,c4]; rfl)]
  .simp only [go_sem,hi]
   have hall:s.all (okP o)=true:=by rw[<- g2,List.take_of_length_le (by omega)]
   exact aret [6] rfl ⟨by simp[resV,Av.get,hall],rfl⟩
def isSetL(s:List UInt8):Bool:=properL s 60 [39,46,45,47]&&(!Lib.contains s [32,45,32]&&!Lib.hasSuffix s [32,45])
theorem AnW{S:Std}(hS:LibOk S)(s:List UInt8)(hs:s.length<1000000):PcH prog S 108 [.str s] (· = .bool (isSetL s)):=by
 refine zqIN func108 rfl fun h ρ w hg=>?_
 simp only[go_sem];refine zqN hg (ArL hS s 60 [39,46,45,47] hs) ?_
 cases e1:properL s 60 [39,46,45,47]with
 | false =>
  simp only[go_sem];exact aret [2] rfl ⟨by simp[resV,Av.get,isSetL,e1],rfl⟩
 | true =>
  simp only[go_sem];refine zqN hg (AlO hS s [32,45,32] (by omega)) ?_
  cases e2:Lib.contains s [32,45,32]with
  | true =>
   simp only[go_sem];exact aret [2] rfl ⟨by simp[resV,Av.get,isSetL,e2],rfl⟩
  | false =>
   simp only[go_sem];refine zpN (AcJ s [32,45] (by omega)) ?_;simp only[go_sem];exact aret [2] rfl ⟨by simp[resV,Av.get,isSetL,e1,e2],rfl⟩
