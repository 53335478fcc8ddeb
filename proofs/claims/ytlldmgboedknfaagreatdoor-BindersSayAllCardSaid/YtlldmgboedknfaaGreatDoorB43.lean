/- What the leaves of a draft say: plain law. -/
import Derived.Test.YtlldmgboedknfaaGreatDoorB42
set_option maxRecDepth 100000
set_option maxHeartbeats 4000000
set_option linter.unusedSimpArgs false
set_option linter.unusedVariables false
namespace Go.Proofs.YtlldmgboedknfaaGreatDoor
open Go Go.Av Go.RowKit _root_.Go.Proofs.Tryz
theorem AoJ:∀ a:List UInt8,(∀ x∈a,x≠32)->splitW a=[a]
 | [],_=>rfl
 | c::a,h=>by
  have hc:(c==32)=false:=by simpa using h c (by simp)
  have ih:=AoJ a fun x hx=>h x (by simp[hx])
  simp[splitW,hc,ih,consW]
theorem AqL(b:List UInt8):∀ a:List UInt8,(∀ x∈a,x≠32)->splitW (a++32::b)=a::splitW b
 | [],_=>by simp[splitW]
 | c::a,h=>by
  have hc:(c==32)=false:=by simpa using h c (by simp)
  have ih:=AqL b a fun x hx=>h x (by simp[hx])
  simp only[List.cons_append,splitW,hc,ih,consW,Bool.false_eq_true,if_false]
theorem BfF{W:Nat}{a b:List UInt8}(ha:∀ x∈a,x≠32)(ha0:a≠[])(hb:∀ x∈b,x≠32)(hb0:b≠[])(hl:a.length+1+b.length<=W):AbE W (a++32::b)=[a++32::b]:=by
 have e1:(a==[])=false:=by simpa using ha0
 have e2:(b==[])=false:=by simpa using hb0
 have e3:(a != [])=true:=by simpa using ha0
 have hc:chop W a=([],a):=AdR (by omega);unfold AbE wrapF;rw[AqL b a ha,AoJ b hb]
 simp[wrapS,e1,e2,e3,hc,hl]
theorem AzN{a:List UInt8}(h:numberL a=true):∀ x∈a,x≠32:=by
 intro x hx e;subst e;rw[AdG a]at hx
 rcases List.mem_append.1 hx with hx|hx
 .exact absurd (AiW digB _ 32 hx) (by decide)
 .exact absurd (List.all_eq_true.1 (AbQ h).2.2.2 32 hx) (by decide)
theorem BaP{no:List UInt8}(hn:numberL no=true)(hl:no.length<=50):((goneB no).lines).filter keepL=[]:=by
 have hw:AbE 60 (goneT no)=[goneT no]:=BfF (a:=no) (b:=[79,77,73,84,84,69,68]) (AzN hn) (AoE hn) (by decide) (by simp) (by simp; omega);have hk:keepL (goneT no)=false:=by
  have:Lib.hasSuffix (goneT no) AfQ=true:=by
   simp only[Lib.hasSuffix,goneT,List.isSuffixOf_iff_suffix];exact List.suffix_append _ _
  simp[keepL,this]
 simp[goneB,hw,hk]
theorem BfG{α:Type}(E:List α){a b:Nat}(h:a<=b):E.take b=E.take a++(E.take b).drop a:=by
 have:E.take a=(E.take b).take a:=by rw[List.take_take]; congr 1; omega
 rw[this,List.take_append_drop]
theorem AwI(ys:List Sc)(a b:List (List UInt8)):entsB ys (a++b)=entsB ys a++entsB ys b:=by simp[entsB]
theorem A2N{ys:List Sc}{E:List (List UInt8)}{lv:List Le'}(h:RelOk ys E lv):∀ i,(List.range i).flatMap (fun k=>entsB ys (sgI E lv k))=entsB ys (E.take (stI E lv i))
 | 0=>by simp[stI,entsB]
 | i+1=>by
  rw[List.range_succ,List.flatMap_append,A2N h i];simp only[List.flatMap_cons,List.flatMap_nil,List.append_nil];rw[<- AwI,sgI,<- BfG E (BgL h).1]
theorem stI_end(E:List (List UInt8))(lv:List Le'):stI E lv ((runsL lv).length+1)=E.length:=by
 unfold stI;rw[if_neg (by omega),if_neg (by omega)]
theorem AqM(pg:List (List Ln)):(List.range pg.length).map (fun k=>pg.getD k [])=pg:=by
 apply List.ext_getElem
 .simp
 .intro i h1 h2
  simp at h1
  simp[List.getD,h1]
theorem A4Q(no:Int)(g fi:List (List UInt8))(pg:List (List Ln)):(mkLv no g fi pg pg.length).map (·.lines)=pg:=by
 unfold mkLv;rw[List.map_map];exact AqM pg
theorem BkC:(layL []).pages=[]:=by simp[layL,layTo]
theorem AoK{ys:List Sc}{E:List (List UInt8)}{lv:List Le'}{no:Int}:∀ (k:Nat)(s:List UInt8×List Le'),relTo ys E lv no k=some s->s.2.map (·.lines)=(List.range k).flatMap (pgI' ys E lv)
 | 0,s,h=>by
  simp only[relTo,Option.some.injEq]at h;subst h; rfl
 | k+1,s,h=>by
  simp only[relTo]at h
  cases hq:relTo ys E lv no k with
  | none=>rw[hq]at h; simp at h
  | some t =>
   rw[hq]at h;have ih:=AoK k t hq;simp only[stepR]at h;rw[List.range_succ,List.flatMap_append,<- ih];simp only[List.flatMap_cons,List.flatMap_nil,List.append_nil]
   split at h
   .rename_i he
    simp only[Option.some.injEq]at h;subst h;have:pgI' ys E lv k=[]:=by
     unfold pgI' sgI;rw[<- he];have:(E.take (stI E lv k)).drop (stI E lv k)=[]:=by
      apply List.drop_eq_nil_of_le; simp; omega
     rw[this]
     simpa[entsB]using BkC
    rw[this,List.append_nil]
   .split at h
    .simp at h
    .simp only [Option.some.injEq]at h
     subst h;simp only[List.map_append,A4Q]
theorem AqN(lv:List Le')(f:Le'):(fixL lv f).lines=f.lines/\(fixL lv f).name=f.name/\(fixL lv f).first=f.first:=by
 unfold fixL
 split
 .split <;> exact⟨rfl,rfl,rfl⟩
 .exact ⟨rfl,rfl,rfl⟩
theorem AwJ{ι:Type}(l:List ι)(f:ι->List (List Ln))(g:ι->List Bl)(h:∀ k∈l,(f k).flatMap saidP=((g k).flatMap fun b=>b.lines).filter keepL):(l.flatMap f).flatMap saidP=((l.flatMap g).flatMap fun b=>b.lines).filter keepL:=by
 induction l with
 | nil=>rfl
 | cons a r ih =>
  simp only[List.flatMap_cons,List.flatMap_append,List.filter_append];rw[h a (by simp),ih fun k hk=>h k (by simp[hk])]
theorem A2O{ys:List Sc}{nos:List (List UInt8)}(hm:MdOk ys nos):∀ b∈entsB ys nos,∀ x∈b.lines,OwnLn x:=fun b hb=>by
 obtain⟨n,hn,hb⟩:=List.mem_flatMap.1 hb;exact((AdT hm.sc (hm.num n hn)).1 b hb).1.own
theorem BfH{ys:List Sc}{E:List (List UInt8)}{lv:List Le'}{no:Int}(h:RelOk ys E lv){s:List UInt8×List Le'}(hs:relTo ys E lv no ((runsL lv).length+1)=some s):(s.2.map (·.lines)).flatMap saidP=((entsB ys E).flatMap fun b=>b.lines).filter keepL:=by
 rw[AoK _ _ hs,AwJ _ (pgI' ys E lv) (fun k=>entsB ys (sgI E lv k)) (fun k _=>(AnD (A2O (AqH h k))).2),A2N h,stI_end,List.take_length]
theorem BfI{ys:List Sc}(hd:(nosL ys).Nodup){y:Sc}(hy:y∈ys):atNo ys y.no=some y:=by
 unfold atNo
 induction ys with
 | nil=>simp at hy
 | cons a r ih =>
  simp only[nosL,List.map_cons,List.nodup_cons]at hd;rw[List.find?_cons]
  rcases List.mem_cons.1 hy with rfl|hy
  .simp
  .have:(a.no==y.no)=false:=by
    rw[beq_eq_false_iff_ne];intro e;exact hd.1 (by rw[e]; exact List.mem_map.2 ⟨y,hy,rfl⟩)
   rw[this];exact ih hd.2 hy
theorem AhC{α β:Type}(p:α->Bool)(g:α->List β):∀ l:List α,(∀ x∈l,p x=false->g x=[])->l.flatMap g=(l.filter p).flatMap g
 | [],_=>rfl
 | a::r,h=>by
  have ih:=AhC p g r fun x hx=>h x (by simp[hx])
  rw[List.flatMap_cons,List.filter_cons,ih]
  cases hp:p a with
  | true=>simp
  | false=>simp[h a (by simp) hp]
theorem AfZ{α:Type}(l:List α)(f:α->List Ln):(l.flatMap f).filter keepL=l.flatMap fun x=>(f x).filter keepL:=by
 induction l with
 | nil=>rfl
 | cons a r ih=>simp only[List.flatMap_cons,List.filter_append,ih]
theorem AwK{ys:List Sc}{E:List (List UInt8)}(hE:E.Pairwise nLt)(hn:∀ e∈E,numberL e=true)(hr:(nosL ys).Pairwise nLt)(hs:∀ n∈nosL ys,n∈E)(hg:∀ e∈E,e ∉ nosL ys->e.length<=50) :
  ((entsB ys E).flatMap fun b=>b.lines).filter keepL=(ys.flatMap linesL).filter keepL:=by
 have hd:(nosL ys).Nodup:=hr.imp fun hlt e=>by subst e; exact AaH _ hlt
 have e1:((entsB ys E).flatMap fun b=>b.lines).filter keepL=E.flatMap fun no=>((entB ys no).flatMap fun b=>b.lines).filter keepL:=by
  unfold entsB;rw[List.flatMap_assoc,AfZ]
 have e2:E.filter (fun no=>decide (no∈nosL ys))=nosL ys:=AiH AaH (fun _ _ _=>AaO) (hE.sublist List.filter_sublist) hr fun x=>by
  simp only[List.mem_filter,decide_eq_true_eq];exact⟨fun h=>h.2,fun h=>⟨hs x h,h⟩⟩
 rw[e1,AhC (fun no=>decide (no∈nosL ys)) _ E,e2,AfZ]
 .unfold nosL
  rw[List.flatMap_map];have key:∀ l:List Sc,(∀ y∈l,y∈ys)->l.flatMap (fun a=>((entB ys a.no).flatMap fun b=>b.lines).filter keepL)=l.flatMap fun x=>(linesL x).filter keepL:=by
   intro l
   induction l with
   | nil=>intro _; rfl
   | cons a r ih =>
    intro hl;simp only[List.flatMap_cons];rw[ih fun y hy=>hl y (by simp[hy]),A4C];simp only[entB,BfI hd (hl a (by simp))]
  exact key ys fun y hy=>hy
 .intro x hx hp
  have hx':x ∉ nosL ys:=by simpa using hp
  have ha:atNo ys x=none:=by
   unfold atNo;rw[List.find?_eq_none];intro y hy e;exact hx' (by simp at e; rw[<- e]; exact List.mem_map.2 ⟨y,hy,rfl⟩)
  have:=BaP (hn x hx) (hg x hx hx');simp only[entB,ha]
  simpa using this
def hasNo(out:List Sc):List (List UInt8):=(nosL out).filter (· != [])
theorem hasNo_snoc(out:List Sc)(x:Sc):hasNo (out++[x])=if x.no=[] then hasNo out else hasNo out++[x.no]:=by
 unfold hasNo nosL;rw[List.map_append,List.filter_append]
 by_cases h:x.no=[] <;> simp[h]
theorem DrawnS.d{x:Sc}(h:DrawnS x):SceneD x:=⟨.inl h.no,h.place,h.set,h.time,h.run,h.len,h.all,h.wt⟩
theorem SceneD.renum{x:Sc}(h:SceneD x){n:List UInt8}(hn:n=[]\/numberL n=true):SceneD { x with no:=n }:=⟨hn,h.place,h.set,h.time,h.run,h.len,h.all,h.wt⟩
structure RevI(xs:List Sc)(i:Nat)(out:List Sc):Prop where
 sc:∀ x∈out,SceneD x
 sub:(hasNo out).Sublist (nosL (xs.take i))
 len:out.length<=2*i
theorem BkD{xs:List Sc}{i:Nat}{out:List Sc}(h:RevI xs i out){x:Sc}(hx:DrawnS x):(∀ y∈out++[x],SceneD y)/\(hasNo (out++[x])).Sublist (nosL (xs.take i)):=by
 refine⟨fun y hy=>?_,?_⟩
 .rcases List.mem_append.1 hy with hy|hy
  .exact h.sc y hy
  .rw [List.mem_singleton.1 hy]; exact hx.d
 .rw [hasNo_snoc,if_pos hx.no]; exact h.sub
theorem AwL{xs:List Sc}{i:Nat}(h:i<xs.length):nosL (xs.take (i+1))=nosL (xs.take i)++[xs[i].no]:=by
 unfold nosL; rw[List.take_succ_eq_append_getElem h,List.map_append]; rfl
theorem A2P{xs:List Sc}{i:Nat}(h:i<xs.length){l:List (List UInt8)}(hs:l.Sublist (nosL (xs.take i))):l.Sublist (nosL (xs.take (i+1))):=by
 rw[AwL h]; exact hs.trans (List.sublist_append_left _ _)
theorem BkE{xs:List Sc}{i:Nat}(h:i<xs.length){out:List Sc}(hs:(hasNo out).Sublist (nosL (xs.take i))){x:Sc}(hx:x.no=xs[i].no):(hasNo (out++[x])).Sublist (nosL (xs.take (i+1))):=by
 rw[hasNo_snoc]
 split
 .exact A2P h hs
 .rw [AwL h,hx]; exact hs.append (List.Sublist.refl _)
structure RevOk(xs:List Sc)(out:List Sc):Prop where
 sc:∀ x∈out,SceneD x
 sub:(hasNo out).Sublist (nosL xs)
 len:out.length<=2*xs.length+2
 first:∀ y,out.head? = some y->y.time≠5
theorem BaQ:∀ (l:List Sc)(acc:List (List UInt8))(first:Bool),(∀ y∈l,SceneD y)->(hasNo l).Nodup->(∀ n∈hasNo l,n ∉ acc)->(first=true->∀ y,l.head? = some y->y.time≠5)->AmV acc first l
 | [],_,_,_,_,_,_=>trivial
 | x::r,acc,first,h,hd,ha,h5=>by
  have hx:=h x (by simp);have e:hasNo (x::r)=if x.no=[] then hasNo r else x.no::hasNo r:=by
   unfold hasNo nosL;rw[List.map_cons,List.filter_cons]
   by_cases h0:x.no=[] <;> simp[h0]
  rw[e]at hd ha;have hrest:(hasNo r).Nodup/\(∀ n∈hasNo r,n ∉ dd acc x.no):=by
   by_cases h0:x.no=[]
   .rw [if_pos h0]at hd ha
    refine⟨hd,fun n hn hm=>?_⟩;have hne:n≠[]:=by
     have:=List.mem_filter.1 hn
     simpa using this.2
    unfold dd at hm
    split at hm
    .exact ha n hn hm
    .rcases List.mem_append.1 hm with hm|hm
     .exact ha n hn hm
     .rw [List.mem_singleton.1 hm]at hne; exact hne h0
   .rw [if_neg h0]at hd ha
    obtain⟨d1,d2⟩:=List.nodup_cons.1 hd;refine⟨d2,fun n hn hm=>?_⟩;unfold dd at hm
    split at hm
    .exact ha n (by simp[hn]) hm
    .rcases List.mem_append.1 hm with hm|hm
     .exact ha n (by simp[hn]) hm
     .rw [List.mem_singleton.1 hm]at hn; exact d1 hn
  refine⟨?_,hx.place,hx.time,fun hf=>h5 hf x rfl,hx.sc,BaQ r _ false (fun y hy=>h y (by simp[hy])) hrest.1 hrest.2 (by simp)⟩
  by_cases h0:x.no=[]
  .exact .inl h0
  .have hn:=hx.no.resolve_left h0
   refine .inr ⟨hn,by have:=(AaG hn).2.1; omega,?_⟩;rw[if_neg h0]at ha;exact ha _ (by simp)
theorem RevOk.script{xs out:List Sc}(h:RevOk xs out)(hn:(nosL xs).Nodup)(hl:xs.length<=5){ti:List UInt8}(ht:1<=ti.length/\ti.length<=60)(hp:plainL ti=true):ScriptOk ⟨ti,out⟩:=by
 have h1:=h.len;have h2:=A1P out fun y hy=>(h.sc y hy).len
 exact⟨ht,hp,by simp only; omega,by simp only; omega,BaQ out [] true h.sc (h.sub.nodup hn) (by simp) fun _=>h.first⟩
theorem set_hall':([72,65,76,76]:List UInt8)∈SetL:=by decide
theorem drawn_some:DrawnS ⟨[],1,[72,65,76,76],1,[]⟩:=⟨rfl,by simp,set_hall',by simp,⟨0,rfl,by decide,by decide⟩,by simp,by simp,by simp[wtL]⟩
theorem AzO(out:List Sc)(y:Sc):List.map scA out++[AV.agg [.str y.no,.int .i64 y.place,.str y.set,.int .i64 y.time,.fz 2 (List.map paA y.paras)]]=List.map scA (out++[y]):=by simp[scA]
theorem AtA(n:Nat)(l:List Sc):lowB n (.arr 5 (l.map scA))=true:=AaX (AaD l)
theorem BkF{xs out:List Sc}(hs:∀ x∈out,SceneD x)(hb:(hasNo out).Sublist (nosL xs))(hl:out.length<=2*xs.length+2):(∀ y r,out=y::r->y.time=5->RevOk xs ({ y with time:=1 }::r))/\((∀ y,out.head? = some y->y.time≠5)->RevOk xs out):=by
 refine⟨fun y r e h5=>?_,fun h=>⟨hs,hb,hl,h⟩⟩;subst e;refine⟨fun z hz=>?_,?_,by simpa using hl,fun z hz=>by simp at hz; subst hz; simp⟩
 .rcases List.mem_cons.1 hz with rfl|hz
  .have hy:=hs y (by simp)
   exact⟨hy.no,hy.place,hy.set,by simp,hy.run,hy.len,hy.all,hy.wt⟩
  .exact hs z (by simp[hz])
 .simpa [hasNo,nosL]using hb
theorem A4R(L:List Int)(k:Int)(h3:0<=k)(h4:k<=400000)(no:Int)(ti:List UInt8)(xs:List Sc)(lv:List AV)(hx:∀ x∈xs,SceneD x)(hl:xs.length<=5) :
  Mc prog 8 2 (str L k) [.agg [.int .i64 no,.str ti,.fz 5 (xs.map scA),.fz 1 [],.fz 4 lv]] (fun r s=>∃ (out:List Sc) (k':Int),r=srA ⟨ti,out⟩/\RevOk xs out/\s=str L k'/\k<=k'/\k'<=k+100000):=by
 refine zcIF func8 rfl fun h ρ w=>?_
 simp only[go_sem,List.length_map];refine AaL (ι:=Nat×Int×List Sc) (fun x=>xs.length-x.1)
  (fun x=>[(20,.int .i64 x.1),(19,.int .i64 xs.length),(18,.fz 5 (xs.map scA)),(5,.ptr 3 1 0 0),(4,.ptr 2 1 0 0),(3,.ptr 1 1 0 0),(0,.ptr 0 1 0 0)])
  (fun x=>[.arr 2 [str L x.2.1],.arr 5 [.agg [.int .i64 no,.str ti,.fz 5 (xs.map scA),.fz 1 [],.fz 4 lv]],.arr 2 [.agg [.str [],.raw (.slice none 0 0)]],.arr 2 [.agg [.str ti,.sl 4 0 x.2.2.length x.2.2.length]],.arr 5 (x.2.2.map scA)])
  (fun x=>x.1<=xs.length/\RevI xs x.1 x.2.2/\k<=x.2.1/\x.2.1<=k+10010*x.1) (0,k,[]) ⟨by simp,⟨by simp,by simp[hasNo,nosL],by simp⟩,by simp,by simp⟩ ?_ ?_
 .refine Shift.trans (Shift.cells 3 5 [.agg [.str ti,.sl 4 0 0 0]] rfl rfl (by simp[cellsOf]) ⟨.refl,.sl,trivial⟩) (Shift.weak ?_)
  simp only[go_sem]
 .rintro ⟨i,k',out⟩ ⟨g1,g2,g3,g4⟩ J hJ
  simp only at g1 g2 g3 g4 hJ |-
  by_cases gi:i<xs.length
  .have di:decide ((i:Int)<(xs.length:Int))=true:=by simp; omega
   have hg':List.getD (List.map scA xs) i .any=.agg [.str xs[i].no,.int .i64 xs[i].place,.str xs[i].set,.int .i64 xs[i].time,.fz 2 (xs[i].paras.map paA)]:=by simp[List.getD,gi,scA]
   have hxi:=hx _ (List.getElem_mem gi);refine zgF ?_;simp only[go_sem,di,hg',List.length_map]
   repeat refine aqa ?_
   refine zm 0 (AeT L k' 5 (by omega) (by omega) (by omega) (by omega)) ?_;rintro _ _ ⟨⟨b,rfl⟩,rfl⟩;refine amid (κ:=Int×List Sc)
    (fun x=>[(20,.int .i64 i),(19,.int .i64 xs.length),(18,.fz 5 (xs.map scA)),(7,.ptr 5 1 0 0),(5,.ptr 3 1 0 0),(4,.ptr 2 1 0 0),(3,.ptr 1 1 0 0),(0,.ptr 0 1 0 0)])
    (fun x=>[.arr 2 [str L x.1],.arr 5 [.agg [.int .i64 no,.str ti,.fz 5 (xs.map scA),.fz 1 [],.fz 4 lv]],.arr 2 [.agg [.str [],.raw (.slice none 0 0)]],.arr 2 [.agg [.str ti,.sl 4 0 x.2.length x.2.length]],.arr 5 (x.2.map scA),.arr 5 [.agg [.str xs[i].no,.int .i64 xs[i].place,.str xs[i].set,.int .i64 xs[i].time,.fz 2 (xs[i].paras.map paA)]]])
    (fun x=>k'<=x.1/\x.1<=k'+5001/\(∀ y∈x.2,SceneD y)/\(hasNo x.2).Sublist (nosL (xs.take i))/\x.2.length<=2*i+1) ?_ ?_
   .rintro ⟨k2,out2⟩ ⟨f1,f2,f3,f4,f5⟩
    simp only at f1 f2 f3 f4 f5 |-;have hlen:(List.map scA out2).length=out2.length:=by simp
    have e3:∀ y:Sc,out2.length+1=(out2++[y]).length:=fun y=>by simp
    have fin:∀ (k5:Int) (y:Sc),k2<=k5->k5<=k2+5002->SceneD y->y.no=xs[i].no->_:=fun k5 y h1 h2 h5 h6=>hJ (i+1,k5,out2++[y]) ⟨by simp only; omega,⟨fun z hz=>by
      rcases List.mem_append.1 hz with hz|hz
      .exact f3 z hz
      .rw [List.mem_singleton.1 hz]; exact h5,BkE gi f4 h6,by simp; omega⟩,by simp only; omega,by simp only; omega⟩ (by simp only; omega)
    refine zgF ?_;simp only[go_sem];refine zm 0 (AeT L k2 6 (by omega) (by omega) (by omega) (by omega)) ?_;rintro _ _ ⟨⟨b2,rfl⟩,rfl⟩
    cases b2 with
    | true =>
     have fin2:=hJ (i+1,k2+1,out2) ⟨by simp only; omega,⟨f3,A2P gi f4,by simp only; omega⟩,by simp only; omega,by simp only; omega⟩ (by simp only; omega);refine zgF ?_;simp only[go_sem]
     repeat refine aqa ?_
     rw[ic i];refine ainv fin2 (Shift.low 5 (by simp) (by simp) ?_ ?_)
     .simp only [List.take_succ_cons,List.take_zero,List.all_cons,List.all_nil,↓AtA,lowB,flat,cellsOf,lowC,str,Av.frozen,decide_true,List.append_nil,List.cons_append,List.nil_append,Nat.reduceLT,Bool.and_self]
     .simp only [go_sem]
    | false =>
     refine zgF ?_;simp only[go_sem];refine zm 0 (AeT L (k2+1) 3 (by omega) (by omega) (by omega) (by omega)) ?_;rintro _ _ ⟨⟨b3,rfl⟩,rfl⟩
     cases b3 with
     | true =>
      refine zgF ?_;simp only[go_sem];refine zm 0 (AiG L (k2+1+1) (by omega) (by omega)) ?_;rintro _ _ ⟨y,k3,rfl,hy,rfl,t1,t2⟩;have hfin:=fin k3 { y with no:=xs[i].no } (by omega) (by omega) (hy.d.renum hxi.no) rfl;have happ:=AzO out2 { y with no:=xs[i].no };simp only at happ;simp only[scA];refine zgF ?_;simp only[go_sem,hlen]
      repeat refine aqa ?_
      rw[happ,e3 { y with no:=xs[i].no },show(i:Int)+1=((i+1:Nat):Int) by omega];refine ainv hfin (Shift.low 5 (by simp) (by simp) ?_ ?_)
      .simp only [List.take_succ_cons,List.take_zero,List.all_cons,List.all_nil,↓AtA,lowB,flat,cellsOf,lowC,str,Av.frozen,decide_true,List.append_nil,List.cons_append,List.nil_append,Nat.reduceLT,Bool.and_self]
      .simp only [go_sem]
     | false =>
      have hfin:=fin (k2+1+1) xs[i] (by omega) (by omega) hxi rfl;have happ:=AzO out2 xs[i];refine zgF ?_;simp only[go_sem,hlen]
      repeat refine aqa ?_
      rw[happ,e3 xs[i],show(i:Int)+1=((i+1:Nat):Int) by omega];refine ainv hfin (Shift.low 5 (by simp) (by simp) ?_ ?_)
      .simp only [List.take_succ_cons,List.take_zero,List.all_cons,List.all_nil,↓AtA,lowB,flat,cellsOf,lowC,str,Av.frozen,decide_true,List.append_nil,List.cons_append,List.nil_append,Nat.reduceLT,Bool.and_self]
      .simp only [go_sem]
   .intro Q hQ
    have hlen:(List.map scA out).length=out.length:=by simp
    cases b with
    | true =>
     refine zgF ?_;simp only[go_sem];refine zm 0 (AiG L (k'+1) (by omega) (by omega)) ?_;rintro _ _ ⟨y,k3,rfl,hy,rfl,t1,t2⟩;have happ:=AzO out y;have hnew:=BkD g2 hy;have hgl:=g2.len;simp only[scA];refine zgF ?_;simp only[go_sem,hlen]
     repeat refine aqa ?_
     rw[happ,show out.length+1=(out++[y]).length by simp];refine ainv (hQ (k3,out++[y]) ⟨by simp only; omega,by simp only; omega,hnew.1,hnew.2,by simp; omega⟩) (Shift.low 6 (by simp) (by simp) ?_ ?_)
     .simp only [List.take_succ_cons,List.take_zero,List.all_cons,List.all_nil,↓AtA,lowB,flat,cellsOf,lowC,str,Av.frozen,decide_true,List.append_nil,List.cons_append,List.nil_append,Nat.reduceLT,Bool.and_self]
     .simp only [go_sem]
    | false =>
     have hgl:=g2.len;refine zgF ?_;simp only[go_sem];refine ainv (hQ (k'+1,out) ⟨by simp only; omega,by simp only; omega,g2.sc,g2.sub,by simp only; omega⟩) (Shift.weak ?_);simp only[go_sem]
  .have di:decide ((i:Int)<(xs.length:Int))=false:=by simp; omega
   have hi:i=xs.length:=by omega
   subst hi;have gs:=g2.sub;rw[List.take_length]at gs;have gl:=g2.len;have gc:=g2.sc;clear g2;refine zgF ?_;simp only[go_sem,di];refine zm 0 (AeT L k' 4 (by omega) (by omega) (by omega) (by omega)) ?_;rintro _ _ ⟨⟨b,rfl⟩,rfl⟩;refine amid (κ:=Int×List Sc)
    (fun x=>[(5,.ptr 3 1 0 0),(4,.ptr 2 1 0 0),(3,.ptr 1 1 0 0),(0,.ptr 0 1 0 0)])
    (fun x=>[.arr 2 [str L x.1],.arr 5 [.agg [.int .i64 no,.str ti,.fz 5 (xs.map scA),.fz 1 [],.fz 4 lv]],.arr 2 [.agg [.str [],.raw (.slice none 0 0)]],.arr 2 [.agg [.str ti,.sl 4 0 x.2.length x.2.length]],.arr 5 (x.2.map scA)])
    (fun x=>k'<=x.1/\x.1<=k'+10001/\(∀ y∈x.2,SceneD y)/\(hasNo x.2).Sublist (nosL xs)/\x.2.length<=2*xs.length+2) ?_ ?_
   .rintro ⟨k2,o⟩ ⟨f1,f2,f3,f4,f5⟩
    simp only at f1 f2 f3 f4 f5 |-;obtain⟨r1,r2⟩:=BkF f3 f4 f5;have dg:decide ((([]:List AV).length:Int)>0)=false:=by simp
    cases o with
    | nil =>
     have hok:=r2 (by simp);have d0:decide ((0:Int)>0)=false:=by decide
     refine AWp.shift (Shift.frz 4 rfl (AaD [])) ?_;simp only[↓AeV,↓AhL,frzE,frz,frz1,frzC,frzB,List.map_cons,List.map_nil,List.set_cons_succ,List.set_cons_zero,Nat.reduceBEq,cond_true,cond_false,Bool.false_and,Bool.true_and,List.length_map,List.length_nil,Nat.zero_add,decide_true,Nat.le_refl,List.drop_zero,List.take_nil,List.take_zero];refine zgF ?_;simp only[go_sem,dg,d0,List.length_nil];exact AbG [.cell 4 28] rfl [_] ⟨by simp only[go_sem,sideIs],trivial⟩ ⟨_,_,rfl,⟨[],k2,rfl,hok,rfl,by omega,by omega⟩,rfl,rfl⟩
    | cons y r =>
     have dy:decide (((r.length+1:Nat):Int)>0)=true:=by rw[decide_eq_true_eq]; omega
     have hg0:List.getD (scA y::List.map scA r) 0 .any=.agg [.str y.no,.int .i64 y.place,.str y.set,.int .i64 y.time,.fz 2 (y.paras.map paA)]:=rfl;have hlr:(List.map scA r).length=r.length:=by simp
     by_cases h5:y.time=5
     .have d5:(y.time==5)=true:=by simpa using h5
      have hok:=r1 y r rfl h5;simp only[List.map_cons,List.length_cons];refine zgF ?_;simp only[go_sem,dg,dy,hg0,d5,hlr,List.length_cons]
      repeat refine aqa ?_
      refine ARet.shift (Shift.frz 4 rfl (AaD ({ y with time:=1 }::r))) ?_;have htk:List.take (r.length+1) (List.map scA ({ y with time:=1 }::r))=List.map scA ({ y with time:=1 }::r):=List.take_of_length_le (by simp);simp only[List.map_cons]at htk;simp only[scA]at htk;simp only[scA,↓AeV,↓AhL,frzE,frz,frz1,frzC,frzB,List.map_cons,List.map_nil,List.set_cons_succ,List.set_cons_zero,Nat.reduceBEq,cond_true,cond_false,Bool.false_and,Bool.true_and,List.length_map,List.length_cons,Nat.zero_add,decide_true,Nat.le_refl,List.drop_zero,htk];exact AbG [.cell 4 28] rfl [_] ⟨by simp only[go_sem,sideIs,scA],trivial⟩ ⟨_,_,rfl,⟨{ y with time:=1 }::r,k2,rfl,hok,rfl,by omega,by omega⟩,rfl,rfl⟩
     .have d5:(y.time==5)=false:=by simpa using h5
      have hok:=r2 (fun u hu=>by simp at hu; subst hu; exact h5);simp only[List.map_cons,List.length_cons];refine zgF ?_;simp only[go_sem,dg,dy,hg0,d5,hlr,List.length_cons]
      repeat refine aqa ?_
      refine ARet.shift (Shift.frz 4 rfl (AaD (y::r))) ?_;have htk:List.take (r.length+1) (List.map scA (y::r))=List.map scA (y::r):=List.take_of_length_le (by simp);simp only[List.map_cons]at htk;simp only[scA]at htk;simp only[scA,↓AeV,↓AhL,frzE,frz,frz1,frzC,frzB,List.map_cons,List.map_nil,List.set_cons_succ,List.set_cons_zero,Nat.reduceBEq,cond_true,cond_false,Bool.false_and,Bool.true_and,List.length_map,List.length_cons,Nat.zero_add,decide_true,Nat.le_refl,List.drop_zero,htk];exact AbG [.cell 4 28] rfl [_] ⟨by simp only[go_sem,sideIs,scA],trivial⟩ ⟨_,_,rfl,⟨y::r,k2,rfl,hok,rfl,by omega,by omega⟩,rfl,rfl⟩
   .intro Q hQ
    have hlen:(List.map scA out).length=out.length:=by simp
    cases b with
    | true =>
     refine zgF ?_;simp only[go_sem];refine ApI [3,5] 0 [] mixed (by decide) rfl rfl 100 ?_;simp only[go_sem];refine BcI (AiG L (k'+1) (by omega) (by omega)) rfl rfl rfl ⟨_,_,_,k'+1,rfl,drawn_some,rfl,by omega,by omega⟩ ?_;rintro _ _ ⟨y,k3,rfl,hy,rfl,t1,t2⟩;simp only[go_sem];refine BcI (AiG L k3 (by omega) (by omega)) rfl rfl rfl ⟨_,_,_,k3,rfl,drawn_some,rfl,by omega,by omega⟩ ?_;rintro _ _ ⟨z,k4,rfl,hz,rfl,t3,t4⟩;have happ:List.map scA out++[scA y,scA z]=List.map scA (out++[y,z]):=by simp
     simp only[scA]at happ |-;simp only[go_sem,hlen]
     repeat refine aqa ?_
     refine zgF ?_;simp only[go_sem];rw[happ,show out.length+2=(out++[y,z]).length by simp];refine ainv (hQ (k4,out++[y,z]) ⟨by simp only; omega,by simp only; omega,fun u hu=>?_,?_,by simp; omega⟩) (Shift.weakS ?_ (by simp))
     .simp only [List.mem_append,List.mem_cons,List.not_mem_nil,or_false]at hu
      rcases hu with hu|rfl|rfl
      .exact gc u hu
      .exact hy.d
      .exact hz.d
     .have e:hasNo (out++[y,z])=hasNo out:=by simp[hasNo,nosL,hy.no,hz.no]
      simp only[e]; exact gs
     .simp only [go_sem]
    | false =>
     refine zgF ?_;simp only[go_sem];refine ainv (hQ (k'+1,out) ⟨by simp only; omega,by simp only; omega,gc,gs,by simp only; omega⟩) (Shift.weak ?_);simp only[go_sem]
theorem AoL(E:List (List UInt8))(xs:List Sc):∀ i,i<=xs.length->∀ y∈ysTo E xs i,∃ x∈xs,∃ n,y={ x with no:=n }
 | 0,_,y,hy=>by simp[ysTo]at hy
 | i+1,hi,y,hy=>by
  simp only[ysTo,List.mem_append,List.mem_singleton]at hy
  rcases hy with hy|rfl
  .exact AoL E xs i (by omega) y hy
  .exact ⟨xs.getD i sc0,by simp[List.getD,show i<xs.length by omega],_,rfl⟩
theorem AqO{E:List (List UInt8)}{xs:List Sc}{i:Nat}(hi:i<=xs.length)(hx:∀ x∈xs,SceneD x)(h:RenI E xs i):∀ y∈ysTo E xs i,SceneD y:=fun y hy=>by
 obtain⟨x,hm,n,rfl⟩:=AoL E xs i hi y hy;exact(hx x hm).renum (.inr (h.num _ hy))
theorem BfJ{l:List (List UInt8)}(hh:∀ n∈l,leafNameL n=true)(h:∀ i,(h:i+1<l.length)->nLt (endsL l[i]).2 (endsL l[i+1]).1):AsY l:=by
 unfold AsY;rw[List.pairwise_iff_getElem];have key:∀ j i,(hj:j<l.length)->(hij:i<j)->nLt (endsL (l[i]'(by omega))).2 (endsL l[j]).1:=by
  intro j
  induction j with
  | zero=>intro i _ h; omega
  | succ j ih =>
   intro i hj hij;have h1:=h j hj
   by_cases e:i=j
   .subst e; exact h1
   .have h2:=ih i (by omega) (by omega)
    rcases(AbO (hh l[j] (List.getElem_mem _))).2.2 with e2|e2
    .rw [e2]at h2; exact AaO h2 h1
    .exact AaO h2 (AaO e2 h1)
 exact fun i j hi hj hij=>key j i hj hij
theorem AkN{l:List Le'}:∀ (j i:Nat),i<j->j<(runsL l).length->(rat (runsL l) i).1<(rat (runsL l) j).1
 | 0,i,h,_=>by omega
 | j+1,i,h,hj=>by
  have hr:=AeY l;have h1:=hr.adj j hj;have h2:=(hr.one j (by omega)).1
  by_cases e:i=j
  .subst e; omega
  .have:=AkN (l:=l) j i (by omega) (by omega); omega
theorem BmJ{d:Dr}{E E':List (List UInt8)}{ys:List Sc}(hd:DrIn d)(ho:DraftOk d)(hE:EntOf d E)(hm:MdOk ys E')(hs:E'.Pairwise nLt)(hsub:∀ e∈E,e∈E'):RelOk ys E' d.leaves:=by
 have hl:=ho.lv E hE;have hr:=AeY d.leaves;have hlt:∀ k,k<(runsL d.leaves).length->(rat (runsL d.leaves) k).1<d.leaves.length:=fun k hk=>by have:=hr.one k hk; omega
 refine⟨hm,hs,fun k hk=>hsub _ (hl.mem _ (hlt k hk) (hr.one k hk).2.2.1),fun i j hij hj=>hl.rise _ _ (AkN j i hij hj) (hlt j hj) (hr.one i (by omega)).2.2.1 (hr.one j hj).2.2.1,fun f hf=>(ho.binder.all f hf).name,?_,fun f hf=>?_,hd.leavesN⟩
 .refine BfJ (fun n hn=>?_) fun i hi=>?_
  .obtain ⟨f,hf,rfl⟩:=List.mem_map.1 hn
   exact(ho.binder.all f hf).name
  .simp only [List.length_map]at hi
   simpa using ho.binder.rise i hi
 .have:=hd.leaves f hf
  exact⟨this.2.2.1,this.2.1⟩
structure NextG(d:Dr)(x:Sr)(E E':List (List UInt8))(la:List UInt8)(l:List Le'):Prop where
 ok:DraftOk d
 no:d.no≠30
 ent:EntOf d E
 run:RunS x.scenes E x.scenes.length
 ren:RenI E x.scenes x.scenes.length
 few:(goneN E (ysTo E x.scenes x.scenes.length)).length+x.scenes.length<=300
 ent':EntOf ⟨d.no+1,x.title,ysTo E x.scenes x.scenes.length,goneN E (ysTo E x.scenes x.scenes.length),[]⟩ E'
 rel:RelOk (ysTo E x.scenes x.scenes.length) E' d.leaves
 leaves:relTo (ysTo E x.scenes x.scenes.length) E' d.leaves (d.no+1) ((runsL d.leaves).length+1)=some (la,l)
 many:l.length<=1500
def nextD(d:Dr)(x:Sr)(E:List (List UInt8))(l:List Le'):Dr:=⟨d.no+1,x.title,ysTo E x.scenes x.scenes.length,goneN E (ysTo E x.scenes x.scenes.length),l.map (fixL d.leaves)⟩
def BmK(d:Dr)(x:Sr)(r:AV):Prop:=(∃ e:Int,e≠0/\r=.tup [drZ,.int .i64 e])\/∃ E E' la l,NextG d x E E' la l/\r=.tup [drA (nextD d x E l),.int .i64 0]
theorem AqP{E:List (List UInt8)}{ys:List Sc}(hE:E.Pairwise nLt):(goneN E ys).Pairwise nLt/\(∀ e∈goneN E ys,e∈E/\e ∉ nosL ys):=by
 refine⟨hE.sublist List.filter_sublist,fun e he=>?_⟩;have:=List.mem_filter.1 he;exact⟨this.1,by simpa using this.2⟩
theorem BaR{d:Dr}{x:Sr}{E:List (List UInt8)}(hd:DrIn d)(ho:DraftOk d)(hE:EntOf d E)(hx:∀ y∈x.scenes,SceneD y)(h:RenI E x.scenes x.scenes.length)(hf:(goneN E (ysTo E x.scenes x.scenes.length)).length+x.scenes.length<=300) :
  ∃ E',EntOf ⟨d.no+1,x.title,ysTo E x.scenes x.scenes.length,goneN E (ysTo E x.scenes x.scenes.length),[]⟩ E'/\RelOk (ysTo E x.scenes x.scenes.length) E' d.leaves:=by
 have hyl:=AgP E x.scenes x.scenes.length;have hsc:=AqO (Nat.le_refl _) hx h;have hn:=h.num;have hr:=h.rise;generalize ysTo E x.scenes x.scenes.length=ys at *;obtain⟨g1,g2⟩:=AqP (ys:=ys) hE.sorted;have hnum:∀ y∈nosL ys,numberL y=true:=fun y hy=>by
  obtain⟨z,hz,rfl⟩:=List.mem_map.1 hy;exact hn z hz
 have hgn:∀ y∈goneN E ys,numberL y=true:=fun y hy=>hE.num y (g2 y hy).1
 obtain⟨E',p,s⟩:=AyZ (goneN E ys) (nosL ys) hr g1 hnum hgn fun y hy=>(g2 y hy).2
 have hall:∀ y∈E',numberL y=true:=fun y hy=>by
  rcases List.mem_append.1 (p.mem_iff.1 hy)with hy|hy
  .exact hgn y hy
  .exact hnum y hy
 have hlen:=p.length_eq;simp only[List.length_append,nosL,List.length_map]at hlen;have hnl:(nosL ys).length=ys.length:=by simp[nosL]
 refine⟨E',⟨p,s,hall⟩,BmJ hd ho hE ⟨hsc,hr.imp fun hlt e=>by subst e; exact AaH _ hlt,by omega,by omega,hall⟩ s fun e he=>p.mem_iff.2 ?_⟩
 by_cases hm:e∈nosL ys
 .exact List.mem_append.2 (.inr hm)
 .exact List.mem_append.2 (.inl (List.mem_filter.2 ⟨he,by simpa using hm⟩))
theorem A4S{St:Std}(hS:LibOk St)(d:Dr)(hd:DrIn d)(x:Sr)(hx:ScriptOk x)(hsc:∀ y∈x.scenes,SceneD y):PcH prog St 7 [drA d,srA x] (BmK d x):=by
 have hcd:=AoU hS d hd;have hck:=AdI hS x hx;have hno:∀ y∈x.scenes,y.no=[]\/numberL y.no=true:=fun y hy=>(hsc y hy).no
 unfold BmK;simp only[drA,srA]at hcd hck |-;refine zqIF func7 rfl fun h ρ w hg=>?_
 simp only[go_sem];refine AtW hg hcd rfl rfl rfl ?_;rintro _ ⟨n,rfl,hn⟩
 by_cases hn0:n=0
 .have ho:=hn.1 hn0
  subst hn0;have d0:((0:Int) != 0)=false:=by decide
  obtain⟨E,hE,hm⟩:=BgH hd ho.nums;have hf:=hm.few;have hren:=AoV hS d E hE hd.goneN (by omega) x hx hno;simp only[drA,srA]at hren
  by_cases h30:d.no=30
  .have d30:(d.no==30)=true:=by simpa using h30
   refine zgF ?_;simp only[go_sem,d0];refine zqF hg (hck) ?_;simp only[go_sem,d0,d30];exact AbG [.cell 4 32,.tmp 5] rfl [_,_] ⟨by simp only[go_sem,sideIs,drZ],rfl,trivial⟩ ⟨.inl ⟨11,by decide,rfl⟩,rfl⟩
  .have d30:(d.no==30)=false:=by simpa using h30
   have hdno:=ho.no;refine zgF ?_;simp only[go_sem,d0];refine zqF hg (hck) ?_;simp only[go_sem,d0,d30];refine AtW hg hren rfl rfl rfl ?_;rintro _ (⟨e,he,rfl⟩|⟨rfl,hr1,hr2,hr3⟩)
   .have de:(e != 0)=true:=by simpa using he
    simp only[drZ];refine zgF ?_;simp only[go_sem,de];exact AbG [.cell 4 32,.tmp 5] rfl [_,_] ⟨by simp only[go_sem,sideIs,drZ],rfl,trivial⟩ ⟨.inl ⟨e,he,rfl⟩,rfl⟩
   .obtain ⟨E',hE',hR⟩:=BaR hd ho hE hsc hr2 hr3
    have hrel:=AwH hS d x (d.no+1) x.title _ _ E' hE' hR (by omega);simp only[relT,nwA,drA,srA,drZ]at hrel;simp only[drN];refine zgF ?_;simp only[go_sem,d0]
    repeat refine aqa ?_
    refine A0J hg hrel rfl rfl ?_;rintro r s' (⟨e,D,T,he,rfl,rfl⟩|⟨la,l,hl1,hl2,rfl,rfl⟩)
    .have de:(e != 0)=true:=by simpa using he
     simp only[relT,drA,srA,drZ,List.cons_append,List.nil_append];refine zgF ?_;simp only[go_sem,de];exact AbG [.cell 4 32,.tmp 5] rfl [_,_] ⟨by simp only[go_sem,sideIs,drZ],rfl,trivial⟩ ⟨.inl ⟨e,he,rfl⟩,rfl⟩
    .simp only [relT,nwA,drA,srA,drZ]
     refine zgF ?_;simp only[go_sem,d0];exact AbG [.cell 4 32,.tmp 5] rfl [_,_] ⟨by simp only[go_sem,sideIs,nextD,drA],rfl,trivial⟩ ⟨.inr ⟨E,E',la,l,⟨ho,h30,hE,hr1,hr2,hr3,hE',hR,hl1,hl2⟩,rfl⟩,rfl⟩
 .have d0:(n != 0)=true:=by simpa using hn0
  refine zgF ?_;simp only[go_sem,d0];exact AbG [.cell 4 32,.tmp 5] rfl [_,_] ⟨by simp only[go_sem,sideIs,drZ],rfl,trivial⟩ ⟨.inl ⟨n,hn0,rfl⟩,rfl⟩
theorem A4T:∀ i j:Fin 5,i<j->AaC (AcN (i.1+1)) (AcN (j.1+1))<0:=by decide +kernel
theorem AzP:∀ i:Fin 5,(AcN (i.1+1)).length<=50:=by decide +kernel
theorem AzQ{xs:List Sc}(h5:xs.length<=5){j:Nat}(hj:j<xs.length):∃ h:j<(numL 0 xs).length,(numL 0 xs)[j]={ xs[j]with no:=AcN (j+1) }:=by
 have h1:j<(numL 0 xs).length:=by rw[numL_len]; exact hj
 have h2:=AsR xs 0 j hj;rw[List.getElem?_eq_getElem h1,Option.some.injEq,Nat.zero_add]at h2;refine⟨h1,?_⟩;rw[h2];simp only[nm,AsQ j (by omega)]
theorem BkG{x:Sr}(hx:DrawnR x):StoryD (numL 0 x.scenes)/\∀ y∈numL 0 x.scenes,y.no.length<=50:=by
 obtain⟨ti,xs⟩:=x;have h5:=hx.len;have hall:=hx.all;simp only at h5 hall |-;have hnl:=numL_len 0 xs;have get:∀ y∈numL 0 xs,∃ j,∃ h:j<xs.length,y={ xs[j]with no:=AcN (j+1) }:=fun y hy=>by
  obtain⟨j,hj,rfl⟩:=List.mem_iff_getElem.1 hy;have hj':j<xs.length:=by omega
  exact⟨j,hj',(AzQ h5 hj').2⟩
 refine⟨⟨fun y hy=>?_,fun y hy=>?_,?_,by omega⟩,fun y hy=>?_⟩
 .obtain ⟨j,hj,rfl⟩:=get y hy
  exact(hall _ (List.getElem_mem hj)).d.renum (.inr (AyP j (by omega)).2.1)
 .obtain ⟨j,hj,rfl⟩:=get y hy
  exact(AyP j (by omega)).2.1
 .rw [List.pairwise_iff_getElem]
  intro i j hi hj hij;simp only[nosL,List.length_map]at hi hj;have hi':i<xs.length:=by omega
  have hj':j<xs.length:=by omega
  simp only[nosL,List.getElem_map,(AzQ h5 hi').2,(AzQ h5 hj').2];exact compareN_lt.1 (A4T ⟨i,by omega⟩ ⟨j,by omega⟩ hij)
 .obtain ⟨j,hj,rfl⟩:=get y hy
  exact AzP ⟨j,by omega⟩
theorem AjX{xs:List Sc}{nos:List (List UInt8)}(hm:MdOk xs nos):∀ p∈(layL (entsB xs nos)).pages,∀ l∈p,l.length<=3000100:=by
 have hb:∀ b∈entsB xs nos,sizB b:=fun b hb=>by
  obtain⟨n,hn,hb⟩:=List.mem_flatMap.1 hb;exact((AdT hm.sc (hm.num n hn)).1 b hb).2.2.2
 have h1:=BlY hb _ (Nat.le_refl _);have h2:qS (layL (entsB xs nos)):=by unfold layL; split; exact AyT h1; exact h1
 exact h2.1
theorem A4U{xs:List Sc}{nos:List (List UInt8)}(hm:MdOk xs nos)(k:Int):(AiR xs nos k).length<1000:=by
 unfold AiR
 split
 .rename_i j hj
  by_cases h:j<nos.length
  .have:=(AaG (hm.num (nos.getD j []) (by simp[List.getD,h]))).2.1
   exact this
  .simp [List.getD,h]
 .simp
theorem AwM{xs:List Sc}{nos:List (List UInt8)}(hm:MdOk xs nos)(k:Nat):((firstsI xs nos).getD k []).length<1000:=by
 by_cases h:k<(firstsI xs nos).length
 .have:(firstsI xs nos).getD k []∈firstsI xs nos:=by simp[List.getD,h]
  obtain⟨i,_,hi⟩:=List.mem_map.1 this;rw[<- hi]; exact A4U hm i
 .simp [List.getD,h]
theorem BaS{ti:List UInt8}{xs:List Sc}(hs:ScriptOk ⟨ti,xs⟩)(hd:StoryD xs):DrIn ⟨1,ti,xs,[],lockL xs⟩:=by
 have hm:=hd.md;have hfew:=AvW xs hd.sc hd.few (nosL xs) (by have:=hd.few; simp[nosL]; omega) fun n hn=>AvX hn
 have hb:=AeM hm;have hpl:=AjX hm;have hfs:=AwM hm;refine⟨hs,hd.sc,by simp,by simp,by simp only[lockL,lvsTo_len]; omega,fun f hf=>?_⟩;simp only[lockL,lvsTo,List.mem_map,List.mem_range]at hf;obtain⟨k,hk,rfl⟩:=hf;have hp:(layL (entsB xs (nosL xs))).pages.getD k []∈(layL (entsB xs (nosL xs))).pages:=by simp[List.getD,hk]
 refine⟨?_,by have:=hfs k; simp only; omega,by have:=(hb.2 _ hp).2; simp only; omega,fun s hsm=>by have:=hpl _ hp s hsm; omega⟩;simp only;rw[AiE (by omega) (by omega)];unfold dig3
 split
 .simp
 .split <;> simp
structure GoodD(d:Dr):Prop where
 said:(d.leaves.map (·.lines)).flatMap saidP=(d.scenes.flatMap linesL).filter keepL
 script:ScriptOk ⟨d.title,d.scenes⟩
 few:d.scenes.length<=20
 many:d.leaves.length<=100000
 lines:∀ f∈d.leaves,f.lines.length<=54/\∀ s∈f.lines,s.length<=3000100
theorem BaT{ti:List UInt8}{xs:List Sc}(hs:ScriptOk ⟨ti,xs⟩)(hd:StoryD xs):GoodD ⟨1,ti,xs,[],lockL xs⟩:=by
 have hm:=hd.md;have hin:=BaS hs hd;have hb:=AeM hm;have hpl:=AjX hm;have hmap:(lockL xs).map (·.lines)=(layL (entsB xs (nosL xs))).pages:=by
  unfold lockL lvsTo;rw[List.map_map];exact AqM _
 refine⟨?_,hs,by have:=hd.few; simp only; omega,hin.leavesN,fun f hf=>?_⟩
 .simp only
  rw[hmap,(AnD (A2O hm)).2];exact AwK hd.rise hm.num hd.rise (fun n hn=>hn) fun e he hn=>absurd he hn
 .have:f.lines∈(lockL xs).map (·.lines):=List.mem_map.2 ⟨f,hf,rfl⟩
  rw[hmap]at this;exact⟨(hb.2 _ this).2,hpl _ this⟩
theorem BaU{ti:List UInt8}{xs:List Sc}(hs:ScriptOk ⟨ti,xs⟩)(hd:StoryD xs)(hsh:∀ y∈xs,y.no.length<=50){zs:List Sc}(hz:RevOk xs zs){E E':List (List UInt8)}{la:List UInt8}{l:List Le'}(h:NextG ⟨1,ti,xs,[],lockL xs⟩ ⟨ti,zs⟩ E E' la l):GoodD (nextD ⟨1,ti,xs,[],lockL xs⟩ ⟨ti,zs⟩ E l):=by
 obtain⟨ok,no,ent,run,ren,few,ent',rel,leaves,many⟩:=h;simp only at *;have hyl:=AgP E zs zs.length;have hsc:=AqO (Nat.le_refl _) hz.sc ren;have hfrom:=AoL E zs zs.length (Nat.le_refl _);have hEx:∀ e∈E,e.length<=50:=fun e he=>by
  have:=ent.perm.mem_iff.1 he;simp only[List.nil_append]at this;obtain⟨y,hy,rfl⟩:=List.mem_map.1 this;exact hsh y hy
 have hrise:=ren.rise;have hnum:=ren.num;have hfirst:∀ y,(ysTo E zs zs.length).head? = some y->y.time≠5:=by
  intro y hy;have key:∀ i,i<=zs.length->∀ y,(ysTo E zs i).head? = some y->y.time≠5:=by
   intro i
   induction i with
   | zero=>intro _ y hy; simp[ysTo]at hy
   | succ i ih =>
    intro hi y hy
    cases i with
    | zero =>
     simp only[ysTo,List.nil_append,List.head?_cons,Option.some.injEq]at hy;subst hy;have h0:0<zs.length:=by omega
     have:=hz.first (zs.getD 0 sc0) (by
      cases zs with
      | nil=>simp at h0
      | cons a r=>simp[List.getD])
     simpa using this
    | succ i =>
     have hne:ysTo E zs (i+1)≠[]:=by simp[ysTo]
     obtain⟨a,r,hq⟩:=List.exists_cons_of_ne_nil hne;have ih':=ih (by omega);rw[hq]at ih';rw[ysTo,hq,List.cons_append,List.head?_cons]at hy;exact ih' y (by rw[List.head?_cons]; exact hy)
  exact key _ (Nat.le_refl _) y hy
 have hmul:=AoK _ _ leaves;have hsaid:=BfH rel leaves;have hlen:=hz.len;have hx5:=hd.few;have hgl:=(AqP (ys:=ysTo E zs zs.length) ent.sorted).2;unfold nextD;simp only;generalize ysTo E zs zs.length=ys at *;have hmapl:((l.map (fixL (lockL xs))).map (·.lines))=l.map (·.lines):=by
  rw[List.map_map];exact List.map_congr_left fun f _=>(AqN _ f).1
 have hnod:(hasNo ys).Nodup:=by
  unfold hasNo;exact(hrise.imp (S:=(·≠·)) fun hlt e=>by subst e; exact AaH _ hlt).sublist List.filter_sublist
 have hsum:=A1P ys fun y hy=>(hsc y hy).len
 refine⟨?_,⟨hs.title,hs.plain,by simp only; omega,by simp only; omega,BaQ ys [] true hsc hnod (by simp) fun _=>hfirst⟩,by simp only; omega,by simp only[List.length_map]; omega,fun f hf=>?_⟩
 .simp only
  rw[hmapl,hsaid];refine AwK ent'.sorted ent'.num hrise (fun n hn=>ent'.perm.mem_iff.2 (List.mem_append.2 (.inr hn))) fun e he hn=>?_
  rcases List.mem_append.1 (ent'.perm.mem_iff.1 he)with hg|hg
  .exact hEx e (hgl e hg).1
  .exact absurd hg hn
 .simp only at hf
  obtain⟨f0,hf0,rfl⟩:=List.mem_map.1 hf;rw[(AqN _ f0).1];have:f0.lines∈l.map (·.lines):=List.mem_map.2 ⟨f0,hf0,rfl⟩;rw[hmul]at this;obtain⟨k,_,hk⟩:=List.mem_flatMap.1 this;have hm:=AqH rel k;exact⟨((AeM hm).2 _ hk).2,AjX hm _ hk⟩
end Go.Proofs.YtlldmgboedknfaaGreatDoor
set_option linter.unusedSectionVars false
namespace Go.Av
open Go Go.RowKit
variable [Tr]
variable {c:Cx}{k:List It}{e:Env}{s:List Blk}
theorem amid2{κ:Type}{y z:Code}(E:κ->Env)(S:κ->List Blk)(H:κ->Prop)(rest:∀ x,H x->AWp c k (E x) (S x))
  (step:∀ Q:Act->World->Prop,(∀ x,H x->∀ a w,Sim c (E x) (S x) a w->Q a w)->AWp c (.code y::.code z::.inv Q::k) e s):AWp c (.code y::.code z::k) e s:=by
 intro a w hs;have h1:=step (WQ c k .normal) (fun x hx a w hs=>rest x hx a w hs) a w hs;refine Code.wp_mono (fun en a' w' hq=>?_) (show y.wp c.P (WQ c (.code z::.inv (WQ c k .normal)::k)) a w from h1)
 cases en with
 | normal=>exact Code.wp_mono (fun en a' w' hq=>A6N hq) (show z.wp c.P (WQ c (.inv (WQ c k .normal)::k)) a' w' from hq)
 | _=>exact A6N hq
