/- Drafts as plain data; the numbers of a draft, in order. -/
import Derived.Test.YtlldmgboedknfaaGreatDoorC25
set_option maxRecDepth 100000
set_option maxHeartbeats 4000000
set_option linter.unusedSimpArgs false
set_option linter.unusedVariables false
namespace Go.Proofs.YtlldmgboedknfaaGreatDoor
open Go Go.Av Go.RowKit _root_.Go.Proofs.Tryz
structure Le' where
 name:List UInt8
 draft:Int
 first:List UInt8
 lines:List (List UInt8)
def leA(f:Le'):AV:=.agg [.str f.name,.int .i64 f.draft,.str f.first,.fz 1 (f.lines.map .str)]
structure Dr where
 no:Int
 title:List UInt8
 scenes:List Sc
 gone:List (List UInt8)
 leaves:List Le'
def drA(d:Dr):AV:=.agg [.int .i64 d.no,.str d.title,.fz 5 (d.scenes.map scA),.fz 1 (d.gone.map .str),.fz 4 (d.leaves.map leA)]
def nosL(xs:List Sc):List (List UInt8):=xs.map (·.no)
structure EntOf(d:Dr)(E:List (List UInt8)):Prop where
 perm:E.Perm (d.gone++nosL d.scenes)
 sorted:E.Pairwise nLt
 num:∀ x∈E,numberL x=true
theorem AoL{α:Type}{lt:α->α->Prop}(irr:∀ a,¬ lt a a)(tr:∀ a b c,lt a b->lt b c->lt a c):∀ {l m:List α},l.Pairwise lt->m.Pairwise lt->(∀ x,x∈l ↔ x∈m)->l=m
 | [],[],_,_,_=>rfl
 | [],b::m,_,_,h=>absurd ((h b).2 (by simp)) (by simp)
 | a::l,[],_,_,h=>absurd ((h a).1 (by simp)) (by simp)
 | a::l,b::m,h1,h2,h=>by
  obtain⟨a1,a2⟩:=List.pairwise_cons.1 h1;obtain⟨b1,b2⟩:=List.pairwise_cons.1 h2;have e:a=b:=by
   rcases List.mem_cons.1 ((h a).1 (by simp))with e|e
   .exact e
   .rcases List.mem_cons.1 ((h b).2 (by simp))with e'|e'
    .exact e'.symm
    .exact absurd (tr _ _ _ (a1 _ e') (b1 _ e)) (irr _)
  subst e;rw[AoL irr tr a2 b2 fun x=>?_]
  constructor
  .intro hx
   rcases List.mem_cons.1 ((h x).1 (by simp[hx]))with e|e
   .subst e; exact absurd (a1 _ hx) (irr _)
   .exact e
  .intro hx
   rcases List.mem_cons.1 ((h x).2 (by simp[hx]))with e|e
   .subst e; exact absurd (b1 _ hx) (irr _)
   .exact e
theorem A4T:∀ (l:List (List UInt8)),(∀ x∈l,numberL x=true)->∃ L:List Nu,L.map (·.1)=l
 | [],_=>⟨[],rfl⟩
 | a::l,h=>by
  obtain⟨L,e⟩:=A4T l fun x hx=>h x (by simp[hx])
  exact⟨⟨a,h a (by simp)⟩::L,by simp[e]⟩
theorem A1O{l':List Nu}{E:List (List UInt8)}(hE:E.Pairwise nLt)(hp:(l'.map (·.1)).Perm E)(hs:l'.Pairwise (fun x y=>¬ nLt y.1 x.1)):l'.map (·.1)=E:=by
 have hd:E.Nodup:=hE.imp fun h e=>by subst e; exact AaH _ h
 have hd':(l'.map (·.1)).Nodup:=hp.nodup_iff.2 hd;have hd2:l'.Pairwise (fun x y=>x.1≠y.1):=by
  have:=List.pairwise_map.1 (show(l'.map (·.1)).Pairwise (·≠·) from hd');exact this
 have h2:(l'.map (·.1)).Pairwise nLt:=by
  rw[List.pairwise_map];refine(hs.and hd2).imp fun{x y} h=>?_
  by_cases h3:nLt x.1 y.1
  .exact h3
  .exact absurd (AjE x.2 y.2 (AoA h3 h.1)) h.2
 exact AoL AaH (fun _ _ _=>AaF) h2 hE fun x=>hp.mem_iff
theorem getD_endP(s:List Blk)(b d:Blk):(s++[b]).getD s.length d=b:=by simp
theorem set_endP(s:List Blk)(b b':Blk):(s++[b]).set s.length b'=s++[b']:=by simp
theorem AgK(sto:List Blk)(l:List AV)(hs:∀ a∈l,∃ t,a=.str t)(hl:l.length<=1000000) :
  Ct prog 60 [.fz 1 l] sto (fun r s=>r=.sl sto.length 0 l.length l.length/\s=sto++[.arr 1 l]):=by
 cases l with
 | nil =>
  refine zcIN func60 rfl fun h ρ w=>?_
  simp only[go_sem];intro b;refine zgN ?_
  cases b with
  | true =>
   simp only[go_sem,getD_endP,set_endP];refine ARet.shift (Shift.nilsl 2 1 rfl) (aret [2] rfl ⟨rfl,rfl⟩)
  | false =>
   simp only[go_sem,getD_endP,set_endP];exact⟨.inl trivial,aret [2] rfl ⟨rfl,rfl⟩⟩
 | cons x ls =>
  refine zcIN func60 rfl fun h ρ w=>?_
  simp only[go_sem,getD_endP,set_endP];refine⟨by simp,by simp at hl |-; omega,by simp at hl |-; omega,aret [2] rfl ⟨by simp[resV,Av.get],rfl⟩⟩
theorem AjI(l:List (List UInt8)):∀ a∈l.map AV.str,∃ t,a=.str t:=fun a ha=>by
 obtain⟨t,_,rfl⟩:=List.mem_map.1 ha;exact⟨t,rfl⟩
theorem AaZ(l:List (List UInt8)):(flat (l.map AV.str)).all Av.frozen=true:=by
 induction l with
 | nil=>rfl
 | cons y l ih=>simpa[flat,cellsOf,Av.frozen]using ih
theorem AbA(n:Nat)(l:List (List UInt8)):lowB n (.arr 1 (l.map .str))=true:=AbL (AaZ l)
theorem AiL(no:Int)(ti:List UInt8)(xs:List Sc)(go:List (List UInt8))(E:List (List UInt8))(hE:EntOf ⟨no,ti,xs,go,[]⟩ E)(hg:go.length<=1000)(hl:xs.length<=1000)(v6:Value)(h6:v6.oneCell'=true):Pc prog 21 [.agg [.int .i64 no,.str ti,.fz 5 (xs.map scA),.fz 1 (go.map .str),.raw v6]] (· = .fz 1 (E.map .str)):=by
 refine zpIB func21 rfl fun h ρ w=>?_
 simp only[go_sem,h6];refine za (AgK [] (go.map .str) (AjI go) (by simp; omega)) ?_;rintro _ _ ⟨rfl,rfl⟩;refine zgB ?_;simp only[go_sem,List.length_map];have hlen:∀ i,i<=xs.length->((go++(nosL xs).take i).map AV.str).length=go.length+i:=fun i h=>by simp[nosL]; omega
 refine AaI (ι:=Nat) (fun i=>xs.length-i)
  (fun i=>[(13,.int .i64 i),(12,.int .i64 xs.length),(11,.fz 5 (xs.map scA)),(3,.sl 0 0 (go.length+i) (go.length+i))])
  (fun i=>[.arr 1 ((go++(nosL xs).take i).map .str)]) (fun i=>i<=xs.length) 0 (by simp) ?_ ?_
 .refine Shift.weakS ?_ (by simp)
  simp only[go_sem]
 .intro i g1 J hJ
  by_cases gi:i<xs.length
  .have di:decide ((i:Int)<(xs.length:Int))=true:=by simp; omega
   have hg':List.getD (List.map scA xs) i .any=.agg [.str xs[i].no,.int .i64 xs[i].place,.str xs[i].set,.int .i64 xs[i].time,.fz 2 (xs[i].paras.map paA)]:=by simp[List.getD,gi,scA]
   have hln:=hlen i g1;have hsu:List.map AV.str (go++(nosL xs).take i)++[.str xs[i].no]=List.map AV.str (go++(nosL xs).take (i+1)):=by
    rw[List.take_succ_eq_append_getElem (by simpa[nosL]using gi)]
    simp[nosL]
   have hfin:=hJ (i+1) (by omega) (by omega);refine zgB ?_;simp only[go_sem,di,hg',hln,List.length_map,hsu]
   repeat refine aqa ?_
   rw[show(i:Int)+1=((i+1:Nat):Int) by omega,show go.length+i+1=go.length+(i+1) by omega];refine ainv hfin (Shift.low 1 (by simp) (by simp) ?_ ?_)
   .simp only [List.take_succ_cons,List.take_zero,List.all_cons,List.all_nil,Bool.and_true]
    exact AbL (AaZ _)
   .simp only[go_sem]
  .have di:decide ((i:Int)<(xs.length:Int))=false:=by simp; omega
   have hi:i=xs.length:=by omega
   subst hi;have ht:(nosL xs).take xs.length=nosL xs:=List.take_of_length_le (by simp[nosL]);have hln:=hlen _ (Nat.le_refl xs.length);rw[ht]at hln |-;have hall:∀ x∈go++nosL xs,numberL x=true:=fun x hx=>hE.num x (hE.perm.mem_iff.2 hx)
   obtain⟨L,hL⟩:=A4T _ hall;have hLl:L.length=go.length+xs.length:=by rw[<- List.length_map (f:=fun x:Nu=>x.1),hL]; simp[nosL]
   have hLm:(go++nosL xs).map AV.str=L.map fun x=>.str x.1:=by rw[<- hL,List.map_map]; rfl
   rw[hLm,<- hLl];refine zgB ?_;simp only[go_sem,di];refine za (BcR (s:=[.arr 1 (L.map fun x=>.str x.1)]) (bid:=0) (l:=L) rfl (by omega)) ?_;rintro _ _ ⟨rfl,l',rfl,hp,hs⟩;have hfe:l'.map (·.1)=E:=A1O hE.sorted ((hp.map _).trans (hL▸hE.perm.symm)) hs;have hfm:(l'.map fun x=>AV.str x.1)=E.map .str:=by rw[<- hfe,List.map_map]; rfl
   have hll:L.length=E.length:=by rw[<- hfe,List.length_map,hp.length_eq]
   simp only[List.set_cons_zero,hfm,hll];refine AWp.shift (Shift.frz 0 rfl (AaZ _)) ?_;have htk:List.take E.length (List.map AV.str E)=List.map AV.str E:=List.take_of_length_le (by simp);simp only[go_sem,frzE,frzC,frz,frz1,frzB,List.length_map,Nat.le_refl,htk];refine zgB ?_;simp only[go_sem];exact zt [2]
theorem ArR(d:Dr)(E:List (List UInt8))(hE:EntOf d E)(hg:d.gone.length<=1000)(hl:d.scenes.length<=1000):Pc prog 21 [drA d] (· = .fz 1 (E.map .str)) :=
 Pc.last1 (cs:=[.int .i64 d.no,.str d.title,.fz 5 (d.scenes.map scA),.fz 1 (d.gone.map .str)]) rfl fun v6 h6=>AiL d.no d.title d.scenes d.gone E ⟨hE.perm,hE.sorted,hE.num⟩ hg hl v6 h6
def AoM(c:UInt8):List (List UInt8)->List (List UInt8)
 | []=>[[c]]
 | w::ws=>(c::w)::ws
def splitW:List UInt8->List (List UInt8)
 | []=>[[]]
 | c::r=>if c==32 then[]::splitW r else AoM c (splitW r)
theorem AxK:∀ q:List UInt8,(Lib.index q [32]=-1/\splitW q=[q])\/∃ i:Nat,Lib.index q [32]=i/\i<q.length/\splitW q=q.take i::splitW (q.drop (i+1))
 | []=>.inl ⟨rfl,rfl⟩
 | c::r=>by
  by_cases hc:c=32
  .subst hc
   exact .inr ⟨0,by simp[Lib.index],by simp,by simp[splitW]⟩
  .have h1:(c==32)=false:=by simpa using hc
   have h2:((32:UInt8)==c)=false:=by simpa using fun e=>hc e.symm
   rcases AxK r with⟨h3,h4⟩|⟨i,h3,h4,h5⟩
   .refine .inl ⟨?_,by simp[splitW,h1,h4,AoM]⟩
    simp[Lib.index,h3]
    exact fun e=>hc e.symm
   .refine .inr ⟨i+1,?_,by simpa using h4,by simp[splitW,h1,h5,AoM]⟩
    have:((i:Int)==-1)=false:=by rw[beq_eq_false_iff_ne]; omega
    simp[Lib.index,h3,this]
    exact fun e=>(hc e.symm).elim
theorem BcZ{S:Std}(hS:LibOk S)(s p:List UInt8)(hs:s.length<4294967281):PcH prog S 152 [.str s,.str p] (· = .int .i64 (Lib.index s p)) :=
 AtN [_,_] (.int .i64 (Lib.index s p)) hB152 (AcA s p) (fun h=>.int _ _) fun w H=>(Any.strings_Index { Tryz.lays144 with } ⟨s.toArray⟩ ⟨p.toArray⟩ _ w hs (hS.cell.choose_spec w H)).mono fun e w' ⟨h1,h2⟩=>⟨h1,h2▸.refl w⟩
theorem A1P(sto:List Blk)(t p:List UInt8):Ct prog 203 [.str t,.str p,.int .i64 0] sto (fun r s=>r=.fn (.func 232) [.ptr (sto.length+1) 1 0 0,.ptr sto.length 1 0 0,.ptr (sto.length+1+1) 1 0 0]/\s=sto++[.arr 1 [.str t]]++[.arr 1 [.str p]]++[.arr 1 [.int .i64 0]]):=by
 refine zcIN func203 rfl fun h ρ w=>?_
 simp only[go_sem];exact zt [6]
theorem AxL(sto:List Blk)(t p:List UInt8):Ct prog 161 [.str t,.str p] sto (fun r s=>r=.fn (.func 232) [.ptr (sto.length+1) 1 0 0,.ptr sto.length 1 0 0,.ptr (sto.length+1+1) 1 0 0]/\s=sto++[.arr 1 [.str t]]++[.arr 1 [.str p]]++[.arr 1 [.int .i64 0]]):=by
 refine zcIN func161 rfl fun h ρ w=>?_
 simp only[go_sem];refine za (A1P sto t p) ?_;rintro _ _ ⟨rfl,rfl⟩;refine zgN ?_;simp only[go_sem];exact zt [4]
theorem A1Q{St:Std}(hS:LibOk St)(text:List UInt8)(hl:text.length<100000000)(S:Nat->List UInt8->List Blk)(ip is iz:Nat)(h1:∀ j q,(S j q).getD ip .dead=.arr 1 [.str [32]])(h2:∀ j q,(S j q).getD is .dead=.arr 1 [.str q])
  (h3:∀ j q,(S j q).getD iz .dead=.arr 1 [.int .i64 0]) (h4:∀ j q q',(S j q).set is (.arr 1 [.str q'])=S j q') :
  ItC prog St 232 [.ptr ip 1 0 0,.ptr is 1 0 0,.ptr iz 1 0 0] ((splitW text).map .str) S text:=by
 refine BcN func232 rfl ntmps232 hB232 rfl (by simp) fun l c out hP hfn hsto hg hY hfin=>?_
 obtain⟨P,fn,h,ρ,sto,w,post,x,hx⟩:=c;simp only at hP hfn hsto hg hY;subst hP; subst hfn; subst hsto;refine goR ntmps232 300 ?_;simp only[go_sem,h1,h2,h3];refine BcK (ι:=Nat×List UInt8) (fun y=>y.2.length) (fun _=>[(0,.raw (.func (.yield l) #[] #[])),(1,.ptr ip 1 0 0),(2,.ptr is 1 0 0),(3,.ptr iz 1 0 0)]) (fun y=>S y.1 y.2)
  (fun y=>(splitW text).drop y.1=splitW y.2/\y.2.length<=text.length) (0,text) ⟨rfl,Nat.le_refl _⟩ ?_ ?_
 .refine Shift.weak ?_
  simp only[go_sem]
 .rintro ⟨j,q⟩ ⟨g1,g2⟩ J hJ
  simp only at g1 g2 hJ |-;have hidx:=BcZ hS q [32] (by omega);have hat:∀ a r,splitW q=a::r->(List.map AV.str (splitW text))[j]? = some (.str a):=fun a r e=>by
   rw[e]at g1;have:(splitW text)[j]? = some a:=by
    have:=congrArg (·[0]?) g1
    simpa using this
   simp[this]
  rcases AxK q with⟨e1,e2⟩|⟨i,e1,e2,e3⟩
  .rw [e1]at hidx
   have hn:(List.map AV.str (splitW text)).length=j+1:=by
    rw[e2]at g1;have:=congrArg List.length g1
    simp at this |-; omega
   refine goR ntmps232 300 ?_;simp only[go_sem,h1,h2,h3];refine A4L hg (hidx) rfl ntmps232 rfl (goR ntmps232 300 ?_);simp only[go_sem,h1,h2,h3];refine BmK (f:=?f) (x:=?x) (ts:=?ts) (s':=S (j+1) q) (l:=l) ?ho ?hf ?_ ?_
   case ho=>rfl
   case hf=>rfl
   .intro a1 a2 a3 a4 b1 b2 b3 b4
    exact hY j q (.str q) (hat q [] e2) a1 a2 a3 a4 b1 b2 b3 b4
   refine goR ntmps232 300 ?_;simp only[go_sem];rw[<- hn];exact AOut.shift (e':=[]) (Shift.weak trivial) (hfin .normal q (.inl rfl))
  .rw [e1]at hidx
   have hlt:decide ((i:Int)<0)=false:=by simp
   refine goR ntmps232 300 ?_;simp only[go_sem,h1,h2,h3];refine A4L hg (hidx) rfl ntmps232 rfl (goR ntmps232 300 ?_);simp only[go_sem,h1,h2,h3,hlt]
   repeat refine al ?_
   refine BmK (f:=?f2) (x:=?x2) (ts:=?ts2) (s':=S (j+1) q) (l:=l) ?ho2 ?hf2 ?_ ?_
   case ho2=>rfl
   case hf2=>rfl
   .intro a1 a2 a3 a4 b1 b2 b3 b4
    exact hY j q (.str (q.take i)) (hat _ _ e3) a1 a2 a3 a4 b1 b2 b3 (by simpa[ev,Av.get,Av.put,cutL]using b4)
   refine goR ntmps232 300 ?_;simp only[go_sem,h1,h2,h3,h4]
   repeat refine al ?_
   refine AxB (hJ (j+1,q.drop (i+1)) ⟨?_,by simp; omega⟩ (by simp; omega)) (Shift.weak ?_)
   .rw [e3]at g1
    rw[<- List.drop_drop,g1];rfl
   .simp only [go_sem]
def letB(n:Int):Bool:=capI n||(decide (n>=97)&&decide (n<=122))
structure Wst where
 letters:Bool
 word:List UInt8
 out:List (List UInt8)
def BsZ(c:UInt8):UInt8:=if capI c.toNat then c+32 else c
def wstep(s:Wst)(c:UInt8):Wst :=
 if letB c.toNat||digI c.toNat then⟨true,s.word++[BsZ c],s.out⟩
 else if((c.toNat:Int)==39) then⟨s.letters,s.word++[c],s.out⟩
 else⟨false,[],if s.letters then s.out++[s.word] else s.out⟩
def AxM(s:List UInt8):List (List UInt8):=((s++[32]).foldl wstep ⟨false,[],[]⟩).out
theorem AfR(l:List (List UInt8)):(flat (l.map AV.str)).all Av.frozen=true:=by
 induction l with
 | nil=>rfl
 | cons y l ih=>simpa[flat,cellsOf,Av.frozen]using ih
theorem BjE(n:Nat)(l:List (List UInt8)):lowB n (.arr 1 (l.map .str))=true:=AbL (AfR l)
def chop(W:Nat)(w:List UInt8):List (List UInt8)×List UInt8 :=
 if h:W<w.length/\0<W then(w.take W::(chop W (w.drop W)).1,(chop W (w.drop W)).2) else([],w)
termination_by w.length
decreasing_by all_goals(simp; omega)
def wrapS(W:Nat)(s:List (List UInt8)×List UInt8)(w:List UInt8):List (List UInt8)×List UInt8 :=
 if w==[] then s
 else if s.2 != []&&decide (s.2.length+1+w.length<=W) then(s.1,s.2++(32::w))
 else((if s.2 != [] then s.1++[s.2] else s.1)++(chop W w).1,(chop W w).2)
def wrapF(W:Nat)(t:List UInt8):List (List UInt8)×List UInt8:=(splitW t).foldl (wrapS W) ([],[])
def AbH(W:Nat)(t:List UInt8):List (List UInt8):=if(wrapF W t).2 != [] then(wrapF W t).1++[(wrapF W t).2] else(wrapF W t).1
def wrapTo(W:Nat)(t:List UInt8)(j:Nat):List (List UInt8)×List UInt8:=((splitW t).take j).foldl (wrapS W) ([],[])
theorem AeC{W:Nat}{w:List UInt8}(h:W<w.length)(h0:0<W):chop W w=(w.take W::(chop W (w.drop W)).1,(chop W (w.drop W)).2):=by
 rw[chop,dif_pos ⟨h,h0⟩]
theorem AdO{W:Nat}{w:List UInt8}(h:¬ W<w.length):chop W w=([],w):=by
 rw[chop,dif_neg fun h'=>h h'.1]
theorem A4U(W:Nat):∀ (n:Nat)(w:List UInt8),w.length<=n->(chop W w).1.length+(chop W w).2.length<=w.length
 | 0,w,h=>by rw[AdO (by omega)]; simp
 | n+1,w,h=>by
  by_cases hc:W<w.length/\0<W
  .have:=A4U W n (w.drop W) (by simp; omega)
   rw[AeC hc.1 hc.2]
   simp at this |-
   omega
  .rw [chop,dif_neg hc]; simp
theorem AkV:∀ q:List UInt8,((splitW q).map List.length).sum+(splitW q).length=q.length+1
 | []=>rfl
 | c::r=>by
  have ih:=AkV r;rw[splitW]
  split
  .simp; omega
  .cases h:splitW r with
   | nil=>rw[h]at ih; simp at ih
   | cons w ws=>rw[h]at ih; simp[AoM]at ih |-; omega
def sumTo(t:List UInt8)(j:Nat):Nat:=(((splitW t).take j).map List.length).sum+j
theorem AkW{t:List UInt8}{j:Nat}{w:List UInt8}(h:(splitW t)[j]? = some w):sumTo t (j+1)=sumTo t j+w.length+1:=by
 obtain⟨hl,rfl⟩:=List.getElem?_eq_some_iff.1 h;simp only[sumTo,List.take_succ_eq_append_getElem hl,List.map_append,List.sum_append,List.map_cons,List.map_nil,List.sum_cons,List.sum_nil];omega
theorem AmP(t:List UInt8)(j:Nat)(hj:j<=(splitW t).length):sumTo t j<=t.length+1:=by
 have h:=AkV t;have h2:(((splitW t).take j).map List.length).sum+(((splitW t).drop j).map List.length).sum=((splitW t).map List.length).sum:=by
  rw[<- List.sum_append,<- List.map_append,List.take_append_drop]
 simp only[sumTo];omega
theorem AiM{W:Nat}{t:List UInt8}{j:Nat}{w:List UInt8}(h:(splitW t)[j]? = some w):wrapTo W t (j+1)=wrapS W (wrapTo W t j) w:=by
 obtain⟨hl,rfl⟩:=List.getElem?_eq_some_iff.1 h;simp only[wrapTo,List.take_succ_eq_append_getElem hl,List.foldl_append,List.foldl_cons,List.foldl_nil]
theorem BdA(W:Nat)(s:List (List UInt8)×List UInt8)(w:List UInt8):(wrapS W s w).1.length+(wrapS W s w).2.length<=s.1.length+s.2.length+w.length+1:=by
 unfold wrapS
 split
 .omega
 .split
  .simp; omega
  .have:=A4U W w.length w (Nat.le_refl _)
   split
   .rename_i hne
    have:0<s.2.length:=by
     cases hq:s.2 with
     | nil=>simp[hq]at hne
     | cons a l=>simp
    simp; omega
   .simp; omega
theorem AfG(W:Nat)(t:List UInt8):∀ j,j<=(splitW t).length->(wrapTo W t j).1.length+(wrapTo W t j).2.length<=sumTo t j
 | 0,_=>by simp[wrapTo,sumTo]
 | j+1,hj=>by
  have hl:j<(splitW t).length:=by omega
  have h:=List.getElem?_eq_getElem hl;have ih:=AfG W t j (by omega);have:=BdA W (wrapTo W t j) ((splitW t)[j]);rw[AiM h,AkW h];omega
def BpO(W:Int)(s:List (List UInt8)×List UInt8)(q:List UInt8):List Blk :=
 [.arr 1 [.int .i64 W],.arr 1 [.sl 6 0 s.1.length s.1.length],.arr 1 [.str s.2],.arr 1 [.str q],.arr 1 [.str [32]],.arr 1 [.int .i64 0],.arr 1 (s.1.map .str)]
theorem AmQ{St:Std}(hS:LibOk St)(t:List UInt8)(W:Nat)(hl:t.length<100000000)(hW:0<W)(hW2:W<100000):PcH prog St 119 [.str t,.int .i64 (W:Int)] (· = .fz 1 ((AbH W t).map .str)):=by
 refine AcF (A7P func119 rfl ntmps119 hB119 (by simp) fun h ρ w hg=>?_);refine goR ntmps119 300 ?_;simp only[go_sem];refine BsO (AxL _ t [32]) ntmps119 rfl ?_;rintro _ _ ⟨rfl,rfl⟩;refine goR ntmps119 300 ?_;simp only[go_sem];refine AWpR.shift (Shift.cells 1 1 [.sl 6 0 0 0] rfl rfl (by simp[cellsOf]) ⟨.sl,trivial⟩) ?_;refine BsP (S:=fun j q=>BpO W (wrapTo W t j) q) (q0:=t) (xs:=(splitW t).map .str) (E1:=fun j=>[(7,.str ((splitW t).getD j [])),(3,.ptr 0 1 0 0),(5,.ptr 1 1 0 0),(6,.ptr 2 1 0 0)]) hg rfl rfl
  (A1Q hS t (by omega) _ 4 3 5 (fun _ _=>rfl) (fun _ _=>rfl) (fun _ _=>rfl) (fun _ _ _=>rfl)) (by decide) ?_ ?_ ?_
 .intro j q x h1 ρ1 w1 l id J hx hle hJ
  obtain⟨v,hv,rfl⟩:∃ v,(splitW t)[j]? = some v/\x=.str v:=by
   rw[List.getElem?_map]at hx;obtain⟨v,h1,h2⟩:=Option.map_eq_some_iff.1 hx;exact⟨v,h1,h2.symm⟩
  have hgd:(splitW t).getD j []=v:=by simp[List.getD,hv]
  simp only[hgd]at hJ;refine goR ntmps119 300 ?_;simp only[go_sem];refine AxB hJ (Shift.weak ?_);simp only[go_sem]
 .intro j q x h1 ρ1 w1 l id J hx hle hJ
  obtain⟨v,hv,rfl⟩:∃ v,(splitW t)[j]? = some v/\x=.str v:=by
   rw[List.getElem?_map]at hx;obtain⟨v,h1,h2⟩:=Option.map_eq_some_iff.1 hx;exact⟨v,h1,h2.symm⟩
  have hgd:(splitW t).getD j []=v:=by simp[List.getD,hv]
  have hjl:=(List.getElem?_eq_some_iff.1 hv).1;have hst:=AiM (W:=W) hv;have hb:=AfG W t j (by omega);have hb2:=AmP t j (by omega);have hb3:=AmP t (j+1) (by omega);have hb4:=AkW hv;rw[hst]at hJ;rw[hgd];generalize wrapTo W t j=st at *;obtain⟨ls,ln⟩:=st;simp only[BpO]at hJ |-;simp only at hb
  cases hv0:v==[]with
  | true =>
   have hS1:wrapS W (ls,ln) v=(ls,ln):=by simp only[wrapS,hv0,if_true]
   rw[hS1]at hJ;refine goR ntmps119 300 ?_;simp only[go_sem,hv0];exact AxB hJ (Shift.weak trivial)
  | false =>
   cases hln:ln != []with
   | true =>
    by_cases hfit:ln.length+1+v.length<=W
    .have hS1:wrapS W (ls,ln) v=(ls,ln++(32::v)):=by simp[wrapS,hv0,hln,hfit]
     rw[hS1]at hJ;have hd:decide ((ln.length:Int)+1+(v.length:Int)<=(W:Int))=true:=by simp; omega
     refine goR ntmps119 300 ?_;simp only[go_sem,hv0,hln,hd]
     repeat refine al ?_
     exact AxB hJ (Shift.weak trivial)
    .have hd:decide ((ln.length:Int)+1+(v.length:Int)<=(W:Int))=false:=by simp; omega
     have hS1:wrapS W (ls,ln) v=((ls++[ln])++(chop W v).1,(chop W v).2):=by simp[wrapS,hv0,hln,hfit]
     rw[hS1]at hJ;refine goFR ntmps119 300 ?_;simp only[go_sem,hv0,hln,hd]
     repeat refine aqa ?_
     refine BcK (ι:=List (List UInt8)×List UInt8) (fun y=>y.2.length) (fun y=>[(7,.str y.2),(3,.ptr 0 1 0 0),(5,.ptr 1 1 0 0),(6,.ptr 2 1 0 0)])
      (fun y=>[.arr 1 [.int .i64 W],.arr 1 [.sl 6 0 y.1.length y.1.length],.arr 1 [.str ln],.arr 1 [.str q],.arr 1 [.str [32]],.arr 1 [.int .i64 0],.arr 1 (y.1.map .str)])
      (fun y=>y.1++(chop W y.2).1=(ls++[ln])++(chop W v).1/\(chop W y.2).2=(chop W v).2/\y.1.length+y.2.length<=(ls++[ln]).length+v.length) (ls++[ln],v) ⟨rfl,rfl,Nat.le_refl _⟩ ?_ ?_
     .refine Shift.weakS ?_ ?_
      .simp only [go_sem]
      .simp
     .rintro ⟨L,u⟩ ⟨f1,f2,f3⟩ J2 hJ2
      simp only at f1 f2 f3 hJ2 |-;have hLl:(ls++[ln]).length<=ls.length+1:=by simp
      by_cases hu:W<u.length
      .have du:decide ((u.length:Int)>(W:Int))=true:=by simp; omega
       have hch:=AeC hu hW;rw[hch]at f1 f2;refine goR ntmps119 300 ?_;simp only[go_sem,du];refine BmJ [] mixed (by decide) ntmps119 (by decide) 100 ?_;simp only[go_sem,List.length_map]
       repeat refine aqa ?_
       refine goR ntmps119 300 ?_;simp only[go_sem]
       repeat refine aqa ?_
       refine AxB (hJ2 (L++[u.take W],u.drop W) ⟨by rw[<- f1]; simp,f2,by simp; omega⟩ (by simp; omega)) (Shift.weakS ?_ ?_)
       .simp only[go_sem]
        first|done|simp
       .simp [cutL]
      .have du:decide ((u.length:Int)>(W:Int))=false:=by simp; omega
       have hch:=AdO hu;rw[hch]at f1 f2;simp only[List.append_nil]at f1 f2;refine goR ntmps119 300 ?_;simp only[go_sem,du];rw[f1,f2];exact AxB hJ (Shift.weak trivial)
   | false =>
    have hS1:wrapS W (ls,ln) v=(ls++(chop W v).1,(chop W v).2):=by simp[wrapS,hv0,hln]
    rw[hS1]at hJ;refine goFR ntmps119 300 ?_;simp only[go_sem,hv0,hln];refine BcK (ι:=List (List UInt8)×List UInt8) (fun y=>y.2.length) (fun y=>[(7,.str y.2),(3,.ptr 0 1 0 0),(5,.ptr 1 1 0 0),(6,.ptr 2 1 0 0)])
     (fun y=>[.arr 1 [.int .i64 W],.arr 1 [.sl 6 0 y.1.length y.1.length],.arr 1 [.str ln],.arr 1 [.str q],.arr 1 [.str [32]],.arr 1 [.int .i64 0],.arr 1 (y.1.map .str)])
     (fun y=>y.1++(chop W y.2).1=(ls)++(chop W v).1/\(chop W y.2).2=(chop W v).2/\y.1.length+y.2.length<=(ls).length+v.length) (ls,v) ⟨rfl,rfl,Nat.le_refl _⟩ ?_ ?_
    .refine Shift.weakS ?_ ?_
     .simp only [go_sem]
     .simp
    .rintro ⟨L,u⟩ ⟨f1,f2,f3⟩ J2 hJ2
     simp only at f1 f2 f3 hJ2 |-;have hLl:(ls).length<=ls.length+1:=by simp
     by_cases hu:W<u.length
     .have du:decide ((u.length:Int)>(W:Int))=true:=by simp; omega
      have hch:=AeC hu hW;rw[hch]at f1 f2;refine goR ntmps119 300 ?_;simp only[go_sem,du];refine BmJ [] mixed (by decide) ntmps119 (by decide) 100 ?_;simp only[go_sem,List.length_map]
      repeat refine aqa ?_
      refine goR ntmps119 300 ?_;simp only[go_sem]
      repeat refine aqa ?_
      refine AxB (hJ2 (L++[u.take W],u.drop W) ⟨by rw[<- f1]; simp,f2,by simp; omega⟩ (by simp; omega)) (Shift.weakS ?_ ?_)
      .simp only[go_sem]
       first|done|simp
      .simp [cutL]
     .have du:decide ((u.length:Int)>(W:Int))=false:=by simp; omega
      have hch:=AdO hu;rw[hch]at f1 f2;simp only[List.append_nil]at f1 f2;refine goR ntmps119 300 ?_;simp only[go_sem,du];rw[f1,f2];exact AxB hJ (Shift.weak trivial)
 .intro D q hD
  have hn:(List.map AV.str (splitW t)).length=(splitW t).length:=by simp
  have htot:wrapTo W t (splitW t).length=wrapF W t:=by simp[wrapTo,wrapF]
  have hb:=AfG W t _ (Nat.le_refl _);have hb2:=AmP t _ (Nat.le_refl _);rw[htot]at hb;simp only[hn,htot];unfold AbH;generalize wrapF W t=st at *;obtain⟨ls,ln⟩:=st;simp only[BpO];simp only at hb
  cases hln:ln != []with
  | true =>
   refine goFR ntmps119 300 ?_;simp only[go_sem,hln]
   repeat refine aqa ?_
   refine AOut.shift (Shift.freeze 4 (id:=6) rfl rfl (by simp) (Nat.le_refl _) ?_) (BsQ (.inr rfl) hD [4] rfl ⟨?_,rfl⟩)
   .have:=AfR (ls++[ln]); simpa using this
   .simp [resV,Av.get,Av.put,List.take_of_length_le]
  | false =>
   refine goFR ntmps119 300 ?_;simp only[go_sem,hln];refine AOut.shift (Shift.freeze 4 (id:=6) rfl rfl (by simp) (Nat.le_refl _) ?_) (BsQ (.inr rfl) hD [4] rfl ⟨?_,rfl⟩)
   .exact AfR ls
   .simp [resV,Av.get,Av.put,List.take_of_length_le]
end Go.Proofs.YtlldmgboedknfaaGreatDoor
set_option linter.unusedSectionVars false
namespace Go.Av
open Go Go.RowKit
variable [Tr]
def iniO:List Oper->List Oper
 | []=>[]
 | [_]=>[]
 | a::b::r=>a::iniO (b::r)
def lasO:List Oper->Option Oper
 | []=>none
 | [a]=>some a
 | _::b::r=>lasO (b::r)
theorem BdB:∀ {l:List Oper}{o:Oper},lasO l=some o->l=iniO l++[o]
 | [],_,h=>by cases h
 | [a],o,h=>by simp only[lasO,Option.some.injEq]at h; subst h; rfl
 | a::b::r,o,h=>by
  have:=BdB (l:=b::r) (o:=o) h;rw[iniO,List.cons_append,<- this]
def AxN(ops:List Oper)(j i:Nat):Bool:=bif i+1==ops.length then false else match ops[i]?,ops[j]? with
 | some oi,some oj=>oj.apart ops.toArray oi&&together oj oi
 | _,_=>false
section
variable {c:Cx}{k:List It}{e:Env}{s:List Blk}
theorem AxO{K:Env->List Blk->Prop}{all:List Oper}:∀ {r:List Oper}{m n:Nat}{cs:List AV}{e:Env}{s:List Blk},(∀ (j:Nat)(o:Oper),r[j]? = some o->all[m+j]? = some o)->dxk c all K n r cs e s->Chain c all.toArray K (List.range' m r.length) e s
 | [],m,n,cs,e,s,_,h=>by
  rw[dxk]at h;exact h
 | o::r,m,n,cs,e,s,hr,h=>by
  obtain⟨cv,v,n',cs',s',h1,h2⟩:=A4M h;have h0:all.toArray[m]? = some o:=by have:=hr 0 o rfl; simpa using this
  simp only[List.length_cons,List.range'_succ,Chain,h0];exact⟨cv,v,s',h1,AxO (fun j o' hj=>by have:=hr (j+1) o' (by simpa using hj); simpa[Nat.add_assoc,Nat.add_comm 1 j]using this) h2⟩
def KLast(c:Cx)(k:List It)(ops:List Oper)(last:Oper)(e:Env)(s:List Blk):Prop:=AWp c (.op ops last []::k) e s
theorem KLast.K{ops:List Oper}{last:Oper}:∀ e e' s,Eqv e e'->KLast c k ops last e s->KLast c k ops last e' s:=fun _ _ _ h x=>AWp.eqv h x
def BtA(c:Cx)(k:List It)(ops:List Oper)(last:Oper)(m:Nat)(l:List Nat)(a:Act)(w:World):Prop :=
 (l=[]/\WQ c k .normal a w)\/∃ l' e s,l=l'++[m]/\(∀ j∈l',j<m)/\Chain c ops.toArray (KLast c k ops last) l' e s/\Sim c e s a w
theorem AxP(cs:List AV){id:Nat}{ops:List Oper}{last:Oper}(hlast:lasO ops=some last)(hm:c.P.follows .mixedOrders=true)(hok:AiH (AxN ops) ops=true)(hg:last.guard=none){N:Nat}(hN:c.fn.ntmps=N)(hdst:ops.all (fun o=>dOk N o.dst)=true)(n:Nat)
  (h:dxk c ops (KLast c k ops last) n (iniO ops) cs e s):AWp c (.code (.region id ops.toArray true)::k) e s:=by
 intro a w hsim;have hsp:=BdB hlast;have hlen:ops.length=(iniO ops).length+1:=by
  have:=congrArg List.length hsp
  simpa using this
 have hch:=AxO (m:=0) (r:=iniO ops) (all:=ops) (by
  intro j o hj;rw[Nat.zero_add,hsp,List.getElem?_append_left (List.getElem?_eq_some_iff.1 hj).1];exact hj) h
 rw[<- List.range_eq_range']at hch;generalize hpl:(iniO ops).length=m at *;have hlm:ops[m]? = some last:=by
  rw[hsp,List.getElem?_append_right (by omega),hpl]
  simp
 refine wp_region_any hm ?_;have hsim':Sim c e s a { w with drawn:=w.drawn+1 }:=by
  obtain⟨hh,ρ,hmm,hl,he,hdf,hsz,hX⟩:=hsim;have sm:Same w { w with drawn:=w.drawn+1 }:=Same.drew w;exact⟨hh,ρ,hmm.same sm,hl.trans (Later.same sm),he,hdf,hsz,c.hx.later hmm (Later.same sm) hX⟩
 have hd:∀ o∈ops,dOk c.fn.ntmps o.dst=true:=fun o ho=>by rw[hN]; exact(List.all_eq_true.1 hdst) o ho
 refine AkL (okp:=AxN ops) (BtA c k ops last m) hok (fun a w x=>?_) (fun l i r a w hj x=>?_) (fun i o r a w Kc ho x hK=>?_)
  ops.length (Array.replicate ops.length false) (List.range ops.length) a _ (by simp) ?_ (by simp) ?_ (.inr ⟨List.range m,e,s,by rw[hlen,List.range_succ],fun j hj=>by simpa using hj,hch,hsim'⟩)
 .rcases x with⟨_,x⟩|⟨l',e,s,hl,_⟩
  .exact x
  .simp at hl
 .rcases x with⟨hl,_⟩|⟨l',e,s,hl,hlt,hc,hs⟩
  .simp at hl
  .cases l with
   | nil=>exact .inr ⟨l',e,s,by simpa using hl,hlt,hc,hs⟩
   | cons j0 l0 =>
    have him:i≠m:=fun e=>by
     have:=hj j0 (by simp);unfold AxN at this;have hb:(i+1==ops.length)=true:=by rw[e,hlen]; simp
     rw[hb]at this
     cases this
    have hr:r≠[]:=fun e=>by
     subst e;have hl3:(j0::l0)++[i]=l'++[m]:=by simpa using hl
     have:=(List.append_inj' hl3 rfl).2
     simp at this
     exact him this
    obtain⟨r',x',rfl⟩:∃ r' x',r=r'++[x']:=⟨r.dropLast,r.getLast hr,(List.dropLast_concat_getLast hr).symm⟩;have hl2:((j0::l0)++i::r')++[x']=l'++[m]:=by simpa using hl
    obtain⟨h1,h2⟩:=List.append_inj' hl2 rfl;simp only[List.cons.injEq,and_true]at h2;subst h2;subst h1;refine .inr ⟨i::((j0::l0)++r'),e,s,by simp,fun j hj=>hlt j (by simp at hj |-; rcases hj with h|h|h|h <;> simp[h]),?_,hs⟩
    cases hi:ops[i]? with
    | none =>
     have:=hj j0 (by simp);unfold AxN at this;have hb:(i+1==ops.length)=false:=by rw[hlen]; simpa using him
     simp[hb,hi]at this
    | some oi =>
     refine Chain.front KLast.K (oi:=oi) (by simpa using hi) (fun j hjl=>?_) hc;have:=hj j hjl;unfold AxN at this;have hb:(i+1==ops.length)=false:=by rw[hlen]; simpa using him
     rw[hb,hi]at this;simp only[cond_false]at this
     cases hq:ops[j]? with
     | none=>simp[hq]at this
     | some oj =>
      rw[hq]at this;simp only[Bool.and_eq_true]at this;exact⟨oj,by simpa using hq,this.1,this.2⟩
 .rcases x with⟨hl,_⟩|⟨l',e,s,hl,hlt,hc,hs⟩
  .simp at hl
  .cases l' with
   | nil =>
    simp only[List.nil_append,List.cons.injEq]at hl;obtain⟨rfl,rfl⟩:=hl;rw[hlm]at ho
    cases ho
    rw[if_pos (by simp[Region.wanted,hg])];have h1:AWp c (.op ops last []::k) e s:=hc;have h2:last.wp c.P a w (wpList c.P ops.toArray (WQ c k) []) (WQ c k):=h1 a w hs (hd last (List.mem_of_getElem? hlm));exact Oper.wp_mono (fun a w hh=>hK a w (.inl ⟨rfl,hh⟩)) h2
   | cons i' r' =>
    simp only[List.cons_append,List.cons.injEq]at hl;obtain⟨rfl,rfl⟩:=hl;have ho':ops.toArray[i]? = some o:=by simpa using ho
    simp only[Chain,ho']at hc;obtain⟨cv,v,s',h1,h2⟩:=hc;exact AnR hs (hd o (List.mem_of_getElem? ho)) h1 fun a w hs'=>hK a w (.inr ⟨r',_,_,rfl,fun j hj=>hlt j (by simp[hj]),h2,hs'⟩)
 .symm
  rw[List.filter_eq_self];intro i hi
  simp at hi
  simp[hi]
 .intro i hi j hj
  exfalso
  by_cases h1:i<ops.length
  .simp [h1]at hi
  .unfold AdN at hj
   have:ops[i]? = none:=by simp; omega
   simp[this]at hj
theorem Shift.cellsAt(id n:Nat){es es':Nat}{l:List AV}(l':List AV)(hb:s.getD id .dead=.arr es l)(hn:s.getD n .dead=.arr es' [])(hlen:l'.length=l.length)(hcl:∀ x∈l',(cellsOf x).length=es)(ht:toC n (flat l) (flat l')) :
  Shift c e s e (s.set id (.arr es l')):=by
 rintro a w ⟨hh,ρ,hm,hlt,he,hdf,hsz,hX⟩;obtain⟨m2,l2⟩:=hm.recell (id:=id) (n:=n) (es':=es') (AbU hb) hlen hcl (AbU hn) ht;exact⟨hh,ρ,m2,hlt.trans l2,fun t=>(he t).mono l2.hle l2.keep,hdf,hsz,c.hx.later hm l2 hX⟩
end
end Go.Av
namespace Go.Proofs.YtlldmgboedknfaaGreatDoor
open Go Go.Av Go.RowKit _root_.Go.Proofs.Tryz
def joins(p:Pa):Bool:=p.kind==3||p.kind==4
def gstep(out:List (Nat×Nat))(i:Nat)(p:Pa):List (Nat×Nat) :=
 if joins p then out.set (out.length-1) ((out.getD (out.length-1) (0,0)).1,i+1) else out++[(i,i+1)]
def gfold:List (Nat×Nat)->Nat->List Pa->List (Nat×Nat)
 | out,_,[]=>out
 | out,i,p::r=>gfold (gstep out i p) (i+1) r
def groupsL(ps:List Pa):List (Nat×Nat):=gfold [] 0 ps
theorem AcB{l:List (List UInt8)}{i:Nat}(h:i<l.length):List.getD (List.map AV.str l) i .any=.str l[i]:=by simp[List.getD,h]
theorem AhI(a b:List (List UInt8))(ha:a.length<1000000000000000)(hb:b.length<1000000000000000):Pc prog 11 [.fz 1 (a.map .str),.fz 1 (b.map .str)] (· = .bool (a==b)):=by
 by_cases hl:a.length=b.length
 .have d0:((a.length:Int) != (b.length:Int))=false:=by simp[hl]
  refine zpIN func11 rfl fun h ρ w=>?_
  simp only[go_sem,d0,List.length_map];refine AaI (ι:=Nat) (fun i=>a.length-i) (fun i=>[(13,.int .i64 i),(12,.int .i64 a.length),(1,.fz 1 (b.map .str)),(0,.fz 1 (a.map .str))]) (fun _=>[]) (fun i=>i<=a.length/\a.take i=b.take i) 0 (by simp) ?_ ?_
  .refine Shift.weak ?_
   simp only[go_sem]
  .rintro i ⟨g1,g2⟩ J hJ
   by_cases gi:i<a.length
   .have di:decide ((i:Int)<(a.length:Int))=true:=by simp; omega
    have gb:i<b.length:=by omega
    have h1:=AcB gi;have h2:=AcB gb
    by_cases he:a[i]=b[i]
    .have de:(a[i] != b[i])=false:=by simp[he]
     refine zgN ?_;simp only[go_sem,di];refine zr [] mixed ?_;simp only[go_sem,h1,h2,de,List.length_map]
     repeat refine And.intro (by first|omega|simpa using gi|simpa using gb) ?_
     refine zgN ?_;simp only[go_sem]
     repeat refine ao ?_
     rw[ic i];refine ainv (hJ (i+1) ⟨by omega,by rw[List.take_succ_eq_append_getElem gi,List.take_succ_eq_append_getElem gb,g2,he]⟩ (by omega)) (Shift.weak ?_);simp only[go_sem]
    .have de:(a[i] != b[i])=true:=by simp[he]
     have hab:(a==b)=false:=by
      rw[beq_eq_false_iff_ne];rintro rfl;exact he rfl
     refine zgN ?_;simp only[go_sem,di];refine zr [] mixed ?_;simp only[go_sem,h1,h2,de,List.length_map]
     repeat refine And.intro (by first|omega|simpa using gi|simpa using gb) ?_
     refine zgN ?_;simp only[go_sem];exact aret [4] rfl ⟨by rw[hab]; rfl,rfl⟩
   .have di:decide ((i:Int)<(a.length:Int))=false:=by simp; omega
    have:a=b:=by
     rw[List.take_of_length_le (by omega),List.take_of_length_le (by omega)]at g2;exact g2
    subst this;refine zgN ?_;simp only[go_sem,di];exact aret [4] rfl ⟨by simp[resV,Av.get],rfl⟩
 .have d0:((a.length:Int) != (b.length:Int))=true:=by simp; omega
  have hab:(a==b)=false:=by
   rw[beq_eq_false_iff_ne];rintro rfl;exact hl rfl
  refine zpIN func11 rfl fun h ρ w=>?_
  simp only[go_sem,d0,List.length_map];exact aret [4] rfl ⟨by rw[hab]; rfl,rfl⟩
def fTo(ws sm:List (List UInt8))(i:Nat):List Nat:=(List.range i).filter fun k=>(ws.drop k).take sm.length==sm
def BmM(ws sm:List (List UInt8)):List Nat:=fTo ws sm (ws.length+1-sm.length)
def GOk(n i:Nat)(out:List (Nat×Nat)):Prop:=i<=n/\∀ g∈out,g.1<g.2/\g.2<=i
theorem BjF{n i:Nat}{out:List (Nat×Nat)}{p:Pa}(h:GOk n i out)(hi:i<n):GOk n (i+1) (gstep out i p):=by
 refine⟨by omega,fun g hg=>?_⟩;unfold gstep at hg
 split at hg
 .by_cases hl:out.length=0
  .have:out=[]:=List.length_eq_zero_iff.1 hl
   subst this
   simp at hg
  .rcases List.mem_or_eq_of_mem_set hg with h1|h1
   .have:=h.2 g h1; omega
   .have hlt:out.length-1<out.length:=by omega
    have hm:out.getD (out.length-1) (0,0)∈out:=by
     rw[List.getD_eq_getElem?_getD,List.getElem?_eq_getElem hlt];exact List.getElem_mem hlt
    have:=h.2 _ hm;rw[h1];simp only;omega
 .rcases List.mem_append.1 hg with h1|h1
  .have:=h.2 g h1; omega
  .rw [List.mem_singleton.1 h1]; simp
theorem A4V{n:Nat}:∀ {ps:List Pa}{i:Nat}{out:List (Nat×Nat)},GOk n i out->i+ps.length=n->GOk n n (gfold out i ps)
 | [],i,out,h,hn=>by
  simp only[List.length_nil,Nat.add_zero]at hn;subst hn; exact h
 | p::r,i,out,h,hn=>by
  simp only[List.length_cons]at hn
  show GOk n n (gfold (gstep out i p) (i+1) r)
  exact A4V (BjF h (by omega)) (by omega)
theorem BdC(ps:List Pa):∀ g∈groupsL ps,g.1<g.2/\g.2<=ps.length :=
 (A4V (n:=ps.length) (ps:=ps) (i:=0) (out:=[]) ⟨by omega,by simp⟩ (by omega)).2
def pNo:Pa:=⟨0,[]⟩
def BjG(p:Pa)(name:List UInt8):Bool:=p.kind==2&&p.text==name
def AuC(ps:List Pa)(gs:List (Nat×Nat))(k:Nat):Pa:=ps.getD (gs.getD k (0,0)).1 pNo
def ownB(ps:List Pa)(name:List UInt8)(ws:List (List UInt8))(gs:List (Nat×Nat))(k:Nat):Bool :=
 BjG (AuC ps gs k) name||(((AuC ps gs k).kind==2&&(decide (k+1<gs.length)&&BjG (AuC ps gs (k+1)) name)) ||
  ((AuC ps gs k).kind != 2&&(decide (0<ws.length)&&decide (0<(BmM (AxM (AuC ps gs k).text) ws).length))))
def cutP(ps:List Pa)(g:Nat×Nat):List Pa:=(ps.take g.2).drop g.1
def partTo(ps:List Pa)(name:List UInt8)(ws:List (List UInt8))(gs:List (Nat×Nat)):Nat->List Pa
 | 0=>[]
 | k+1=>partTo ps name ws gs k++(if ownB ps name ws gs k then cutP ps (gs.getD k (0,0)) else[])
def partL(ps:List Pa)(name:List UInt8):List Pa:=partTo ps name (AxM name) (groupsL ps) (groupsL ps).length
