/- Drafts as plain data; the numbers of a draft, in order. -/
import Derived.Test.YtlldmgboedknfaaGreatDoorB25
set_option maxRecDepth 100000
set_option maxHeartbeats 4000000
set_option linter.unusedSimpArgs false
set_option linter.unusedVariables false
namespace Go.Proofs.YtlldmgboedknfaaGreatDoor
open Go Go.Av Go.RowKit _root_.Go.Proofs.Tryz
structure Le' where
 name:List UInt8
 draft:Int
 first:List UInt8
 lines:List (List UInt8)
def leA(f:Le'):AV:=.agg [.str f.name,.int .i64 f.draft,.str f.first,.fz 1 (f.lines.map .str)]
structure Dr where
 no:Int
 title:List UInt8
 scenes:List Sc
 gone:List (List UInt8)
 leaves:List Le'
def drA(d:Dr):AV:=.agg [.int .i64 d.no,.str d.title,.fz 5 (d.scenes.map scA),.fz 1 (d.gone.map .str),.fz 4 (d.leaves.map leA)]
def nosL(xs:List Sc):List (List UInt8):=xs.map (·.no)
structure EntOf(d:Dr)(E:List (List UInt8)):Prop where
 perm:E.Perm (d.gone++nosL d.scenes)
 sorted:E.Pairwise nLt
 num:∀ x∈E,numberL x=true
theorem AiH{α:Type}{lt:α->α->Prop}(irr:∀ a,¬ lt a a)(tr:∀ a b c,lt a b->lt b c->lt a c):∀ {l m:List α},l.Pairwise lt->m.Pairwise lt->(∀ x,x∈l ↔ x∈m)->l=m
 | [],[],_,_,_=>rfl
 | [],b::m,_,_,h=>absurd ((h b).2 (by simp)) (by simp)
 | a::l,[],_,_,h=>absurd ((h a).1 (by simp)) (by simp)
 | a::l,b::m,h1,h2,h=>by
  obtain⟨a1,a2⟩:=List.pairwise_cons.1 h1;obtain⟨b1,b2⟩:=List.pairwise_cons.1 h2;have e:a=b:=by
   rcases List.mem_cons.1 ((h a).1 (by simp))with e|e
   .exact e
   .rcases List.mem_cons.1 ((h b).2 (by simp))with e'|e'
    .exact e'.symm
    .exact absurd (tr _ _ _ (a1 _ e') (b1 _ e)) (irr _)
  subst e;rw[AiH irr tr a2 b2 fun x=>?_]
  constructor
  .intro hx
   rcases List.mem_cons.1 ((h x).1 (by simp[hx]))with e|e
   .subst e; exact absurd (a1 _ hx) (irr _)
   .exact e
  .intro hx
   rcases List.mem_cons.1 ((h x).2 (by simp[hx]))with e|e
   .subst e; exact absurd (b1 _ hx) (irr _)
   .exact e
theorem A1G:∀ (l:List (List UInt8)),(∀ x∈l,numberL x=true)->∃ L:List Nu,L.map (·.1)=l
 | [],_=>⟨[],rfl⟩
 | a::l,h=>by
  obtain⟨L,e⟩:=A1G l fun x hx=>h x (by simp[hx])
  exact⟨⟨a,h a (by simp)⟩::L,by simp[e]⟩
theorem AyF{l':List Nu}{E:List (List UInt8)}(hE:E.Pairwise nLt)(hp:(l'.map (·.1)).Perm E)(hs:l'.Pairwise (fun x y=>¬ nLt y.1 x.1)):l'.map (·.1)=E:=by
 have hd:E.Nodup:=hE.imp fun h e=>by subst e; exact AaH _ h
 have hd':(l'.map (·.1)).Nodup:=hp.nodup_iff.2 hd;have hd2:l'.Pairwise (fun x y=>x.1≠y.1):=by
  have:=List.pairwise_map.1 (show(l'.map (·.1)).Pairwise (·≠·) from hd');exact this
 have h2:(l'.map (·.1)).Pairwise nLt:=by
  rw[List.pairwise_map];refine(hs.and hd2).imp fun{x y} h=>?_
  by_cases h3:nLt x.1 y.1
  .exact h3
  .exact absurd (AmN x.2 y.2 (ArU h3 h.1)) h.2
 exact AiH AaH (fun _ _ _=>AaO) h2 hE fun x=>hp.mem_iff
theorem getD_endP(s:List Blk)(b d:Blk):(s++[b]).getD s.length d=b:=by simp
theorem set_endP(s:List Blk)(b b':Blk):(s++[b]).set s.length b'=s++[b']:=by simp
theorem AiI(sto:List Blk)(l:List AV)(hs:∀ a∈l,∃ t,a=.str t)(hl:l.length<=1000000) :
  Ct prog 60 [.fz 1 l] sto (fun r s=>r=.sl sto.length 0 l.length l.length/\s=sto++[.arr 1 l]):=by
 cases l with
 | nil =>
  refine zcIN func60 rfl fun h ρ w=>?_
  simp only[go_sem];intro b;refine zgN ?_
  cases b with
  | true =>
   simp only[go_sem,getD_endP,set_endP];refine ARet.shift (Shift.nilsl 2 1 rfl) (aret [2] rfl ⟨rfl,rfl⟩)
  | false =>
   simp only[go_sem,getD_endP,set_endP];exact⟨.inl trivial,aret [2] rfl ⟨rfl,rfl⟩⟩
 | cons x ls =>
  refine zcIN func60 rfl fun h ρ w=>?_
  simp only[go_sem,getD_endP,set_endP];refine⟨by simp,by simp at hl |-; omega,by simp at hl |-; omega,aret [2] rfl ⟨by simp[resV,Av.get],rfl⟩⟩
theorem AlC(l:List (List UInt8)):∀ a∈l.map AV.str,∃ t,a=.str t:=fun a ha=>by
 obtain⟨t,_,rfl⟩:=List.mem_map.1 ha;exact⟨t,rfl⟩
theorem AbN(l:List (List UInt8)):(flat (l.map AV.str)).all Av.frozen=true:=by
 induction l with
 | nil=>rfl
 | cons y l ih=>simpa[flat,cellsOf,Av.frozen]using ih
theorem AbW(n:Nat)(l:List (List UInt8)):lowB n (.arr 1 (l.map .str))=true:=AaX (AbN l)
theorem AhM(no:Int)(ti:List UInt8)(xs:List Sc)(go:List (List UInt8))(E:List (List UInt8))(hE:EntOf ⟨no,ti,xs,go,[]⟩ E)(hg:go.length<=1000)(hl:xs.length<=1000)(v6:Value)(h6:v6.oneCell'=true):Pc prog 21 [.agg [.int .i64 no,.str ti,.fz 5 (xs.map scA),.fz 1 (go.map .str),.raw v6]] (· = .fz 1 (E.map .str)):=by
 refine zpIB func21 rfl fun h ρ w=>?_
 simp only[go_sem,h6];refine za (AiI [] (go.map .str) (AlC go) (by simp; omega)) ?_;rintro _ _ ⟨rfl,rfl⟩;refine zgB ?_;simp only[go_sem,List.length_map];have hlen:∀ i,i<=xs.length->((go++(nosL xs).take i).map AV.str).length=go.length+i:=fun i h=>by simp[nosL]; omega
 refine AaL (ι:=Nat) (fun i=>xs.length-i)
  (fun i=>[(13,.int .i64 i),(12,.int .i64 xs.length),(11,.fz 5 (xs.map scA)),(3,.sl 0 0 (go.length+i) (go.length+i))])
  (fun i=>[.arr 1 ((go++(nosL xs).take i).map .str)]) (fun i=>i<=xs.length) 0 (by simp) ?_ ?_
 .refine Shift.weakS ?_ (by simp)
  simp only[go_sem,Nat.add_zero]
 .intro i g1 J hJ
  by_cases gi:i<xs.length
  .have di:decide ((i:Int)<(xs.length:Int))=true:=by simp; omega
   have hg':List.getD (List.map scA xs) i .any=.agg [.str xs[i].no,.int .i64 xs[i].place,.str xs[i].set,.int .i64 xs[i].time,.fz 2 (xs[i].paras.map paA)]:=by simp[List.getD,gi,scA]
   have hln:=hlen i g1;have hsu:List.map AV.str (go++(nosL xs).take i)++[.str xs[i].no]=List.map AV.str (go++(nosL xs).take (i+1)):=by
    rw[List.take_succ_eq_append_getElem (by simpa[nosL]using gi)]
    simp[nosL]
   have hfin:=hJ (i+1) (by omega) (by omega);refine zgB ?_;simp only[go_sem,di,hg',hln,List.length_map,hsu]
   repeat refine aqa ?_
   rw[show(i:Int)+1=((i+1:Nat):Int) by omega,show go.length+i+1=go.length+(i+1) by omega];refine ainv hfin (Shift.low 1 (by simp) (by simp) ?_ ?_)
   .simp only [List.take_succ_cons,List.take_zero,List.all_cons,List.all_nil,Bool.and_true]
    exact AaX (AbN _)
   .simp only [wkl,lowV,lowC,Av.frozen,decide_true,go_sem]
  .have di:decide ((i:Int)<(xs.length:Int))=false:=by simp; omega
   have hi:i=xs.length:=by omega
   subst hi;have ht:(nosL xs).take xs.length=nosL xs:=List.take_of_length_le (by simp[nosL]);have hln:=hlen _ (Nat.le_refl xs.length);rw[ht]at hln |-;have hall:∀ x∈go++nosL xs,numberL x=true:=fun x hx=>hE.num x (hE.perm.mem_iff.2 hx)
   obtain⟨L,hL⟩:=A1G _ hall;have hLl:L.length=go.length+xs.length:=by rw[<- List.length_map (f:=fun x:Nu=>x.1),hL]; simp[nosL]
   have hLm:(go++nosL xs).map AV.str=L.map fun x=>.str x.1:=by rw[<- hL,List.map_map]; rfl
   rw[hLm,<- hLl];refine zgB ?_;simp only[go_sem,di];refine za (A7Y (s:=[.arr 1 (L.map fun x=>.str x.1)]) (bid:=0) (l:=L) rfl (by omega)) ?_;rintro _ _ ⟨rfl,l',rfl,hp,hs⟩;have hfe:l'.map (·.1)=E:=AyF hE.sorted ((hp.map _).trans (hL▸hE.perm.symm)) hs;have hfm:(l'.map fun x=>AV.str x.1)=E.map .str:=by rw[<- hfe,List.map_map]; rfl
   have hll:L.length=E.length:=by rw[<- hfe,List.length_map,hp.length_eq]
   simp only[List.set_cons_zero,hfm,hll];refine AWp.shift (Shift.frz 0 rfl (AbN _)) ?_;have htk:List.take E.length (List.map AV.str E)=List.map AV.str E:=List.take_of_length_le (by simp);simp only[frzE,frzC,frz,frz1,frzB,List.map_cons,List.map_nil,List.set_cons_succ,List.set_cons_zero,Nat.reduceBEq,cond_true,cond_false,Bool.false_and,Bool.true_and,List.length_map,Nat.zero_add,decide_true,Nat.le_refl,List.drop_zero,beq_self_eq_true,Bool.and_self,htk,Av.put];refine zgB ?_;simp only[go_sem];exact zt [2]
theorem ApQ(d:Dr)(E:List (List UInt8))(hE:EntOf d E)(hg:d.gone.length<=1000)(hl:d.scenes.length<=1000):Pc prog 21 [drA d] (· = .fz 1 (E.map .str)) :=
 Pc.last1 (cs:=[.int .i64 d.no,.str d.title,.fz 5 (d.scenes.map scA),.fz 1 (d.gone.map .str)]) rfl fun v6 h6=>AhM d.no d.title d.scenes d.gone E ⟨hE.perm,hE.sorted,hE.num⟩ hg hl v6 h6
def consW(c:UInt8):List (List UInt8)->List (List UInt8)
 | []=>[[c]]
 | w::ws=>(c::w)::ws
def splitW:List UInt8->List (List UInt8)
 | []=>[[]]
 | c::r=>if c==32 then[]::splitW r else consW c (splitW r)
theorem AuV:∀ q:List UInt8,(Lib.index q [32]=-1/\splitW q=[q])\/∃ i:Nat,Lib.index q [32]=i/\i<q.length/\splitW q=q.take i::splitW (q.drop (i+1))
 | []=>.inl ⟨rfl,rfl⟩
 | c::r=>by
  by_cases hc:c=32
  .subst hc
   exact .inr ⟨0,by simp[Lib.index],by simp,by simp[splitW]⟩
  .have h1:(c==32)=false:=by simpa using hc
   have h2:((32:UInt8)==c)=false:=by simpa using fun e=>hc e.symm
   rcases AuV r with⟨h3,h4⟩|⟨i,h3,h4,h5⟩
   .refine .inl ⟨?_,by simp[splitW,h1,h4,consW]⟩
    simp[Lib.index,h3]
    exact fun e=>hc e.symm
   .refine .inr ⟨i+1,?_,by simpa using h4,by simp[splitW,h1,h5,consW]⟩
    have:((i:Int)==-1)=false:=by rw[beq_eq_false_iff_ne]; omega
    simp[Lib.index,h3,this]
    exact fun e=>(hc e.symm).elim
theorem A8G{S:Std}(hS:LibOk S)(s p:List UInt8)(hs:s.length<4294967281):PcH prog S 152 [.str s,.str p] (· = .int .i64 (Lib.index s p)) :=
 ArM [_,_] (.int .i64 (Lib.index s p)) hB152 (AbV s p) (fun h=>.int _ _) fun w H=>(Any.strings_Index { Tryz.lays144 with } ⟨s.toArray⟩ ⟨p.toArray⟩ _ w hs (hS.cell.choose_spec w H)).mono fun e w' ⟨h1,h2⟩=>⟨h1,h2▸.refl w⟩
theorem AyG(sto:List Blk)(t p:List UInt8):Ct prog 203 [.str t,.str p,.int .i64 0] sto (fun r s=>r=.fn (.func 232) [.ptr (sto.length+1) 1 0 0,.ptr sto.length 1 0 0,.ptr (sto.length+1+1) 1 0 0]/\s=sto++[.arr 1 [.str t]]++[.arr 1 [.str p]]++[.arr 1 [.int .i64 0]]):=by
 refine zcIN func203 rfl fun h ρ w=>?_
 simp only[go_sem,List.length_append];exact zt [6]
theorem AuW(sto:List Blk)(t p:List UInt8):Ct prog 161 [.str t,.str p] sto (fun r s=>r=.fn (.func 232) [.ptr (sto.length+1) 1 0 0,.ptr sto.length 1 0 0,.ptr (sto.length+1+1) 1 0 0]/\s=sto++[.arr 1 [.str t]]++[.arr 1 [.str p]]++[.arr 1 [.int .i64 0]]):=by
 refine zcIN func161 rfl fun h ρ w=>?_
 simp only[go_sem];refine za (AyG sto t p) ?_;rintro _ _ ⟨rfl,rfl⟩;refine zgN ?_;simp only[go_sem];exact zt [4]
theorem AyH{St:Std}(hS:LibOk St)(text:List UInt8)(hl:text.length<100000000)(S:Nat->List UInt8->List Blk)(ip is iz:Nat)(h1:∀ j q,(S j q).getD ip .dead=.arr 1 [.str [32]])(h2:∀ j q,(S j q).getD is .dead=.arr 1 [.str q])
  (h3:∀ j q,(S j q).getD iz .dead=.arr 1 [.int .i64 0]) (h4:∀ j q q',(S j q).set is (.arr 1 [.str q'])=S j q') :
  ItC prog St 232 [.ptr ip 1 0 0,.ptr is 1 0 0,.ptr iz 1 0 0] ((splitW text).map .str) S text:=by
 refine A7U func232 rfl ntmps232 hB232 rfl (by simp) fun l c out hP hfn hsto hg hY hfin=>?_
 obtain⟨P,fn,h,ρ,sto,w,post,x,hx⟩:=c;simp only at hP hfn hsto hg hY;subst hP; subst hfn; subst hsto;refine goR ntmps232 300 ?_;simp only[go_sem,h1,h2,h3];refine A7R (ι:=Nat×List UInt8) (fun y=>y.2.length) (fun _=>[(0,.raw (.func (.yield l) #[] #[])),(1,.ptr ip 1 0 0),(2,.ptr is 1 0 0),(3,.ptr iz 1 0 0)]) (fun y=>S y.1 y.2)
  (fun y=>(splitW text).drop y.1=splitW y.2/\y.2.length<=text.length) (0,text) ⟨rfl,Nat.le_refl _⟩ ?_ ?_
 .refine Shift.weak ?_
  simp only[go_sem]
 .rintro ⟨j,q⟩ ⟨g1,g2⟩ J hJ
  simp only at g1 g2 hJ |-;have hidx:=A8G hS q [32] (by omega);have hat:∀ a r,splitW q=a::r->(List.map AV.str (splitW text))[j]? = some (.str a):=fun a r e=>by
   rw[e]at g1;have:(splitW text)[j]? = some a:=by
    have:=congrArg (·[0]?) g1
    simpa using this
   simp[this]
  rcases AuV q with⟨e1,e2⟩|⟨i,e1,e2,e3⟩
  .rw [e1]at hidx
   have hn:(List.map AV.str (splitW text)).length=j+1:=by
    rw[e2]at g1;have:=congrArg List.length g1
    simp at this |-; omega
   refine goR ntmps232 300 ?_;simp only[go_sem,h1,h2,h3];refine A0Z hg (hidx) rfl ntmps232 rfl (goR ntmps232 300 ?_);simp only[go_sem,h1,h2,h3];refine BfY (f:=?f) (x:=?x) (ts:=?ts) (s':=S (j+1) q) (l:=l) ?ho ?hf ?_ ?_
   case ho=>rfl
   case hf=>rfl
   .intro a1 a2 a3 a4 b1 b2 b3 b4
    exact hY j q (.str q) (hat q [] e2) a1 a2 a3 a4 b1 b2 b3 b4
   refine goR ntmps232 300 ?_;simp only[go_sem];rw[<- hn];exact AOut.shift (e':=[]) (Shift.weak trivial) (hfin .normal q (.inl rfl))
  .rw [e1]at hidx
   have hlt:decide ((i:Int)<0)=false:=by simp
   refine goR ntmps232 300 ?_;simp only[go_sem,h1,h2,h3];refine A0Z hg (hidx) rfl ntmps232 rfl (goR ntmps232 300 ?_);simp only[go_sem,h1,h2,h3,hlt]
   repeat refine al ?_
   refine BfY (f:=?f2) (x:=?x2) (ts:=?ts2) (s':=S (j+1) q) (l:=l) ?ho2 ?hf2 ?_ ?_
   case ho2=>rfl
   case hf2=>rfl
   .intro a1 a2 a3 a4 b1 b2 b3 b4
    exact hY j q (.str (q.take i)) (hat _ _ e3) a1 a2 a3 a4 b1 b2 b3 (by simpa[ev,Av.get,Av.put,cutL]using b4)
   refine goR ntmps232 300 ?_;simp only[go_sem,h1,h2,h3,h4]
   repeat refine al ?_
   refine AuL (hJ (j+1,q.drop (i+1)) ⟨?_,by simp; omega⟩ (by simp; omega)) (Shift.weak ?_)
   .rw [e3]at g1
    rw[<- List.drop_drop,g1];rfl
   .simp only [go_sem]
def letB(n:Int):Bool:=capI n||(decide (n>=97)&&decide (n<=122))
structure Wst where
 letters:Bool
 word:List UInt8
 out:List (List UInt8)
def BlR(c:UInt8):UInt8:=if capI c.toNat then c+32 else c
def wstep(s:Wst)(c:UInt8):Wst :=
 if letB c.toNat||digI c.toNat then⟨true,s.word++[BlR c],s.out⟩
 else if((c.toNat:Int)==39) then⟨s.letters,s.word++[c],s.out⟩
 else⟨false,[],if s.letters then s.out++[s.word] else s.out⟩
def AuX(s:List UInt8):List (List UInt8):=((s++[32]).foldl wstep ⟨false,[],[]⟩).out
theorem AdJ(l:List (List UInt8)):(flat (l.map AV.str)).all Av.frozen=true:=by
 induction l with
 | nil=>rfl
 | cons y l ih=>simpa[flat,cellsOf,Av.frozen]using ih
theorem low_strs(n:Nat)(l:List (List UInt8)):lowB n (.arr 1 (l.map .str))=true:=AaX (AdJ l)
def chop(W:Nat)(w:List UInt8):List (List UInt8)×List UInt8 :=
 if h:W<w.length/\0<W then(w.take W::(chop W (w.drop W)).1,(chop W (w.drop W)).2) else([],w)
termination_by w.length
decreasing_by all_goals(simp; omega)
def wrapS(W:Nat)(s:List (List UInt8)×List UInt8)(w:List UInt8):List (List UInt8)×List UInt8 :=
 if w==[] then s
 else if s.2 != []&&decide (s.2.length+1+w.length<=W) then(s.1,s.2++(32::w))
 else((if s.2 != [] then s.1++[s.2] else s.1)++(chop W w).1,(chop W w).2)
def wrapF(W:Nat)(t:List UInt8):List (List UInt8)×List UInt8:=(splitW t).foldl (wrapS W) ([],[])
def AbE(W:Nat)(t:List UInt8):List (List UInt8):=if(wrapF W t).2 != [] then(wrapF W t).1++[(wrapF W t).2] else(wrapF W t).1
def wrapTo(W:Nat)(t:List UInt8)(j:Nat):List (List UInt8)×List UInt8:=((splitW t).take j).foldl (wrapS W) ([],[])
theorem AeK{W:Nat}{w:List UInt8}(h:W<w.length)(h0:0<W):chop W w=(w.take W::(chop W (w.drop W)).1,(chop W (w.drop W)).2):=by
 rw[chop,dif_pos ⟨h,h0⟩]
theorem AdR{W:Nat}{w:List UInt8}(h:¬ W<w.length):chop W w=([],w):=by
 rw[chop,dif_neg fun h'=>h h'.1]
theorem A1H(W:Nat):∀ (n:Nat)(w:List UInt8),w.length<=n->(chop W w).1.length+(chop W w).2.length<=w.length
 | 0,w,h=>by rw[AdR (by omega)]; simp
 | n+1,w,h=>by
  by_cases hc:W<w.length/\0<W
  .have:=A1H W n (w.drop W) (by simp; omega)
   rw[AeK hc.1 hc.2]
   simp at this |-
   omega
  .rw [chop,dif_neg hc]; simp
theorem AjN:∀ q:List UInt8,((splitW q).map List.length).sum+(splitW q).length=q.length+1
 | []=>rfl
 | c::r=>by
  have ih:=AjN r;rw[splitW]
  split
  .simp; omega
  .cases h:splitW r with
   | nil=>rw[h]at ih; simp at ih
   | cons w ws=>rw[h]at ih; simp[consW]at ih |-; omega
def sumTo(t:List UInt8)(j:Nat):Nat:=(((splitW t).take j).map List.length).sum+j
theorem AjO{t:List UInt8}{j:Nat}{w:List UInt8}(h:(splitW t)[j]? = some w):sumTo t (j+1)=sumTo t j+w.length+1:=by
 obtain⟨hl,rfl⟩:=List.getElem?_eq_some_iff.1 h;simp only[sumTo,List.take_succ_eq_append_getElem hl,List.map_append,List.sum_append,List.map_cons,List.map_nil,List.sum_cons,List.sum_nil];omega
theorem AlD(t:List UInt8)(j:Nat)(hj:j<=(splitW t).length):sumTo t j<=t.length+1:=by
 have h:=AjN t;have h2:(((splitW t).take j).map List.length).sum+(((splitW t).drop j).map List.length).sum=((splitW t).map List.length).sum:=by
  rw[<- List.sum_append,<- List.map_append,List.take_append_drop]
 simp only[sumTo];omega
theorem AhN{W:Nat}{t:List UInt8}{j:Nat}{w:List UInt8}(h:(splitW t)[j]? = some w):wrapTo W t (j+1)=wrapS W (wrapTo W t j) w:=by
 obtain⟨hl,rfl⟩:=List.getElem?_eq_some_iff.1 h;simp only[wrapTo,List.take_succ_eq_append_getElem hl,List.foldl_append,List.foldl_cons,List.foldl_nil]
theorem A8H(W:Nat)(s:List (List UInt8)×List UInt8)(w:List UInt8):(wrapS W s w).1.length+(wrapS W s w).2.length<=s.1.length+s.2.length+w.length+1:=by
 unfold wrapS
 split
 .omega
 .split
  .simp; omega
  .have:=A1H W w.length w (Nat.le_refl _)
   split
   .rename_i hne
    have:0<s.2.length:=by
     cases hq:s.2 with
     | nil=>simp[hq]at hne
     | cons a l=>simp
    simp; omega
   .simp; omega
theorem AeL(W:Nat)(t:List UInt8):∀ j,j<=(splitW t).length->(wrapTo W t j).1.length+(wrapTo W t j).2.length<=sumTo t j
 | 0,_=>by simp[wrapTo,sumTo]
 | j+1,hj=>by
  have hl:j<(splitW t).length:=by omega
  have h:=List.getElem?_eq_getElem hl;have ih:=AeL W t j (by omega);have:=A8H W (wrapTo W t j) ((splitW t)[j]);rw[AhN h,AjO h];omega
def BiX(W:Int)(s:List (List UInt8)×List UInt8)(q:List UInt8):List Blk :=
 [.arr 1 [.int .i64 W],.arr 1 [.sl 6 0 s.1.length s.1.length],.arr 1 [.str s.2],.arr 1 [.str q],.arr 1 [.str [32]],.arr 1 [.int .i64 0],.arr 1 (s.1.map .str)]
theorem AlE{St:Std}(hS:LibOk St)(t:List UInt8)(W:Nat)(hl:t.length<100000000)(hW:0<W)(hW2:W<100000):PcH prog St 119 [.str t,.int .i64 (W:Int)] (· = .fz 1 ((AbE W t).map .str)):=by
 refine AcB (A3N func119 rfl ntmps119 hB119 (by simp) fun h ρ w hg=>?_);refine goR ntmps119 300 ?_;simp only[go_sem];refine BlF (AuW _ t [32]) ntmps119 rfl ?_;rintro _ _ ⟨rfl,rfl⟩;refine goR ntmps119 300 ?_;simp only[go_sem];refine AWpR.shift (Shift.cells 1 1 [.sl 6 0 0 0] rfl rfl (by simp[cellsOf]) ⟨.sl,trivial⟩) ?_;refine BlG (S:=fun j q=>BiX W (wrapTo W t j) q) (q0:=t) (xs:=(splitW t).map .str) (E1:=fun j=>[(7,.str ((splitW t).getD j [])),(3,.ptr 0 1 0 0),(5,.ptr 1 1 0 0),(6,.ptr 2 1 0 0)]) hg rfl rfl
  (AyH hS t (by omega) _ 4 3 5 (fun _ _=>rfl) (fun _ _=>rfl) (fun _ _=>rfl) (fun _ _ _=>rfl)) (by decide) ?_ ?_ ?_
 .intro j q x h1 ρ1 w1 l id J hx hle hJ
  obtain⟨v,hv,rfl⟩:∃ v,(splitW t)[j]? = some v/\x=.str v:=by
   rw[List.getElem?_map]at hx;obtain⟨v,h1,h2⟩:=Option.map_eq_some_iff.1 hx;exact⟨v,h1,h2.symm⟩
  have hgd:(splitW t).getD j []=v:=by simp[List.getD,hv]
  simp only[hgd]at hJ;refine goR ntmps119 300 ?_;simp only[go_sem];refine AuL hJ (Shift.weak ?_);simp only[go_sem]
 .intro j q x h1 ρ1 w1 l id J hx hle hJ
  obtain⟨v,hv,rfl⟩:∃ v,(splitW t)[j]? = some v/\x=.str v:=by
   rw[List.getElem?_map]at hx;obtain⟨v,h1,h2⟩:=Option.map_eq_some_iff.1 hx;exact⟨v,h1,h2.symm⟩
  have hgd:(splitW t).getD j []=v:=by simp[List.getD,hv]
  have hjl:=(List.getElem?_eq_some_iff.1 hv).1;have hst:=AhN (W:=W) hv;have hb:=AeL W t j (by omega);have hb2:=AlD t j (by omega);have hb3:=AlD t (j+1) (by omega);have hb4:=AjO hv;rw[hst]at hJ;rw[hgd];generalize wrapTo W t j=st at *;obtain⟨ls,ln⟩:=st;simp only[BiX]at hJ |-;simp only at hb
  cases hv0:v==[]with
  | true =>
   have hS1:wrapS W (ls,ln) v=(ls,ln):=by simp only[wrapS,hv0,if_true]
   rw[hS1]at hJ;refine goR ntmps119 300 ?_;simp only[go_sem,hv0];exact AuL hJ (Shift.weak trivial)
  | false =>
   cases hln:ln != []with
   | true =>
    by_cases hfit:ln.length+1+v.length<=W
    .have hS1:wrapS W (ls,ln) v=(ls,ln++(32::v)):=by simp[wrapS,hv0,hln,hfit]
     rw[hS1]at hJ;have hd:decide ((ln.length:Int)+1+(v.length:Int)<=(W:Int))=true:=by simp; omega
     refine goR ntmps119 300 ?_;simp only[go_sem,hv0,hln,hd]
     repeat refine al ?_
     exact AuL hJ (Shift.weak trivial)
    .have hd:decide ((ln.length:Int)+1+(v.length:Int)<=(W:Int))=false:=by simp; omega
     have hS1:wrapS W (ls,ln) v=((ls++[ln])++(chop W v).1,(chop W v).2):=by simp[wrapS,hv0,hln,hfit]
     rw[hS1]at hJ;refine goFR ntmps119 300 ?_;simp only[go_sem,hv0,hln,hd]
     repeat refine aqa ?_
     refine A7R (ι:=List (List UInt8)×List UInt8) (fun y=>y.2.length) (fun y=>[(7,.str y.2),(3,.ptr 0 1 0 0),(5,.ptr 1 1 0 0),(6,.ptr 2 1 0 0)])
      (fun y=>[.arr 1 [.int .i64 W],.arr 1 [.sl 6 0 y.1.length y.1.length],.arr 1 [.str ln],.arr 1 [.str q],.arr 1 [.str [32]],.arr 1 [.int .i64 0],.arr 1 (y.1.map .str)])
      (fun y=>y.1++(chop W y.2).1=(ls++[ln])++(chop W v).1/\(chop W y.2).2=(chop W v).2/\y.1.length+y.2.length<=(ls++[ln]).length+v.length) (ls++[ln],v) ⟨rfl,rfl,Nat.le_refl _⟩ ?_ ?_
     .refine Shift.weakS ?_ ?_
      .simp only [go_sem]
      .simp
     .rintro ⟨L,u⟩ ⟨f1,f2,f3⟩ J2 hJ2
      simp only at f1 f2 f3 hJ2 |-;have hLl:(ls++[ln]).length<=ls.length+1:=by simp
      by_cases hu:W<u.length
      .have du:decide ((u.length:Int)>(W:Int))=true:=by simp; omega
       have hch:=AeK hu hW;rw[hch]at f1 f2;refine goR ntmps119 300 ?_;simp only[go_sem,du];refine BfX [] mixed (by decide) ntmps119 (by decide) 100 ?_;simp only[go_sem,List.length_map]
       repeat refine aqa ?_
       refine goR ntmps119 300 ?_;simp only[go_sem]
       repeat refine aqa ?_
       refine AuL (hJ2 (L++[u.take W],u.drop W) ⟨by rw[<- f1]; simp,f2,by simp; omega⟩ (by simp; omega)) (Shift.weakS ?_ ?_)
       .simp only [go_sem,cutL]
        first|done|simp
       .simp [cutL]
      .have du:decide ((u.length:Int)>(W:Int))=false:=by simp; omega
       have hch:=AdR hu;rw[hch]at f1 f2;simp only[List.append_nil]at f1 f2;refine goR ntmps119 300 ?_;simp only[go_sem,du];rw[f1,f2];exact AuL hJ (Shift.weak trivial)
   | false =>
    have hS1:wrapS W (ls,ln) v=(ls++(chop W v).1,(chop W v).2):=by simp[wrapS,hv0,hln]
    rw[hS1]at hJ;refine goFR ntmps119 300 ?_;simp only[go_sem,hv0,hln];refine A7R (ι:=List (List UInt8)×List UInt8) (fun y=>y.2.length) (fun y=>[(7,.str y.2),(3,.ptr 0 1 0 0),(5,.ptr 1 1 0 0),(6,.ptr 2 1 0 0)])
     (fun y=>[.arr 1 [.int .i64 W],.arr 1 [.sl 6 0 y.1.length y.1.length],.arr 1 [.str ln],.arr 1 [.str q],.arr 1 [.str [32]],.arr 1 [.int .i64 0],.arr 1 (y.1.map .str)])
     (fun y=>y.1++(chop W y.2).1=(ls)++(chop W v).1/\(chop W y.2).2=(chop W v).2/\y.1.length+y.2.length<=(ls).length+v.length) (ls,v) ⟨rfl,rfl,Nat.le_refl _⟩ ?_ ?_
    .refine Shift.weakS ?_ ?_
     .simp only [go_sem]
     .simp
    .rintro ⟨L,u⟩ ⟨f1,f2,f3⟩ J2 hJ2
     simp only at f1 f2 f3 hJ2 |-;have hLl:(ls).length<=ls.length+1:=by simp
     by_cases hu:W<u.length
     .have du:decide ((u.length:Int)>(W:Int))=true:=by simp; omega
      have hch:=AeK hu hW;rw[hch]at f1 f2;refine goR ntmps119 300 ?_;simp only[go_sem,du];refine BfX [] mixed (by decide) ntmps119 (by decide) 100 ?_;simp only[go_sem,List.length_map]
      repeat refine aqa ?_
      refine goR ntmps119 300 ?_;simp only[go_sem]
      repeat refine aqa ?_
      refine AuL (hJ2 (L++[u.take W],u.drop W) ⟨by rw[<- f1]; simp,f2,by simp; omega⟩ (by simp; omega)) (Shift.weakS ?_ ?_)
      .simp only [go_sem,cutL]
       first|done|simp
      .simp [cutL]
     .have du:decide ((u.length:Int)>(W:Int))=false:=by simp; omega
      have hch:=AdR hu;rw[hch]at f1 f2;simp only[List.append_nil]at f1 f2;refine goR ntmps119 300 ?_;simp only[go_sem,du];rw[f1,f2];exact AuL hJ (Shift.weak trivial)
 .intro D q hD
  have hn:(List.map AV.str (splitW t)).length=(splitW t).length:=by simp
  have htot:wrapTo W t (splitW t).length=wrapF W t:=by simp[wrapTo,wrapF]
  have hb:=AeL W t _ (Nat.le_refl _);have hb2:=AlD t _ (Nat.le_refl _);rw[htot]at hb;simp only[hn,htot];unfold AbE;generalize wrapF W t=st at *;obtain⟨ls,ln⟩:=st;simp only[BiX];simp only at hb
  cases hln:ln != []with
  | true =>
   refine goFR ntmps119 300 ?_;simp only[go_sem,hln]
   repeat refine aqa ?_
   refine AOut.shift (Shift.freeze 4 (id:=6) rfl rfl (by simp) (Nat.le_refl _) ?_) (BlH (.inr rfl) hD [4] rfl ⟨?_,rfl⟩)
   .have:=AdJ (ls++[ln]); simpa using this
   .simp [resV,Av.get,Av.put,List.take_of_length_le]
  | false =>
   refine goFR ntmps119 300 ?_;simp only[go_sem,hln];refine AOut.shift (Shift.freeze 4 (id:=6) rfl rfl (by simp) (Nat.le_refl _) ?_) (BlH (.inr rfl) hD [4] rfl ⟨?_,rfl⟩)
   .exact AdJ ls
   .simp [resV,Av.get,Av.put,List.take_of_length_le]
