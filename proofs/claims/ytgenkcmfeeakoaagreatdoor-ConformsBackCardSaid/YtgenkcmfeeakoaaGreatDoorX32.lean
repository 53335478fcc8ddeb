/- A contract used at arguments of which more is known, or whose cells are nil. -/
import Derived.Test.YtgenkcmfeeakoaaGreatDoorX31
set_option linter.all false
namespace Go.Av
open RowKit
variable [Tr]
section
variable {h:Mem}{L:Value->AV->Prop}{fl:Bool}
end
section
variable {P:Program}{g:Std}{f:FuncId}{args args':LA}{post:AV->Prop}
end
end Go.Av
set_option maxRecDepth 100000
namespace Go.Proofs.YtgenkcmfeeakoaaGreatDoor
open Av RowKit
structure Le' where
 name:LU
 Lj:Int
 first:LU
 Lb:List LU
def leA(f:Le'):AV:=.agg [.str f.name,.int .i64 f.Lj,.str f.first,.fz 1 (f.Lb.map .str)]
structure Dr where
 no:Int
 Lk:LU
 Lc:List Sc
 Lp:List LU
 La:List Le'
def drA(d:Dr):AV:=.agg [.int .i64 d.no,.str d.Lk,.fz 5 (d.Lc.map scA),.fz 1 (d.Lp.map .str),.fz 4 (d.La.map leA)]
def nosL(xs:List Sc):List LU:=xs.map (·.no)
structure EntOf(d:Dr)(E:List LU):Prop where
 perm:E.Perm (d.Lp++nosL d.Lc)
 sorted:E.Pairwise nLt
 num:∀ x∈E,numberL x=true
theorem sorted_eq{α:Type}{lt:α->α->Prop}(irr:∀ a,¬ lt a a)(tr:∀ a b c,lt a b->lt b c->lt a c):∀ {l m:List α},l.Pairwise lt->m.Pairwise lt->(∀ x,x∈l ↔ x∈m)->l=m
 | [],[],_,_,_=>rfl
 | [],b::m,_,_,h=>absurd ((h b).2 (by simp)) (by simp)
 | a::l,[],_,_,h=>absurd ((h a).1 (by simp)) (by simp)
 | a::l,b::m,h1,h2,h=>by
  obtain⟨a1,a2⟩:=List.pairwise_cons.1 h1;obtain⟨b1,b2⟩:=List.pairwise_cons.1 h2;have e:a=b:=by
   rcases List.mem_cons.1 ((h a).1 (by simp))with e|e
   .exact e
   .rcases List.mem_cons.1 ((h b).2 (by simp))with e'|e'
    .exact e'.symm
    .exact absurd (tr _ _ _ (a1 _ e') (b1 _ e)) (irr _)
  subst e;rw[sorted_eq irr tr a2 b2 fun x=>?_]
  constructor
  .intro hx
   rcases List.mem_cons.1 ((h x).1 (by simp[hx]))with e|e
   .subst e; exact absurd (a1 _ hx) (irr _)
   .exact e
  .intro hx
   rcases List.mem_cons.1 ((h x).2 (by simp[hx]))with e|e
   .subst e; exact absurd (b1 _ hx) (irr _)
   .exact e
theorem A3P{l':List Nu}{E:List LU}(hE:E.Pairwise nLt)(hp:(l'.map (·.1)).Perm E)(hs:l'.Pairwise (fun x y=>¬ nLt y.1 x.1)):l'.map (·.1)=E:=by
 have hd:E.Nodup:=hE.imp fun h e=>by grind[nLt_irrefl]
 have hd2:l'.Pairwise (fun x y=>x.1≠y.1):=by
  grind
 have h2:(l'.map (·.1)).Pairwise nLt:=by
  rw[List.pairwise_map];refine(hs.and hd2).imp fun{x y} h=>?_<;>grind[number_eq,ApB]
 grind[sorted_eq,nLt_irrefl,nLt_trans]
def consW(c:UInt8):List LU->List LU
 | []=>[[c]]
 | w::ws=>(c::w)::ws
def splitW:LU->List LU
 | []=>[[]]
 | c::r=>if c==32 then[]::splitW r else consW c (splitW r)
def letB(n:Int):Bool:=capI n||(decide (n>=97)&&decide (n<=122))
structure Wst where
 letters:Bool
 word:LU
 out:List LU
def B0V(c:UInt8):UInt8:=if capI c.toNat then c+32 else c
def wstep(s:Wst)(c:UInt8):Wst :=
 if letB c.toNat||digI c.toNat then⟨true,s.word++[B0V c],s.out⟩
 else if((c.toNat:Int)==39) then⟨s.letters,s.word++[c],s.out⟩
 else⟨false,[],if s.letters then s.out++[s.word] else s.out⟩
def AyW(s:LU):List LU:=((s++[32]).foldl wstep ⟨false,[],[]⟩).out
theorem AaH(l:List LU):(flat (l.map AV.str)).all Av.frozen=true:=by
 induction l with
 | nil=>rfl
 | cons y l ih=>simpa[flat,cellsOf,Av.frozen]using ih
theorem BpP(n:Nat)(l:List LU):lowB n (.arr 1 (l.map .str))=true:=AaD (AaH l)
def chop(W:Nat)(w:LU):List LU×LU :=
 if h:W<w.length/\0<W then(w.take W::(chop W (w.drop W)).1,(chop W (w.drop W)).2) else([],w)
termination_by w.length
decreasing_by all_goals(simp; omega)
def AcF(W:Nat)(s:List LU×LU)(w:LU):List LU×LU :=
 if w==[] then s
 else if s.2 != []&&decide (s.2.length+1+w.length<=W) then(s.1,s.2++(32::w))
 else((if s.2 != [] then s.1++[s.2] else s.1)++(chop W w).1,(chop W w).2)
def wrapF(W:Nat)(t:LU):List LU×LU:=(splitW t).foldl (AcF W) ([],[])
def wrapL(W:Nat)(t:LU):List LU:=if(wrapF W t).2 != [] then(wrapF W t).1++[(wrapF W t).2] else(wrapF W t).1
def wrapTo(W:Nat)(t:LU)(j:Nat):List LU×LU:=((splitW t).take j).foldl (AcF W) ([],[])
theorem AfR{W:Nat}{w:LU}(h:W<w.length)(h0:0<W):chop W w=(w.take W::(chop W (w.drop W)).1,(chop W (w.drop W)).2):=by
 grind[chop]
theorem chop_end{W:Nat}{w:LU}(h:¬ W<w.length):chop W w=([],w):=by
 grind[chop]
theorem A7S(W:Nat):∀ (n:Nat)(w:LU),w.length<=n->(chop W w).1.length+(chop W w).2.length<=w.length
 | 0,w,h=>by grind[chop_end]
 | n+1,w,h=>by
  by_cases hc:W<w.length/\0<W
  .have:=A7S W n (w.drop W) (by grind)
   grind[AfR]
  grind[chop]
theorem splitW_sum:∀ q:LU,((splitW q).map List.length).sum+(splitW q).length=q.length+1
 | []=>rfl
 | c::r=>by
  have ih:=splitW_sum r;rw[splitW]
  split
  .simp; omega
  .cases h:splitW r with
   | nil=>rw[h]at ih; simp at ih
   | cons w ws=>rw[h]at ih; simp[consW]at ih |-; omega
def sumTo(t:LU)(j:Nat):Nat:=(((splitW t).take j).map List.length).sum+j
theorem AsP{t:LU}{j:Nat}{w:LU}(h:(splitW t)[j]? = some w):sumTo t (j+1)=sumTo t j+w.length+1:=by
 grind[sumTo,laf]
theorem BpQ(t:LU)(j:Nat)(hj:j<=(splitW t).length):sumTo t j<=t.length+1:=by
 grind[splitW_sum,lbs,sumTo]
theorem wrapTo_step{W:Nat}{t:LU}{j:Nat}{w:LU}(h:(splitW t)[j]? = some w):wrapTo W t (j+1)=AcF W (wrapTo W t j) w:=by
 grind[wrapTo,laf]
theorem AyX(W:Nat)(s:List LU×LU)(w:LU):(AcF W s w).1.length+(AcF W s w).2.length<=s.1.length+s.2.length+w.length+1:=by
 unfold AcF
 .split
  .grind
  .have:=A7S W w.length w (lad _)
   grind
theorem AlM(W:Nat)(t:LU):∀ j,j<=(splitW t).length->(wrapTo W t j).1.length+(wrapTo W t j).2.length<=sumTo t j
 | 0,_=>by grind[wrapTo]
 | j+1,hj=>by
  have ih:=AlM W t j (by omega);have:=AyX W (wrapTo W t j) ((splitW t)[j])
  grind[wrapTo_step,AsP]
end Go.Proofs.YtgenkcmfeeakoaaGreatDoor
namespace Go.Av
open RowKit
variable [Tr]
section
variable {c:Cx}{k:List It}{e:Env}{s:LB}
theorem Shift.cellsAt(id n:Nat){es es':Nat}{l:LA}(l':LA)(hb:s.getD id .dead=.arr es l)(hn:s.getD n .dead=.arr es' [])(hlen:l'.length=l.length)(hcl:∀ x∈l',(cellsOf x).length=es)(ht:toC n (flat l) (flat l')) :
  Shift c e s e (s.set id (.arr es l')):=by
 rintro a w ⟨hh,ρ,hm,hlt,he,hdf,hsz,hX⟩;obtain⟨m2,l2⟩:=hm.recell (AbO hb) hlen hcl (AbO hn) ht;exact⟨hh,ρ,m2,hlt.trans l2,fun t=>(he t).mono l2.hle l2.keep,hdf,hsz,c.hx.later hm l2 hX⟩
end
end Go.Av
namespace Go.Proofs.YtgenkcmfeeakoaaGreatDoor
open Av RowKit Proofs.Tryz
def gA(g:Nat×Nat):AV:=.agg [.int .i64 g.1,.int .i64 g.2]
def joins(p:Pa):Bool:=p.kind==3||p.kind==4
def gstep(out:List (Nat×Nat))(i:Nat)(p:Pa):List (Nat×Nat) :=
 if joins p then out.set (out.length-1) ((out.getD (out.length-1) (0,0)).1,i+1) else out++[(i,i+1)]
def gfold:List (Nat×Nat)->Nat->List Pa->List (Nat×Nat)
 | out,_,[]=>out
 | out,i,p::r=>gfold (gstep out i p) (i+1) r
def groupsL(ps:List Pa):List (Nat×Nat):=gfold [] 0 ps
theorem AmX{l:List LU}{i:Nat}(h:i<l.length):List.getD (List.map AV.str l) i .any=.str l[i]:=by simp[List.getD,h]
theorem AsQ(a b:List LU)(ha:a.length<1000000000000000)(hb:b.length<1000000000000000):Pc prog 77 [.fz 1 (a.map .str),.fz 1 (b.map .str)] (· = .bool (a==b)):=by
 by_cases hl:a.length=b.length
 .have d0:((a.length:Int) != (b.length:Int))=false:=by simp[hl]
  refine zpIN func77 rfl fun h ρ w=>?_
  simp only[go_sem,d0,laa];refine AaE (ι:=Nat) (fun i=>a.length-i) (fun i=>[(13,.int .i64 i),(12,.int .i64 a.length),(1,.fz 1 (b.map .str)),(0,.fz 1 (a.map .str))]) (fun _=>[]) (fun i=>i<=a.length/\a.take i=b.take i) 0 (by simp) ?_ ?_
  .refine Lr ?_
   simp only[go_sem]
  .rintro i ⟨g1,g2⟩ J hJ
   by_cases gi:i<a.length
   .have di:decide ((i:Int)<(a.length:Int))=true:=by simp; omega
    have gb:i<b.length:=by omega
    have h1:=AmX gi;have h2:=AmX gb
    by_cases he:a[i]=b[i]
    .have de:(a[i] != b[i])=false:=by simp[he]
     apply zgN;simp only[go_sem,di];refine zr [] AaI ?_;simp only[go_sem,h1,h2,de,laa]
     repeat refine And.intro (by first|omega|simpa using gi|simpa using gb) ?_
     apply zgN;simp only[go_sem]
     repeat refine ao ?_
     rw[ic i];refine ainv (hJ (i+1) ⟨by omega,by rw[laf gi,laf gb,g2,he]⟩ (by omega)) (Lr ?_);simp only[go_sem]
    .have de:(a[i] != b[i])=true:=by simp[he]
     have hab:(a==b)=false:=by
      rw[lbe];rintro rfl;exact he rfl
     apply zgN;simp only[go_sem,di];refine zr [] AaI ?_;simp only[go_sem,h1,h2,de,laa]
     repeat refine And.intro (by first|omega|simpa using gi|simpa using gb) ?_
     apply zgN;simp only[go_sem];exact aret [4] rfl ⟨by rw[hab]; rfl,rfl⟩
   .have di:decide ((i:Int)<(a.length:Int))=false:=by simp; omega
    have:a=b:=by
     rw[laj (by omega),laj (by omega)]at g2;exact g2
    subst this;apply zgN;simp only[go_sem,di];exact aret [4] rfl ⟨by simp[resV,Av.get],rfl⟩
 .have d0:((a.length:Int) != (b.length:Int))=true:=by simp; omega
  have hab:(a==b)=false:=by
   rw[lbe];rintro rfl;exact hl rfl
  refine zpIN func77 rfl fun h ρ w=>?_
  simp only[go_sem,d0,laa];exact aret [4] rfl ⟨by rw[hab]; rfl,rfl⟩
def fTo(ws sm:List LU)(i:Nat):List Nat:=(List.range i).filter fun k=>(ws.drop k).take sm.length==sm
def BtL(ws sm:List LU):List Nat:=fTo ws sm (ws.length+1-sm.length)
def GOk(n i:Nat)(out:List (Nat×Nat)):Prop:=i<=n/\∀ g∈out,g.1<g.2/\g.2<=i
theorem BpR{n i:Nat}{out:List (Nat×Nat)}{p:Pa}(h:GOk n i out)(hi:i<n):GOk n (i+1) (gstep out i p):=by
 refine⟨by omega,fun g hg=>?_⟩;unfold gstep at hg
 split at hg
 .by_cases hl:out.length=0
  .grind
  .rcases List.mem_or_eq_of_mem_set hg with h1|h1
   .have:=h.2 g h1; omega
   .have hm:out.getD (out.length-1) (0,0)∈out:=by
     grind
    have:=h.2 _ hm
    grind
 .rcases List.mem_append.1 hg with h1|h1
  .have:=h.2 g h1; omega
  grind
theorem A7T{n:Nat}:∀ {ps:List Pa}{i:Nat}{out:List (Nat×Nat)},GOk n i out->i+ps.length=n->GOk n n (gfold out i ps)
 | [],i,out,h,hn=>by
  subst hn; exact h
 | p::r,i,out,h,hn=>by
  simp at hn
  show GOk n n (gfold (gstep out i p) (i+1) r)
  exact A7T (BpR h (by omega)) (by omega)
theorem BhE(ps:List Pa):∀ g∈groupsL ps,g.1<g.2/\g.2<=ps.length :=
 (A7T ⟨by omega,by simp⟩ (by omega)).2
def pNo:Pa:=⟨0,[]⟩
def BpS(p:Pa)(name:LU):Bool:=p.kind==2&&p.text==name
def headP(ps:List Pa)(gs:List (Nat×Nat))(k:Nat):Pa:=ps.getD (gs.getD k (0,0)).1 pNo
def ownB(ps:List Pa)(name:LU)(ws:List LU)(gs:List (Nat×Nat))(k:Nat):Bool :=
 BpS (headP ps gs k) name||(((headP ps gs k).kind==2&&(decide (k+1<gs.length)&&BpS (headP ps gs (k+1)) name)) ||
  ((headP ps gs k).kind != 2&&(decide (0<ws.length)&&decide (0<(BtL (AyW (headP ps gs k).text) ws).length))))
def cutP(ps:List Pa)(g:Nat×Nat):List Pa:=(ps.take g.2).drop g.1
def partTo(ps:List Pa)(name:LU)(ws:List LU)(gs:List (Nat×Nat)):Nat->List Pa
 | 0=>[]
 | k+1=>partTo ps name ws gs k++(if ownB ps name ws gs k then cutP ps (gs.getD k (0,0)) else[])
def partL(ps:List Pa)(name:LU):List Pa:=partTo ps name (AyW name) (groupsL ps) (groupsL ps).length
theorem AfS(n:Nat):(Lib.repeatL [32] n).length=n:=by
 grind[Lib.repeatL_length]
theorem BhF(W:Nat):∀ (n:Nat)(w:LU),w.length<=n->∀ l∈(chop W w).1,l.length<=w.length
 | 0,w,h,l,hl=>by grind[chop_end]
 | n+1,w,h,l,hl=>by
  by_cases hc:W<w.length/\0<W
  .rw [AfR hc.1 hc.2]at hl
   rcases List.mem_cons.1 hl with rfl|hl
   .grind
   .have:=BhF W n (w.drop W) (by grind) l hl
    grind
  grind[chop]
theorem AyY(W:Nat)(t:LU):∀ j,j<=(splitW t).length->∀ l∈(wrapTo W t j).1,l.length<=sumTo t j
 | 0,_,l,hl=>by grind[wrapTo]
 | j+1,hj,l,hl=>by
  have hjl:j<(splitW t).length:=by omega
  have h:=lab hjl;have ih:=AyY W t j (by omega);have hb:=AlM W t j (by omega);rw[wrapTo_step h]at hl;rw[AsP h];unfold AcF at hl
  split at hl
  .grind
  .split at hl
   .grind
   .rcases List.mem_append.1 hl with hl|hl
    .grind
    .have:=BhF W _ _ (lad _) l hl; omega
theorem wrapL_le(W:Nat)(t:LU):(wrapL W t).length<=t.length+2/\∀ l∈wrapL W t,l.length<=t.length+1:=by
 have htot:wrapTo W t (splitW t).length=wrapF W t:=by grind[wrapTo,wrapF]
 have hb:=AlM W t _ (lad _);have hb2:=BpQ t _ (lad _);have hb3:=AyY W t _ (lad _)
 grind[wrapL]
structure Bl where
 kind:Int
 Lb:List LU
 kinds:List Int
 name:LU
def turnLine(t:LU):LU:=Lib.repeatL [32] (60-(t.length+1))++(t++[58])
def indent(n:Nat)(l:LU):LU:=Lib.repeatL [32] n++l
def addB(b:Bl)(kd:Int)(at':Nat)(ls:List LU):Bl:={ b with Lb:=b.Lb++ls.map (indent at'),kinds:=b.kinds++List.replicate ls.length kd }
def AmC(p:Int):LU:=[[],[73,78,84,46],[69,88,84,46],[73,78,84,46,47,69,88,84,46]].getD p.toNat []
def AyZ(p:Int):LU:=[[],[68,65,89],[78,73,71,72,84],[68,65,87,78],[68,85,83,75],[76,65,84,69,82]].getD p.toNat []
def headLine(x:Sc):LU:=AmC x.place++[32]++x.set++[32,45,32]++AyZ x.time
def headL(x:Sc):LU:=if x.no != [] then x.no++[32]++headLine x else headLine x
theorem BpT(p:Int)(h:1<=p/\p<=3):List.getD placeW p.toNat .any=.str (AmC p):=by
 obtain⟨n,rfl⟩:=Int.eq_ofNat_of_zero_le (by omega:0<=p);have:n=1\/n=2\/n=3:=by omega
 rcases this with rfl|rfl|rfl <;> rfl
theorem BxB(p:Int)(h:1<=p/\p<=5):List.getD BgV p.toNat .any=.str (AyZ p):=by
 obtain⟨n,rfl⟩:=Int.eq_ofNat_of_zero_le (by omega:0<=p);have:n=1\/n=2\/n=3\/n=4\/n=5:=by omega
 rcases this with rfl|rfl|rfl|rfl|rfl <;> rfl
theorem AlN(p:Int):(AmC p).length<=9:=by
 unfold AmC
 match p.toNat with
 | 0|1|2|3=>decide
 | n+4=>grind
theorem ApH(p:Int):(AyZ p).length<=5:=by
 unfold AyZ
 match p.toNat with
 | 0|1|2|3|4|5=>decide
 | n+6=>grind
theorem A3Q:∀ (ps:List Pa)(l e:Int),runL l ps=some e->∀ p∈ps,paraOk p=true
 | [],_,_,_,p,hp=>by grind
 | a::r,l,e,h,p,hp=>by
  simp only[runL]at h
  split at h
  .rename_i hc
   simp at hc
   rcases List.mem_cons.1 hp with rfl|hp
   .exact hc.1
   .exact A3Q r _ _ h p hp
  .cases h
theorem BpU{ps:List Pa}{e:Int}(h:runL 0 ps=some e):∀ p,ps.head? = some p->joins p=false:=by
 cases ps<;>grind[runL,followsL,joins]
theorem AvM{p:Pa}(h:paraOk p=true):p.text.length<=2000:=by
 grind[paraOk]
def x0:Sc:=⟨[],0,[],0,[]⟩
def chunksFrom(cur:List Pa):List Pa->List (List Pa)
 | []=>[cur]
 | p::r=>if joins p then chunksFrom (cur++[p]) r else cur::chunksFrom [p] r
def AsR:List Pa->List (List Pa)
 | []=>[]
 | p::r=>chunksFrom [p] r
theorem BxC{ps:List Pa}{i:Nat}(h:i<ps.length):cutP ps (i,i+1)=[ps[i]]:=by
 grind[cutP,laf]
theorem BpV{ps:List Pa}{a i:Nat}(ha:a<=i)(h:i<ps.length):cutP ps (a,i+1)=cutP ps (a,i)++[ps[i]]:=by
 grind[cutP,laf]
theorem ApI(ps:List Pa):∀ (rest:List Pa)(i a:Nat)(init:List (Nat×Nat)),a<=i->ps.drop i=rest ->
  (gfold (init++[(a,i)]) i rest).map (cutP ps)=init.map (cutP ps)++chunksFrom (cutP ps (a,i)) rest
 | [],i,a,init,ha,hr=>by grind[gfold,chunksFrom]
 | p::r,i,a,init,ha,hr=>by
  have hi:i<ps.length:=by
   grind[List.drop_of_length_le]
  have hd:=lbc hi;rw[hr]at hd;simp only[List.cons.injEq]at hd;obtain⟨hp,hr'⟩:=hd
  cases hj:joins p with
  | true =>
   have hg:gstep (init++[(a,i)]) i p=init++[(a,i+1)]:=by
    simp[gstep,hj,List.set_append,List.getD]
   rw[gfold,hg,ApI ps r (i+1) a init (by omega) hr'.symm,chunksFrom,if_pos hj,BpV ha hi,hp]
  | false =>
   have hg:gstep (init++[(a,i)]) i p=(init++[(a,i)])++[(i,i+1)]:=by simp[gstep,hj]
   rw[gfold,hg,ApI ps r (i+1) i (init++[(a,i)]) (by omega) hr'.symm,chunksFrom,hj,BxC hi,hp]
   simp
theorem BaS(ps:List Pa)(h0:∀ p,ps.head? = some p->joins p=false):(groupsL ps).map (cutP ps)=AsR ps:=by
 cases ps with
 | nil=>rfl
 | cons p r =>
  have hg:gstep [] 0 p=[]++[(0,1)]:=by grind[gstep]
  rw[groupsL,gfold,hg,ApI (p::r) r 1 0 [] (by omega) rfl];rfl
def hdP(c:List Pa):Pa:=c.head?.getD pNo
def ownC(name:LU)(ws:List LU)(c:List Pa)(nxt:Option (List Pa)):Bool :=
 BpS (hdP c) name||(((hdP c).kind==2&&(match nxt with|some d=>BpS (hdP d) name|none=>false)) ||
  ((hdP c).kind != 2&&(decide (0<ws.length)&&decide (0<(BtL (AyW (hdP c).text) ws).length))))
def partC(name:LU)(ws:List LU):List (List Pa)->List Pa
 | []=>[]
 | c::r=>(if ownC name ws c r.head? then c else[])++partC name ws r
theorem hd_cut{ps:List Pa}{g:Nat×Nat}(h:g.1<g.2/\g.2<=ps.length):hdP (cutP ps g)=ps.getD g.1 pNo:=by
 grind[hdP,cutP,List.head?_drop]
theorem BxD{ps:List Pa}{gs:List (Nat×Nat)}(hgo:∀ g∈gs,g.1<g.2/\g.2<=ps.length)(name:LU)(ws:List LU){k:Nat}(hk:k<gs.length) :
  ownB ps name ws gs k=ownC name ws (cutP ps gs[k]) ((gs.map (cutP ps)).drop (k+1)).head?:=by
 grind[headP,hd_cut,ownB,ownC,List.head?_drop]
theorem AzA{ps:List Pa}{gs:List (Nat×Nat)}(hgo:∀ g∈gs,g.1<g.2/\g.2<=ps.length)(name:LU)(ws:List LU):∀ (d k:Nat),k+d=gs.length ->
  partTo ps name ws gs gs.length=partTo ps name ws gs k++partC name ws ((gs.map (cutP ps)).drop k)
 | 0,k,h=>by
  grind[List.drop_of_length_le,partC]
 | d+1,k,h=>by
  have hk:k<gs.length:=by omega
  have hk':k<(gs.map (cutP ps)).length:=by grind
  rw[AzA hgo name ws d (k+1) (by omega),lbc hk',partC,partTo,BxD hgo name ws hk]
  grind
theorem A3R(ps:List Pa)(name:LU)(h0:∀ p,ps.head? = some p->joins p=false):partL ps name=partC name (AyW name) (AsR ps):=by
 rw[partL,AzA (BhE ps) name (AyW name) (groupsL ps).length 0 (by omega),BaS ps h0]
 simp[partTo]
def keepC(name:LU)(ws:List LU):List (List Pa)->List (List Pa)
 | []=>[]
 | c::r=>if ownC name ws c r.head? then c::keepC name ws r else keepC name ws r
theorem AsS(name:LU)(ws:List LU):∀ cs,partC name ws cs=(keepC name ws cs).flatten
 | []=>rfl
 | c::r=>by
  rw[partC,keepC,AsS name ws r]
  split <;> simp
def WfC:List Pa->Prop
 | []=>False
 | p::r=>joins p=false/\∀ q∈r,joins q=true
theorem AgL:∀ (ps cur:List Pa),WfC cur->∀ c∈chunksFrom cur ps,WfC c
 | [],cur,h,c,hc=>by
  grind[chunksFrom]
 | p::r,cur,h,c,hc=>by
  rw[chunksFrom]at hc
  split at hc
  .rename_i hj
   refine AgL r (cur++[p]) ?_ c hc
   cases cur with
   | nil=>exact h.elim
   | cons a t=>exact⟨h.1,fun q hq=>by
     rcases List.mem_append.1 hq with hq|hq
     .exact h.2 q hq
     .rw [List.mem_singleton.1 hq]; exact hj⟩
  .rename_i hj
   rcases List.mem_cons.1 hc with rfl|hc
   .exact h
   .exact AgL r [p] ⟨by simpa using hj,by simp⟩ c hc
theorem BhG(ps:List Pa)(h0:∀ p,ps.head? = some p->joins p=false):∀ c∈AsR ps,WfC c:=by
 cases ps with
 | nil=>grind[AsR]
 | cons p r=>exact AgL r [p] ⟨h0 p rfl,by simp⟩
theorem AvN(name:LU)(ws:List LU):∀ cs,∀ c∈keepC name ws cs,c∈cs
 | [],c,h=>by grind[keepC]
 | d::r,c,h=>by
  rw[keepC]at h
  split at h
  .rcases List.mem_cons.1 h with rfl|h
   .simp
   .exact List.mem_cons_of_mem _ (AvN name ws r c h)
  .exact List.mem_cons_of_mem _ (AvN name ws r c h)
theorem AsT:∀ (a b:List Pa)(l e:Int),runL l (a++b)=some e->∃ m,runL l a=some m/\runL m b=some e
 | [],b,l,e,h=>⟨l,rfl,h⟩
 | p::a,b,l,e,h=>by
  simp only[lbb,runL]at h
  split at h
  .rename_i hc
   obtain⟨m,h1,h2⟩:=AsT a b _ e h;exact⟨m,by simp only[runL,if_pos hc]; exact h1,h2⟩
  .cases h
def Free(c:List Pa):Prop:=∀ l,l≠2->l≠3->∃ e,runL l c=some e/\e≠2/\e≠3
theorem join_no{q:Pa}(h:joins q=false):q.kind≠3/\q.kind≠4:=by
 grind[joins]
theorem BhH{q:Pa}{m:Int}(h:joins q=false)(hf:followsL q.kind m=true):m≠2/\m≠3:=by
 grind[join_no,followsL]
theorem BxE{c:List Pa}(hw:WfC c){l m:Int}(h:runL l c=some m)(h2:m≠2)(h3:m≠3):Free c:=by
 cases c with
 | nil=>exact hw.elim
 | cons p t =>
  intro l' a b;simp only[runL]at h |-
  split at h
  .rename_i hc
   obtain⟨k3,k4⟩:=join_no hw.1
   grind[AeT]
  grind
theorem A7U:∀ (cs:List (List Pa))(l e:Int),(∀ c∈cs,WfC c)->runL l cs.flatten=some e->e≠2->e≠3->∀ c∈cs,Free c
 | [],_,_,_,_,_,_,c,hc=>by grind
 | d::r,l,e,hw,h,h2,h3,c,hc=>by
  obtain⟨m,h4,h5⟩:=AsT _ _ _ _ h;have hm:m≠2/\m≠3:=by
   cases r with
   | nil =>
    simp only[List.flatten_nil,runL,lao]at h5;subst h5; exact⟨h2,h3⟩
   | cons f r =>
    have hf:=hw f (by simp)
    cases f with
    | nil=>exact hf.elim
    | cons q t =>
     rw[List.flatten_cons,lbb]at h5;simp only[runL]at h5
     split at h5
     .rename_i hc
      simp at hc
      exact BhH hf.1 hc.2
     .cases h5
  rcases List.mem_cons.1 hc with rfl|hc
  .exact BxE (hw c (by simp)) h4 hm.1 hm.2
  .exact A7U r m e (fun x hx=>hw x (by simp[hx])) h5 h2 h3 c hc
theorem free_run:∀ (cs:List (List Pa))(l:Int),(∀ c∈cs,Free c)->l≠2->l≠3->∃ e,runL l cs.flatten=some e/\e≠2/\e≠3
 | [],l,_,a,b=>⟨l,rfl,a,b⟩
 | c::r,l,h,a,b=>by
  obtain⟨m,h1,h2,h3⟩:=h c (by simp) l a b
  simp_all[free_run,runL_append]
theorem AfD:∀ (ps cur:List Pa),(chunksFrom cur ps).flatten=cur++ps
 | [],cur=>by simp[chunksFrom]
 | p::r,cur=>by
  rw[chunksFrom]
  split
  .rw [AfD r (cur++[p])]; simp
  .rw [List.flatten_cons,AfD r [p]]; simp
theorem BaT(ps:List Pa):(AsR ps).flatten=ps:=by
 cases ps with
 | nil=>rfl
 | cons p r=>exact AfD r [p]
theorem part_run{ps:List Pa}{e:Int}(name:LU)(h:runL 0 ps=some e)(h2:e≠2)(h3:e≠3):∃ e',runL 0 (partL ps name)=some e'/\e'≠2/\e'≠3:=by
 have h0:=BpU h;have hw:=BhG ps h0;have hf:=A7U (AsR ps) 0 e hw (by grind[BaT]) h2 h3;rw[A3R ps name h0,AsS];exact free_run _ 0 (fun c hc=>hf c (AvN name _ _ c hc)) (by decide) (by decide)
end Go.Proofs.YtgenkcmfeeakoaaGreatDoor
namespace Go.Proofs.YtgenkcmfeeakoaaGreatDoor
open Av RowKit
def asideT(t:LU):LU:=40::(t++[41])
def newB(p:Pa):Bl :=
 if p.kind==1 then⟨1,wrapL 60 p.text,[],[]⟩ else if p.kind==5 then⟨2,[turnLine p.text],[],[]⟩ else⟨3,[indent 20 p.text],[0],p.text⟩
def moreB(b:Bl)(p:Pa):Bl:=if p.kind==3 then addB b 1 15 (wrapL 30 (asideT p.text)) else addB b 2 10 (wrapL 35 p.text)
def bstep(s:List Bl×Bl)(p:Pa):List Bl×Bl:=if joins p then(s.1,moreB s.2 p) else(s.1++[s.2],newB p)
def AhF(x:Sc):List Bl×Bl:=x.Ld.foldl bstep ([],⟨0,wrapL 60 (headL x),[],[]⟩)
def blocksL(x:Sc):List Bl:=(AhF x).1++[(AhF x).2]
theorem frz_scB(id e:Nat)(l:LA)(x:Sc):frzC id e l (scA x)=scA x:=rfl
theorem AvO{n id es:Nat}{l:LA}(hid:n<=id){v:AV}(h:lowC n v=true):frz1 id es l v=v:=by
 cases v with
 | sl i off len cap =>
  have hi:=of_decide_eq_true h
  grind[frz1]
 | ptr i off len cap =>
  have hi:=of_decide_eq_true h
  grind[frz1]
 | _=>rfl
theorem A7V{n id es:Nat}{l:LA}(hid:n<=id){r:LA}(h:r.all (lowC n)=true):r.map (frz1 id es l)=r:=by
 conv=>rhs; rw[<- List.map_id r]
 grind[lbg,AvO]
theorem BpW{n id es:Nat}{l:LA}(hid:n<=id){v:AV}(h:lowV n v=true):frz id es l v=v:=by
 cases v with
 | agg r=>simp only[frz,A7V hid (show r.all (lowC n)=true from h)]
 | fn f r=>simp only[frz,A7V hid (show r.all (lowC n)=true from h)]
 | sl i off len cap=>exact AvO hid (show lowC n (.sl i off len cap)=true from h)
 | ptr i off len cap=>exact AvO hid (show lowC n (.ptr i off len cap)=true from h)
 | _=>rfl
theorem ApJ{n id es:Nat}{l:LA}(hid:n<=id){e:Env}:∀ {e':Env},wkl n e e'->wkl n (frzE id es l e) e'
 | [],_=>trivial
 | (t,v)::r,h=>⟨⟨h.1.1,by rw[get_frzE,h.1.2,BpW hid h.1.1]⟩,ApJ hid h.2⟩
theorem low_sc(n:Nat)(x:Sc):lowB n (.arr 5 [scA x])=true:=rfl
section
variable {c:Cx}{e e':Env}
end
theorem BhI(p:Pa):(newB p).kind=3 ↔ ¬ (p.kind=1\/p.kind=5):=by
 grind[newB]
theorem AsU(b:Bl)(p:Pa):(moreB b p).kind=b.kind:=by
 unfold moreB; split <;> rfl
theorem moreB_len(b:Bl)(p:Pa):(moreB b p).Lb.length<=b.Lb.length+p.text.length+4/\(moreB b p).kinds.length<=b.kinds.length+p.text.length+4:=by
 grind[moreB,addB,wrapL_le,asideT]
theorem A7W(p:Pa):(newB p).Lb.length<=p.text.length+4/\(newB p).kinds.length<=1:=by
 grind[wrapL_le,newB]
end Go.Proofs.YtgenkcmfeeakoaaGreatDoor
namespace Go.Proofs.YtgenkcmfeeakoaaGreatDoor
open Av RowKit
theorem ApK:∀ (ps:List Pa)(s:List Bl×Bl)(B:Nat),(∀ b∈s.1++[s.2],b.Lb.length<=B+3000)->(∀ p∈ps,p.text.length<=2000) ->
  (∀ b∈(ps.foldl bstep s).1++[(ps.foldl bstep s).2],b.Lb.length<=B+3000+2100*ps.length)/\((ps.foldl bstep s).1).length<=s.1.length+ps.length
 | [],s,B,h,_=>by grind
 | p::r,s,B,h,hp=>by
  have hstep:(∀ b∈(bstep s p).1++[(bstep s p).2],b.Lb.length<=(B+2100)+3000)/\(bstep s p).1.length<=s.1.length+1:=by
   grind[bstep,moreB_len,A7W]
  obtain⟨h1,h2⟩:=ApK r (bstep s p) (B+2100) hstep.1 (fun q hq=>hp q (by grind));refine⟨fun b hb=>?_,?_⟩<;>grind
theorem AzB{x:Sc}(hp:∀ p∈x.Ld,p.text.length<=2000)(hh:(headL x).length<2000000)(hl:x.Ld.length<=4000):(∀ b∈blocksL x,b.Lb.length<=11000000)/\(blocksL x).length<=4001:=by
 have:=ApK x.Ld ([],⟨0,wrapL 60 (headL x),[],[]⟩) 2000000 (by
  grind[wrapL_le]) hp
 grind[blocksL,AhF]
def gapN(b:Bl):Nat:=if b.kind==0 then 2 else 1
def AlO(b:Bl):List LU:=List.replicate (gapN b) []++b.Lb
def linesL(x:Sc):List LU:=((blocksL x).map AlO).flatten
def linesTo(bs:List Bl)(i:Nat):List LU:=((bs.take i).map AlO).flatten
theorem AzC{bs:List Bl}{i:Nat}(h:i<bs.length):linesTo bs (i+1)=linesTo bs i++List.replicate (gapN bs[i]) []++bs[i].Lb:=by
 grind[linesTo,laf,AlO]
structure LineOk(x:Sc):Prop where
 sc:SceneOk x
 place:1<=x.place/\x.place<=3
 time:1<=x.time/\x.time<=5
 no:x.no.length<1000000
 few:x.Ld.length<=4000
theorem BhJ{x:Sc}(h:SceneOk x):x.set.length<10000:=by
 have:=h.set
 grind[isSetL,properL]
theorem LineOk.head{x:Sc}(h:LineOk x):(headL x).length<2000000:=by
 have l1:=AlN x.place;have l2:=ApH x.time;have l3:=BhJ h.sc;have l4:=h.no
 grind[headL,headLine]
theorem LineOk.bound{x:Sc}(h:LineOk x):(∀ b∈blocksL x,b.Lb.length<=11000000)/\(blocksL x).length<=4001:=by
 obtain⟨e,hr,_,_⟩:=h.sc.run;exact AzB (fun p hp=>AvM (A3Q _ _ _ hr p hp)) h.head h.few
theorem ApL{bs:List Bl}(h:∀ b∈bs,b.Lb.length<=11000000):∀ i,i<=bs.length->(linesTo bs i).length<=11000002*i
 | 0,_=>by simp[linesTo]
 | i+1,hi=>by
  have hl:i<bs.length:=by omega
  have ih:=ApL h i (by omega);have hb:=h bs[i] (lac hl);have hg:gapN bs[i]<=2:=by unfold gapN; split <;> omega
  rw[AzC hl]
  simp
  omega
theorem BhK(x:Sc):linesL x=linesTo (blocksL x) (blocksL x).length:=by grind[linesL,linesTo]
theorem LineOk.Lb{x:Sc}(h:LineOk x):(linesL x).length<=44100000000:=by
 rw[BhK];have:=ApL h.bound.1 _ (lad _);have:=h.bound.2;omega
