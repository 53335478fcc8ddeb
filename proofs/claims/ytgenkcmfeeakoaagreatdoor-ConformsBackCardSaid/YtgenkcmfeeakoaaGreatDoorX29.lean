/- take.Conform: plain words, and the table while takes are carried over. -/
import Derived.Test.YtgenkcmfeeakoaaGreatDoorX28
set_option maxRecDepth 100000
set_option linter.all false
namespace Go.Proofs.YtgenkcmfeeakoaaGreatDoor
open Av RowKit
def psOf(xs ys:List Sc)(no:LU):List (Nat×Nat):=match xs.find? (fun y=>y.no==no),ys.find? (fun y=>y.no==no)with
 | some a,some b=>pairsL (a.Ld.map lnP) (b.Ld.map lnP)
 | _,_=>[]
def confC(ps:List (Nat×Nat))(c:Cv):Option Cv:=(ps.find? fun p=>(p.1:Int)==c.para).map fun p=>⟨p.2,c.inn,c.out,c.on⟩
def AjD(xs ys:List Sc)(t:Tk):Tk:=⟨t.scene,t.setup,t.number,t.roll,t.sound,t.inn,t.out,t.good,t.covers.filterMap (confC (psOf xs ys t.scene))⟩
def confL(xs ys:List Sc)(l:List Tk):List Tk:=(l.filter fun t=>ys.any fun y=>y.no==t.scene).map (AjD xs ys)
def prM(ps:List (Nat×Nat)):List (AV×AV):=ps.map fun p=>(.int .i64 (p.1:Nat),.int .i64 (p.2:Nat))
def keM(m:LU×Nat):AV×AV:=(.str m.1,.mp m.2)
def tkH(j:Nat)(t:Tk):AV:=.agg [.str t.scene,.str t.setup,.int .i64 t.number,.str t.roll,.str t.sound,.int .i64 t.inn,.int .i64 t.out,.bool t.good,.sl j 0 t.covers.length t.covers.length]
def rowH(q:Tk×Nat):AV:=tkH q.2 q.1
theorem BgL{xs:List Sc}(hd:∀ i (h:i<xs.length) j (h2:j<xs.length),xs[i].no=xs[j].no->i=j){i:Nat}(hi:i<xs.length):xs.find? (fun y=>y.no==xs[i].no)=some xs[i]:=by
 rw[List.find?_eq_some_iff_getElem];refine⟨by simp,i,hi,rfl,fun j hj=>?_⟩;have:xs[j].no≠xs[i].no:=fun e=>by have:=hd _ (by omega) _ hi e; omega
 simpa using this
theorem AoY{α:Type}{a b:List α}:∀ {ps:List (Nat×Nat)}{i j:Nat},Rise a b i j ps->ps.Pairwise (fun p q=>p.1<q.1/\p.2<q.2)/\∀ p∈ps,i<=p.1/\j<=p.2/\p.1<a.length/\p.2<b.length
 | [],_,_,_=>⟨.nil,by simp⟩
 | p::r,i,j,h=>by
  obtain⟨h1,h2,h3,h4,_,h6⟩:=h;obtain⟨k1,k2⟩:=AoY h6;refine⟨List.pairwise_cons.2 ⟨fun q hq=>?_,k1⟩,fun q hq=>?_⟩
  .have:=k2 q hq; omega
  .rcases List.mem_cons.1 hq with rfl|hq
   .exact ⟨h1,h2,h3,h4⟩
   .have:=k2 q hq; omega
theorem AvK(key:Int):∀ (ps:List (Nat×Nat))(n:Nat),(mfind (.int .i64) (.int .i64 key) (prM ps) n=some none/\ps.find? (fun p=>(p.1:Int)==key)=none) \/
  ∃ i p,mfind (.int .i64) (.int .i64 key) (prM ps) n=some (some (n+i,.int .i64 (p.2:Nat)))/\ps.find? (fun p=>(p.1:Int)==key)=some p
 | [],n=>.inl ⟨rfl,rfl⟩
 | g::r,n=>by
  simp only[prM,lal,mfind,keyEq,List.find?_cons]
  by_cases hb:key=(g.1:Int)
  .refine .inr ⟨0,g,?_,?_⟩ <;> simp[hb]
  .have hb':(key==(g.1:Int))=false:=by simpa using hb
   have hb2:((g.1:Int)==key)=false:=by simpa using Ne.symm hb
   simp only[hb2]
   rcases AvK key r (n+1)with⟨h,hn⟩|⟨i,g',h1,h2⟩
   .exact .inl ⟨by simpa[hb',prM]using h,hn⟩
   .refine .inr ⟨i+1,g',?_,h2⟩
    simp only[hb'];rw[show n+(i+1)=n+1+i by omega]
    simpa[prM]using h1
theorem A7H(s:LU):∀ (M:List (LU×Nat))(n:Nat),mfind .string (.str s) (M.map keM) n=some none \/
  ∃ i m,mfind .string (.str s) (M.map keM) n=some (some (n+i,.mp m.2))/\m∈M/\m.1=s
 | [],n=>.inl rfl
 | g::r,n=>by
  simp only[lal,keM,mfind,keyEq]
  by_cases hb:s=g.1
  .exact .inr ⟨0,g,by simp[hb],by simp,hb.symm⟩
  .have hb':(s==g.1)=false:=by simpa using hb
   rcases A7H s r (n+1)with h|⟨i,g',h1,h2,h3⟩
   .exact .inl (by simpa[hb']using h)
   .refine .inr ⟨i+1,g',?_,by simp[h2],h3⟩
    simp only[hb'];rw[show n+(i+1)=n+1+i by omega]
    simpa using h1
theorem BoW(s:LU)(a:Nat)(M:List (LU×Nat))(n:Nat)(h:mfind .string (.str s) (M.map keM) n=some none):mfind .string (.str s) ((M++[(s,a)]).map keM) n=some (some (n+M.length,.mp a)):=by
 induction M generalizing n with
 | nil=>simp[keM,mfind,keyEq]
 | cons g r ih =>
  simp only[lal,keM,mfind,keyEq]at h;simp only[lbb,lal,keM,mfind,keyEq]
  by_cases hb:s=g.1
  .simp [hb]at h
  .have hb':(s==g.1)=false:=by simpa using hb
   simp only[hb']at h |-;have:=ih (n+1) (by simpa using h);rw[show n+(g::r).length=n+1+r.length by simp; omega]
   simpa using this
structure ConI(xs ys:List Sc)(M:List (LU×Nat))(R:List (Tk×Nat))(T:LB):Prop where
 h0:T[0]? = some (.mp (scMF 0 xs))
 h1:T[1]? = some (.mp (scMF 0 ys))
 h2:T[2]? = some (.mp (M.map keM))
 h3:T[3]? = some (.arr 9 (R.map rowH))
 maps:∀ m∈M,4<=m.2/\T[m.2]? = some (.mp (prM (psOf xs ys m.1)))
 rows:∀ q∈R,4<=q.2/\T[q.2]? = some (.arr 4 (q.1.covers.map cvA))
 inj:R.Pairwise fun p q=>p.2≠q.2
 low:T.all (lowB T.length)=true
theorem ConI.big{xs ys M R T}(h:ConI xs ys M R T):4<=T.length:=by
 have:=(List.getElem?_eq_some_iff.1 h.h3).1; omega
theorem ConI.mlt{xs ys M R T}(h:ConI xs ys M R T) {m}(hm:m∈M):m.2<T.length:=(List.getElem?_eq_some_iff.1 (h.maps m hm).2).1
theorem ConI.rlt{xs ys M R T}(h:ConI xs ys M R T) {q}(hq:q∈R):q.2<T.length:=(List.getElem?_eq_some_iff.1 (h.rows q hq).2).1
theorem AgK{T:LB}{k:Nat}{b:Blk}(h:T[k]? = some b)(y:Blk):(T++[y])[k]? = some b:=by
 rw[lbf (List.getElem?_eq_some_iff.1 h).1]; exact h
theorem A3C(T:LB)(y:Blk):(T++[y])[T.length]? = some y:=by simp
theorem ConI.more{xs ys M R T}(h:ConI xs ys M R T){y:Blk}(hy:lowB (T.length+1) y=true):ConI xs ys M R (T++[y]) :=
 ⟨AgK h.h0 y,AgK h.h1 y,AgK h.h2 y,AgK h.h3 y,fun m hm=>⟨(h.maps m hm).1,AgK (h.maps m hm).2 y⟩,fun q hq=>⟨(h.rows q hq).1,AgK (h.rows q hq).2 y⟩,h.inj,low_more h.low hy⟩
theorem A3D(n:Nat):∀ ps:List (Nat×Nat),lowB n (.mp (prM ps))=true
 | []=>rfl
 | p::r=>by
  have ih:=A3D n r;simp only[lowB,prM,lal,lat]at ih |-;rw[ih]; rfl
theorem BgM{n:Nat}:∀ {M:List (LU×Nat)},(∀ m∈M,m.2<n)->lowB n (.mp (M.map keM))=true
 | [],_=>rfl
 | m::r,h=>by
  have ih:=BgM (M:=r) fun q hq=>h q (by simp[hq])
  have hm:=h m (by simp);simp only[lowB,lal,lat,keM]at ih |-;rw[ih]
  simpa[lowV,lowC]using hm
theorem A7I{n:Nat}:∀ {R:List (Tk×Nat)},(∀ q∈R,q.2<n)->lowB n (.arr 9 (R.map rowH))=true
 | [],_=>rfl
 | q::r,h=>by
  have ih:=A7I (R:=r) fun p hp=>h p (by simp[hp])
  have hq:=h q (by simp);simp only[lowB,lal,flat,lbo,lae]at ih |-;refine⟨?_,ih⟩
  simp[rowH,tkH,cellsOf,lowC,hq,Av.frozen]
theorem ConI.pair{xs ys M R T}(h:ConI xs ys M R T)(s:LU):ConI xs ys (M++[(s,T.length)]) R ((T++[Blk.mp (prM (psOf xs ys s))]).set 2 (Blk.mp ((M++[(s,T.length)]).map keM))):=by
 have hb:=h.big;have h':=h.more (y:=.mp (prM (psOf xs ys s))) (A3D _ _);refine⟨AdM h'.h0 (by omega) _,AdM h'.h1 (by omega) _,?_,AdM h'.h3 (by omega) _,fun m hm=>?_,fun q hq=>⟨(h'.rows q hq).1,AdM (h'.rows q hq).2 (by have:=(h'.rows q hq).1; omega) _⟩,h.inj,?_⟩
 .rw [List.getElem?_set_self (by simp; omega)]
 .rcases List.mem_append.1 hm with hm|hm
  .exact ⟨(h'.maps m hm).1,AdM (h'.maps m hm).2 (by have:=(h'.maps m hm).1; omega) _⟩
  .rw [List.mem_singleton.1 hm]
   exact⟨hb,by rw[lbm (by simp only; omega)]; exact A3C _ _⟩
 .refine low_set h'.low (BgM fun m hm=>?_)
  rw[lah,List.length_singleton]
  rcases List.mem_append.1 hm with hm|hm
  .have:=h.mlt hm; omega
  .rw [List.mem_singleton.1 hm]; simp only; omega
theorem ConI.row{xs ys M R T}(h:ConI xs ys M R T)(t:Tk){k:Nat}(hk:4<=k)(hkl:k<T.length)(hm:∀ m∈M,m.2≠k)(hr:∀ q∈R,q.2≠k) :
  ConI xs ys M (R++[(t,T.length)]) (((T++[Blk.arr 4 (t.covers.map cvA)]).set k (Blk.arr 9 [tkH T.length t])).set 3 (Blk.arr 9 ((R++[(t,T.length)]).map rowH))):=by
 have hb:=h.big;have h':=h.more (y:=.arr 4 (t.covers.map cvA)) (AaD (AgR t.covers));refine⟨AdM (AdM h'.h0 (by omega) _) (by omega) _,AdM (AdM h'.h1 (by omega) _) (by omega) _,AdM (AdM h'.h2 (by omega) _) (by omega) _,?_,fun m hm'=>?_,fun q hq=>?_,?_,?_⟩
 .rw [List.getElem?_set_self (by simp; omega)]
 .exact ⟨(h'.maps m hm').1,AdM (AdM (h'.maps m hm').2 (Ne.symm (hm m hm')) _) (by have:=(h'.maps m hm').1; omega) _⟩
 .rcases List.mem_append.1 hq with hq|hq
  .exact ⟨(h'.rows q hq).1,AdM (AdM (h'.rows q hq).2 (Ne.symm (hr q hq)) _) (by have:=(h'.rows q hq).1; omega) _⟩
  .rw [List.mem_singleton.1 hq]
   refine⟨hb,?_⟩;simp only;rw[lbm (by omega),lbm (by omega)];exact A3C _ _
 .rw [List.pairwise_append]
  exact⟨h.inj,List.pairwise_singleton ..,fun a ha b hb=>by rw[List.mem_singleton.1 hb]; have:=h.rlt ha; simp only; omega⟩
 .refine low_set (low_set h'.low ?_) (A7I fun q hq=>?_)
  .rw [lah,List.length_singleton]
   simp[lowB,flat,tkH,cellsOf,lowC,Av.frozen]
  .rw [List.length_set,lah,List.length_singleton]
   rcases List.mem_append.1 hq with hq|hq
   .have:=h.rlt hq; omega
   .rw [List.mem_singleton.1 hq]; simp only; omega
theorem gd_e0(A:LB)(x y d:Blk):((A++[x])++[y]).getD A.length d=x:=by simp[List.getD]
theorem gd_e1(A:LB)(x y d:Blk):((A++[x])++[y]).getD (A.length+1) d=y:=by simp[List.getD]
theorem st_e0(A:LB)(x y z:Blk):((A++[x])++[y]).set A.length z=(A++[z])++[y]:=by simp
theorem st_e1(A:LB)(x y z:Blk):((A++[x])++[y]).set (A.length+1) z=(A++[x])++[z]:=by simp
theorem A3E{T:LB}{k:Nat}{b:Blk}(h:T[k]? = some b)(x y:Blk):((T++[x])++[y]).getD k .dead=b:=gd_app (AgK h x) y
theorem shC_scMF(k:Nat):∀ (l:List Sc)(n:Nat),(scMF n l).map (fun x=>(x.1,shC k x.2))=scMF n l
 | [],_=>rfl
 | y::r,n=>by simp only[scMF,lal,shC_scMF k r (n+1)]; rfl
theorem AlK:∀ x:LU,bytesLess x x=false
 | []=>rfl
 | a::x=>by simp[bytesLess,AlK x]
theorem AyN:∀ {x y:LU},bytesLess x y=true->bytesLess y x=false
 | [],[],h=>by simp[bytesLess]at h
 | [],_::_,_=>by simp[bytesLess]
 | _::_,[],h=>by simp[bytesLess]at h
 | a::x,b::y,h=>by
  simp only[bytesLess,lbj,lag,lae,lbr]at h;simp only[bytesLess,lch,lai,Bool.and_eq_false_imp,lbr]
  rcases h with h|⟨rfl,h⟩
  .exact ⟨UInt8.lt_asymm h,fun e=>by subst e; exact(UInt8.lt_irrefl _ h).elim⟩
  .exact ⟨UInt8.lt_irrefl _,fun _=>AyN h⟩
theorem AyO:∀ {x y:LU},bytesLess x y=false->bytesLess y x=false->x=y
 | [],[],_,_=>rfl
 | _::_,[],_,h=>by simp[bytesLess]at h
 | [],b::y,h,_=>by simp[bytesLess]at h
 | a::x,b::y,h,h'=>by
  simp only[bytesLess,lch,lai,Bool.and_eq_false_imp,lbr]at h h';have e:a=b:=UInt8.le_antisymm (UInt8.not_lt.1 h'.1) (UInt8.not_lt.1 h.1);subst e;rw[AyO (h.2 rfl) (h'.2 rfl)]
theorem BaH(x y:LU):cmpB y x=- cmpB x y:=by
 unfold cmpB
 cases h1:bytesLess x y with
 | true =>
  have h2:=AyN h1;have h3:¬ y=x:=fun e=>by subst e; rw[AlK]at h1; cases h1
  simp[h2,h3]
 | false =>
  cases h2:bytesLess y x with
  | true =>
   have h3:¬ x=y:=fun e=>by subst e; rw[AlK]at h2; cases h2
   simp[h3]
  | false =>
   have:=AyO h1 h2;subst this
   simp
theorem BaI{x y:LU}(h:cmpB x y=0):x=y:=by
 unfold cmpB at h
 split at h
 .omega
 .split at h
  .assumption
  .omega
theorem AsJ:∀ a b:List LU,cmpL b a=- cmpL a b
 | [],[]=>rfl
 | [],_::_=>rfl
 | _::_,[]=>rfl
 | x::a,y::b=>by
  rw[cmpL,cmpL,BaH x y]
  by_cases h:cmpB x y=0
  .rw [if_pos h,if_pos (by omega),AsJ a b]
  .rw [if_neg h,if_neg (by omega)]
theorem AsK:∀ {a b:List LU},cmpL a b=0->a=b
 | [],[],_=>rfl
 | [],_::_,h=>by simp[cmpL]at h
 | _::_,[],h=>by simp[cmpL]at h
 | x::a,y::b,h=>by
  rw[cmpL]at h
  split at h
  .rename_i h1
   rw[BaI h1,AsK h]
  .rename_i h1; exact(h1 h).elim
theorem BgN(l:List (Nat×Nat)):(l.map swpP).map swpP=l:=by
 rw[lbi];have:(swpP∘swpP)=id:=rfl;rw[this,List.map_id]
theorem AyP(a b:List LU):pairsL b a=(pairsL a b).map swpP:=by
 have hs:=AsJ a b;unfold pairsL
 by_cases h:cmpL a b<=0
 .rw [if_pos h]
  by_cases h':cmpL b a<=0
  .have:a=b:=AsK (by omega)
   subst this;rw[if_pos h',keptL_self,A7D]
  .rw [if_neg h']
 .rw [if_neg h,if_pos (by omega),BgN]
theorem BgO(xs ys:List Sc)(no:LU):psOf ys xs no=(psOf xs ys no).map swpP:=by
 unfold psOf
 cases xs.find? (fun y=>y.no==no) <;> cases ys.find? (fun y=>y.no==no) <;> first|rfl|exact AyP _ _
def UpP(ps:List (Nat×Nat)):Prop:=ps.Pairwise (fun p q=>p.1<q.1/\p.2<q.2)
theorem BgP(xs ys:List Sc)(no:LU):UpP (psOf xs ys no):=by
 unfold psOf
 cases h1:xs.find? (fun y=>y.no==no) <;> cases h2:ys.find? (fun y=>y.no==no) <;> first|exact .nil|exact(AoY (AgJ _ _)).1
theorem UpP.inj1{ps:List (Nat×Nat)}(h:UpP ps){p q:Nat×Nat}(hp:p∈ps)(hq:q∈ps)(e:p.1=q.1):p=q:=by
 induction ps with
 | nil=>cases hp
 | cons a r ih =>
  obtain⟨h1,h2⟩:=List.pairwise_cons.1 h
  rcases List.mem_cons.1 hp with rfl|hp' <;> rcases List.mem_cons.1 hq with rfl|hq'
  .rfl
  .have:=h1 q hq'; omega
  .have:=h1 p hp'; omega
  .exact ih h2 hp' hq'
theorem UpP.mono{ps:List (Nat×Nat)}(h:UpP ps){p q:Nat×Nat}(hp:p∈ps)(hq:q∈ps)(e:p.1<q.1):p.2<q.2:=by
 induction ps with
 | nil=>cases hp
 | cons a r ih =>
  obtain⟨h1,h2⟩:=List.pairwise_cons.1 h
  rcases List.mem_cons.1 hp with rfl|hp' <;> rcases List.mem_cons.1 hq with rfl|hq'
  .omega
  .exact (h1 q hq').2
  .have:=h1 p hp'; omega
  .exact ih h2 hp' hq'
theorem UpP.swp{ps:List (Nat×Nat)}(h:UpP ps):UpP (ps.map swpP):=by
 unfold UpP at h |-;rw[List.pairwise_map];exact h.imp fun x=>⟨x.2,x.1⟩
theorem AfQ{ps:List (Nat×Nat)}{c d:Cv}(h:confC ps c=some d):∃ p∈ps,(p.1:Int)=c.para/\d=⟨p.2,c.inn,c.out,c.on⟩:=by
 unfold confC at h;obtain⟨p,h1,h2⟩:=Option.map_eq_some_iff.1 h;exact⟨p,lcr h1,by simpa using List.find?_some h1,h2.symm⟩
theorem BoX{ps:List (Nat×Nat)}(hu:UpP ps){p:Nat×Nat}(hp:p∈ps){c:Cv}(hc:(p.1:Int)=c.para):confC ps c=some ⟨p.2,c.inn,c.out,c.on⟩:=by
 unfold confC
 cases hq:ps.find? (fun p=>(p.1:Int)==c.para)with
 | none=>have:=List.find?_eq_none.1 hq p hp; simp[hc]at this
 | some q =>
  have h1:=lcr hq;have h2:(q.1:Int)=c.para:=by simpa using List.find?_some hq
  rw[hu.inj1 h1 hp (by omega)];rfl
theorem BaJ{ps:List (Nat×Nat)}(hu:UpP ps){c d:Cv}(h:confC ps c=some d):confC (ps.map swpP) d=some c:=by
 obtain⟨p,hp,hc,rfl⟩:=AfQ h;rw[BoX hu.swp (List.mem_map.2 ⟨p,hp,rfl⟩) (c:=⟨(p.2:Nat),c.inn,c.out,c.on⟩) rfl];simp only[swpP];rw[hc]
theorem A3F{ps:List (Nat×Nat)}(hu:UpP ps):∀ cs:List Cv,(cs.filterMap (confC ps)).filterMap (confC (ps.map swpP))=cs.filter fun c=>(confC ps c).isSome
 | []=>rfl
 | c::r=>by
  cases h:confC ps c with
  | none=>simp[List.filterMap_cons,h,List.filter_cons,A3F hu r]
  | some d=>simp[List.filterMap_cons,h,List.filter_cons,A3F hu r,BaJ hu h]
theorem AoZ{ps:List (Nat×Nat)}:∀ cs:List Cv,(cs.filter fun c=>(confC ps c).isSome).filterMap (confC ps)=cs.filterMap (confC ps)
 | []=>rfl
 | c::r=>by
  cases h:confC ps c with
  | none=>simp[List.filterMap_cons,h,List.filter_cons,AoZ r]
  | some d=>simp[List.filterMap_cons,h,List.filter_cons,AoZ r]
theorem AsL(xs ys:List Sc)(t:Tk):AjD ys xs (AjD xs ys t)={ t with covers:=t.covers.filter fun c=>(confC (psOf xs ys t.scene) c).isSome }:=by
 simp only[AjD];rw[BgO xs ys,A3F (BgP xs ys _)]
theorem A3G(xs ys:List Sc)(t:Tk):AjD xs ys (AjD ys xs (AjD xs ys t))=AjD xs ys t:=by
 have h:=AsL xs ys t;rw[h];simp only[AjD];rw[AoZ]
def InS(xs:List Sc)(l:List Tk):Prop:=∀ t∈l,xs.any (fun y=>y.no==t.scene)=true
theorem AkB{xs ys:List Sc}{l:List Tk}(h:InS ys l):confL xs ys l=l.map (AjD xs ys):=by
 unfold confL;rw[List.filter_eq_self.2 h]
theorem inS_y(xs ys:List Sc)(l:List Tk):InS ys (confL xs ys l):=fun t ht=>by
 obtain⟨u,hu,rfl⟩:=List.mem_map.1 ht;exact(List.mem_filter.1 hu).2
theorem BoY{xs ys:List Sc}{l:List Tk}(h:InS xs l):InS xs (confL xs ys l):=fun t ht=>by
 obtain⟨u,hu,rfl⟩:=List.mem_map.1 ht;exact h u (List.mem_filter.1 hu).1
theorem BwP{xs ys:List Sc}{l:List Tk}(h:InS xs l):confL ys xs (confL xs ys l)=(l.filter fun t=>ys.any fun y=>y.no==t.scene).map fun t=>{ t with covers:=t.covers.filter fun c=>(confC (psOf xs ys t.scene) c).isSome }:=by
 rw[AkB (BoY h)];unfold confL;rw[lbi];exact lbg fun t _=>AsL xs ys t
theorem BoZ{xs ys:List Sc}{l:List Tk}(h:InS xs l):confL xs ys (confL ys xs (confL xs ys l))=confL xs ys l:=by
 have h1:InS ys (confL ys xs (confL xs ys l)):=fun t ht=>by
  rw[AkB (BoY h)]at ht;obtain⟨u,hu,rfl⟩:=List.mem_map.1 ht;exact inS_y xs ys l u hu
 rw[AkB h1,AkB (BoY h)];unfold confL;rw[lbi,lbi];exact lbg fun t _=>A3G xs ys t
theorem BpA{xs ys:List Sc}{l:List Tk}(h:InS xs l):(confL ys xs (confL xs ys l)).length=(confL xs ys l).length:=by
 rw[AkB (BoY h),laa]
theorem BpB{xs ys:List Sc}{l:List Tk}(h:InS xs l){t:Tk}(ht:t∈confL ys xs (confL xs ys l)):∃ u∈l,t.scene=u.scene/\t.setup=u.setup/\t.number=u.number/\∀ c∈t.covers,c∈u.covers:=by
 rw[BwP h]at ht;obtain⟨u,hu,rfl⟩:=List.mem_map.1 ht;exact⟨u,(List.mem_filter.1 hu).1,rfl,rfl,rfl,fun c hc=>(List.mem_filter.1 hc).1⟩
def BpC(t:Tk)(np:Nat):Prop:=t.covers.Pairwise (fun p c=>p.para<c.para/\p.out<=c.inn)/\∀ c∈t.covers,(0<=c.para/\c.para<np)/\t.inn<=c.inn/\c.inn<c.out/\c.out<=t.out
theorem B0Q{t:Tk}{np:Nat}(h:∀ j c,t.covers[j]? = some c->CvAt t np j c):BpC t np:=by
 have hall:∀ c∈t.covers,(0<=c.para/\c.para<np)/\t.inn<=c.inn/\c.inn<c.out/\c.out<=t.out:=fun c hc=>by
  obtain⟨j,hj⟩:=List.mem_iff_getElem?.1 hc;have:=h j c hj;exact⟨this.1,this.2.2⟩
 refine⟨?_,hall⟩;rw[lcc];intro i j hi hj hij;have step:∀ (n:Nat) (hn:i+n+1<t.covers.length),(t.covers[i]).para<(t.covers[i+n+1]).para/\(t.covers[i]).out<=(t.covers[i+n+1]).inn:=by
  intro n
  induction n with
  | zero =>
   intro hn;exact(h (i+1) _ (lab hn)).2.1 (by omega) _ (by rw[lcf]; exact lab (by omega))
  | succ n ih =>
   intro hn;have h1:=ih (by omega);have h2:=(h (i+(n+1)+1) _ (lab hn)).2.1 (by omega) (t.covers[i+n+1]) (by rw[lcf]; exact lab (by omega));have h3:=(hall _ (lac (show i+n+1<t.covers.length by omega))).2;omega
 have:=step (j-i-1) (by omega);have e:i+(j-i-1)+1=j:=by omega
 simpa only [e]using this
theorem B0R{t:Tk}{np:Nat}(h:BpC t np):∀ j c,t.covers[j]? = some c->CvAt t np j c:=fun j c hj=>by
 have h1:=h.2 c (lar hj);refine⟨h1.1,fun h0 p hp=>?_,h1.2⟩;obtain⟨a1,a2⟩:=List.getElem?_eq_some_iff.1 hj;obtain⟨b1,b2⟩:=List.getElem?_eq_some_iff.1 hp;have:=List.pairwise_iff_getElem.1 h.1 (j-1) j b1 a1 (by omega);rw[a2,b2]at this;exact this
theorem BpD{t:Tk}{np nq:Nat}{ps:List (Nat×Nat)}(hu:UpP ps)(hb:∀ p∈ps,p.2<nq)(h:BpC t np):BpC { t with covers:=t.covers.filterMap (confC ps) } nq:=by
 refine⟨?_,fun c hc=>?_⟩
 .refine List.Pairwise.filterMap _ (fun a b hab c hc d hd=>?_) h.1
  obtain⟨p,hp,e1,rfl⟩:=AfQ hc;obtain⟨q,hq,e2,rfl⟩:=AfQ hd;have:=hu.mono hp hq (by omega);exact⟨by simp only; omega,hab.2⟩
 .obtain ⟨a,ha,hc⟩:=List.mem_filterMap.1 hc
  obtain⟨p,hp,e1,rfl⟩:=AfQ hc;have h2:=h.2 a ha;have:=hb p hp;exact⟨⟨by simp only; omega,by simp only; omega⟩,h2.2⟩
def A3H(l:List Tk):Prop:=l.Pairwise fun a t=>dupB t a=false/\busyB t a=false
theorem A7J{x:Sr}{r:Rl}{l:List Tk}(h:TakesOk x r l):A3H l:=by
 unfold A3H;rw[lcc];intro i j hi hj hij;have t:=h.at' j _ (lab hj);have hm:l[i]∈l.take j:=List.mem_take_iff_getElem.2 ⟨i,by omega,rfl⟩;have h1:=List.any_eq_false.1 t.dup _ hm;have h2:=List.any_eq_false.1 t.busy _ hm;exact⟨by simpa using h1,by simpa using h2⟩
theorem BpE{l:List Tk}(h:A3H l){k:Nat}{t:Tk}(hk:l[k]? = some t):(l.take k).any (dupB t)=false/\(l.take k).any (busyB t)=false:=by
 obtain⟨h1,h2⟩:=List.getElem?_eq_some_iff.1 hk;have key:∀ a∈l.take k,dupB t a=false/\busyB t a=false:=fun a ha=>by
  obtain⟨i,hi,rfl⟩:=List.mem_take_iff_getElem.1 ha;have:=List.pairwise_iff_getElem.1 h i k (by omega) h1 (by omega);rw[h2]at this;exact this
 exact⟨List.any_eq_false.2 fun a ha=>by simp[(key a ha).1],List.any_eq_false.2 fun a ha=>by simp[(key a ha).2]⟩
theorem BaK{xs ys:List Sc}{l:List Tk}(h:A3H l):A3H (confL xs ys l):=by
 unfold confL A3H;rw[List.pairwise_map];exact(List.Pairwise.filter _ h).imp fun x=>x
theorem AmB{x:Sr}{no:LU}{i:Nat}(h:AcO x no=(i:Nat)):∃ (hi:i<x.Lc.length),x.Lc.find? (fun y=>y.no==no)=some x.Lc[i]/\no≠[]:=by
 unfold AcO idxH at h
 cases hq:x.Lc.findIdx? (fun y=>y.no==no&&no != [])with
 | none=>rw[hq]at h; simp only at h; omega
 | some k =>
  rw[hq]at h;have e:k=i:=by simp only at h; omega
  subst e;obtain⟨h1,h2,h3⟩:=List.findIdx?_eq_some_iff_getElem.1 hq;simp only[lae,bne_iff_ne,ne_eq,lbr]at h2;refine⟨h1,?_,h2.2⟩;rw[List.find?_eq_some_iff_getElem];refine⟨by simp[h2.1],k,h1,rfl,fun j hj=>?_⟩;have:=h3 j hj;simp only[lae,bne_iff_ne,ne_eq,lbr,not_and,Decidable.not_not]at this;have k1:¬ (x.Lc[j].no=no):=fun e=>h2.2 (this e)
  simpa using k1
theorem A3I{y:Sr}{no:LU}(h:y.Lc.any (fun z=>z.no==no)=true)(hn:no≠[]):0<=AcO y no:=by
 unfold AcO idxH
 cases hq:y.Lc.findIdx? (fun y=>y.no==no&&no != [])with
 | none =>
  exfalso
  obtain⟨z,hz,h1⟩:=List.any_eq_true.1 h;have:=List.findIdx?_eq_none_iff.1 hq z hz
  simp[h1,hn]at this
 | some k=>simp only; omega
theorem BwQ{xs:List Sc}{y:Sr}{no:LU}{i:Nat}(hi:i<y.Lc.length)(hf:y.Lc.find? (fun z=>z.no==no)=some y.Lc[i]):∀ p∈psOf xs y.Lc no,p.2<y.Lc[i].Ld.length:=by
 intro p hp;unfold psOf at hp;rw[hf]at hp
 cases hx:xs.find? (fun y=>y.no==no)with
 | none=>rw[hx]at hp; simp at hp
 | some z =>
  rw[hx]at hp;have:=((AoY (AgJ _ _)).2 p hp).2.2.2
  simpa using this
theorem BaL{x y:Sr}{r:Rl}{l:List Tk}(h:TakesOk x r l):TakesOk y r (confL x.Lc y.Lc l):=by
 refine⟨?_,fun k t' hk=>?_⟩
 .have:=h.len
  have h2:(confL x.Lc y.Lc l).length<=l.length:=by
   unfold confL; rw[laa]; exact List.length_filter_le _ _
  omega
 .obtain ⟨a1,a2⟩:=BpE (BaK (xs:=x.Lc) (ys:=y.Lc) (A7J h)) hk
  have hm:=lar hk;obtain⟨t,htf,rfl⟩:=List.mem_map.1 hm;obtain⟨ht1,ht2⟩:=List.mem_filter.1 htf;obtain⟨k0,hk0⟩:=List.mem_iff_getElem?.1 ht1;have h0:=h.at' k0 t hk0;obtain⟨i0,hi0,e0⟩:∃ i0:Nat,i0<x.Lc.length/\AcO x t.scene=(i0:Nat):=by
   rcases AiB x t.scene with hb|hb
   .have:=h0.scene; omega
   .obtain ⟨i,hi,e⟩:=hb; exact⟨i,hi,e⟩
  obtain⟨_,hf0,hne⟩:=AmB e0;refine⟨A3I ht2 hne,a1,h0.hold,a2,fun i hi e=>?_⟩;obtain⟨hi',hf,_⟩:=AmB (x:=y) (no:=t.scene) e;exact B0R (BpD (BgP _ _ _) (BwQ hi hf) (B0Q fun j c hj=>h0.cov i0 hi0 e0 j c hj))
theorem BpF{xs ys:List Sc}{no:LU}(h:∀ z∈ys,z.Ld.length<=60):∀ p∈psOf xs ys no,p.2<60:=by
 intro p hp;unfold psOf at hp
 cases hx:xs.find? (fun y=>y.no==no)with
 | none=>rw[hx]at hp; simp at hp
 | some z =>
  cases hy:ys.find? (fun y=>y.no==no)with
  | none=>rw[hx,hy]at hp; simp at hp
  | some u =>
   rw[hx,hy]at hp;have h1:=((AoY (AgJ _ _)).2 p hp).2.2.2;have h2:=h u (lcr hy)
   simp at h1
   omega
theorem BpG{xs ys:List Sc}{r:Rl}{l:List Tk}(hy:∀ z∈ys,z.Ld.length<=60)(h:∀ t∈l,TkB r t):∀ t∈confL xs ys l,TkB r t:=by
 intro t' ht;obtain⟨t,htf,rfl⟩:=List.mem_map.1 ht;have b:=h t (List.mem_filter.1 htf).1;refine⟨b.setup,b.number,b.roll,b.sound,b.good,b.inn,b.out,?_,fun c hc=>?_,b.scene⟩
 .have h1:=b.len
  have h2:(t.covers.filterMap (confC (psOf xs ys t.scene))).length<=t.covers.length:=List.length_filterMap_le _ _;simp only[AjD]; omega
 .obtain ⟨a,ha,hc⟩:=List.mem_filterMap.1 hc
  obtain⟨p,hp,e1,rfl⟩:=AfQ hc;have h1:=b.cov a ha;have h2:=BpF hy p hp;exact⟨⟨by simp only; omega,by simp only; omega⟩,h1.inn,h1.out⟩
end Go.Proofs.YtgenkcmfeeakoaaGreatDoor
namespace Go.Av
open RowKit
variable [Tr]
theorem CtH.liftN{P:Program}{g:Std}{f:FuncId}{args:LA}{post:AV->LB->Prop}(hc:CtH P g f args [] post)(ha:args.all nr1=true)(hmp:∀ r s',post r s'->s'.all mpOk=true)
  (s:LB):CtH P g f args s (fun r2 s2=>∃ r s',post r s'/\r2=shV s.length r/\s2=s++s'.map (shB s.length)):=by
 refine⟨hc.1,fun h ρ w vs hg m r=>?_⟩;have hm0:Mine h (fun _=>none) [] w:=⟨m.mem,fun id blk e=>by simp at e,fun _ _=>rfl,fun i j g t t' e=>by simp at e,fun i g t e=>by simp at e⟩;refine(hc.2 h (fun _=>none) w vs (fun k o e=>⟨(hg k o e).1,fun i t x=>by cases x⟩) hm0 ((AjN (Lf':=Lf0) r ha).thaw (fun _ _ _ x=>x))).mono ?_;rintro en w' ⟨v,r,s1,h',ρ1,rfl,hpost,m',lt,rv⟩;have hgood:∀ i g t,ρ1 i=some (g,t)->w.heap.size<=g:=fun i g t e=>by
  rcases lt.newown i g t e with⟨j,t',hj⟩|h
  .cases hj
  .exact h
 have hblk:∀ k,k<w.heap.size->w'.heap[k]? = w.heap[k]?:=fun k hk=>lt.block k hk (fun i t e=>by cases e)
 have hnew:∀ b o,h b o=none->h' b o≠none->w.heap.size<=b:=fun b o e n=>by
  rcases lt.hnew b o e n with⟨j,t',hj⟩|h
  .cases hj
  .exact h
 obtain⟨ρ2,hρ2⟩:∃ ρ2:Own,ρ2=fun k=>if k<s.length then ρ k else ρ1 (k-s.length):=⟨_,rfl⟩
 have hlo:∀ i,i<s.length->ρ2 i=ρ i:=fun i hi=>by rw[hρ2]; simp[hi]
 have hhi:∀ i,ρ2 (i+s.length)=ρ1 i:=fun i=>by
  rw[hρ2]
  show(if i+s.length<s.length then ρ (i+s.length) else ρ1 (i+s.length-s.length))=_
  rw[if_neg (by omega),lcf]
 have hkeep:∀ v a,Lf ρ s v a->Lf ρ2 (s++s1.map (shB s.length)) v a:=fun v a x=>BsZ hlo x
 have hst:∀ id,(s++s1.map (shB s.length))[id+s.length]? = (s1[id]?).map (shB s.length):=fun id=>by
  rw[lcg (by omega),lcf,lby]
 have hown:∀ i g t,ρ2 i=some (g,t)->(i<s.length/\ρ i=some (g,t)/\g<w.heap.size)\/(s.length<=i/\ρ1 (i-s.length)=some (g,t)/\w.heap.size<=g):=fun i g t e=>by
  by_cases hi:i<s.length
  .rw [hlo i hi]at e
   exact .inl ⟨hi,e,m.lt e⟩
  .have e2:ρ2 i=ρ1 (i-s.length):=by rw[<- hhi]; congr 1; omega
   rw[e2]at e;exact .inr ⟨by omega,e,hgood _ g t e⟩
 refine⟨v,_,_,h',ρ2,rfl,⟨r,s1,hpost,rfl,rfl⟩,⟨m'.mem,?_,?_,?_,?_⟩,⟨lt.hle,fun b o e n=>.inr (hnew b o e n),hkeep,lt.os,lt.tape,lt.output,lt.size,fun k hk _=>hblk k hk,?_⟩,BsY hst hhi rv⟩
 .intro i blk e
  by_cases hi:i<s.length
  .rw [lbf hi]at e
   exact(m.own i blk e).mono lt.hle hkeep (hlo i hi) (fun g t hg=>hblk g (m.lt hg))
  .obtain ⟨j,rfl⟩:∃ j,i=j+s.length:=⟨i-s.length,by omega⟩
   rw[hst]at e
   cases hb:s1[j]? with
   | none=>rw[hb]at e; cases e
   | some b =>
    rw[hb]at e;simp only[lcp,lao]at e;subst e;have o:=m'.own j b hb;have hmb:=List.all_eq_true.1 (hmp _ _ hpost) b (lar hb)
    cases b with
    | arr es l =>
     rcases o with⟨h1,h2⟩|⟨g,tot,cur,t,h1,h2,h3,h4,h5,h6,h7,h8,h9⟩
     .exact .inl ⟨by simp[h1],(hhi j).trans h2⟩
     .refine .inr ⟨g,tot,cur,t,(hhi j).trans h1,h2,h3,by simpa using h4,h5,h6,?_,h8,?_⟩
      .intro x hx
       obtain⟨y,hy,rfl⟩:=List.mem_map.1 hx;rw[shC_cells,laa];exact h7 y hy
      .rw [shC_flat,laa]
       exact AoH hst hhi h9
    | mp es =>
     obtain⟨g,en,cl,h1,h2,h3,h4,h5⟩:=o;refine⟨g,en,cl,(hhi j).trans h1,h2,by rw[lvs_map]; simpa using h3,fun k x y hx hy=>?_,h5.map _⟩;rw[lvs_map,lby]at hx;obtain⟨x',hx',rfl⟩:=Option.map_eq_some_iff.1 hx;obtain⟨p,q⟩:=h4 k x' y hx' hy;exact⟨p.thaw (fun _ _ _ x=>x),A2N hst hhi q⟩
    | it mid n seen=>cases hmb
    | dead=>exact(hhi j).trans o
 .intro i hi
  simp at hi
  have e2:ρ2 i=ρ1 (i-s.length):=by rw[<- hhi]; congr 1; omega
  rw[e2];exact m'.out _ (by omega)
 .intro i j g t t' hi hj
  rcases hown i g t hi with⟨a1,a2,a3⟩|⟨a1,a2,a3⟩ <;> rcases hown j g t' hj with⟨b1,b2,b3⟩|⟨b1,b2,b3⟩
  .exact m.inj i j g t t' a2 b2
  .omega
  .omega
  .have:=m'.inj _ _ g t t' a2 b2
   omega
 .intro i g t e o
  rcases hown i g t e with⟨a1,a2,a3⟩|⟨a1,a2,a3⟩
  .cases hq:h' g o with
   | none=>rfl
   | some z =>
    have:=hnew g o (m.disj i g t a2 o) (by rw[hq]; simp);omega
  .exact m'.disj _ g t a2 o
 .intro i g t e
  rcases hown i g t e with⟨a1,a2,a3⟩|⟨a1,a2,a3⟩
  .exact .inl ⟨i,t,a2⟩
  .exact .inr a3
