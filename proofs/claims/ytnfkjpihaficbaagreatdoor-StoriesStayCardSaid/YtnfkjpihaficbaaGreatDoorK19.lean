/- Texts without blanks at their ends and without two blanks next to each other: plain law. -/
import Derived.Test.YtnfkjpihaficbaaGreatDoorK18
import Derived.Lib.AtoiErrMem
import Derived.Lib.AppendIntMem
set_option linter.unusedSimpArgs false
set_option linter.unusedVariables false
namespace Go.Proofs.YtnfkjpihaficbaaGreatDoor
open Go Go.Av Go.RowKit _root_.Go.Proofs.Tryz
def noDbl:List UInt8->Bool
 | a::b::r=>!(a==32&&b==32)&&noDbl (b::r)
 | _=>true
structure TextOk(p:UInt8->Bool)(t:List UInt8):Prop where
 ne:t≠[]
 all:t.all p=true
 dbl:noDbl t=true
 hd:t.head?≠some 32
 lst:t.getLast?≠some 32
theorem AtN:∀ t:List UInt8,noDbl t=true->Lib.index t [32,32]=-1
 | [],_=>rfl
 | [a],_=>by
  have h:([32,32]:List UInt8).isPrefixOf [a]=false:=by simp[List.isPrefixOf]
  simp only[Lib.index,h,if_false,Bool.false_eq_true];rfl
 | a::b::r,h=>by
  simp only[noDbl,Bool.and_eq_true,Bool.not_eq_true']at h;have h1:([32,32]:List UInt8).isPrefixOf (a::b::r)=false:=by
   cases hq:([32,32]:List UInt8).isPrefixOf (a::b::r)with
   | false=>rfl
   | true =>
    simp[List.isPrefixOf]at hq
    obtain⟨rfl,rfl⟩:=hq
    simp at h
  rw[Lib.index];simp only[h1,Bool.false_eq_true,if_false];rw[AtN (b::r) h.2];rfl
theorem A6J{t:List UInt8}(h:t.head?≠some 32):Lib.hasPrefix t [32]=false:=by
 cases t with
 | nil=>rfl
 | cons a r =>
  simp only[Lib.hasPrefix,List.isPrefixOf,Bool.and_true]
  simp at h
  simpa using fun e=>h e.symm
theorem A6K{t:List UInt8}(h:t.getLast?≠some 32):Lib.hasSuffix t [32]=false:=by
 unfold Lib.hasSuffix
 cases hq:([32]:List UInt8).isSuffixOf t with
 | false=>rfl
 | true =>
  rw[List.isSuffixOf_iff_suffix]at hq;obtain⟨r,rfl⟩:=hq
  simp at h
theorem AzM{p:UInt8->Bool}{t:List UInt8}(hp:∀ c,p c=true->okB c=true)(h:TextOk p t):plainL t=true:=by
 have h1:t.all okB=true:=by
  have:=h.all;rw[List.all_eq_true]at this |-;exact fun c hc=>hp c (this c hc)
 simp[plainL,h1,A6J h.hd,A6K h.lst,Lib.contains,AtN t h.dbl]
theorem AdT:∀ {a b:List UInt8},noDbl a=true->noDbl b=true->a.getLast?≠some 32\/b.head?≠some 32->noDbl (a++b)=true
 | [],b,_,h,_=>h
 | [x],[],_,_,_=>rfl
 | [x],y::b,_,h,e=>by
  simp only[List.cons_append,List.nil_append,noDbl,h,Bool.and_true,Bool.not_eq_true',Bool.and_eq_false_iff]
  rcases e with e|e
  .left; simpa using e
  .right; simpa using e
 | x::y::a,b,h,h',e=>by
  simp only[noDbl,Bool.and_eq_true]at h;have ih:=AdT (a:=y::a) h.2 h' (by simpa using e);simp only[List.cons_append,noDbl,Bool.and_eq_true]at ih |-;exact⟨h.1,ih⟩
theorem TextOk.join{p:UInt8->Bool}{a b:List UInt8}(hb:p 32=true)(x:TextOk p a)(y:TextOk p b):TextOk p (a++32::b):=by
 refine⟨by simp,?_,?_,?_,?_⟩
 .simp only [List.all_append,List.all_cons,x.all,y.all,hb,Bool.and_self]
 .have h:noDbl (32::b)=true:=by
   have:=AdT (a:=[32]) (b:=b) rfl y.dbl (.inr y.hd)
   simpa using this
  exact AdT x.dbl h (.inl x.lst)
 .have:=x.ne
  cases a with
  | nil=>exact(this rfl).elim
  | cons c a=>simpa using x.hd
 .rw [List.getLast?_append]
  have:=y.lst
  cases b with
  | nil=>exact(y.ne rfl).elim
  | cons c b =>
   simp only[List.getLast?_cons_cons]
   cases hq:(c::b).getLast? with
   | none=>simp at hq
   | some z=>rw[hq]at this; simpa using this
theorem TextOk.pre{p q:UInt8->Bool}{a b:List UInt8}(hpq:∀ c,q c=true->p c=true)(ha:a.all p=true)(h1:noDbl a=true)(h2:a.head?≠some 32)(h0:a≠[])(y:TextOk q b):TextOk p (a++b):=by
 refine⟨by simp[h0],?_,AdT h1 y.dbl (.inr y.hd),?_,?_⟩
 .have:b.all p=true:=by
   have:=y.all;rw[List.all_eq_true]at this |-;exact fun c hc=>hpq c (this c hc)
  simp only[List.all_append,ha,this,Bool.and_self]
 .cases a with
  | nil=>exact(h0 rfl).elim
  | cons c a=>simpa using h2
 .rw [List.getLast?_append]
  have:=y.lst
  cases hq:b.getLast? with
  | none=>exact(y.ne (List.getLast?_eq_none_iff.1 hq)).elim
  | some z=>rw[hq]at this; simpa using this
theorem TextOk.weak{p q:UInt8->Bool}{b:List UInt8}(hpq:∀ c,q c=true->p c=true)(y:TextOk q b):TextOk p b :=
 ⟨y.ne,by have:=y.all; rw[List.all_eq_true]at this |-; exact fun c hc=>hpq c (this c hc),y.dbl,y.hd,y.lst⟩
def textB(p:UInt8->Bool)(t:List UInt8):Bool:=t != []&&(t.all p&&(noDbl t&&(t.head? != some 32&&t.getLast? != some 32)))
theorem AqW{p:UInt8->Bool}{t:List UInt8}(h:textB p t=true):TextOk p t:=by
 simp only[textB,Bool.and_eq_true,bne_iff_ne,ne_eq]at h;exact⟨h.1,h.2.1,h.2.2.1,h.2.2.2.1,h.2.2.2.2⟩
set_option maxRecDepth 100000
set_option maxHeartbeats 2000000
def NameL:List (List UInt8):=[[65,78,78],[66,79],[68,82,46,32,88],[65,78,78,45,77,65,82,73,69]]
def SetL:List (List UInt8):=[[72,65,76,76],[77,73,76,76],[66,65,82,78,32,47,32,76,79,70,84]]
theorem AzN:Pc prog 73 [] (· = .fz 1 (NameL.map .str)):=by
 refine zpIF func73 rfl fun h ρ w=>?_
 simp only[go_sem];exact zt [0]
theorem BhT:Pc prog 141 [] (· = .fz 1 (SetL.map .str)):=by
 refine zpIF func141 rfl fun h ρ w=>?_
 simp only[go_sem];exact zt [0]
def wordC(c:UInt8):Bool:=okB c&&(c != 40&&(c != 41&&c != 86))
def textC(c:UInt8):Bool:=okB c&&c != 86
theorem AgC(c:UInt8)(h:wordC c=true):textC c=true:=by
 simp only[wordC,textC,Bool.and_eq_true]at h |-;exact⟨h.1,h.2.2.2⟩
theorem AzO(c:UInt8)(h:textC c=true):okB c=true:=by
 simp only[textC,Bool.and_eq_true]at h;exact h.1
def WordL:List (List UInt8):=[[114,97,105,110],[84,119,111],[103,117,110,115],[65,78,78],[66,111],[97],[116,104,101],[114,101,100],[99,97,114,46],[115,111,108,100,105,101,114,115],[49,50],
 [100,111,110,39,116],[45,45],[97,98,99,100,101,102,103,104,105,106,107,108,109,110,111,112,113,114,115,116,117,118,119,120,121,122,97,98,99,100,101,102,103,104,105,106,107,108,109,110,111,112,113,114,115,116,117,118,119,120,121,122],[99,97,114]]
theorem BhU:(WordL.all fun x=>textB wordC x&&decide (x.length<=52))=true:=by decide +kernel
theorem A6L{x:List UInt8}(h:x∈WordL):TextOk wordC x/\x.length<=52:=by
 have:=List.all_eq_true.1 BhU x h;simp only[Bool.and_eq_true,decide_eq_true_eq]at this;exact⟨AqW this.1,this.2⟩
def runL:Int->List Pa->Option Int
 | l,[]=>some l
 | l,p::r=>if paraOk p&&followsL p.kind l then runL p.kind r else none
theorem AhF:∀ (a b:List Pa)(l e:Int),runL l a=some e->runL l (a++b)=runL e b
 | [],b,l,e,h=>by
  simp only[runL,Option.some.injEq]at h;subst h; rfl
 | p::a,b,l,e,h=>by
  simp only[runL]at h;simp only[List.cons_append,runL]
  split at h
  .rename_i hc
   rw[if_pos hc];exact AhF a b p.kind e h
  .simp at h
theorem BcN{a:List Pa}{l e:Int}{p:Pa}(h:runL l a=some e)(h1:paraOk p=true)(h2:followsL p.kind e=true):runL l (a++[p])=some p.kind:=by
 rw[AhF a _ l e h]
 simp[runL,h1,h2]
def TurnL:List (List UInt8):=[[67,85,84,32,84,79],[70,65,68,69,32,79,85,84,46],[69,78,68],[65,78,78]]
def PreA:List (List UInt8):=[[64],[62,32],[35,32],[92],[40],[35]]
def PreB:List (List UInt8):=[[40],[92],[35],[64]]
structure DrawnP(p:Pa):Prop where
 text:TextOk textC p.text
 kind:1<=p.kind/\p.kind<=5
 name:p.kind=2->p.text∈NameL
 turn:p.kind=5->p.text∈TurnL
 ok:paraOk p=true
theorem AgD{k:Int}{t:List UInt8}(hk:k=1\/k=4)(h:TextOk textC t)(hl:t.length<=2000):DrawnP ⟨k,t⟩:=by
 have hp:=AzM AzO h;have hn:(t != [])=true:=by simpa using h.ne
 refine⟨h,by simp only; omega,by simp only; omega,by simp only; omega,?_⟩
 rcases hk with rfl|rfl <;> simp[paraOk,hp,hn,hl]
theorem AwU{t:List UInt8}(h:TextOk wordC t)(hl:t.length<=200):DrawnP ⟨3,t⟩:=by
 have h':=h.weak AgC;have hp:=AzM AzO h';have hn:(t != [])=true:=by simpa using h.ne
 have hc:Lib.containsAny t [40,41]=false:=by
  have:Lib.NoAny t [40,41] t.length:=fun j b _ hj=>by
   have:=List.all_eq_true.1 h.all b (List.mem_of_getElem? hj);simp only[wordC,Bool.and_eq_true,bne_iff_ne]at this
   simp[this.2.1,this.2.2.1]
  simp[Lib.containsAny,Lib.indexAny_none this]
 refine⟨h',by simp,by simp,by simp,?_⟩;have h2:t.length<=2000:=by omega
 simp[paraOk,hp,hn,hl,hc,h2]
theorem BcO:(NameL.all fun t=>textB textC t&&paraOk ⟨2,t⟩)=true:=by decide +kernel
theorem BcP:(TurnL.all fun t=>textB textC t&&paraOk ⟨5,t⟩)=true:=by decide +kernel
theorem AoZ{t:List UInt8}(h:t∈NameL):DrawnP ⟨2,t⟩:=by
 have:=List.all_eq_true.1 BcO t h;simp only[Bool.and_eq_true]at this;exact⟨AqW this.1,by simp,fun _=>h,by simp,this.2⟩
theorem A2K{t:List UInt8}(h:t∈TurnL):DrawnP ⟨5,t⟩:=by
 have:=List.all_eq_true.1 BcP t h;simp only[Bool.and_eq_true]at this;exact⟨AqW this.1,by simp,by simp,fun _=>h,this.2⟩
def preB(a:List UInt8):Bool:=a.all textC&&(noDbl a&&(a.head? != some 32&&(a != []&&decide (a.length<=2))))
theorem BhV:(PreA.all preB&&PreB.all preB)=true:=by decide +kernel
theorem AkX{a t:List UInt8}(h:a∈PreA\/a∈PreB)(y:TextOk wordC t):TextOk textC (a++t)/\a.length<=2:=by
 have hp:preB a=true:=by
  have:=BhV;simp only[Bool.and_eq_true]at this
  rcases h with h|h
  .exact List.all_eq_true.1 this.1 a h
  .exact List.all_eq_true.1 this.2 a h
 simp only[preB,Bool.and_eq_true,bne_iff_ne,decide_eq_true_eq]at hp;exact⟨TextOk.pre AgC hp.1 hp.2.1 hp.2.2.1 hp.2.2.2.1 y,hp.2.2.2.2⟩
structure Block(b:List Pa):Prop where
 run:∀ l,l≠2->l≠3->∃ e,runL l b=some e/\e≠2/\e≠3
 len:1<=b.length/\b.length<=5
 all:∀ p∈b,DrawnP p
theorem AjR{k l:Int}(hk:k≠3)(hk':k≠4)(h2:l≠2)(h3:l≠3):followsL k l=true:=by simp[followsL,hk,hk',h2,h3]
theorem AmR{p:Pa}(h:DrawnP p)(hk:p.kind=1\/p.kind=5):Block [p]:=by
 refine⟨fun l h2 h3=>⟨p.kind,?_,by omega,by omega⟩,by simp,by simpa using h⟩
 simp[runL,h.ok,AjR (show p.kind≠3 by omega) (show p.kind≠4 by omega) h2 h3]
theorem AjS(ps:List Pa):(flat (ps.map paA)).all Av.frozen=true:=by
 induction ps with
 | nil=>rfl
 | cons y l ih=>simpa[flat,cellsOf,paA,Av.frozen]using ih
theorem AqX(id e:Nat)(l:List AV)(L:List Int)(k:Int):frz id e l (str L k)=str L k:=rfl
theorem AkY(id e:Nat)(l:List AV)(L:List Int)(k:Int):frzC id e l (str L k)=str L k:=rfl
structure DrawnS(x:Sc):Prop where
 no:x.no=[]
 place:1<=x.place/\x.place<=3
 set:x.set∈SetL
 time:1<=x.time/\x.time<=5
 run:∃ e,runL 0 x.paras=some e/\e≠2/\e≠3
 len:x.paras.length<=60
 all:∀ p∈x.paras,DrawnP p
def TitleL:List (List UInt8):=[[84],[84,104,101,32,77,105,108,108],[65,32,45,32,66]]
structure DrawnR(x:Sr):Prop where
 title:x.title∈TitleL
 len:x.scenes.length<=5
 all:∀ y∈x.scenes,DrawnS y
 first:∀ y,x.scenes.head? = some y->y.time≠5
theorem AaY(ps:List Sc):(flat (ps.map scA)).all Av.frozen=true:=by
 induction ps with
 | nil=>rfl
 | cons y l ih=>simpa[flat,cellsOf,scA,Av.frozen]using ih
def digB(c:UInt8):Bool:=digI c.toNat
def capB(c:UInt8):Bool:=capI c.toNat
def digs(s:List UInt8):List UInt8:=s.takeWhile digB
def caps(s:List UInt8):List UInt8:=s.dropWhile digB
theorem AjT{p:UInt8->Bool}:∀ {s:List UInt8}{k:Nat},k<=s.length->(s.take k).all p=true->(k=s.length\/p (s.getD k 0)=false)->s.takeWhile p=s.take k/\s.dropWhile p=s.drop k
 | [],k,hk,_,_=>by simp
 | c::s,0,_,_,e=>by
  rcases e with e|e
  .simp at e
  .simp at e; simp[e]
 | c::s,k+1,hk,h,e=>by
  simp only[List.take_succ_cons,List.all_cons,Bool.and_eq_true]at h;have ih:=AjT (s:=s) (k:=k) (by simpa using hk) h.2 (by simpa using e)
  simp[h.1,ih.1,ih.2]
def numberL(s:List UInt8):Bool :=
 (caps s).all capB&&(!(decide (((caps s).length:Int)>5)||Lib.hasSuffix (caps s) [65]) &&
  (if digs s=[48] then caps s != [] else decide (1<=(digs s).length)&&(decide ((digs s).length<=3)&&((s.getD 0 0).toNat:Int) != 48)))
theorem AjU(s:List UInt8)(hs:s.length<1000000):Pc prog 203 [.str s] (· = .bool (numberL s)):=by
 refine zpIN func203 rfl fun h ρ w=>?_
 simp only[go_sem];refine A5R (ι:=Nat) (κ:=Unit) (fun i=>s.length-i) (fun i=>[(3,.int .i64 i),(0,.str s)]) (fun _=>[]) (fun i=>i<=s.length/\(s.take i).all digB=true)
  (fun _=>[(3,.int .i64 (digs s).length),(0,.str s)]) (fun _=>[]) (fun _=>s=digs s++caps s) 0 ⟨by omega,by simp⟩ ?_ ?_ ?_
 .refine Shift.weak ?_
  simp only[go_sem]
 .rintro-hd
  have hdl:(digs s).length<=s.length:=(congrArg List.length hd).symm▸by simp
  have edr:List.drop (digs s).length s=caps s:=(congrArg (List.drop (digs s).length) hd).trans (by simp);have etk:List.take (digs s).length s=digs s:=(congrArg (List.take (digs s).length) hd).trans (by simp);have hcl:(caps s).length<=s.length:=(congrArg List.length hd).symm▸by simp
  refine zgN ?_;simp only[go_sem,edr];refine⟨by omega,by omega,by omega,?_⟩;refine A5R (ι:=Nat) (κ:=Unit) (fun i=>(caps s).length-i) (fun i=>[(23,.int .i64 i),(22,.int .i64 (caps s).length),(4,.str (caps s)),(3,.int .i64 (digs s).length),(0,.str s)]) (fun _=>[]) (fun i=>i<=(caps s).length/\((caps s).take i).all capB=true)
   (fun _=>[(4,.str (caps s)),(3,.int .i64 (digs s).length),(0,.str s)]) (fun _=>[]) (fun _=>(caps s).all capB=true) 0 ⟨by omega,by simp⟩ ?_ ?_ ?_
  .refine Shift.weak ?_
   simp only[go_sem]
  .rintro-hc
   by_cases h5:((caps s).length:Int)>5
   .have d5:decide (((caps s).length:Int)>5)=true:=by simpa using h5
    refine zgN ?_;simp only[go_sem,d5];exact aret [2] rfl ⟨by simp[resV,Av.get,numberL,d5],rfl⟩
   have d5:decide (((caps s).length:Int)>5)=false:=by simpa using h5
   refine zgN ?_;simp only[go_sem,d5];refine zpN (AcA (caps s) [65] (by omega)) ?_
   cases e6:Lib.hasSuffix (caps s) [65]with
   | true =>
    simp only[go_sem];exact aret [2] rfl ⟨by simp[resV,Av.get,numberL,e6],rfl⟩
   | false =>
   by_cases h7:digs s=[48]
   .have d7:(digs s==[48])=true:=by simpa using h7
    simp only[go_sem,etk,d7];refine⟨by omega,by omega,?_⟩;exact aret [2] rfl ⟨by simp[resV,Av.get,numberL,h7,d5,e6,hc],rfl⟩
   have d7:(digs s==[48])=false:=by simpa using h7
   by_cases h8:((digs s).length:Int)>=1
   .have d8:decide (((digs s).length:Int)>=1)=true:=by simpa using h8
    have d8':decide (1<=(digs s).length)=true:=by simp; omega
    by_cases h9:((digs s).length:Int)<=3
    .have d9:decide (((digs s).length:Int)<=3)=true:=by simpa using h9
     have d9':decide ((digs s).length<=3)=true:=by simp; omega
     simp only[go_sem,etk,d7,d8,d9];refine⟨by omega,by omega,by omega,?_⟩;exact aret [2] rfl ⟨by simp only[resV,Av.get,numberL,d5,e6,hc,if_neg h7,d8',d9']; rfl,rfl⟩
    .have d9:decide (((digs s).length:Int)<=3)=false:=by simpa using h9
     have d9':decide ((digs s).length<=3)=false:=by simp; omega
     simp only[go_sem,etk,d7,d8,d9];refine⟨by omega,by omega,?_⟩;exact aret [2] rfl ⟨by simp only[resV,Av.get,numberL,d5,e6,hc,if_neg h7,d8',d9']; rfl,rfl⟩
   .have d8:decide (((digs s).length:Int)>=1)=false:=by simpa using h8
    have d8':decide (1<=(digs s).length)=false:=decide_eq_false (by omega);simp only[go_sem,etk,d7,d8];refine⟨by omega,by omega,?_⟩;exact aret [2] rfl ⟨by simp only[resV,Av.get,numberL,d5,e6,hc,if_neg h7,d8']; rfl,rfl⟩
  .rintro i ⟨g1,g2⟩ J Q hJ hQ
   refine zgN ?_
   by_cases hi:(i:Int)<(caps s).length
   .have hil:i<(caps s).length:=by omega
    have hgd:(caps s).getD i 0=(caps s)[i]:=by simp[List.getD,hil]
    simp only[go_sem,hi,hgd];refine⟨by omega,?_⟩;refine zpN (AbR _) ?_
    cases c1:capI ((caps s)[i].toNat:Int)with
    | true =>
     simp only[go_sem];rw[ic i]
     repeat refine ao ?_
     refine ainv (hJ (i+1) ⟨by omega,AaX hil g2 c1⟩ (by omega)) (Shift.weak ?_);simp only[go_sem]
    | false =>
     simp only[go_sem];exact aret [2] rfl ⟨by simp[resV,Av.get,numberL,AcB hil (p:=capB) c1],rfl⟩
   .simp only [go_sem,hi]
    have hall:(caps s).all capB=true:=by
     have ht:(caps s).take i=caps s:=List.take_of_length_le (by omega);rw[ht]at g2; exact g2
    refine ainv (hQ () hall) (Shift.weak ?_);simp only[go_sem]
 .rintro i ⟨g1,g2⟩ J Q hJ hQ
  have out:(i=s.length\/digB (s.getD i 0)=false)->((digs s).length=i/\s=digs s++caps s):=fun e=>by
   obtain⟨e1,e2⟩:=AjT g1 g2 e;exact⟨by rw[digs,e1]; simp; omega,by simp[digs,caps]⟩
  refine zgN ?_
  by_cases hi:(i:Int)<s.length
  .have hil:i<s.length:=by omega
   have hgd:s.getD i 0=s[i]:=by simp[List.getD,hil]
   simp only[go_sem,hi,hgd];refine⟨by omega,?_⟩;refine zpN (AfZ _) ?_
   cases c1:digI (s[i].toNat:Int)with
   | true =>
    simp only[go_sem];rw[ic i]
    repeat refine ao ?_
    refine ainv (hJ (i+1) ⟨by omega,AaX hil g2 c1⟩ (by omega)) (Shift.weak ?_);simp only[go_sem]
   | false =>
    obtain⟨e1,e2⟩:=out (.inr (by rw[hgd]; exact c1));simp only[go_sem];refine ainv (hQ () e2) (Shift.weak ?_);rw[e1];simp only[go_sem]
  .simp only [go_sem,hi]
   obtain⟨e1,e2⟩:=out (.inl (by omega));refine ainv (hQ () e2) (Shift.weak ?_);rw[e1];simp only[go_sem]
def pN(s:List UInt8):Int:=(Lib.atoi (digs s)).getD 0
def okD(s:List UInt8):Prop:=1<=(digs s).length/\(digs s).length<=18
theorem BcQ{c:UInt8}(h:digB c=true):Lib.digitVal c=some (c.toNat-48):=by
 simp only[digB,digI,Bool.and_eq_true,decide_eq_true_eq]at h;unfold Lib.digitVal;rw[if_pos (by omega)]
theorem AjV:∀ (l:List UInt8)(acc:Nat),l.all digB=true->∃ n,Lib.decFrom acc l=some n
 | [],acc,_=>⟨acc,rfl⟩
 | c::l,acc,h=>by
  simp only[List.all_cons,Bool.and_eq_true]at h;obtain⟨n,hn⟩:=AjV l (acc*10+(c.toNat-48)) h.2;exact⟨n,by rw[Lib.decFrom,BcQ h.1]; exact hn⟩
theorem AzP(s:List UInt8):(digs s).all digB=true:=List.all_takeWhile
theorem A6M{s:List UInt8}(h:okD s):Lib.atoi (digs s)=some (pN s):=by
 obtain⟨n,hn⟩:=AjV (digs s) 0 (AzP s);have h1:=h.1;have ha:=AzP s;have key:Lib.atoi (digs s)=some (n:Int):=by
  cases hq:digs s with
  | nil=>simp[hq]at h1
  | cons b r =>
   rw[hq]at hn ha;simp only[List.all_cons,Bool.and_eq_true,digB,digI,decide_eq_true_eq]at ha;have b1:(b==45)=false:=by
    cases hb:b==45 with
    | false=>rfl
    | true =>
     have:b=45:=by simpa using hb
     subst this; exact absurd ha.1.1 (by decide)
   have b2:(b==43)=false:=by
    cases hb:b==43 with
    | false=>rfl
    | true =>
     have:b=43:=by simpa using hb
     subst this; exact absurd ha.1.1 (by decide)
   simp[Lib.atoi,b1,b2,Lib.decNat,hn]
 rw[pN,key]; rfl
theorem AgE{w w':World}(b:Below w.heap.size w w'):Same w w':=⟨b.os,b.tape,⟨b.output,trivial⟩,b.size,b.block⟩
theorem AwV(s:List UInt8):∀ h vs',RL h Lf0 true vs' [.str s]->vs'=[.string ⟨s.toArray⟩]:=by
 intro h vs' r
 cases r with|cons r1 r=>cases r; rw[AtF r1]
theorem BhW(k:IntKind)(n:Int):∀ h vs',RL h Lf0 true vs' [.int k n]->vs'=[.int k n]:=by
 intro h vs' r
 cases r with|cons r1 r=>cases r; rw[A6C r1]
theorem BhX(s:List UInt8)(k:IntKind)(n:Int):∀ h vs',RL h Lf0 true vs' [.str s,.int k n]->vs'=[.string ⟨s.toArray⟩,.int k n]:=by
 intro h vs' r
 cases r with|cons r1 r=>cases r with|cons r2 r=>cases r; rw[AtF r1,A6C r2]
theorem AqY(s:List UInt8)(n:Int)(hl:s.length<=18)(h:Lib.atoi s=some n):Pc prog 94 [.str s] (· = .tup [.int .i64 n,.raw .nilIface]) :=
 AoX [_] (.tuple #[.int .i64 n,.nilIface]) hB94 (AwV s) (fun h=>.tup [_,_] [_,_] (.cons (.int _ _) (.cons (.raw _) .nil)))
  fun w=>(Any.strconv_Atoi Tryz.lays172 ⟨s.toArray⟩ n (by simpa[ByteArray.size]using hl) h w).mono fun e w' ⟨h1,t,h2⟩=>⟨h1,h2▸AgE (Lib.bytesWorld_below _ _ _)⟩
theorem AdY(a b:List UInt8):Pc prog 113 [.str a,.str b] (· = .int .i64 (Lib.compareBytes a b)) :=
 AoX [_,_] (.int .i64 (Lib.compareBytes a b)) hB113 (AdB a b) (fun h=>.int _ _) fun w=>(Any.strings_Compare Tryz.lays106 ⟨a.toArray⟩ ⟨b.toArray⟩ w).mono fun e w' ⟨h1,h2⟩=>⟨h1,h2▸.refl w⟩
theorem AeG(s:List UInt8)(c:Nat)(hlen:s.length*c<=1000000)(hc:c<=1000000):Pc prog 72 [.str s,.int .i64 c] (· = .str (Lib.repeatL s c)) :=
 AoX [_,.int .i64 c] (.string ⟨(Lib.repeatL s c).toArray⟩) hB72 (BhX s .i64 c) (fun h=>.str _)
  fun w=>(Any.strings_Repeat Tryz.lays105 Tryz.Builder_Extra_105 ⟨s.toArray⟩ c w (by omega) (by simp[ByteArray.size]; omega)).mono fun e w' ⟨h1,h2⟩=>⟨h1,AgE h2⟩
theorem AjW(x:Int):Pc prog 161 [.int .i64 x] (· = .bool false):=by
 refine zpIN func161 rfl fun h ρ w=>?_
 simp only[go_sem];exact aret [2] rfl ⟨by simp[resV,Av.get],rfl⟩
def cmpI(x y:Int):Int:=if x<y then -1 else if x>y then 1 else 0
theorem AiV(x y:Int):Pc prog 112 [.int .i64 x,.int .i64 y] (· = .int .i64 (cmpI x y)):=by
 refine zpIN func112 rfl fun h ρ w=>?_
 simp only[go_sem];refine zpN (AjW _) ?_;simp only[go_sem];refine zpN (AjW _) ?_
 by_cases h1:x<y
 .have d1:decide (x<y)=true:=by simpa using h1
  simp only[go_sem,d1];exact aret [4] rfl ⟨by simp[resV,Av.get,cmpI,h1],rfl⟩
 have d1:decide (x<y)=false:=by simpa using h1
 by_cases h2:x>y
 .have d2:decide (x>y)=true:=by simpa using h2
  simp only[go_sem,d1,d2];exact aret [4] rfl ⟨by simp[resV,Av.get,cmpI,h1,h2],rfl⟩
 have d2:decide (x>y)=false:=by simpa using h2
 simp only[go_sem,d1,d2];exact aret [4] rfl ⟨by simp[resV,Av.get,cmpI,h1,h2],rfl⟩
def orI(x y:Int):Int:=if x=0 then y else x
theorem BcR(x y:Int):Pc prog 111 [.fz 1 [.int .i64 x,.int .i64 y]] (· = .int .i64 (orI x y)):=by
 refine zpIN func111 rfl fun h ρ w=>?_
 simp only[go_sem];refine AcY (around (zgN ?_))
 by_cases h1:x=0
 .have d1:(x != 0)=false:=by simpa using h1
  simp only[go_sem,d1];refine AsY (around (zgN ?_))
  by_cases h2:y=0
  .have d2:(y != 0)=false:=by simpa using h2
   simp only[go_sem,d2];refine AsY (around (zgN ?_));simp only[go_sem];exact aret [2] rfl ⟨by simp[resV,Av.get,orI,h1,h2],rfl⟩
  have d2:(y != 0)=true:=by simpa using h2
  simp only[go_sem,d2];exact aret [2] rfl ⟨by simp[resV,Av.get,orI,h1],rfl⟩
 have d1:(x != 0)=true:=by simpa using h1
 simp only[go_sem,d1];exact aret [2] rfl ⟨by simp[resV,Av.get,orI,h1],rfl⟩
abbrev bys(l:List UInt8):List AV:=l.map fun b=>.int .u8 b.toNat
theorem AkZ(l:List UInt8):(bys l).all AdG=true/\(bys l).map Go.Av.byteOf=l:=by
 refine⟨by simp[List.all_eq_true,AdG],?_⟩
 induction l with
 | nil=>rfl
 | cons b l ih =>
  simp only[bys,List.map_cons,Go.Av.byteOf]at ih |-;rw[ih]
  simp
theorem AqZ{S:Std}(hS:LibOk S)(n:Int)(h0:-9223372036854775808<=n)(h1:n<=9223372036854775807):PcH prog S 91 [.int .i64 n] (· = .str (Lib.itoa n)) :=
 AwL [_] (.string ⟨(Lib.itoa n).toArray⟩) hB91 (BhW .i64 n) (fun h=>.str _) fun w H=>by
  obtain⟨t,z,hp⟩:=hS.pow10;refine(Any.strconv_Itoa Tryz.laysM171 n h0 h1 w ?_).mono fun e w' ⟨e1,k,os,e2⟩=>⟨e1,e2▸AgE (Lib.below_grow _ _ (Nat.le_refl _) _ _)⟩
  show w.var? _ _=_
  have hg:prog.globalNamed "internal/strconv.uint64pow10" = some 5:=by kernel_rfl
  simp only[World.var?,hg,Option.bind_some,H _ _ hp]
def dig3(d:Int):List UInt8 :=
 if d.toNat<10 then[UInt8.ofNat (48+d.toNat)] else if d.toNat<100 then[UInt8.ofNat (48+d.toNat / 10),UInt8.ofNat (48+d.toNat%10)]
 else[UInt8.ofNat (48+d.toNat / 100),UInt8.ofNat (48+d.toNat / 10%10),UInt8.ofNat (48+d.toNat%10)]
theorem AtO{d:Int}(h0:0<=d)(h1:d<=999):Lib.itoa d=dig3 d:=by
 unfold Lib.itoa dig3;rw[if_neg (by omega)];generalize hu:d.toNat=u;have hu1:u<=999:=by omega
 by_cases h10:u<10
 .rw [if_pos h10,Lib.decDigits_one h10]
 .rw [if_neg h10]
  by_cases h100:u<100
  .rw [if_pos h100,Lib.decDigits_two h10 h100]
  .rw [if_neg h100,Lib.decDigits,dif_neg h10,Lib.decDigits_two (by omega) (by omega)]
   simp[Nat.div_div_eq_div_mul]
theorem clone0_pc:Pc prog 90 [.fz 5 []] (· = .fz 5 []):=by
 refine zpIN func90 rfl fun h ρ w=>?_
 simp only[go_sem];intro b;refine zgN ?_
 cases b with
 | true =>
  simp only[go_sem];exact ARet.shift (Shift.nilfz 2 5 rfl) (aret [2] rfl ⟨rfl,rfl⟩)
 | false =>
  simp only[go_sem];refine⟨.inl trivial,?_⟩;exact ARet.shift (Shift.freeze 2 (id:=0) rfl rfl rfl (Nat.le_refl _) rfl) (aret [2] rfl ⟨rfl,rfl⟩)
theorem AzQ(x:Sc)(xs:List Sc)(hl:xs.length<=100000) :
  Ct prog 90 [.fz 5 ((x::xs).map scA)] [] (fun r s=>r=.sl 0 0 (x::xs).length (x::xs).length/\s=[.arr 5 ((x::xs).map scA)]):=by
 refine zcIN func90 rfl fun h ρ w=>?_
 simp only[go_sem,scA];refine⟨by simp,by simp; omega,by simp; omega,aret [2] rfl ⟨by simp[resV,Av.get,scA],rfl⟩⟩
def nm(i:Nat)(x:Sc):Sc:={ x with no:=Lib.itoa ((i:Int)+1) }
def numL:Nat->List Sc->List Sc
 | _,[]=>[]
 | i,x::r=>nm i x::numL (i+1) r
def numR(x:Sr):Sr:=⟨x.title,numL 0 x.scenes⟩
theorem AtP{S:Std}(hS:LibOk S)(x:Sr)(hl:x.scenes.length<=1000):PcH prog S 40 [srA x] (· = srA (numR x)):=by
 obtain⟨ti,xs⟩:=x
 cases xs with
 | nil =>
  simp only[srA,List.map_nil,numR,numL];refine zqIN func40 rfl fun h ρ w hg=>?_
  simp only[go_sem];refine AoV [] 99 [.fz 5 []] mixed (by decide) rfl rfl 100 ?_;simp only[go_sem];refine⟨clone0_pc.at,rfl,?_⟩;refine zgN ?_;simp only[go_sem];refine AcY (around (zgN ?_));simp only[go_sem];exact AcH [.cell 2 28] rfl [_] ⟨by simp only[go_sem,sideIs],trivial⟩ ⟨rfl,rfl⟩
 | cons x xs =>
  simp only[srA];refine zqIN func40 rfl fun h ρ w hg=>?_
  simp only[go_sem];refine AWp.shift (Shift.reserve 5) ?_;refine AoV [4] 2 [] mixed (by decide) rfl rfl 100 ?_;simp only[go_sem];have hfro:(flat ((x::xs).map scA)).all Av.frozen=true:=AaY (x::xs);refine AtI (AzQ x xs (by simp at hl |-; omega)) (by simp) (by simp) rfl hfro rfl ?_;simp only[go_sem];refine zgN ?_;simp only[go_sem];refine⟨by simp,?_⟩;have hys:AV.fz 5 (List.map scA (numR ⟨ti,x::xs⟩).scenes)=.fz 5 (List.map scA (numL 0 (x::xs))):=rfl;rw[hys];clear hys;have hl':xs.length+1<=1000:=by simpa using hl
  have hnum:∃ out,numL 0 (x::xs)=out:=⟨_,rfl⟩;obtain⟨out,hout⟩:=hnum;rw[hout];refine AaC (ι:=List Sc×List Sc) (fun y=>y.2.length)
   (fun y=>[(14,.int .i64 y.1.length),(13,.int .i64 ↑(xs.length+1)),(3,.ptr 3 1 0 0),(2,.ptr 1 1 0 0)])
   (fun y=>[.arr 2 [.agg [.str ti,.fz 5 (scA x::List.map scA xs)]],.arr 2 [.agg [.str [],.raw (.slice none 0 0)]],.arr 5 (List.map scA (y.1++y.2)),.arr 2 [.agg [.str ti,.sl 2 0 (xs.length+1) (xs.length+1)]]])
   (fun y=>y.1.length+y.2.length=xs.length+1/\y.1++numL y.1.length y.2=out) ([],x::xs) ⟨by simp,hout⟩ ?_ ?_
  .refine Shift.weak ?_
   simp only[go_sem]
  .rintro ⟨dn,rest⟩ ⟨g1,g2⟩ J hJ
   simp only at g1 g2 hJ |-
   cases rest with
   | cons y r =>
    have di:decide ((dn.length:Int)<((xs.length+1:Nat):Int))=true:=by simp at g1 |-; omega
    refine zgN ?_;simp only[go_sem,di];refine zr [.str (Lib.itoa ((dn.length:Int)+1))] mixed ?_;have hx:List.getD (List.map scA (dn++y::r)) dn.length .any=.agg [.str y.no,.int .i64 y.place,.str y.set,.int .i64 y.time,.fz 2 (y.paras.map paA)]:=by simp[List.getD,scA]
    simp only[go_sem,hx];refine⟨by omega,by omega,(AqZ hS _ (by omega) (by omega)).at hg,rfl,by simp at g1 |-; omega,by omega,by simp at g1 |-; omega,by omega,by simp,?_⟩;have hset:(List.map scA (dn++y::r)).set dn.length (.agg [.str (Lib.itoa ((dn.length:Int)+1)),.int .i64 y.place,.str y.set,.int .i64 y.time,.fz 2 (y.paras.map paA)])=List.map scA ((dn++[nm dn.length y])++r):=by
     simp[nm,scA]
    rw[hset];refine zgN ?_;simp only[go_sem];refine⟨by omega,by omega,?_⟩;rw[show(dn.length:Int)+1=((dn++[nm dn.length y]).length:Int) by simp];refine ainv (hJ (dn++[nm dn.length y],r) ⟨by simp at g1 |-; omega,by rw[<- g2]; simp[numL]⟩ (by simp)) (Shift.weak ?_);simp only[go_sem]
   | nil =>
    have di:decide (((xs.length+1:Nat):Int)<((xs.length+1:Nat):Int))=false:=by simp
    simp only[List.append_nil,numL]at g2 |-;subst g2;have hn:dn.length=xs.length+1:=by simpa using g1
    refine AWp.shift (Shift.frz 2 rfl (AaY dn)) ?_;simp only[frzE,frz,frz1,frzC,frzB,List.map_cons,List.map_nil,List.set_cons_succ,List.set_cons_zero,Nat.reduceBEq,cond_true,cond_false,Bool.false_and,Bool.true_and,List.length_map,Nat.zero_add,hn,decide_true,Nat.le_refl,List.drop_zero];have:List.take (xs.length+1) (List.map scA dn)=List.map scA dn:=List.take_of_length_le (by simp; omega);simp only[this];refine zgN ?_;simp only[go_sem,di];exact AcH [.cell 2 28] rfl [_] ⟨by simp only[go_sem,sideIs,numR],trivial⟩ ⟨rfl,rfl⟩
def DIG:List UInt8:=[48,49,50,51,52,53,54,55,56,57]
def CAPS:List UInt8:=[65,66,67,68,69,70,71,72,73,74,75,76,77,78,79,80,81,82,83,84,85,86,87,88,89,90]
theorem A6N{S:Std}(hS:LibOk S):PcH prog S 94 [.str []] (· = .tup [.int .i64 0,.any]):=by
 refine⟨hB94,fun h w vs' hg hm hv=>?_⟩;have:=AwV [] h vs' hv;subst this;obtain⟨te,pe,t,z,hs⟩:=hS.syn;have hcell:w.cell? ⟨Tryz.laysC172_ren.g 15,0,none⟩=some (.iface te pe):=(Lib.cell_of_heap (hg _ _ hs) 0).trans rfl;refine(Any.strconv_Atoi_err Tryz.laysC172 ⟨#[]⟩ (by decide) rfl (.iface te pe) w hcell (.inr ⟨te,pe,rfl⟩)).mono ?_;rintro e w' ⟨N,rfl,_,_,hb⟩;have hs:Same w w':=AgE hb;exact⟨_,_,h,rfl,rfl,fun b o v e=>⟨hs.cell (hm b o v e).1,(hm b o v e).2⟩,fun _ _ _ x=>x,fun b o e n=>(n e).elim,hs,.tup [_,_] [_,_] (.cons (.int _ _) (.cons (.any _) .nil))⟩
theorem AhZ(s:List UInt8)(hs:s.length<1000000)(h0:Lib.trimLeftS s DIG=[]):Pc prog 93 [.str s] (· = .tup [.str s,.str []]):=by
 refine zpIN func93 rfl fun h ρ w=>?_
 simp only[go_sem];refine zpN (AwN s DIG (by decide) (AcI (by decide))) ?_;rw[h0];have:List.take s.length s=s:=List.take_length;simp only[go_sem,this];refine⟨by omega,by omega,by omega,by omega,?_⟩;refine aret [2,3] rfl ⟨?_,rfl⟩
 simp[resV,Av.get]
theorem BhY(s:List UInt8)(a b:Int)(h1:a<=s.length)(h2:s.length<=b):Pc prog 75 [.str s,.int .i64 a,.int .i64 b] (· = .bool true):=by
 have d1:decide ((s.length:Int)>=a)=true:=by simpa using h1
 have d2:decide ((s.length:Int)<=b)=true:=by simpa using h2
 refine zpIN func75 rfl fun h ρ w=>?_
 simp only[go_sem,d1,d2];exact zt [6]
theorem BcS:Pc prog 77 [.str [],.str CAPS] (· = .bool true):=by
 refine zpIN func77 rfl fun h ρ w=>?_
 simp only[go_sem];refine zpN (AmN [] CAPS (by decide) (by decide) (AcI (by decide))) ?_;rw[show Lib.trimS [] CAPS=[] from rfl];simp only[go_sem];exact zt [4]
theorem AmS(s:List UInt8)(h0:Lib.trimLeftS s DIG=[])(h1:1<=s.length)(h2:s.length<=3)(h3:s.getD 0 0≠48):Pc prog 96 [.str s] (· = .bool true):=by
 have d3:(((s.getD 0 0).toNat:Int) != 48)=true:=by
  simp only[bne_iff_ne,ne_eq];intro e;exact h3 (UInt8.toNat_inj.1 (by simpa using(show(s.getD 0 0).toNat=48 by omega)))
 refine zpIN func96 rfl fun h ρ w=>?_
 simp only[go_sem];refine zpN (AhZ s (by omega) h0) ?_;simp only[go_sem];refine zpN (BhY s 1 3 (by omega) (by omega)) ?_;simp only[go_sem];refine zpN (BcS) ?_;simp only[go_sem];refine zpN (AcA [] [65] (by simp)) ?_;rw[show Lib.hasSuffix [] [65]=false from rfl];simp only[go_sem,d3];refine⟨by omega,?_⟩;exact zt [2]
theorem A6O(s:List UInt8)(m:Int)(h0:Lib.trimLeftS s DIG=[])(h1:s.length<=18)(h2:Lib.atoi s=some m):Pc prog 97 [.str s,.str [57]] (· = .int .i64 (orI (cmpI m 9) 0)):=by
 refine zpIF func97 rfl fun h ρ w=>?_
 simp only[go_sem];refine zpF (AhZ s (by omega) h0) ?_;simp only[go_sem];refine zpF (AhZ [57] (by simp) rfl) ?_;simp only[go_sem];refine zpF (AqY s m h1 h2) ?_;simp only[go_sem];refine zpF (AqY [57] 9 (by simp) rfl) ?_;simp only[go_sem];refine zpF (AiV m 9) ?_;simp only[go_sem];refine zpF (AdY [] []) ?_;rw[show Lib.compareBytes [] []=0 from rfl];simp only[go_sem];refine zpF (BcR (cmpI m 9) 0) ?_;simp only[go_sem];exact zt [4]
def AbI(n:Nat):List UInt8:=if n=0 then[] else dig3 n
theorem AiW(j:Nat)(hj:j<5):Lib.trimLeftS (AbI j) DIG=[]/\(AbI j).length<=3/\(j≠0->Lib.atoi (AbI j)=some (j:Int)) /\
  Lib.trimLeftS (dig3 ((j:Int)+1)) DIG=[]/\(dig3 ((j:Int)+1)).length=1/\(dig3 ((j:Int)+1)).getD 0 0≠48/\Lib.atoi (dig3 ((j:Int)+1))=some ((j:Int)+1)/\(dig3 ((j:Int)+1)==[])=false/\AbI (j+1)=dig3 ((j:Int)+1):=by
 have:j=0\/j=1\/j=2\/j=3\/j=4:=by omega
 rcases this with rfl|rfl|rfl|rfl|rfl <;> exact⟨by decide,by decide,by decide,by decide,by decide,by decide,by decide,by decide,by decide⟩
theorem ArA{S:Std}(hS:LibOk S)(j:Nat)(hj:j<5)(b:List UInt8)(hb:b=[]\/b=[57]):PcH prog S 43 [.str (AbI j),.str b] (· = .tup [.str (AbI (j+1)),.bool true]):=by
 obtain⟨f1,f2,f3,f4,f5,f6,f7,f8,f9⟩:=AiW j hj;rw[f9];have hit:=AqZ hS ((j:Int)+1) (by omega) (by omega);rw[AtO (by omega) (by omega)]at hit;have ho:=A6O (dig3 ((j:Int)+1)) ((j:Int)+1) f4 (by omega) f7;have hc:orI (cmpI ((j:Int)+1) 9) 0=-1:=by
  have:cmpI ((j:Int)+1) 9=-1:=by unfold cmpI; rw[if_pos (by omega)]
  rw[this]; rfl
 rw[hc]at ho;have hn:=AmS (dig3 ((j:Int)+1)) f4 (by omega) (by omega) f6;generalize dig3 ((j:Int)+1)=x at *;refine zqIN func43 rfl fun h ρ w hg=>?_
 simp only[go_sem];refine zpN (AhZ (AbI j) (by omega) f1) ?_;simp only[go_sem]
 by_cases h0:j=0
 .subst h0
  refine zqN hg (A6N hS) ?_;simp only[go_sem];refine AcY (around (zgN ?_));simp only[go_sem];refine zqN hg (hit) ?_;simp only[go_sem];refine⟨.inl trivial,?_⟩;refine AcY (around (zgN ?_));simp only[go_sem];refine zpN (hn) ?_;simp only[go_sem]
  rcases hb with rfl|rfl
  .simp only [go_sem]
   exact zt [4,5]
  .simp only [go_sem]
   refine zpN (ho) ?_;simp only[go_sem];exact zt [4,5]
 .refine zpN (AqY (AbI j) j (by omega) (f3 h0)) ?_
  simp only[go_sem];refine AcY (around (zgN ?_));simp only[go_sem];refine⟨by omega,by omega,?_⟩;refine zqN hg (hit) ?_;simp only[go_sem];refine⟨.inl trivial,?_⟩;refine AcY (around (zgN ?_));simp only[go_sem];refine zpN (hn) ?_;simp only[go_sem]
  rcases hb with rfl|rfl
  .simp only [go_sem]
   exact zt [4,5]
  .simp only [go_sem]
   refine zpN (ho) ?_;simp only[go_sem];exact zt [4,5]
structure SceneOk(x:Sc):Prop where
 set:isSetL x.set=true
 len:x.set.length<1000000
 many:x.paras.length<1000000
 run:∃ e,runL 0 x.paras=some e/\e≠2/\e≠3
theorem AoD{S:Std}(hS:LibOk S)(x:Sc)(hx:SceneOk x):PcH prog S 204 [scA x] (· = .int .i64 0):=by
 obtain⟨e,hr,h2,h3⟩:=hx.run;have h4:=hx.many;simp only[scA];refine zqIN func204 rfl fun h ρ w hg=>?_
 simp only[go_sem];refine zqN hg (AtG hS x.set hx.len) ?_;rw[hx.set];simp only[go_sem];refine AaC (ι:=Nat×Int) (fun y=>x.paras.length-y.1)
  (fun y=>[(14,.int .i64 y.1),(13,.int .i64 x.paras.length),(12,.fz 2 (x.paras.map paA)),(3,.int .i64 y.2)])
  (fun _=>[.arr 5 [.agg [.str x.no,.int .i64 x.place,.str x.set,.int .i64 x.time,.fz 2 (x.paras.map paA)]]])
  (fun y=>y.1<=x.paras.length/\runL y.2 (x.paras.drop y.1)=some e) (0,0) ⟨by simp,hr⟩ ?_ ?_
 .refine Shift.weak ?_
  simp only[go_sem,List.length_map]
 .rintro ⟨i,l⟩ ⟨g1,g2⟩ J hJ
  simp only at g1 g2 hJ |-
  by_cases gi:i<x.paras.length
  .have di:decide ((i:Int)<(x.paras.length:Int))=true:=by simp; omega
   have hd:x.paras.drop i=x.paras[i]::x.paras.drop (i+1):=List.drop_eq_getElem_cons gi;rw[hd]at g2;simp only[runL]at g2
   split at g2
   rotate_left
   .cases g2
   rename_i hp;simp only[Bool.and_eq_true]at hp;have hg':List.getD (List.map paA x.paras) i .any=.agg [.int .i64 x.paras[i].kind,.str x.paras[i].text]:=by simp[List.getD,gi,paA]
   have hpf:=AqT hS x.paras[i] hp.1;simp only[paA]at hpf;refine zgN ?_;simp only[go_sem,di,hg'];refine⟨by omega,by simpa using gi,by simpa using gi,?_⟩;refine zqN hg (hpf) ?_;simp only[go_sem];refine zpN (A2J x.paras[i].kind l) ?_;rw[hp.2];simp only[go_sem];refine⟨by omega,by omega,?_⟩;rw[ic i];refine ainv (hJ (i+1,x.paras[i].kind) ⟨by simp only; omega,g2⟩ (by simp only; omega)) (Shift.low 1 (by simp) (by simp) ?_ ?_)
   .simp only [List.take_succ_cons,List.take_zero,List.all_cons,List.all_nil,lowB,flat,cellsOf,lowC,Av.frozen,List.append_nil,Bool.and_self]
   .simp only [go_sem]
  .have di:decide ((i:Int)<(x.paras.length:Int))=false:=by simp; omega
   have:i=x.paras.length:=by omega
   subst this;rw[List.drop_length]at g2;simp only[runL,Option.some.injEq]at g2;subst g2;have q2:(l==2)=false:=by simpa using h2
   have q3:(l==3)=false:=by simpa using h3
   refine zgN ?_;simp only[go_sem,di,q2,q3];exact zt [2]
