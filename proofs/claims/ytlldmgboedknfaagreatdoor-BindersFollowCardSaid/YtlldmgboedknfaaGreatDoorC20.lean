/- The order of scenes' numbers: plain law (the general part is that of Xa; a seat imports. -/
import Derived.Test.YtlldmgboedknfaaGreatDoorC19
import Derived.Shelf.SlGeneric
import Derived.Shelf.SlSortCmp.NoneTotal
set_option maxRecDepth 100000
set_option linter.unusedSimpArgs false
set_option linter.unusedVariables false
namespace Go.Proofs.YtlldmgboedknfaaGreatDoor
open Go Go.Av Go.RowKit
theorem BbZ:∀ a b:List UInt8,Lib.compareBytes a b=(if bytesLess a b then -1 else if bytesLess b a then 1 else 0)
 | [],[]=>rfl
 | [],_::_=>rfl
 | _::_,[]=>rfl
 | a::x,b::y=>by
  have ih:=BbZ x y;simp only[Lib.compareBytes,bytesLess,Bool.or_eq_true,decide_eq_true_eq,Bool.and_eq_true,beq_iff_eq]
  by_cases h1:a<b
  .simp [h1]
  .by_cases h2:b<a
   .have h3:¬ a=b:=fun e=>by subst e; exact h1 h2
    simp[h1,h2,h3]
   .have h3:a=b:=by
     have e1:=UInt8.not_lt.1 h1;have e2:=UInt8.not_lt.1 h2;exact UInt8.le_antisymm e2 e1
    subst h3
    simp[UInt8.lt_irrefl,ih]
theorem AgE:∀ a:List UInt8,bytesLess a a=false
 | []=>rfl
 | a::x=>by simp[bytesLess,AgE x]
theorem A4E:∀ a b c:List UInt8,bytesLess a b=true->bytesLess b c=true->bytesLess a c=true
 | [],[],c,h1,_=>by cases h1
 | _,_::_,[],_,h2=>by cases h2
 | _::_,[],_,h1,_=>by cases h1
 | [],_::_,_::_,_,_=>rfl
 | a::x,b::y,c::z,h1,h2=>by
  simp only[bytesLess,Bool.or_eq_true,decide_eq_true_eq,Bool.and_eq_true,beq_iff_eq]at h1 h2 |-
  rcases h1 with h1|⟨e1,h1⟩
  .rcases h2 with h2|⟨e2,h2⟩
   .exact .inl (UInt8.lt_trans h1 h2)
   .subst e2; exact .inl h1
  .subst e1
   rcases h2 with h2|⟨e2,h2⟩
   .exact .inl h2
   .subst e2; exact .inr ⟨rfl,A4E x y z h1 h2⟩
theorem AtT:∀ a b:List UInt8,bytesLess a b=false->bytesLess b a=false->a=b
 | [],[],_,_=>rfl
 | [],_::_,h1,_=>by cases h1
 | _::_,[],_,h2=>by cases h2
 | a::x,b::y,h1,h2=>by
  simp only[bytesLess,Bool.or_eq_false_iff,decide_eq_false_iff_not,Bool.and_eq_false_imp,beq_iff_eq]at h1 h2;have h3:a=b:=UInt8.le_antisymm (UInt8.not_lt.1 h2.1) (UInt8.not_lt.1 h1.1);subst h3;rw[AtT x y (h1.2 rfl) (h2.2 rfl)]
theorem cb_lt{a b:List UInt8}:Lib.compareBytes a b<0 ↔ bytesLess a b=true:=by
 rw[BbZ]
 cases bytesLess a b with
 | true=>simp
 | false=>cases bytesLess b a <;> simp
theorem BoZ{a b:List UInt8}:Lib.compareBytes a b=0 ↔ a=b:=by
 rw[BbZ]
 cases h1:bytesLess a b with
 | true =>
  simp only[if_true]
  constructor
  .intro h; cases h
  .rintro rfl; rw[AgE]at h1; cases h1
 | false =>
  cases h2:bytesLess b a with
  | true =>
   simp only[if_true,Bool.false_eq_true,if_false]
   constructor
   .intro h; cases h
   .rintro rfl; rw[AgE]at h2; cases h2
  | false=>simpa using AtT a b h1 h2
theorem BpA{a b:Int}:cmpI a b<0 ↔ a<b:=by
 unfold cmpI
 by_cases h1:a<b
 .simp [h1]
 .by_cases h2:b<a
  .simp [h1,h2]
  .simp [h1,h2]
theorem cmpI_zero{a b:Int}:cmpI a b=0 ↔ a=b:=by
 unfold cmpI
 by_cases h1:a<b
 .simp [h1]; omega
 .by_cases h2:b<a
  .simp [h1,h2]; omega
  .simp [h1,h2]; omega
structure Ordr{α:Type}(lt:α->α->Prop):Prop where
 irrefl:∀ x,¬ lt x x
 trans:∀ x y z,lt x y->lt y z->lt x z
 total:∀ x y,¬ lt x y->¬ lt y x->x=y
section
variable {α:Type}{lt:α->α->Prop}(O:Ordr lt)
include O
theorem Ordr.ntrans{x y z:α}(h1:¬ lt y x)(h2:¬ lt z y):¬ lt z x:=fun h=>by
 by_cases h3:lt x y
 .exact h2 (O.trans _ _ _ h h3)
 .have:=O.total x y h3 h1
  subst this;exact h2 h
end
section
variable {α:Type}(lt:α->α->Prop)(d:α)
variable {lt d}
end
def nLt(a b:List UInt8):Prop:=pN a<pN b\/(pN a=pN b/\bytesLess (caps a) (caps b)=true)
theorem compareN_lt{a b:List UInt8}:AaC a b<0 ↔ nLt a b:=by
 unfold AaC nLt orI
 by_cases h:cmpI (pN a) (pN b)=0
 .rw [if_pos h,cb_lt]
  have h2:=cmpI_zero.1 h
  simp[h2]
 .rw [if_neg h,BpA]
  have h2:=mt cmpI_zero.2 h
  simp[h2]
theorem compareN_zero{a b:List UInt8}:AaC a b=0 ↔ pN a=pN b/\caps a=caps b:=by
 unfold AaC orI
 by_cases h:cmpI (pN a) (pN b)=0
 .rw [if_pos h,BoZ]
  have h2:=cmpI_zero.1 h
  simp[h2]
 .rw [if_neg h]
  have h2:=mt cmpI_zero.2 h
  simp[h,h2]
theorem AaH(a:List UInt8):¬ nLt a a:=by
 rintro(h|⟨_,h⟩)
 .omega
 .rw [AgE]at h; cases h
theorem AaF{a b c:List UInt8}(h1:nLt a b)(h2:nLt b c):nLt a c:=by
 rcases h1 with h1|⟨e1,h1⟩ <;> rcases h2 with h2|⟨e2,h2⟩
 .exact .inl (by omega)
 .exact .inl (by omega)
 .exact .inl (by omega)
 .exact .inr ⟨e1.trans e2,A4E _ _ _ h1 h2⟩
theorem AoA{a b:List UInt8}(h1:¬ nLt a b)(h2:¬ nLt b a):pN a=pN b/\caps a=caps b:=by
 unfold nLt at h1 h2;simp only[not_or,Bool.not_eq_true,not_and,Int.not_lt]at h1 h2;have e:pN a=pN b:=by omega
 exact⟨e,AtT _ _ (h1.2 e) (h2.2 e.symm)⟩
theorem AoB{a b:List UInt8}:AaC a b>0 ↔ nLt b a:=by
 constructor
 .intro h
  by_cases h1:nLt b a
  .exact h1
  .by_cases h2:nLt a b
   .have:=compareN_lt.2 h2; omega
   .have:=compareN_zero.2 (AoA h2 h1); omega
 .intro h
  by_cases h1:AaC a b<0
  .exact absurd (AaF (compareN_lt.1 h1) h) (AaH _)
  .by_cases h2:AaC a b=0
   .obtain ⟨e1,e2⟩:=compareN_zero.1 h2
    rcases h with h|⟨_,h⟩
    .omega
    .rw [e2,AgE]at h; cases h
   .omega
theorem AeB{c:UInt8}(h:digB c=true):48<=c.toNat/\c.toNat<=57:=by
 simp only[digB,digI,Bool.and_eq_true,decide_eq_true_eq]at h;omega
theorem AaT{c:UInt8}{r:List UInt8}{acc:Nat}(h:digB c=true):Lib.decFrom acc (c::r)=Lib.decFrom (acc*10+(c.toNat-48)) r:=by
 show(match Lib.digitVal c with|some d=>Lib.decFrom (acc*10+d) r|none=>none)=_
 rw[A4C h]
theorem A7K{c:UInt8}{n:Nat}(h:c.toNat=n)(hn:n<256):c=UInt8.ofNat n:=by
 apply UInt8.toNat_inj.1;rw[h]
 simp
 omega
theorem BmG{s:List UInt8}(h:okD s):∃ n:Nat,Lib.decFrom 0 (digs s)=some n/\pN s=n:=by
 obtain⟨n,hn⟩:=AeI (digs s) 0 (AfO s);refine⟨n,hn,?_⟩;have h1:=h.1;have ha:=AfO s;have key:Lib.atoi (digs s)=some (n:Int):=by
  cases hq:digs s with
  | nil=>simp[hq]at h1
  | cons b r =>
   rw[hq]at hn ha;simp only[List.all_cons,Bool.and_eq_true]at ha;have hb:=AeB ha.1;have b1:(b==45)=false:=by
    rw[beq_eq_false_iff_ne];rintro rfl;exact absurd hb.1 (by decide)
   have b2:(b==43)=false:=by
    rw[beq_eq_false_iff_ne];rintro rfl;exact absurd hb.1 (by decide)
   simp[Lib.atoi,b1,b2,Lib.decNat,hn]
 rw[pN,key];rfl
theorem AoC{a:List UInt8}(h:numberL a=true):digs a=dig3 (pN a)/\0<=pN a/\pN a<=999:=by
 obtain⟨hd,hl3,_,_⟩:=AbS h;have hat:=AfB hd;have hall:=AfO a;have hz:digs a=[48]\/((digs a).getD 0 0).toNat≠48:=by
  unfold numberL at h;simp only[Bool.and_eq_true]at h;have h3:=h.2.2
  by_cases hd0:digs a=[48]
  .exact .inl hd0
  .rw [if_neg hd0]at h3
   simp only[Bool.and_eq_true,bne_iff_ne,ne_eq]at h3;have hne:digs a≠[]:=fun e=>by have:=hd.1; rw[e]at this; simp at this
   have:a.getD 0 0=(digs a).getD 0 0:=by
    have e:=AdG a
    cases hq:digs a with
    | nil=>exact absurd hq hne
    | cons x r =>
     rw[hq]at e;rw[e];rfl
   right
   rw[<- this];intro e;exact h3.2.2 (by rw[e]; rfl)
 have h1:=hd.1;obtain⟨n,hn,hp⟩:=BmG hd;generalize digs a=l at *
 match l,hall,hl3,h1,hz,hn with
 | [x],hall,_,_,_,hn =>
  simp only[List.all_cons,List.all_nil,Bool.and_true]at hall;have b:=AeB hall;rw[AaT hall]at hn;have e:n=x.toNat-48:=by have:=Option.some.inj hn; omega
  have d1:(pN a).toNat=x.toNat-48:=by omega
  have hx:=A7K (c:=x) (n:=48+(pN a).toNat) (by omega) (by omega);refine⟨?_,by omega,by omega⟩;rw[dig3,if_pos (by omega),<- hx]
 | [x,y],hall,_,_,hz,hn =>
  simp only[List.all_cons,List.all_nil,Bool.and_true,Bool.and_eq_true]at hall;have b:=AeB hall.1;have b2:=AeB hall.2;have hx0:x.toNat≠48:=by
   rcases hz with hz|hz
   .simp at hz
   .simpa using hz
  rw[AaT hall.1,AaT hall.2]at hn;have e:n=(x.toNat-48)*10+(y.toNat-48):=by have:=Option.some.inj hn; omega
  have d1:(pN a).toNat=(x.toNat-48)*10+(y.toNat-48):=by omega
  have hx:=A7K (c:=x) (n:=48+(pN a).toNat / 10) (by omega) (by omega);have hy:=A7K (c:=y) (n:=48+(pN a).toNat%10) (by omega) (by omega);refine⟨?_,by omega,by omega⟩;rw[dig3,if_neg (by omega),if_pos (by omega),<- hx,<- hy]
 | [x,y,z],hall,_,_,hz,hn =>
  simp only[List.all_cons,List.all_nil,Bool.and_true,Bool.and_eq_true]at hall;have b:=AeB hall.1;have b2:=AeB hall.2.1;have b3:=AeB hall.2.2;have hx0:x.toNat≠48:=by
   rcases hz with hz|hz
   .simp at hz
   .simpa using hz
  rw[AaT hall.1,AaT hall.2.1,AaT hall.2.2]at hn;have e:n=((x.toNat-48)*10+(y.toNat-48))*10+(z.toNat-48):=by have:=Option.some.inj hn; omega
  have d1:(pN a).toNat=((x.toNat-48)*10+(y.toNat-48))*10+(z.toNat-48):=by omega
  have hx:=A7K (c:=x) (n:=48+(pN a).toNat / 100) (by omega) (by omega);have hy:=A7K (c:=y) (n:=48+(pN a).toNat / 10%10) (by omega) (by omega);have hz:=A7K (c:=z) (n:=48+(pN a).toNat%10) (by omega) (by omega);refine⟨?_,by omega,by omega⟩;rw[dig3,if_neg (by omega),if_neg (by omega),<- hx,<- hy,<- hz]
theorem AjE{a b:List UInt8}(ha:numberL a=true)(hb:numberL b=true)(h:pN a=pN b/\caps a=caps b):a=b:=by
 rw[AdG a,AdG b,(AoC ha).1,(AoC hb).1,h.1,h.2]
theorem BpB{x y:UInt8}(h:x<y):∀ (p u t:List UInt8),bytesLess (p++x::u) (p++y::t)=true
 | [],u,t=>by simp[bytesLess,h]
 | a::p,u,t=>by
  have ih:=BpB h p u t
  simp[bytesLess,ih]
theorem BcA:∀ (p:List UInt8)(x:UInt8)(t:List UInt8),bytesLess p (p++x::t)=true
 | [],x,t=>rfl
 | a::p,x,t=>by
  have ih:=BcA p x t
  simp[bytesLess,ih]
theorem AwV:∀ {l r:List UInt8},bumpR l=some r->∃ (j:Nat)(x:UInt8)(s:List UInt8),l=List.replicate j 90++x::s/\x≠90/\r=List.replicate j 65++(x+1)::s
 | [],r,h=>by cases h
 | c::l,r,h=>by
  rw[bumpR]at h
  split at h
  .rename_i hc
   obtain⟨r',h1,rfl⟩:=Option.map_eq_some_iff.1 h;obtain⟨j,x,s,h2,h3,h4⟩:=AwV h1;exact⟨j+1,x,s,by rw[h2,hc]; rfl,h3,by rw[h4]; rfl⟩
  .rename_i hc
   exact⟨0,c,l,rfl,hc,(Option.some.inj h).symm⟩
theorem AoD{n:Nat}:lowestL n≠[]:=by simp[lowestL]
theorem AkS(n:Nat):Lib.hasSuffix (lowestL n) [65]=false:=by
 unfold lowestL;simp only[Lib.hasSuffix]
 cases hq:List.isSuffixOf [65] (Lib.repeatL [65] (n-1)++[66])with
 | false=>rfl
 | true =>
  rw[List.isSuffixOf_iff_suffix]at hq;obtain⟨t,ht⟩:=hq;have:=congrArg List.getLast? ht
  simp at this
theorem BiP{l:List UInt8}(h:(fixR l).head? = some 65):False:=by
 cases l with
 | nil=>cases h
 | cons c r =>
  simp only[fixR,List.head?_cons,Option.some.injEq]at h
  split at h
  .exact absurd h (by decide)
  .rename_i hc; exact hc h
theorem above_suf{c:List UInt8}{n:Nat}:Lib.hasSuffix (aboveL c n) [65]=false\/aboveL c n=[]:=by
 unfold aboveL
 split
 .left
  rename_i hl;have:=AkS (n-c.length)
  cases hq:Lib.hasSuffix (c++lowestL (n-c.length)) [65]with
  | false=>rfl
  | true =>
   simp only[Lib.hasSuffix,List.isSuffixOf_iff_suffix]at hq;obtain⟨t,ht⟩:=hq;have:=congrArg List.getLast? ht
   simp[lowestL]at this
 .split
  .right; rfl
  .rename_i r hr
   left
   cases hq:Lib.hasSuffix (fixR r).reverse [65]with
   | false=>rfl
   | true =>
    exfalso
    simp only[Lib.hasSuffix,List.isSuffixOf_iff_suffix]at hq;obtain⟨t,ht⟩:=hq;have:=congrArg List.getLast? ht;rw[List.getLast?_reverse]at this;exact BiP (by rw[<- this]; simp)
theorem A7L{c:List UInt8}{n:Nat}(h0:1<=n)(h:aboveL c n≠[]):(aboveL c n).length=n:=by
 unfold aboveL at h |-
 split
 .rename_i hl
  simp only[List.length_append,lowestL,Lib.repeatL_length,List.length_singleton,List.length_cons,List.length_nil];omega
 .rename_i hl
  rw[if_neg hl]at h
  split
  .rename_i hn
   rw[hn]at h;exact absurd rfl h
  .rename_i r hr
   rw[List.length_reverse,fix_len,AtS _ _ hr,List.length_reverse,List.length_take];omega
theorem BiQ{c:List UInt8}{n:Nat}(h0:1<=n)(hc:c.all capB=true)(h:aboveL c n≠[]):bytesLess c (aboveL c n)=true:=by
 unfold aboveL at h |-
 split
 .rename_i hl
  cases hq:lowestL (n-c.length)with
  | nil=>exact absurd hq AoD
  | cons x t=>exact BcA c x t
 .rename_i hl
  rw[if_neg hl]at h
  split
  .rename_i hn
   rw[hn]at h;exact absurd rfl h
  .rename_i r hr
   obtain⟨j,x,s,h1,h2,h3⟩:=AwV hr;have hx:x.toNat<=90:=by
    refine BmF hc x ?_;have:x∈(c.take n).reverse:=by rw[h1]; simp
    exact List.mem_of_mem_take (List.mem_reverse.1 this)
   have hx2:x.toNat≠90:=fun e=>h2 (by apply UInt8.toNat_inj.1; rw[e]; rfl)
   have hx1:(x+1).toNat=x.toNat+1:=by
    rw[UInt8.toNat_add];have:(1:UInt8).toNat=1:=rfl;rw[this];omega
   have hct:c=s.reverse++x::(List.replicate j 90++c.drop n):=by
    have e:=congrArg List.reverse h1;rw[List.reverse_reverse,List.reverse_append,List.reverse_replicate,List.reverse_cons]at e;have e2:=(List.take_append_drop n c).symm;rw[e]at e2
    simpa using e2
   rw[h3]
   cases j with
   | zero =>
    simp only[List.replicate_zero,List.nil_append,fixR,List.reverse_cons];rw[hct];refine BpB ?_ _ _ _;rw[UInt8.lt_iff_toNat_lt]
    split
    .rename_i e
     have:=congrArg UInt8.toNat e;rw[hx1]at this;have h65:(65:UInt8).toNat=65:=rfl;have h66:(66:UInt8).toNat=66:=rfl;omega
    .omega
   | succ j =>
    have e:(fixR (List.replicate (j+1) 65++(x+1)::s)).reverse=s.reverse++(x+1)::(List.replicate j 65++[66]):=by
     simp[List.replicate_succ,fixR]
    rw[e,hct];refine BpB ?_ _ _ _;rw[UInt8.lt_iff_toNat_lt];omega
theorem AtU{n:Nat}(h:n<256):(UInt8.ofNat n).toNat=n:=by simp; omega
theorem A4F{d:Int}(h0:0<=d)(h1:d<=999):Lib.decFrom 0 (dig3 d)=some d.toNat:=by
 have hall:=AtR h0 h1;unfold dig3 at hall |-
 split
 .rename_i h
  rw[if_pos h]at hall;simp only[List.all_cons,List.all_nil,Bool.and_true]at hall;rw[AaT hall,AtU (by omega)]
  show some _=_
  congr 1
  omega
 .rename_i h
  rw[if_neg h]at hall
  split
  .rename_i h2
   rw[if_pos h2]at hall;simp only[List.all_cons,List.all_nil,Bool.and_true,Bool.and_eq_true]at hall;rw[AaT hall.1,AaT hall.2,AtU (by omega),AtU (by omega)]
   show some _=_
   congr 1
   omega
  .rename_i h2
   rw[if_neg h2]at hall;simp only[List.all_cons,List.all_nil,Bool.and_true,Bool.and_eq_true]at hall;rw[AaT hall.1,AaT hall.2.1,AaT hall.2.2,AtU (by omega),AtU (by omega),AtU (by omega)]
   show some _=_
   congr 1
   omega
theorem BcB{d:Int}(h0:0<=d)(h1:d<=999):(dig3 d=[48] ↔ d=0)/\(d≠0->((dig3 d).getD 0 0).toNat≠48):=by
 have h:=A4F h0 h1;refine⟨⟨fun e=>?_,fun e=>by rw[e]; rfl⟩,fun hd=>?_⟩
 .rw [e]at h
  have:=Option.some.inj h;have h2:d.toNat=0:=by rw[<- this]; rfl
  omega
 .unfold dig3
  split
  .simp only [List.getD_cons_zero]
   rw[AtU (by omega)];omega
  .split
   .simp only [List.getD_cons_zero]
    rw[AtU (by omega)];omega
   .simp only [List.getD_cons_zero]
    rw[AtU (by omega)];omega
theorem BcC{d:Int}{c:List UInt8}(h0:0<=d)(h1:d<=999)(hc:c.all capB=true)(hl:c.length<=5)(hs:Lib.hasSuffix c [65]=false)(hz:d=0->c≠[]):numberL (dig3 d++c)=true/\pN (dig3 d++c)=d/\caps (dig3 d++c)=c:=by
 obtain⟨e1,e2⟩:=AwU (AtR h0 h1) hc;have hlen:=AtQ d;obtain⟨z1,z2⟩:=BcB h0 h1;refine⟨?_,?_,e2⟩
 .unfold numberL
  rw[e1,e2,hc,hs];have hl5:decide ((c.length:Int)>5)=false:=by simp; omega
  rw[hl5];simp only[Bool.true_and,Bool.or_false,Bool.not_false]
  split
  .rename_i e
   have:=hz (z1.1 e)
   simpa using this
  .rename_i e
   have hd:d≠0:=fun h=>e (z1.2 h)
   have h3:=z2 hd;have hg:(dig3 d++c).getD 0 0=(dig3 d).getD 0 0:=by
    cases hq:dig3 d with
    | nil=>rw[hq]at hlen; simp at hlen
    | cons x t=>rfl
   rw[hg];simp only[Bool.and_eq_true,decide_eq_true_eq,bne_iff_ne,ne_eq];refine⟨hlen.1,hlen.2,?_⟩;omega
 .obtain ⟨n,hn,hp⟩:=BmG (s:=dig3 d++c) (by unfold okD; rw[e1]; omega)
  rw[e1,A4F h0 h1]at hn;have:=Option.some.inj hn;omega
theorem A7M{a:List UInt8}(ha:a=[]\/numberL a=true){n:Nat}(hn:n<=5)(h:nextL a n≠[]):numberL (nextL a n)=true/\(a=[]\/nLt a (nextL a n)):=by
 have hA:okA a:=ha.imp id fun h=>AaG h
 have hsm:=AiJ (n:=n) (by omega) hA;unfold nextL at h |-
 split
 .rename_i hb
  rw[if_pos hb]at h;exact absurd rfl h
 rename_i hb;have hcap:(caps a).all capB=true:=by
  rcases ha with rfl|ha
  .rfl
  .exact (AbS ha).2.2.2
 have hxc:=AnZ n hcap;have hsuf:Lib.hasSuffix (nextX a n).2 [65]=false/\(nextX a n).2.length<=5/\((nextX a n).1=0->(nextX a n).2≠[])/\(a=[]\/pN a<(nextX a n).1\/(pN a=(nextX a n).1/\bytesLess (caps a) (nextX a n).2=true)):=by
  have hll:(lowestL n).length<=5\/n=0:=by
   by_cases h0:n=0
   .exact .inr h0
   .left
    simp only[lowestL,List.length_append,Lib.repeatL_length,List.length_cons,List.length_nil];omega
  unfold nextX
  split
  .split
   .exact ⟨by decide,by simp,by simp,.inl (by assumption)⟩
   .exact ⟨AkS n,hll.resolve_right (by assumption),fun _=>AoD,.inl (by assumption)⟩
  .rename_i hne
   have hna:=ha.resolve_left hne;have hp:=(AoC hna).2
   split
   .exact ⟨(by simp[Lib.hasSuffix]:Lib.hasSuffix ([]:List UInt8) [65]=false),by simp,by simp only; omega,.inr (.inl (by simp only; omega))⟩
   .rename_i h0
    split
    .exact ⟨AkS n,hll.resolve_right (by assumption),fun _=>AoD,.inr (.inl (by simp only; omega))⟩
    .rename_i hab
     refine⟨above_suf.resolve_right hab,?_,fun _=>hab,.inr (.inr ⟨rfl,BiQ (by omega) hcap hab⟩)⟩;rw[A7L (by omega) hab];exact hn
 obtain⟨s1,s2,s3,s4⟩:=hsuf;obtain⟨q1,q2,q3⟩:=BcC hsm.1 (by omega) hxc s2 s1 s3;refine⟨q1,s4.imp id fun h=>?_⟩;unfold nLt;rw[q2,q3];exact h
end Go.Proofs.YtlldmgboedknfaaGreatDoor
namespace Go.Proofs
open Go.Shelf _root_.Go.Proofs.Tryz
def Tryz.sortStr_ren:Go.Shelf.Ren:=⟨fun|6=>61|15=>127|14=>126|28=>172|29=>173|20=>164|21=>165|22=>166|23=>167|24=>168|25=>169|26=>170|27=>171|46=>204|47=>205|48=>206|49=>207|50=>208|57=>233|n=>n,fun|22=>29|24=>9|25=>76|3=>3|39=>140|0=>0|53=>178|55=>181|4=>4|46=>196|45=>195|50=>200|5=>5|9=>9|66=>230|70=>234|76=>250|77=>251|n=>n,fun|n=>n⟩
theorem Tryz.sortStr:Go.Proofs.SlLaysF.n6 prog Tryz.sortStr_ren:={
 mixed:=by kernel_rfl
 f6:=⟨Tryz.f61.name,by decide,func61.trans (congrArg some (by kernel_rfl))⟩
 f14:=⟨Tryz.f126.name,by decide,func126.trans (congrArg some (by kernel_rfl))⟩
 f15:=func127.trans (congrArg some (by kernel_rfl))
 f20:=⟨Tryz.f164.name,by decide,func164.trans (congrArg some (by kernel_rfl))⟩
 f21:=⟨Tryz.f165.name,by decide,func165.trans (congrArg some (by kernel_rfl))⟩
 f22:=⟨Tryz.f166.name,by decide,func166.trans (congrArg some (by kernel_rfl))⟩
 f23:=⟨Tryz.f167.name,by decide,func167.trans (congrArg some (by kernel_rfl))⟩
 f24:=⟨Tryz.f168.name,by decide,func168.trans (congrArg some (by kernel_rfl))⟩
 f25:=⟨Tryz.f169.name,by decide,func169.trans (congrArg some (by kernel_rfl))⟩
 f26:=⟨Tryz.f170.name,by decide,func170.trans (congrArg some (by kernel_rfl))⟩
 f27:=⟨Tryz.f171.name,by decide,func171.trans (congrArg some (by kernel_rfl))⟩
 f28:=func172.trans (congrArg some (by kernel_rfl))
 f29:=func173.trans (congrArg some (by kernel_rfl))
 f46:=⟨Tryz.f204.name,by decide,func204.trans (congrArg some (by kernel_rfl))⟩
 f47:=func205.trans (congrArg some (by kernel_rfl))
 f48:=func206.trans (congrArg some (by kernel_rfl))
 f49:=⟨Tryz.f207.name,by decide,func207.trans (congrArg some (by kernel_rfl))⟩
 f50:=⟨Tryz.f208.name,by decide,func208.trans (congrArg some (by kernel_rfl))⟩
 f57:=⟨Tryz.f233.name,by decide,func233.trans (congrArg some (by kernel_rfl))⟩
 t0:=underlying0
 a0:=Tryz.isAgg0
 z0:=Tryz.sizeOf0
 v0:=Tryz.zeroValue0
 t3:=underlying3
 a3:=Tryz.isAgg3
 z3:=Tryz.sizeOf3
 v3:=Tryz.zeroValue3
 t4:=underlying4
 a4:=Tryz.isAgg4
 z4:=Tryz.sizeOf4
 v4:=Tryz.zeroValue4
 t5:=underlying5
 a5:=Tryz.isAgg5
 z5:=Tryz.sizeOf5
 v5:=Tryz.zeroValue5
 t9:=underlying9
 a9:=Tryz.isAgg9
 z9:=Tryz.sizeOf9
 v9:=Tryz.zeroValue9
 t22:=underlying29
 a22:=Tryz.isAgg29
 z22:=Tryz.sizeOf29
 v22:=Tryz.zeroValue29
 a24:=Tryz.isAgg9
 z24:=Tryz.sizeOf9
 t25:=underlying76
 a25:=Tryz.isAgg76
 z25:=Tryz.sizeOf76
 v25:=Tryz.zeroValue76
 t39:=underlying140
 a39:=Tryz.isAgg140
 z39:=Tryz.sizeOf140
 v39:=Tryz.zeroValue140
 t45:=underlying195
 a45:=Tryz.isAgg195
 z45:=Tryz.sizeOf195
 v45:=Tryz.zeroValue195
 t46:=underlying196
 a46:=Tryz.isAgg196
 z46:=Tryz.sizeOf196
 v46:=Tryz.zeroValue196
 t50:=underlying200
 a50:=Tryz.isAgg200
 z50:=Tryz.sizeOf200
 v50:=Tryz.zeroValue200
 t53:=underlying178
 a53:=Tryz.isAgg178
 z53:=Tryz.sizeOf178
 v53:=Tryz.zeroValue178
 t55:=underlying181
 a55:=Tryz.isAgg181
 z55:=Tryz.sizeOf181
 v55:=Tryz.zeroValue181
 t66:=underlying230
 a66:=Tryz.isAgg230
 z66:=Tryz.sizeOf230
 v66:=Tryz.zeroValue230
 t70:=underlying234
 a70:=Tryz.isAgg234
 z70:=Tryz.sizeOf234
 v70:=Tryz.zeroValue234
 t76:=underlying250
 a76:=Tryz.isAgg250
 z76:=Tryz.sizeOf250
 v76:=Tryz.zeroValue250
 t77:=underlying251
 a77:=Tryz.isAgg251
 z77:=Tryz.sizeOf251
 v77:=Tryz.zeroValue251 }
end Go.Proofs
set_option linter.unusedSectionVars false
namespace Go.Av
open Go Go.RowKit
variable [Tr]
def cellTo(n:Nat)(a a':AV):Prop:=a'=a\/(a=.raw (.slice none 0 0)/\(a'=.sl n 0 0 0\/∃ es,a'=.fz es []))
def toC(n:Nat):List AV->List AV->Prop
 | [],[]=>True
 | a::r,a'::r'=>cellTo n a a'/\toC n r r'
 | _,_=>False
theorem cellTo.refl{n:Nat}{a:AV}:cellTo n a a:=.inl rfl
theorem cellTo.sl{n:Nat}:cellTo n (.raw (.slice none 0 0)) (.sl n 0 0 0):=.inr ⟨rfl,.inl rfl⟩
theorem cellTo.fz{n es:Nat}:cellTo n (.raw (.slice none 0 0)) (.fz es []):=.inr ⟨rfl,.inr ⟨es,rfl⟩⟩
section
variable {h:Mem}{ρ:Own}{s:List Blk}{w:World}
theorem BmH{n es:Nat}(hn:s[n]? = some (.arr es [])):∀ {l l':List AV}{vs:List Value},toC n l l'->RL h (Lf ρ s) false vs l->RL h (Lf ρ s) false vs l'
 | [],[],_,_,r=>r
 | a::l,a'::l',_,t,r=>by
  cases r with
  | cons r1 r2 =>
   refine .cons ?_ (BmH hn t.2 r2)
   rcases t.1 with rfl|⟨rfl,rfl|⟨e,rfl⟩⟩
   .exact r1
   .rw [AaS r1]
    exact .leaf ⟨rfl,by simp only[LfC,hn]; exact⟨by simp,fun _=>.inl ⟨trivial,trivial,none,rfl⟩⟩⟩
   .rw [AaS r1]
    exact .fznil e
 | [],_::_,_,t,_=>t.elim
 | _::_,[],_,t,_=>t.elim
theorem Mine.recell(m:Mine h ρ s w){id n es es':Nat}{l l':List AV}(hb:s[id]? = some (.arr es l))(hlen:l'.length=l.length)(hcl:∀ x∈l',(cellsOf x).length=es)(hn:s[n]? = some (.arr es' []))(ht:toC n (flat l) (flat l')) :
  Mine h ρ (s.set id (.arr es l')) w/\Later h ρ s w h ρ (s.set id (.arr es l')) w:=by
 have hid:=(List.getElem?_eq_some_iff.1 hb).1;have hk:∀ v a,Lf ρ s v a->Lf ρ (s.set id (.arr es l')) v a:=fun v a x=>⟨x.1,AbT (b':=.arr es l') hb (fun _ _=>rfl) (Or.inl ⟨rfl,hlen,rfl⟩) x.2⟩
 refine⟨⟨m.mem,?_,fun i hi=>m.out i (by simpa using hi),m.inj,m.disj⟩,⟨fun _ _ _ x=>x,fun _ _ a b=>(b a).elim,hk,rfl,rfl,⟨rfl,Tr.same rfl⟩,Nat.le_refl _,fun _ _ _=>rfl,fun i _ t x=>.inl ⟨i,t,x⟩⟩⟩;intro i blk e
 by_cases hi:i=id
 .subst hi
  simp[hid]at e
  subst e
  rcases m.own i _ hb with⟨h1,h2⟩|⟨g,tot,cur,t,h1,h2,h3,h4,h5,h6,h7,h8,h9⟩
  .exact .inl ⟨by subst h1; simpa using hlen,h2⟩
  .refine .inr ⟨g,tot,cur,t,h1,h2,h3,by omega,h5,h6,hcl,h8,?_⟩
   rw[hlen];exact(BmH hn ht h9).mono (fun _ _ _ x=>x) hk
 .rw [List.getElem?_set_ne (Ne.symm hi)]at e
  exact(m.own i blk e).mono (fun _ _ _ x=>x) hk rfl (fun _ _ _=>rfl)
end
variable {c:Cx}{e:Env}{s:List Blk}
theorem Shift.cells(id es':Nat){es:Nat}{l:List AV}(l':List AV)(hb:s.getD id .dead=.arr es l)(hlen:l'.length=l.length)(hcl:∀ x∈l',(cellsOf x).length=es)(ht:toC s.length (flat l) (flat l')) :
  Shift c e s e (List.set (s++[Blk.arr es' []]) id (Blk.arr es l')):=by
 rintro a w ⟨hh,ρ,hm,hlt,he,hdf,hsz,hX⟩;obtain⟨m1,l1⟩:=hm.pushNil es';have hid:=AbU hb;have hlt':id<s.length:=(List.getElem?_eq_some_iff.1 hid).1;obtain⟨m2,l2⟩:=m1.recell (id:=id) (n:=s.length) (es':=es') (by rw[List.getElem?_append_left hlt']; exact hid) hlen hcl (by simp) ht;exact⟨hh,ρ,m2,hlt.trans (l1.trans l2),fun t=>((he t).mono l1.hle l1.keep).mono l2.hle l2.keep,hdf,hsz,c.hx.later hm (l1.trans l2) hX⟩
end Go.Av
namespace Go.Av
open Go Go.RowKit
variable [Tr]
def lowC(n:Nat):AV->Bool
 | .sl m _ _ _=>decide (m<n)
 | .ptr m _ _ _=>decide (m<n)
 | .mp m=>decide (m<n)
 | v=>frozen v
def lowV(n:Nat):AV->Bool
 | .agg r=>r.all (lowC n)
 | .fn _ r=>r.all (lowC n)
 | v=>lowC n v
def lowB(n:Nat):Blk->Bool
 | .arr _ l=>(flat l).all (lowC n)
 | .mp es=>es.all fun x=>lowV n x.2
 | .it mid _ _=>decide (mid<n)
 | .dead=>true
def wkl(n:Nat)(e:Env):Env->Prop
 | []=>True
 | (t,v)::r=>(lowV n v=true/\get e t=v)/\wkl n e r
def lowρ(ρ:Own)(n:Nat):Own:=fun i=>if i<n then ρ i else none
theorem AtV{n:Nat}{v:AV}(h:frozen v=true):lowC n v=true:=by
 cases v <;> first|exact h|(simp[frozen]at h)
theorem AbL{n:Nat}{l:List AV}(h:l.all frozen=true):l.all (lowC n)=true:=by
 rw[List.all_eq_true]at h |-;exact fun x hx=>AtV (h x hx)
section
variable {h:Mem}{ρ:Own}{s:List Blk}{w:World}{n:Nat}
theorem AoE(hn:n<=s.length){v:Value}{a:AV}(hl:lowC n a=true)(l:LfC ρ s v a):LfC (lowρ ρ n) (s.take n) v a:=by
 cases a with
 | sl i o x cp =>
  have hi:i<n:=of_decide_eq_true hl;simp only[LfC,List.getElem?_take,hi,if_true,lowρ]at l |-; exact l
 | ptr i m j o =>
  have hi:i<n:=of_decide_eq_true hl;simp only[LfC,List.getElem?_take,hi,if_true,lowρ]at l |-; exact l
 | mp i =>
  have hi:i<n:=of_decide_eq_true hl;simp only[LfC,List.getElem?_take,hi,if_true,lowρ]at l |-; exact l
 | _=>exact l.elim
theorem A1D(hn:n<=s.length){v:Value}{a:AV}(hl:lowC n a=true)(r:RV h (Lf ρ s) false v a):RV h (Lf (lowρ ρ n) (s.take n)) false v a:=by
 have frz:frozen a=true->RV h (Lf (lowρ ρ n) (s.take n)) false v a:=fun hf=>(AkG r hf).thaw (fun _ _ _ x=>x)
 cases a with
 | sl i o x cp=>exact .leaf ⟨(AbO r).1,AoE hn hl (AbO r).2⟩
 | ptr i m j o=>exact .leaf ⟨(AcV r).1,AoE hn hl (AcV r).2⟩
 | mp i=>exact .leaf ⟨(AhT r).1,AoE hn hl (AhT r).2⟩
 | _=>exact frz hl
theorem AhC(hn:n<=s.length):∀ {l:List AV}{vs:List Value},l.all (lowC n)=true->RL h (Lf ρ s) false vs l->RL h (Lf (lowρ ρ n) (s.take n)) false vs l
 | [],_,_,r=>by cases r; exact .nil
 | a::l,_,hl,r=>by
  simp only[List.all_cons,Bool.and_eq_true]at hl
  cases r with|cons r1 r2=>exact .cons (A1D hn hl.1 r1) (AhC hn hl.2 r2)
theorem BpC(hn:n<=s.length){u:Value}{y:AV}(h1:lowV n y=true)(hx:RV h (Lf ρ s) false u y):RV h (Lf (lowρ ρ n) (s.take n)) false u y:=by
 cases y with
 | agg r =>
  obtain⟨vs,rfl,rl⟩:=AaN hx;exact .agg vs r (AhC hn h1 rl)
 | fn f r =>
  cases hx with
  | leaf p=>exact p.2.elim
  | fn _ vs _ rl=>exact .fn f vs r (AhC hn h1 rl)
 | _=>exact A1D hn h1 hx
theorem Mine.low(m:Mine h ρ s w)(hn:n<=s.length)(hb:(s.take n).all (lowB n)=true):Mine h (lowρ ρ n) (s.take n) w:=by
 have hρ:∀ i g t,lowρ ρ n i=some (g,t)->i<n/\ρ i=some (g,t):=by
  intro i g t e;unfold lowρ at e
  split at e
  .exact ⟨by assumption,e⟩
  .cases e
 refine⟨m.mem,?_,?_,?_,?_⟩
 .intro i b e
  have hi:i<n:=by
   have:=(List.getElem?_eq_some_iff.1 e).1
   simp at this; omega
  have hlow:lowB n b=true:=List.all_eq_true.1 hb b (List.mem_of_getElem? e);rw[List.getElem?_take,if_pos hi]at e;have o:=m.own i b e;have hρi:lowρ ρ n i=ρ i:=by simp[lowρ,hi]
  cases b with
  | arr es l =>
   rcases o with⟨h1,h2⟩|⟨g,tot,cur,t,h1,h2,h3,h4,h5,h6,h7,h8,h9⟩
   .exact .inl ⟨h1,hρi.trans h2⟩
   .exact .inr ⟨g,tot,cur,t,hρi.trans h1,h2,h3,h4,h5,h6,h7,h8,AhC hn hlow h9⟩
  | mp es =>
   obtain⟨g,en,cl,h1,h2,h3,h4,h5⟩:=o;refine⟨g,en,cl,hρi.trans h1,h2,h3,fun k x y hx hy=>?_,h5⟩;obtain⟨p,q⟩:=h4 k x y hx hy;simp only[lowB,List.all_eq_true]at hlow;have:=hlow x (AzY (List.mem_of_getElem? hx));exact⟨p.thaw (fun _ _ _ x=>x),BpC hn this q⟩
  | it mid k seen =>
   obtain⟨g,gm,h1,h2,h3,h4⟩:=o;exact⟨g,gm,hρi.trans h1,h2,⟨h3.1,AoE hn (a:=.mp mid) hlow h3.2⟩,h4⟩
  | dead=>exact hρi.trans o
 .intro i hi
  have:¬ i<n:=by simp at hi; omega
  simp[lowρ,this]
 .intro i j g t t' hi hj
  exact m.inj i j g t t' (hρ i g t hi).2 (hρ j g t' hj).2
 .intro i g t e
  exact m.disj i g t (hρ i g t e).2
end
variable {c:Cx}{e:Env}{s:List Blk}
theorem BpD{n:Nat}{e e':Env}(h:wkl n e e')(t:Nat):get e' t=.any\/(lowV n (get e' t)=true/\get e t=get e' t):=by
 induction e' with
 | nil=>exact .inl rfl
 | cons x r ih =>
  obtain⟨k,v⟩:=x;simp only[get]
  by_cases hk:k=t
  .subst hk; simp; exact .inr h.1
  .have:(k==t)=false:=by simpa using hk
   simp only[this,cond_false];exact ih h.2
theorem Shift.low(n:Nat){e':Env}(hc:c.sto.length<=n)(hn:n<=s.length)(hb:(s.take n).all (lowB n)=true)(hw:wkl n e e'):Shift c e s e' (s.take n):=by
 rintro a w ⟨hh,ρ,hm,hlt,he,hdf,hsz,hX⟩;have low:∀ v x,Lf c.ρ c.sto v x->Lf (lowρ ρ n) (s.take n) v x:=by
  intro v x lf;have l2:=hlt.keep v x lf;refine⟨lf.1,AoE hn ?_ l2.2⟩;have hx:=lf.2
  cases x <;> simp only[LfC]at hx
  .rename_i i o l cp
   cases hq:c.sto[i]? with
   | none=>simp[hq]at hx
   | some y=>exact decide_eq_true (Nat.lt_of_lt_of_le (List.getElem?_eq_some_iff.1 hq).1 hc)
  .rename_i i n j o
   cases hq:c.sto[i]? with
   | none=>simp[hq]at hx
   | some y=>exact decide_eq_true (Nat.lt_of_lt_of_le (List.getElem?_eq_some_iff.1 hq).1 hc)
  .rename_i i
   cases hq:c.sto[i]? with
   | none=>simp[hq]at hx
   | some y=>exact decide_eq_true (Nat.lt_of_lt_of_le (List.getElem?_eq_some_iff.1 hq).1 hc)
 have hρ:∀ i g t,lowρ ρ n i=some (g,t)->ρ i=some (g,t):=by
  intro i g t e;unfold lowρ at e
  split at e
  .exact e
  .cases e
 refine⟨hh,lowρ ρ n,hm.low hn hb,⟨hlt.hle,hlt.hnew,low,hlt.os,hlt.tape,hlt.output,hlt.size,hlt.block,fun i g t hi=>hlt.newown i g t (hρ i g t hi)⟩,fun t=>?_,hdf,hsz,c.hx.fewer (fun i g t hi=>⟨i,t,hρ i g t hi⟩) hX⟩;have hx:=he t
 rcases BpD hw t with hq|⟨h1,hq⟩
 .rw [hq]; exact .any _
 .rw [hq]at hx
  generalize Av.get e' t=y at h1 hx |-
  cases y with
  | agg r =>
   obtain⟨vs,hv,rl⟩:=AaN hx;rw[hv];exact .agg vs r (AhC hn h1 rl)
  | fn f r =>
   generalize a.tmps.getD t undef=u at hx |-
   cases hx with
   | leaf p=>exact p.2.elim
   | fn _ vs _ rl=>exact .fn f vs r (AhC hn h1 rl)
  | _=>exact A1D hn h1 hx
attribute [go_sem] wkl lowV lowC
end Go.Av
namespace Go.Av
open Go Go.RowKit
variable [Tr]
def idx:List Nat->Nat->Nat->Option Nat
 | [],_,_=>none
 | a::r,id,k=>bif a==id then some k else idx r id (k+1)
def ren1(σ:List Nat):AV->AV
 | .sl id o l c=>match idx σ id 0 with
  | some k=>.sl k o l c
  | none=>.any
 | .ptr id n i o=>match idx σ id 0 with
  | some k=>.ptr k n i o
  | none=>.any
 | .mp id=>match idx σ id 0 with
  | some k=>.mp k
  | none=>.any
 | .agg _=>.any
 | .tup _=>.any
 | .fn _ _=>.any
 | a=>a
def renC(σ:List Nat):AV->AV
 | .agg r=>.agg (r.map (ren1 σ))
 | a=>ren1 σ a
def renV(σ:List Nat):AV->AV
 | .agg r=>.agg (r.map (ren1 σ))
 | .fn f r=>.fn f (r.map (ren1 σ))
 | a=>ren1 σ a
def renB(σ:List Nat):Blk->Blk
 | .arr e l=>.arr e (l.map (renC σ))
 | .mp es=>.mp (es.map fun x=>(x.1,renV σ x.2))
 | b=>b
def renE(σ:List Nat):Env->Env
 | []=>[]
 | (t,v)::r=>(t,renV σ v)::renE σ r
def renS(σ:List Nat)(s:List Blk):List Blk:=σ.map fun i=>renB σ (s.getD i .dead)
def mpOk:Blk->Bool
 | .it _ _ _=>false
 | _=>true
def renOk(σ:List Nat)(n:Nat)(s:List Blk):Bool:=σ.all (fun i=>decide (i<s.length)&&mpOk (s.getD i .dead))&&(decide σ.Nodup&&(σ.take n==List.range n))
theorem A4G:∀ {σ:List Nat}{id k j:Nat},idx σ id j=some k->j<=k/\σ[k-j]? = some id
 | [],_,_,_,h=>by cases h
 | a::r,id,k,j,h=>by
  simp only[idx]at h
  by_cases e:a=id
  .subst e
   simp at h
   subst h
   simp
  .have:(a==id)=false:=by simpa using e
   simp only[this,cond_false]at h;obtain⟨h1,h2⟩:=A4G h;refine⟨by omega,?_⟩;rw[show k-j=(k-(j+1))+1 by omega]
   simpa using h2
section
variable {h:Mem}{ρ:Own}{s:List Blk}{w:World}{σ:List Nat}
def renρ(ρ:Own)(σ:List Nat):Own:=fun k=>match σ[k]? with
 | some i=>ρ i
 | none=>none
theorem AmM{k i:Nat}(hk:σ[k]? = some i)(hi:i<s.length):(renS σ s)[k]? = some (renB σ (s[i])):=by
 simp only[renS,List.getElem?_map,hk,Option.map_some,List.getD_eq_getElem?_getD,List.getElem?_eq_getElem hi,Option.getD_some]
theorem BcD{σ:List Nat}(hs:∀ i∈σ,i<s.length){k id:Nat}(hk:σ[k]? = some id){v:Value}{a b c:Nat}(l:LfC ρ s v (.sl id a b c)):LfC (renρ ρ σ) (renS σ s) v (.sl k a b c):=by
 have hi:=hs id (List.mem_of_getElem? hk);have hρ:renρ ρ σ k=ρ id:=by simp[renρ,hk]
 simp only[LfC,AmM hk hi,List.getElem?_eq_getElem hi,hρ]at l |-
 cases hq:s[id] <;> rw[hq]at l <;> simp only[renB,List.length_map]at l |- <;> exact l
theorem A4H{σ:List Nat}(hs:∀ i∈σ,i<s.length){k id:Nat}(hk:σ[k]? = some id){v:Value}{a b c:Nat}(l:LfC ρ s v (.ptr id a b c)):LfC (renρ ρ σ) (renS σ s) v (.ptr k a b c):=by
 have hi:=hs id (List.mem_of_getElem? hk);have hρ:renρ ρ σ k=ρ id:=by simp[renρ,hk]
 simp only[LfC,AmM hk hi,List.getElem?_eq_getElem hi,hρ]at l |-
 cases hq:s[id] <;> rw[hq]at l <;> simp only[renB,List.length_map]at l |- <;> exact l
theorem BcE{σ:List Nat}(hs:∀ i∈σ,i<s.length){k id:Nat}(hk:σ[k]? = some id){v:Value}(l:LfC ρ s v (.mp id)):LfC (renρ ρ σ) (renS σ s) v (.mp k):=by
 have hi:=hs id (List.mem_of_getElem? hk);have hρ:renρ ρ σ k=ρ id:=by simp[renρ,hk]
 simp only[LfC,AmM hk hi,List.getElem?_eq_getElem hi,hρ]at l |-
 cases hq:s[id] <;> rw[hq]at l <;> simp only[renB]at l |- <;> exact l
theorem A1E{σ:List Nat}{id k:Nat}(h:idx σ id 0=some k):σ[k]? = some id:=by simpa using(A4G h).2
theorem A1F(hs:∀ i∈σ,i<s.length){v:Value}{a:AV}(r:RV h (Lf ρ s) false v a):RV h (Lf (renρ ρ σ) (renS σ s)) false v (ren1 σ a):=by
 have frz:frozen a=true->RV h (Lf (renρ ρ σ) (renS σ s)) false v a:=fun hf=>(AkG r hf).thaw (fun _ _ _ x=>x)
 cases a with
 | sl id o l c =>
  simp only[ren1]
  cases hq:idx σ id 0 with
  | none=>exact .any _
  | some k=>exact .leaf ⟨(AbO r).1,BcD hs (A1E hq) (AbO r).2⟩
 | ptr id n i o =>
  simp only[ren1]
  cases hq:idx σ id 0 with
  | none=>exact .any _
  | some k=>exact .leaf ⟨(AcV r).1,A4H hs (A1E hq) (AcV r).2⟩
 | mp id =>
  simp only[ren1]
  cases hq:idx σ id 0 with
  | none=>exact .any _
  | some k=>exact .leaf ⟨(AhT r).1,BcE hs (A1E hq) (AhT r).2⟩
 | agg r=>exact .any _
 | tup r=>exact .any _
 | fn f r=>exact .any _
 | _=>exact frz rfl
theorem AhD(hs:∀ i∈σ,i<s.length):∀ {l:List AV}{vs:List Value},RL h (Lf ρ s) false vs l->RL h (Lf (renρ ρ σ) (renS σ s)) false vs (l.map (ren1 σ))
 | [],_,r=>by cases r; exact .nil
 | a::l,_,r=>by cases r with|cons r1 r2=>exact .cons (A1F hs r1) (AhD hs r2)
theorem renC_cells(σ:List Nat)(x:AV):cellsOf (renC σ x)=(cellsOf x).map (ren1 σ):=by
 cases x with
 | sl id o l c=>simp only[renC,ren1,cellsOf,List.map_cons,List.map_nil]; cases idx σ id 0 <;> rfl
 | ptr id n i o=>simp only[renC,ren1,cellsOf,List.map_cons,List.map_nil]; cases idx σ id 0 <;> rfl
 | mp id=>simp only[renC,ren1,cellsOf,List.map_cons,List.map_nil]; cases idx σ id 0 <;> rfl
 | _=>rfl
theorem renC_flat(σ:List Nat):∀ l,flat (l.map (renC σ))=(flat l).map (ren1 σ)
 | []=>rfl
 | x::r=>by simp only[List.map_cons,flat,renC_cells,renC_flat σ r,List.map_append]
theorem BpE(hs:∀ i∈σ,i<s.length){u:Value}{y:AV}(hx:RV h (Lf ρ s) false u y):RV h (Lf (renρ ρ σ) (renS σ s)) false u (renV σ y):=by
 cases y with
 | agg r =>
  obtain⟨vs,rfl,rl⟩:=AaN hx;exact .agg vs _ (AhD hs rl)
 | fn f r =>
  cases hx with
  | leaf p=>exact p.2.elim
  | fn _ vs _ rl=>exact .fn f vs _ (AhD hs rl)
 | _=>exact A1F hs hx
theorem Mine.ren(m:Mine h ρ s w)(hs:∀ i∈σ,i<s.length)(hm:∀ i∈σ,mpOk (s.getD i .dead)=true)(hn:σ.Nodup):Mine h (renρ ρ σ) (renS σ s) w:=by
 have hρ:∀ k g t,renρ ρ σ k=some (g,t)->∃ i,σ[k]? = some i/\ρ i=some (g,t):=by
  intro k g t e;unfold renρ at e
  cases hq:σ[k]? with
  | none=>rw[hq]at e; cases e
  | some i=>rw[hq]at e; exact⟨i,rfl,e⟩
 refine⟨m.mem,?_,?_,?_,?_⟩
 .intro k b e
  have hk:k<σ.length:=by
   have:=(List.getElem?_eq_some_iff.1 e).1
   simpa[renS]using this
  have hq:=List.getElem?_eq_getElem hk;have hi:=hs σ[k] (List.getElem_mem hk);have hmk:=hm σ[k] (List.getElem_mem hk);rw[AmM hq hi]at e;simp only[Option.some.injEq]at e;subst e;have o:=m.own σ[k] s[σ[k]] (List.getElem?_eq_getElem hi);have hρk:renρ ρ σ k=ρ σ[k]:=by simp[renρ,hq]
  rw[List.getD_eq_getElem?_getD,List.getElem?_eq_getElem hi,Option.getD_some]at hmk
  cases hb:s[σ[k]]with
  | arr es l =>
   rw[hb]at o
   rcases o with⟨h1,h2⟩|⟨g,tot,cur,t,h1,h2,h3,h4,h5,h6,h7,h8,h9⟩
   .exact .inl ⟨by simp[h1],hρk.trans h2⟩
   .refine .inr ⟨g,tot,cur,t,hρk.trans h1,h2,h3,by simpa using h4,h5,h6,?_,h8,?_⟩
    .intro x hx
     obtain⟨y,hy,rfl⟩:=List.mem_map.1 hx;rw[renC_cells,List.length_map];exact h7 y hy
    .rw [renC_flat,List.length_map]
     exact AhD hs h9
  | mp es =>
   rw[hb]at o hmk;obtain⟨g,en,cl,h1,h2,h3,h4,h5⟩:=o;refine⟨g,en,cl,hρk.trans h1,h2,by rw[lvs_map]; simpa using h3,fun k x y hx hy=>?_,h5.map _⟩;rw[lvs_map,List.getElem?_map]at hx;obtain⟨x',hx',rfl⟩:=Option.map_eq_some_iff.1 hx;obtain⟨p,q⟩:=h4 k x' y hx' hy;exact⟨p.thaw (fun _ _ _ x=>x),BpE hs q⟩
  | it mid n seen=>rw[hb]at hmk; cases hmk
  | dead=>rw[hb]at o; exact hρk.trans o
 .intro k hk
  have:σ[k]? = none:=List.getElem?_eq_none (by simpa[renS]using hk)
  simp[renρ,this]
 .intro k k' g t t' hi hj
  obtain⟨i,h1,h2⟩:=hρ k g t hi;obtain⟨j,h3,h4⟩:=hρ k' g t' hj;have hij:=m.inj i j g t t' h2 h4;subst hij;exact(List.getElem?_inj (List.getElem?_eq_some_iff.1 h1).1 hn).1 (h1.trans h3.symm)
 .intro k g t e
  obtain⟨i,h1,h2⟩:=hρ k g t e;exact m.disj i g t h2
end
variable {c:Cx}{e:Env}{s:List Blk}
theorem A4I(σ:List Nat)(t:Nat):∀ r,get (renE σ r) t=.any\/get (renE σ r) t=renV σ (get r t)
 | []=>.inl rfl
 | (t',v)::r=>by
  have ih:=A4I σ t r;simp only[renE,Av.get]
  cases t'==t with
  | true=>exact .inr rfl
  | false=>exact ih
theorem Shift.ren(σ:List Nat)(hσ:renOk σ c.sto.length s=true):Shift c e s (renE σ e) (renS σ s):=by
 rintro a w ⟨hh,ρ,hm,hlt,he,hdf,hsz,hX⟩;simp only[renOk,Bool.and_eq_true,List.all_eq_true,decide_eq_true_eq,beq_iff_eq]at hσ;obtain⟨h1,h2,h3⟩:=hσ;have hs:∀ i∈σ,i<s.length:=fun i hi=>(h1 i hi).1
 have keep:∀ i,i<c.sto.length->σ[i]? = some i:=fun i hi=>by
  have:(σ.take c.sto.length)[i]? = some i:=by rw[h3]; simp[hi]
  rwa [List.getElem?_take,if_pos hi]at this
 have low:∀ v x,Lf c.ρ c.sto v x->Lf (renρ ρ σ) (renS σ s) v x:=by
  intro v x lf;have l2:=hlt.keep v x lf;refine⟨lf.1,?_⟩;have hx:=lf.2;have l3:=l2.2
  cases x with
  | sl i o l cp =>
   simp only[LfC]at hx
   cases hq:c.sto[i]? with
   | none=>simp[hq]at hx
   | some y=>exact BcD hs (keep i (List.getElem?_eq_some_iff.1 hq).1) l3
  | ptr i n j o =>
   simp only[LfC]at hx
   cases hq:c.sto[i]? with
   | none=>simp[hq]at hx
   | some y=>exact A4H hs (keep i (List.getElem?_eq_some_iff.1 hq).1) l3
  | mp i =>
   simp only[LfC]at hx
   cases hq:c.sto[i]? with
   | none=>simp[hq]at hx
   | some y=>exact BcE hs (keep i (List.getElem?_eq_some_iff.1 hq).1) l3
  | _=>exact l3.elim
 have hρ:∀ k g t,renρ ρ σ k=some (g,t)->∃ i,ρ i=some (g,t):=by
  intro k g t e;unfold renρ at e
  cases hq:σ[k]? with
  | none=>rw[hq]at e; cases e
  | some i=>rw[hq]at e; exact⟨i,e⟩
 refine⟨hh,renρ ρ σ,hm.ren hs (fun i hi=>(h1 i hi).2) h2,⟨hlt.hle,hlt.hnew,low,hlt.os,hlt.tape,hlt.output,hlt.size,hlt.block,fun k g t hk=>?_⟩,fun t=>?_,hdf,hsz,c.hx.fewer (fun k g t hk=>?_) hX⟩
 .obtain ⟨i,hi⟩:=hρ k g t hk
  exact hlt.newown i g t hi
 .have hx:=he t
  rcases A4I σ t e with hq|hq
  .rw [hq]; exact .any _
  .rw [hq]
   generalize Av.get e t=y at hx |-
   cases y with
   | agg r =>
    obtain⟨vs,hv,rl⟩:=AaN hx;rw[hv];exact .agg vs _ (AhD hs rl)
   | fn f r =>
    generalize a.tmps.getD t undef=u at hx |-
    cases hx with
    | leaf p=>exact p.2.elim
    | fn _ vs _ rl=>exact .fn f vs _ (AhD hs rl)
   | _=>exact A1F hs hx
 .obtain ⟨i,hi⟩:=hρ k g t hk
  exact⟨i,t,hi⟩
end Go.Av
namespace Go.Av
open Go Go.RowKit
variable [Tr]
theorem acut{c:Cx}{x:It}{B:Code}{k:List It}{e:Env}{s:List Blk}{ι:Type}(E:ι->Env)(S:ι->List Blk)(H:ι->Prop)
  (h1:∀ J:Act->World->Prop,(∀ y,H y->∀ a w,Sim c (E y) (S y) a w->J a w)->AWp c (x::.inv J::k) e s)
  (h2:∀ y,H y->AWp c (.code B::k) (E y) (S y)):AWp c (x::.code B::k) e s:=by
 intro a w hs;have h:=h1 (fun a w=>B.wp c.P (WQ c k) a w) (fun y hy a w hs=>h2 y hy a w hs) a w hs;have e1:WQ c (.inv (fun a w=>B.wp c.P (WQ c k) a w)::k)=WQ c (.code B::k):=by
  funext en a w
  cases en <;> rfl
 have e2:WQ c (x::.inv (fun a w=>B.wp c.P (WQ c k) a w)::k)=WQ c (x::.code B::k):=by
  funext en a w
  cases en <;> simp only[WQ,e1]
 rw[e2]at h;exact h
