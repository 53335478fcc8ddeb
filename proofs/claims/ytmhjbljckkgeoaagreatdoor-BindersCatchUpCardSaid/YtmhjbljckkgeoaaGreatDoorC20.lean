/- The order of scenes' numbers: plain law (the general part is that of Xa; a seat imports. -/
import Derived.Test.YtmhjbljckkgeoaaGreatDoorC16
set_option maxRecDepth 100000
set_option linter.all false
namespace Go.Proofs.YtmhjbljckkgeoaaGreatDoor
open Av RowKit
theorem cb_val:∀ a b:LU,Lib.compareBytes a b=(if bytesLess a b then -1 else if bytesLess b a then 1 else 0)
 | [],[]=>rfl
 | [],_::_=>rfl
 | _::_,[]=>rfl
 | a::x,b::y=>by
  have ih:=cb_val x y;simp only[Lib.compareBytes,bytesLess,lbi,laj,lag,beq_iff_eq]
  by_cases h1:a<b
  .simp [h1]
  .by_cases h2:b<a
   .have h3:¬ a=b:=fun e=>by subst e; exact h1 h2
    simp[h1,h2,h3]
   .have h3:a=b:=by
     have e1:=UInt8.not_lt.1 h1;have e2:=UInt8.not_lt.1 h2;exact UInt8.le_antisymm e2 e1
    subst h3
    simp[UInt8.lt_irrefl,ih]
theorem bl_irrefl:∀ a:LU,bytesLess a a=false
 | []=>rfl
 | a::x=>by simp[bytesLess,bl_irrefl x]
theorem A4N:∀ a b c:LU,bytesLess a b=true->bytesLess b c=true->bytesLess a c=true
 | [],[],c,h1,_=>by omega
 | _,_::_,[],_,h2=>by cases h2
 | _::_,[],_,h1,_=>by cases h1
 | [],_::_,_::_,_,_=>rfl
 | a::x,b::y,c::z,h1,h2=>by
  simp only[bytesLess,lbi,laj,lag,beq_iff_eq]at h1 h2 |-
  rcases h1 with h1|⟨e1,h1⟩
  .rcases h2 with h2|⟨e2,h2⟩
   .exact .inl (UInt8.lt_trans h1 h2)
   .subst e2; exact .inl h1
  .subst e1
   rcases h2 with h2|⟨e2,h2⟩
   .exact .inl h2
   .subst e2; exact .inr ⟨rfl,A4N x y z h1 h2⟩
theorem AtB:∀ a b:LU,bytesLess a b=false->bytesLess b a=false->a=b
 | [],[],_,_=>rfl
 | [],_::_,h1,_=>by cases h1
 | _::_,[],_,h2=>by cases h2
 | a::x,b::y,h1,h2=>by
  simp only[bytesLess,Bool.or_eq_false_iff,lai,Bool.and_eq_false_imp,beq_iff_eq]at h1 h2;have h3:a=b:=UInt8.le_antisymm (UInt8.not_lt.1 h2.1) (UInt8.not_lt.1 h1.1);subst h3;rw[AtB x y (h1.2 rfl) (h2.2 rfl)]
theorem cb_lt{a b:LU}:Lib.compareBytes a b<0 ↔ bytesLess a b=true:=by
 grind[cb_val]
theorem cb_zero{a b:LU}:Lib.compareBytes a b=0 ↔ a=b:=by
 grind[cb_val,bl_irrefl,AtB]
theorem BrV{a b:Int}:cmpI a b<0 ↔ a<b:=by
 grind[cmpI]
theorem cmpI_zero{a b:Int}:cmpI a b=0 ↔ a=b:=by
 grind[cmpI]
structure Ordr{α:Type}(lt:α->α->Prop):Prop where
 irrefl:∀ x,¬ lt x x
 trans:∀ x y z,lt x y->lt y z->lt x z
 total:∀ x y,¬ lt x y->¬ lt y x->x=y
section
variable {α:Type}{lt:α->α->Prop}(O:Ordr lt)
include O
theorem Ordr.ntrans{x y z:α}(h1:¬ lt y x)(h2:¬ lt z y):¬ lt z x:=fun h=>by
 by_cases h3:lt x y
 .exact h2 (O.trans _ _ _ h h3)
 .have:=O.total x y h3 h1
  grind
end
section
variable {α:Type}(lt:α->α->Prop)(d:α)
variable {lt d}
end
def nLt(a b:LU):Prop:=pN a<pN b\/(pN a=pN b/\bytesLess (caps a) (caps b)=true)
theorem compareN_lt{a b:LU}:compareN a b<0 ↔ nLt a b:=by
 grind[compareN,nLt,orI,cb_lt,cmpI_zero,BrV]
theorem compareN_zero{a b:LU}:compareN a b=0 ↔ pN a=pN b/\caps a=caps b:=by
 grind[compareN,orI,cb_zero,cmpI_zero]
theorem nLt_irrefl(a:LU):¬ nLt a a:=by
 rintro(h|⟨_,h⟩)
 all_goals grind[bl_irrefl]
theorem nLt_trans{a b c:LU}(h1:nLt a b)(h2:nLt b c):nLt a c:=by
 rcases h1 with h1|⟨e1,h1⟩ <;> rcases h2 with h2|⟨e2,h2⟩
 .exact .inl (by omega)
 .exact .inl (by omega)
 .exact .inl (by omega)
 .exact .inr ⟨e1.trans e2,A4N _ _ _ h1 h2⟩
theorem AkI{a b:LU}(h1:¬ nLt a b)(h2:¬ nLt b a):pN a=pN b/\caps a=caps b:=by
 grind[nLt,AtB]
theorem AnJ{a b:LU}:compareN a b>0 ↔ nLt b a:=by
 constructor
 .intro h
  .by_cases h2:nLt a b
   .have:=compareN_lt.2 h2; omega
   grind[compareN_zero,AkI]
 .intro h
  by_cases h1:compareN a b<0
  .grind[nLt_trans,compareN_lt,nLt_irrefl]
  .by_cases h2:compareN a b=0
   .obtain ⟨e1,e2⟩:=compareN_zero.1 h2
    rcases h with h|⟨_,h⟩<;>grind[bl_irrefl]
   omega
theorem AeB{c:UInt8}(h:digB c=true):48<=c.toNat/\c.toNat<=57:=by
 grind[digB,digI]
theorem AaU{c:UInt8}{r:LU}{acc:Nat}(h:digB c=true):Lib.decFrom acc (c::r)=Lib.decFrom (acc*10+(c.toNat-48)) r:=by
 grind[Lib.decFrom,A4I]
theorem u8_eq{c:UInt8}{n:Nat}(h:c.toNat=n)(hn:n<256):c=UInt8.ofNat n:=by
 apply UInt8.toNat_inj.1
 simp
 omega
theorem BoX{s:LU}(h:okD s):∃ n:Nat,Lib.decFrom 0 (digs s)=some n/\pN s=n:=by
 obtain⟨n,hn⟩:=AeM (digs s) 0 (AfO s);have h1:=h.1;have ha:=AfO s;have key:Lib.atoi (digs s)=some (n:Int):=by
  cases hq:digs s with
  | nil=>grind
  | cons b r =>
   rw[hq]at hn ha
   simp at ha
   have hb:=AeB ha.1;have b1:(b==45)=false:=by
    rw[lax];rintro rfl
    grind
   have b2:(b==43)=false:=by
    rw[lax];rintro rfl
    grind
   grind[Lib.atoi,Lib.decNat]
 grind[pN]
theorem AiX{a:LU}(h:numberL a=true):digs a=dig3 (pN a)/\0<=pN a/\pN a<=999:=by
 obtain⟨hd,hl3,_,_⟩:=AaM h;have hall:=AfO a;have hz:digs a=[48]\/((digs a).getD 0 0).toNat≠48:=by
  grind[numberL,AbD]
 have h1:=hd.1;obtain⟨n,hn,hp⟩:=BoX hd;generalize digs a=l at *
 match l,hall,hl3,h1,hz,hn with
 | [x],hall,_,_,_,hn =>
  simp at hall
  have b:=AeB hall;rw[AaU hall]at hn;have e:n=x.toNat-48:=by have:=Option.some.inj hn; omega
  grind[u8_eq,dig3]
 | [x,y],hall,_,_,hz,hn =>
  simp at hall
  have b:=AeB hall.1;have b2:=AeB hall.2;rw[AaU hall.1,AaU hall.2]at hn;have e:n=(x.toNat-48)*10+(y.toNat-48):=by have:=Option.some.inj hn; omega
  grind[u8_eq,dig3]
 | [x,y,z],hall,_,_,hz,hn =>
  simp at hall
  have b:=AeB hall.1;have b2:=AeB hall.2.1;have b3:=AeB hall.2.2;have hx0:x.toNat≠48:=by
   grind
  rw[AaU hall.1,AaU hall.2.1,AaU hall.2.2]at hn;have e:n=((x.toNat-48)*10+(y.toNat-48))*10+(z.toNat-48):=by have:=Option.some.inj hn; omega
  have d1:(pN a).toNat=((x.toNat-48)*10+(y.toNat-48))*10+(z.toNat-48):=by omega
  have hx:=u8_eq (c:=x) (n:=48+(pN a).toNat / 100) (by omega) (by omega);have hy:=u8_eq (c:=y) (n:=48+(pN a).toNat / 10%10) (by omega) (by omega);have hz:=u8_eq (c:=z) (n:=48+(pN a).toNat%10) (by omega) (by omega)
  grind[dig3]
theorem number_eq{a b:LU}(ha:numberL a=true)(hb:numberL b=true)(h:pN a=pN b/\caps a=caps b):a=b:=by
 rw[AbD a,AbD b,(AiX ha).1,(AiX hb).1,h.1,h.2]
theorem bl_at{x y:UInt8}(h:x<y):∀ (p u t:LU),bytesLess (p++x::u) (p++y::t)=true
 | [],u,t=>by grind[bytesLess]
 | a::p,u,t=>by
  have ih:=bl_at h p u t
  simp[bytesLess,ih]
theorem BcC:∀ (p:LU)(x:UInt8)(t:LU),bytesLess p (p++x::t)=true
 | [],x,t=>rfl
 | a::p,x,t=>by
  have ih:=BcC p x t
  simp[bytesLess,ih]
theorem AwM:∀ {l r:LU},bumpR l=some r->∃ (j:Nat)(x:UInt8)(s:LU),l=List.replicate j 90++x::s/\x≠90/\r=List.replicate j 65++(x+1)::s
 | [],r,h=>by cases h
 | c::l,r,h=>by
  rw[bumpR]at h
  split at h
  .rename_i hc
   obtain⟨r',h1,rfl⟩:=Option.map_eq_some_iff.1 h;obtain⟨j,x,s,h2,h3,h4⟩:=AwM h1;exact⟨j+1,x,s,by rw[h2,hc]; rfl,h3,by rw[h4]; rfl⟩
  .rename_i hc
   exact⟨0,c,l,rfl,hc,(Option.some.inj h).symm⟩
theorem lowest_ne{n:Nat}:lowestL n≠[]:=by simp[lowestL]
theorem lowest_suf(n:Nat):Lib.hasSuffix (lowestL n) [65]=false:=by
 grind[lowestL,Lib.hasSuffix,List.isSuffixOf]
theorem BkK{l:LU}(h:(fixR l).head? = some 65):False:=by
 cases l<;>grind[fixR]
theorem above_suf{c:LU}{n:Nat}:Lib.hasSuffix (aboveL c n) [65]=false\/aboveL c n=[]:=by
 unfold aboveL
 split
 .left
  cases hq:Lib.hasSuffix (c++lowestL (n-c.length)) [65]with
  | false=>rfl
  | true =>
   simp only[Lib.hasSuffix,List.isSuffixOf_iff_suffix]at hq;obtain⟨t,ht⟩:=hq;have:=congrArg List.getLast? ht
   grind[lowestL]
 .split
  .grind
  .rename_i r hr
   left
   cases hq:Lib.hasSuffix (fixR r).reverse [65]with
   | false=>rfl
   | true =>
    simp only[Lib.hasSuffix,List.isSuffixOf_iff_suffix]at hq;obtain⟨t,ht⟩:=hq
    grind[List.getLast?_reverse,BkK]
theorem AqT{c:LU}{n:Nat}(h0:1<=n)(h:aboveL c n≠[]):(aboveL c n).length=n:=by
 unfold aboveL at h |-
 split
 .grind[lowestL,Lib.repeatL_length]
 grind[List.length_reverse,fix_len,AsY]
theorem BkL{c:LU}{n:Nat}(h0:1<=n)(hc:c.all capB=true)(h:aboveL c n≠[]):bytesLess c (aboveL c n)=true:=by
 unfold aboveL at h |-
 split
 .cases hq:lowestL (n-c.length)<;>grind[lowest_ne,BcC]
 .rename_i hl
  split
  .grind
  .rename_i r hr
   obtain⟨j,x,s,h1,h2,h3⟩:=AwM hr;have hx:x.toNat<=90:=by
    refine BoW hc x ?_;have:x∈(c.take n).reverse:=by grind
    grind
   have hx1:(x+1).toNat=x.toNat+1:=by
    grind[UInt8.toNat_add]
   have hct:c=s.reverse++x::(List.replicate j 90++c.drop n):=by
    grind[List.reverse_cons,lbd]
   cases j with
   | zero =>
    simp only[List.replicate_zero,lbs,fixR,List.reverse_cons]
    grind[bl_at,UInt8.lt_iff_toNat_lt]
   | succ j =>
    have e:(fixR (List.replicate (j+1) 65++(x+1)::s)).reverse=s.reverse++(x+1)::(List.replicate j 65++[66]):=by
     grind[fixR]
    grind[bl_at,UInt8.lt_iff_toNat_lt]
theorem A0V{n:Nat}(h:n<256):(UInt8.ofNat n).toNat=n:=by simp_all
theorem A4O{d:Int}(h0:0<=d)(h1:d<=999):Lib.decFrom 0 (dig3 d)=some d.toNat:=by
 have hall:=A4K h0 h1;unfold dig3 at hall |-
 split
 .rename_i h
  rw[if_pos h]at hall;simp only[las,lba,lau]at hall;rw[AaU hall,A0V (by omega)]
  show some _=_
  grind
 .rename_i h
  rw[if_neg h]at hall
  split
  .rename_i h2
   rw[if_pos h2]at hall;simp only[las,lba,lau,lag]at hall;rw[AaU hall.1,AaU hall.2,A0V (by omega),A0V (by omega)]
   show some _=_
   grind
  .rename_i h2
   rw[if_neg h2]at hall;simp only[las,lba,lau,lag]at hall;rw[AaU hall.1,AaU hall.2.1,AaU hall.2.2,A0V (by omega),A0V (by omega),A0V (by omega)]
   show some _=_
   grind
theorem BcD{d:Int}(h0:0<=d)(h1:d<=999):(dig3 d=[48] ↔ d=0)/\(d≠0->((dig3 d).getD 0 0).toNat≠48):=by
 have h:=A4O h0 h1;refine⟨⟨fun e=>?_,fun e=>by rw[e]; rfl⟩,fun hd=>?_⟩
 .rw [e]at h
  have:=Option.some.inj h
  grind
 grind[dig3,A0V]
theorem number_of{d:Int}{c:LU}(h0:0<=d)(h1:d<=999)(hc:c.all capB=true)(hl:c.length<=5)(hs:Lib.hasSuffix c [65]=false)(hz:d=0->c≠[]):numberL (dig3 d++c)=true/\pN (dig3 d++c)=d/\caps (dig3 d++c)=c:=by
 obtain⟨e1,e2⟩:=AwI (A4K h0 h1) hc;have hlen:=AsX d;obtain⟨z1,z2⟩:=BcD h0 h1;refine⟨?_,?_,e2⟩
 .grind[numberL]
 .obtain ⟨n,hn,hp⟩:=BoX (s:=dig3 d++c) (by grind[okD])
  grind[A4O]
theorem A7J{a:LU}(ha:a=[]\/numberL a=true){n:Nat}(hn:n<=5)(h:ApX a n≠[]):numberL (ApX a n)=true/\(a=[]\/nLt a (ApX a n)):=by
 have hA:okA a:=ha.imp id fun h=>number_okA h
 have hsm:=A0T (n:=n) (by omega) hA;unfold ApX at h |-;have hcap:(caps a).all capB=true:=by
  rcases ha with rfl|ha
  .rfl
  simp_all[AaM]
 have hxc:=BbV n hcap;have hsuf:Lib.hasSuffix (nextX a n).2 [65]=false/\(nextX a n).2.length<=5/\((nextX a n).1=0->(nextX a n).2≠[])/\(a=[]\/pN a<(nextX a n).1\/(pN a=(nextX a n).1/\bytesLess (caps a) (nextX a n).2=true)):=by
  have hll:(lowestL n).length<=5\/n=0:=by
   grind[lowestL,Lib.repeatL_length]
  unfold nextX
  split
  .split
   .exact ⟨by decide,by simp,by simp,.inl (by omega)⟩
   grind[lowest_suf,lowest_ne]
  .rename_i hne
   have hna:=ha.resolve_left hne;have hp:=(AiX hna).2
   split
   .grind[Lib.hasSuffix]
   .split
    .grind[lowest_suf]
    .rename_i hab
     refine⟨above_suf.resolve_right hab,?_,fun _=>hab,.inr (.inr ⟨rfl,BkL (by omega) hcap hab⟩)⟩<;>grind[AqT]
 grind[number_of,nLt]
end Go.Proofs.YtmhjbljckkgeoaaGreatDoor
namespace Go.Proofs.YtmhjbljckkgeoaaGreatDoor
open Av RowKit Proofs.Tryz
def placeW:LY:=[.str [],.str [73,78,84,46],.str [69,88,84,46],.str [73,78,84,46,47,69,88,84,46]]
def AiY:LY:=[.str [],.str [68,65,89],.str [78,73,71,72,84],.str [68,65,87,78],.str [68,85,83,75],.str [76,65,84,69,82]]
theorem place_pc:Pc prog 203 [] (· = .fz 1 placeW):=by
 refine AaJ (AaI func203 rfl ntmps203 hB203 (by simp) fun h ρ w=>goF rfl 200 ?_);simp only[go_sem];exact aret [0] rfl ⟨by simp[resV,Av.get,placeW],rfl⟩
theorem time_pc:Pc prog 204 [] (· = .fz 1 AiY):=by
 refine AaJ (AaI func204 rfl ntmps204 hB204 (by simp) fun h ρ w=>goF rfl 200 ?_);simp only[go_sem];exact aret [0] rfl ⟨by simp[resV,Av.get,AiY],rfl⟩
def BkM:AV:=.agg [.int .i64 1,.str [82,97,105,110,46]]
def sceneA:AV:=.agg [.str [],.int .i64 1,.str [72,65,76,76],.int .i64 1,.fz 2 [.agg [.int .i64 1,.str [82,97,105,110,46]]]]
theorem A7K:Pc prog 140 [sceneA] (· = .str [73,78,84,46,32,72,65,76,76,32,45,32,68,65,89]):=by
 refine AaJ (AaI func140 rfl ntmps140 hB140 (by simp) fun h ρ w=>go rfl 200 ?_);simp only[go_sem,sceneA];refine zr [.fz 1 placeW,.fz 1 AiY] AaF ?_;simp only[go_sem,sceneA,placeW,AiY];refine⟨place_pc.at,time_pc.at,?_⟩;refine go rfl 200 ?_;simp only[go_sem,sceneA];exact aret [2] rfl ⟨by simp[resV,Av.get],rfl⟩
theorem A7L(c:UInt8)(s o:LU)(hs:s.length<1000000)(hn:Lib.indexByte o c<0):Pc prog 205 [.str (c::s),.str o] (· = .str (c::s)):=by
 refine AaJ (AaI func205 rfl ntmps205 hB205 (by simp) fun h ρ w=>go rfl 200 ?_);simp only[go_sem];refine⟨by omega,?_⟩;refine zpN (AlE o (c.toNat:Int)) ?_;have h0:decide (0<=Lib.indexByte o c.toNat.toUInt8)=false:=by simp; omega
 simp only[go_sem,h0];exact aret [4] rfl ⟨by simp[resV,Av.get],rfl⟩
theorem BrW:Pc prog 141 [BkM] (· = .str [82,97,105,110,46]):=by
 refine AaJ (AaI func141 rfl ntmps141 hB141 (by simp) fun h ρ w=>go rfl 200 ?_);simp only[go_sem,BkM];refine zpN (A7L 82 [97,105,110,46] [64,62,35,92] (by decide) (by decide)) ?_;simp only[go_sem];exact aret [2] rfl ⟨by simp[resV,Av.get],rfl⟩
theorem A0W:Pc prog 121 [.int .i64 1,.int .i64 0] (· = .bool true):=by
 refine AaJ (AaI func121 rfl ntmps121 hB121 (by simp) fun h ρ w=>go rfl 200 ?_);simp only[go_sem];exact aret [4] rfl ⟨by simp[resV,Av.get],rfl⟩
theorem BcE{S:Std}(hS:LibOk S):PcH prog S 120 [BkM] (· = .int .i64 0):=by
 refine AcF (AcP func120 rfl ntmps120 hB120 (by simp) fun h ρ w hg=>go rfl 200 ?_);simp only[go_sem,BkM];refine zqN hg (AcQ hS [82,97,105,110,46] (by decide)) ?_;have hp:plainL [82,97,105,110,46]=true:=by decide
 simp only[go_sem,hp];exact aret [2] rfl ⟨by simp[resV,Av.get],rfl⟩
theorem BcF{S:Std}(hS:LibOk S):PcH prog S 64 [sceneA] (· = .int .i64 0):=by
 refine AcF (AcP func64 rfl ntmps64 hB64 (by simp) fun h ρ w hg=>go rfl 200 ?_);simp only[go_sem,sceneA];refine zqN hg (AnB hS [72,65,76,76] (by decide)) ?_;have hp:isSetL [72,65,76,76]=true:=by decide
 simp only[go_sem,hp];refine AcE (around (zgN ?_));simp only[go_sem];refine zqN hg (BcE hS) ?_;simp only[go_sem];refine AaL A0W rfl rfl rfl (zgN ?_);simp only[go_sem];refine AdY (around (zgN ?_));simp only[go_sem];exact aret [2] rfl ⟨by simp[resV,Av.get],rfl⟩
theorem A0X:Pc prog 63 [.str [73,78,84,46]] (· = .bool false):=by
 have e0:digI (73:UInt8).toNat=false:=by decide
 have e1:capI (73:UInt8).toNat=true:=by decide
 have e2:capI (78:UInt8).toNat=true:=by decide
 have e3:capI (84:UInt8).toNat=true:=by decide
 have e4:capI (46:UInt8).toNat=false:=by decide
 refine AaJ (AaI func63 rfl ntmps63 hB63 (by simp) fun h ρ w=>go rfl 200 ?_);simp only[go_sem];refine AcE (around (zgN ?_));simp only[go_sem];refine zpN (AkC _) ?_;simp only[go_sem,e0];refine AcE (around (zgN ?_));simp only[go_sem];refine zpN (AbG _) ?_;simp only[go_sem,e1];refine AdY (around (zgN ?_));simp only[go_sem];refine zpN (AbG _) ?_;simp only[go_sem,e2];refine AdY (around (zgN ?_));simp only[go_sem];refine zpN (AbG _) ?_;simp only[go_sem,e3];refine AdY (around (zgN ?_));simp only[go_sem];refine zpN (AbG _) ?_;simp only[go_sem,e4];exact aret [2] rfl ⟨by simp[resV,Av.get],rfl⟩
theorem AwN(a b:LU)(l:LY)(hl:l.length<1000)(hn:(b==a)=false):Pc prog 99 [.fz 1 (.str a::.str b::l),.str b] (· = .int .i64 1):=by
 refine AaJ (AaI func99 rfl ntmps99 hB99 (by simp) fun h ρ w=>go rfl 200 ?_);have d0:decide ((0:Int)<((l.length+1+1:Nat):Int))=true:=by simp; omega
 have d1:decide ((1:Int)<((l.length+1+1:Nat):Int))=true:=by simp; omega
 simp only[go_sem];refine AcE (around (zgN ?_));simp only[go_sem,hn,d0,d1]
 repeat refine ao ?_
 refine AdY (around (zgN ?_));simp only[go_sem,d0,d1]
 repeat refine ao ?_
 exact aret [4] rfl ⟨by simp[resV,Av.get],rfl⟩
theorem A4P:Lib.cut [73,78,84,46,32,72,65,76,76,32,45,32,68,65,89] [32]=([73,78,84,46],[72,65,76,76,32,45,32,68,65,89],true):=by decide
theorem BcG:Lib.lastIndex [72,65,76,76,32,45,32,68,65,89] [32,45,32]=4:=by decide
theorem BkN:isSetL [72,65,76,76]=true:=by decide
def sceneE:AV:=.agg [.str [],.int .i64 1,.str [72,65,76,76],.int .i64 1,.raw (.slice none 0 0)]
theorem AnK{S:Std}(hS:LibOk S):PcH prog S 201 [.str [73,78,84,46,32,72,65,76,76,32,45,32,68,65,89]] (· = .tup [sceneE,.int .i64 0]):=by
 refine AcF (AcP func201 rfl ntmps201 hB201 (by simp) fun h ρ w hg=>go rfl 200 ?_);simp only[go_sem];refine zqN hg (AnA hS [73,78,84,46,32,72,65,76,76,32,45,32,68,65,89] [32] (by decide)) ?_;rw[A4P];simp only[go_sem];refine AaL A0X rfl rfl rfl (zgN ?_);simp only[go_sem];refine zqN hg (AnA hS [73,78,84,46,32,72,65,76,76,32,45,32,68,65,89] [32] (by decide)) ?_;rw[A4P];simp only[go_sem];refine zpN (AwD _ _ (by decide)) ?_;rw[BcG];simp only[go_sem];refine AaL place_pc rfl rfl rfl (zgN ?_);simp only[go_sem,placeW];refine zpN (AwN _ _ _ (by decide) (by decide)) ?_;simp only[go_sem];refine zr [.fz 1 AiY,.int .i64 1] AaF ?_;simp only[go_sem,AiY];refine⟨time_pc.at,?_⟩;have dayI:=AwN [] [68,65,89] [.str [78,73,71,72,84],.str [68,65,87,78],.str [68,85,83,75],.str [76,65,84,69,82]] (by decide) (by decide);refine⟨dayI.at,rfl,rfl,?_⟩;apply zgN;simp only[go_sem];refine zqN hg (AnB hS [72,65,76,76] (by decide)) ?_;rw[BkN];simp only[go_sem];refine AbF [.cell 2 83,.tmp 3] rfl [sceneE,.int .i64 0] ⟨?_,rfl,trivial⟩ ⟨rfl,rfl⟩;simp only[go_sem,sideIs,sceneE]
 trace_state
theorem t35:((35:UInt8).toNat:Int)=35:=rfl
theorem t82:((82:UInt8).toNat:Int)=82:=rfl
theorem pre_head:Lib.trimPrefix [35,32,73,78,84,46,32,72,65,76,76,32,45,32,68,65,89] [35,32]=[73,78,84,46,32,72,65,76,76,32,45,32,68,65,89]:=by decide
theorem BkO:Lib.hasPrefix [35,32,73,78,84,46,32,72,65,76,76,32,45,32,68,65,89] [35,32]=true:=by decide
def T0(k:Int):LB:=[.arr 2 [.agg [.str [],.raw (.slice none 0 0)]],.arr 3 [.agg [.str [84],.raw (.slice none 0 0),.int .i64 k]]]
theorem BkP:Ct prog 87 [.ptr 1 1 0 0,.str []] (T0 0) (fun r s=>r=.bool true/\s=T0 1):=by
 refine zcIN func87 rfl fun h ρ w=>?_
 simp only[go_sem,T0];exact zt [4]
def T1(k:Int):LB:=[.arr 2 [.agg [.str [],.raw (.slice none 0 0)]],.arr 3 [.agg [.str [84],.sl 3 0 1 1,.int .i64 k]],
 .arr 5 [.agg [.str [],.int .i64 1,.str [72,65,76,76],.int .i64 1,.raw (.slice none 0 0)]],.arr 5 [.agg [.str [],.int .i64 1,.str [72,65,76,76],.int .i64 1,.raw (.slice none 0 0)]]]
theorem A7M{S:Std}(hS:LibOk S):CtH prog S 137 [.ptr 1 1 0 0,.str [35,32,73,78,84,46,32,72,65,76,76,32,45,32,68,65,89]] (T0 1) (fun r s=>r=.bool true/\s=T1 3):=by
 refine zdIN func137 rfl fun h ρ w hg=>?_
 simp only[go_sem,T0,t35];refine zpN (AlD _ _) ?_;rw[pre_head,BkO];simp only[go_sem];refine zqN hg (AnK hS) ?_;simp only[go_sem,sceneE];refine zr [] AaF ?_;simp only[go_sem];apply zgN;simp only[go_sem];exact zt [4]
theorem BkQ{S:Std}(hS:LibOk S):CtH prog S 87 [.ptr 1 1 0 0,.str [35,32,73,78,84,46,32,72,65,76,76,32,45,32,68,65,89]] (T0 1) (fun r s=>r=.bool true/\s=T1 3):=by
 refine zdIN func87 rfl fun h ρ w hg=>?_
 simp only[go_sem,T0];refine zaH hg (A7M hS) ?_;rintro _ _ ⟨rfl,rfl⟩;apply zgN;simp only[go_sem];exact zt [4]
theorem BkR:Ct prog 87 [.ptr 1 1 0 0,.str []] (T1 3) (fun r s=>r=.bool true/\s=T1 2):=by
 refine zcIN func87 rfl fun h ρ w=>?_
 simp only[go_sem,T1];exact zt [4]
def T2:LB:=[.arr 2 [.agg [.str [],.raw (.slice none 0 0)]],.arr 3 [.agg [.str [84],.sl 3 0 1 1,.int .i64 3]],
 .arr 5 [.agg [.str [],.int .i64 1,.str [72,65,76,76],.int .i64 1,.raw (.slice none 0 0)]],.arr 5 [.agg [.str [],.int .i64 1,.str [72,65,76,76],.int .i64 1,.sl 5 0 1 1]],
 .arr 2 [.agg [.int .i64 1,.str [82,97,105,110,46]]],.arr 2 [.agg [.int .i64 1,.str [82,97,105,110,46]]]]
theorem BvZ:Ct prog 199 [.ptr 1 1 0 0,.int .i64 1,.str [82,97,105,110,46]] (T1 2) (fun r s=>s=T2):=by
 refine zcIN func199 rfl fun h ρ w=>?_
 simp only[go_sem,T1];refine zr [] AaF ?_;simp only[go_sem];apply zgN;simp only[go_sem];refine⟨.inl trivial,aret [] rfl rfl⟩
theorem A7N{S:Std}(hS:LibOk S):CtH prog S 137 [.ptr 1 1 0 0,.str [82,97,105,110,46]] (T1 2) (fun r s=>r=.bool true/\s=T2):=by
 refine zdIN func137 rfl fun h ρ w hg=>?_
 simp only[go_sem,T1,t82];refine A0H BvZ rfl rfl ?_;rintro r _ rfl;apply zgN;simp only[go_sem];exact zt [4]
theorem BkS{S:Std}(hS:LibOk S):CtH prog S 87 [.ptr 1 1 0 0,.str [82,97,105,110,46]] (T1 2) (fun r s=>r=.bool true/\s=T2):=by
 refine zdIN func87 rfl fun h ρ w hg=>?_
 simp only[go_sem,T1];refine zaH hg (A7N hS) ?_;rintro _ _ ⟨rfl,rfl⟩;apply zgN;simp only[go_sem];exact zt [4]
theorem BrX:plainL [84]=true:=by decide
def scriptA:AV:=.agg [.str [84],.fz 5 [sceneA]]
theorem A7O{S:Std}(hS:LibOk S):PcH prog S 25 [scriptA] (· = .int .i64 0):=by
 refine zqIN func25 rfl fun h ρ w hg=>?_
 simp only[go_sem,scriptA,sceneA];refine zqN hg (AcQ hS [84] (by decide)) ?_;rw[BrX];simp only[go_sem];refine AcE (around (zgN ?_));simp only[go_sem];refine AdY (around (zgN ?_));simp only[go_sem];refine AcE (around (zgN ?_));simp only[go_sem];refine zqN hg (BcF hS) ?_;simp only[go_sem];refine AdY (around (zgN ?_));simp only[go_sem];exact zt [2]
theorem bzero:∃ i,prog.info? 179=some i/\i.zero=some (.agg #[.pointer none,.slice none 0 0]):=Option.map_eq_some_iff.1 (show(prog.info? 179).map (·.zero)=some (some (.agg #[.pointer none,.slice none 0 0])) by kernel_rfl)
theorem A0Y{S:Std}(hS:LibOk S):PcH prog S 89 [scriptA] (· = .str [116,105,116,108,101,58,32,84,10,10,35,32,73,78,84,46,32,72,65,76,76,32,45,32,68,65,89,10,10,82,97,105,110,46,10]):=by
 refine AcF (AqM func89 rfl ntmps89 hB89 (by simp) fun h ρ w hg hm=>go rfl 9 ?_);obtain⟨i,hi,hz⟩:=bzero;simp only[go_sem,scriptA,sceneA];refine BvQ (T:=179) (t:=3) rfl rfl rfl ntmps89 (by decide) hi hz 5 ?_;intro b hb;apply zgN;simp only[go_sem];refine A3U AsN rfl rfl rfl rfl (by decide) (zgN ?_);simp only[go_sem];refine AcE (around (zgN ?_));simp only[go_sem];refine AaL A7K rfl rfl rfl (zgN ?_);simp only[go_sem];refine A3U AsN rfl rfl rfl rfl (by decide) (zgN ?_);simp only[go_sem];refine AcE (around (zgN ?_));simp only[go_sem];refine A3U AsN rfl rfl rfl rfl (by decide) (zgN ?_);simp only[go_sem];refine AaL BrW rfl rfl rfl (zgN ?_);simp only[go_sem];refine A3U AsN rfl rfl rfl rfl (by decide) (zgN ?_);simp only[go_sem];refine A3V rfl (around (zgN ?_));simp only[go_sem];refine A3V rfl (around (zgN ?_));simp only[go_sem];refine BqX BjX rfl rfl rfl hm rfl rfl (zgN ?_);simp only[go_sem];exact zt [2]
theorem A7P:splitL [116,105,116,108,101,58,32,84,10,10,35,32,73,78,84,46,32,72,65,76,76,32,45,32,68,65,89,10,10,82,97,105,110,46,10] [10] =
  [[116,105,116,108,101,58,32,84],[],[35,32,73,78,84,46,32,72,65,76,76,32,45,32,68,65,89],[],[82,97,105,110,46],[]]:=by decide
theorem pre_title:Lib.trimPrefix [116,105,116,108,101,58,32,84] [116,105,116,108,101,58,32]=[84]:=by decide
theorem BcH:Lib.hasPrefix [116,105,116,108,101,58,32,84] [116,105,116,108,101,58,32]=true:=by decide
theorem BkT{S:Std}(hS:LibOk S):PcH prog S 41 [.str [116,105,116,108,101,58,32,84,10,10,35,32,73,78,84,46,32,72,65,76,76,32,45,32,68,65,89,10,10,82,97,105,110,46,10]] (· = .tup [scriptA,.int .i64 0,.int .i64 0]):=by
 refine zqIN func41 rfl fun h ρ w hg=>?_
 simp only[go_sem];refine zqN hg (BbI hS _ [10] (by decide) (by decide)) ?_;rw[A7P];simp only[go_sem];refine AcE (around (zgN ?_));simp only[go_sem];refine zpN (AlD _ _) ?_;rw[pre_title,BcH];simp only[go_sem];refine AdY (around (zgN ?_));simp only[go_sem];refine A0H BkP rfl rfl ?_;rintro _ _ ⟨rfl,rfl⟩;apply zgN;simp only[go_sem];refine AdY (around (zgN ?_));simp only[go_sem];refine zaH hg (BkQ hS) ?_;rintro _ _ ⟨rfl,rfl⟩;apply zgN;simp only[go_sem];refine AdY (around (zgN ?_));simp only[go_sem];refine A0H BkR rfl rfl ?_;rintro _ _ ⟨rfl,rfl⟩;apply zgN;simp only[go_sem];refine AdY (around (zgN ?_));simp only[go_sem];refine zaH hg (BkS hS) ?_;rintro _ _ ⟨rfl,rfl⟩;apply zgN;simp only[go_sem];refine AWp.shift (Ls (e':=[(27,.int .i64 5),(26,.int .i64 5),(25,.fz 1 [.str [116,105,116,108,101,58,32,84],.str [],.str [35,32,73,78,84,46,32,72,65,76,76,32,45,32,68,65,89],.str [],.str [82,97,105,110,46]]),
  (7,.ptr 1 1 0 0),(6,.int .i64 5),(5,.fz 1 [.str [116,105,116,108,101,58,32,84],.str [],.str [35,32,73,78,84,46,32,72,65,76,76,32,45,32,68,65,89],.str [],.str [82,97,105,110,46],.str []]),
  (2,.ptr 0 1 0 0),(0,.str [116,105,116,108,101,58,32,84,10,10,35,32,73,78,84,46,32,72,65,76,76,32,45,32,68,65,89,10,10,82,97,105,110,46,10])]) ?_) ?_
 .simp only [go_sem]
 refine AWp.shift (Shift.frz 5 rfl rfl) ?_;refine AWp.shift (Shift.frz 3 rfl rfl) ?_;simp only[T2,frzE,frzB,frzC,frz,frz1,Bool.cond_true,Bool.cond_false,go_sem];refine AdY (around (zgN ?_));simp only[go_sem];refine zqN hg (A7O hS) ?_;simp only[go_sem];refine zqN hg (A0Y hS) ?_;simp only[go_sem];refine AbF [.cell 2 30,.tmp 3,.tmp 4] rfl [scriptA,.int .i64 0,.int .i64 0] ⟨?_,rfl,rfl,trivial⟩ ⟨rfl,rfl⟩;simp only[go_sem,sideIs,scriptA,sceneA]
theorem AnL{S:Std}(hS:LibOk S):PcH prog S 11 [] (· = .bool true):=by
 refine zqIN func11 rfl fun h ρ w hg=>?_
 simp only[go_sem];refine zqN hg (BkT hS) ?_;simp only[go_sem,scriptA];exact zt [0]
def fitsB(no b:LU):Bool:=no != []&&(b==[]||decide (compareN no b<0))
def btw(a b:LU):Nat->Nat->LU
 | 0,_=>[]
 | f+1,n=>if fitsB (ApX a n) b then ApX a n else btw a b f (n+1)
def AaQ(a b:LU):LU:=btw a b 6 0
theorem A4Q{p:UInt8->Bool}(h:∀ n:Fin 256,p (UInt8.ofNat n.1)=true)(c:UInt8):p c=true:=by
 have h1:=c.toNat_lt;have h2:=h ⟨c.toNat,h1⟩
 simp_all
theorem BrY(c:UInt8):CAPS.contains c=capB c:=by
 have:=A4Q (p:=fun c=>CAPS.contains c==capB c) (by decide +kernel) c
 grind
theorem BcI(s:LU):(caps s).length<=s.length:=by
 have:=congrArg List.length (AbD s)
 grind
theorem BcJ{p:UInt8->Bool}:∀ l:LU,l.dropWhile p=[] ↔ l.all p=true
 | []=>by simp
 | c::r=>by
  by_cases h:p c=true
  .simp [h,BcJ r]
  .have h':p c=false:=by simpa using h
   simp[h']
theorem A7Q(c:LU):(Lib.trimS c CAPS==[])=c.all capB:=by
 have hf:=funext BrY;unfold Lib.trimS Lib.trimLeftS Lib.trimRightS
 cases h:c.all capB with
 | true =>
  grind[BcJ]
 | false =>
  rw[lax];intro e;have h1:=(BcJ _).1 e;have h2:c.reverse=c.reverse.takeWhile capB++c.reverse.dropWhile capB:=(List.takeWhile_append_dropWhile).symm;have h3:c.reverse.all capB=true:=by
   grind[List.all_takeWhile]
  grind
theorem BkU(s:LU):numberL s=(decide (1<=(digs s).length)&&(decide ((digs s).length<=3)&&(!decide (((caps s).length:Int)>5)&&((caps s).all capB&&(!Lib.hasSuffix (caps s) [65]&&(((s.getD 0 0).toNat:Int) != 48||(digs s==[48]&&caps s != []))))))):=by
 unfold numberL
 by_cases hd:digs s=[48]
 .have hs0:s.getD 0 0=48:=by grind[AbD]
  rw[hd,hs0]
  grind
 grind
def pA(a:LU):Int:=if a=[] then 0 else pN a
def candR(a:LU)(n:Nat):List LU :=
 if n=0 then[Lib.itoa (pA a+1)] else(if aboveL (caps a) n≠[] then[Lib.itoa (pA a)++aboveL (caps a) n] else[])++[Lib.itoa (pA a+1)++lowestL n]
def fitR(b x:LU):Bool:=numberL x&&(b==[]||decide (compareN x b<0))
def betR(a b:LU):Nat->Nat->LU
 | 0,_=>[]
 | f+1,n=>match(candR a n).find? (fitR b)with
  | some x=>x
  | none=>betR a b f (n+1)
theorem big_not:Lib.itoa 1000=[49,48,48,48]:=by decide +kernel
theorem big_no(c:LU)(hc:c.all capB=true):numberL (Lib.itoa 1000++c)=false:=by
 rw[big_not];obtain⟨e1,e2⟩:=AwI (d:=[49,48,48,48]) (by decide) hc
 grind[numberL]
theorem BrZ{a:LU}(ha:a=[]\/numberL a=true):0<=pA a/\pA a<=999:=by
 unfold pA
 split<;>simp_all[AiX]
theorem BcK{a b:LU}(ha:a=[]\/numberL a=true)(hb:b=[]\/numberL b=true){n:Nat}(hn:n<=5):(candR a n).find? (fitR b)=if fitsB (ApX a n) b then some (ApX a n) else none:=by
 have hp:=BrZ ha;have hcap:(caps a).all capB=true:=by
  rcases ha with rfl|ha
  .rfl
  simp_all[AaM]
 have one:∀ x:LU,[x].find? (fitR b)=if fitR b x then some x else none:=fun x=>by
  grind
 have fit:∀ x:LU,numberL x=true->fitR b x=fitsB x b:=fun x hx=>by
  have hne:(x != [])=true:=by
   cases x<;>simp_all[numberL,digs]
  grind[fitR,fitsB]
 have upper:∀ c:LU,c.all capB=true->c.length<=5->Lib.hasSuffix c [65]=false ->
   [Lib.itoa (pA a+1)++c].find? (fitR b)=if fitsB (if pA a+1>999 then[] else dig3 (pA a+1)++c) b then some (if pA a+1>999 then[] else dig3 (pA a+1)++c) else none:=fun c hc hl hs=>by
  grind[fitR,big_no,fitsB,itoa_dig3,number_of]
 have hlow:n≠0->(lowestL n).length<=5:=fun h0=>by
  grind[lowestL,Lib.repeatL_length]
 have hX:ApX a n=if n=0 then(if pA a+1>999 then[] else dig3 (pA a+1)++[]) else if aboveL (caps a) n=[] then(if pA a+1>999 then[] else dig3 (pA a+1)++lowestL n) else dig3 (pA a)++aboveL (caps a) n:=by
  unfold ApX nextX pA
  by_cases h0:a=[]
  .subst h0
   by_cases hn0:n=0
   .grind
   .have hab:aboveL (caps []) n=lowestL n:=by
     have:caps []=[]:=rfl
     simp_all[aboveL]
    grind[lowest_ne]
  grind[pA]
 rw[hX];unfold candR
 by_cases hn0:n=0
 .rw [if_pos hn0,if_pos hn0]
  have:=upper [] rfl (by simp) (by decide)
  grind
 .rw [if_neg hn0,if_neg hn0]
  have hlc:=lowest_cap n
  by_cases hab:aboveL (caps a) n=[]
  .grind[lowest_suf]
  .rw [if_pos hab,if_neg hab]
   have hac:=AwH hcap n;have hal:(aboveL (caps a) n).length<=5:=by grind[AqT]
   obtain⟨x1,x2,x3⟩:=number_of hp.1 hp.2 hac hal (above_suf.resolve_right hab) (fun _=>hab);rw[itoa_dig3 hp.1 hp.2,lbc,lbs,List.find?_cons,fit _ x1]
   cases hf:fitsB (dig3 (pA a)++aboveL (caps a) n) b with
   | true=>rfl
   | false =>
    simp only[lan,if_false];rw[one];have:fitR b (Lib.itoa (pA a+1)++lowestL n)=false:=by
     by_cases h9:pA a+1>999
     .have e:pA a+1=1000:=by omega
      grind[fitR,big_no]
     .rw [itoa_dig3 (by omega) (by omega)]
      obtain⟨y1,y2,y3⟩:=number_of (d:=pA a+1) (by omega) (by omega) hlc (hlow hn0) (lowest_suf n) (fun h=>by omega);rw[<- fit _ x1]at hf;simp only[fitR,x1,y1,laz,Bool.or_eq_false_iff,lai]at hf |-;refine⟨hf.1,fun h=>hf.2 ?_⟩;rw[compareN_lt]at h |-;exact nLt_trans (.inl (by omega)) h
    grind
theorem BoY{a b:LU}(ha:a=[]\/numberL a=true)(hb:b=[]\/numberL b=true):∀ f n,n+f<=6->betR a b f n=btw a b f n
 | 0,_,_=>rfl
 | f+1,n,h=>by
  simp only[betR,btw];rw[BcK ha hb (by omega)]
  split
  .rename_i x hx
   split at hx
   .rename_i hf
    rw[if_pos hf,<- Option.some.inj hx]
   .cases hx
  .rename_i hx
   split at hx
   .cases hx
   .rename_i hf
    rw[if_neg hf];exact BoY ha hb f (n+1) (by omega)
end Go.Proofs.YtmhjbljckkgeoaaGreatDoor
namespace Go.Av
open RowKit
variable [Tr]
variable {c:Cx}{s:LB}
theorem BcL{g:Std}(hle:Le g c.w c.ρ){f:FuncId}{args:LY}{post:AV->Prop}{K:AV->LB->Prop}(hc:PcH c.P g f args post)(ha:args.all nr1=true){id:Nat}{blk:Blk}(hid:s[id]? = some blk)
  (hin:∃ r,post r) (hk:∀ r,post r->K r s):BaZ c f args id s K:=by
 have hsame:∀ {t:LB},t[id]? = some blk->t.set id blk=t:=fun{t} h=>by
  apply lbo;intro k;rw[List.getElem?_set]
  split
  .rename_i e
   subst e
   split
   .exact h.symm
   .rename_i h2
    rw[List.getElem?_eq_none (by omega)]
  .rfl
 refine⟨blk,fun r b=>b=blk/\post r,hid,⟨hc.1,fun h ρ t w vs hs m l rr=>?_⟩,?_,?_⟩
 .refine ((hc.cth ha t).2 h ρ w vs (hle.later l) m rr).mono ?_
  rintro en w' ⟨v,r,s',h',ρ',rfl,⟨hp,rfl⟩,m',l',rv⟩;exact⟨v,r,blk,h',ρ',rfl,⟨rfl,hp⟩,by rw[hsame hs]; exact m',by rw[hsame hs]; exact l',by rw[hsame hs]; exact rv⟩
 .obtain ⟨r,hr⟩:=hin
  exact⟨r,blk,rfl,hr⟩
 .rintro r b ⟨rfl,hr⟩
  rw[hsame hid];exact hk r hr
end Go.Av
namespace Go.Av
open RowKit
variable [Tr]
theorem Agr.rfl'{n id:Nat}{s:LB}:Agr n id s s:=fun _ _ _=>rfl
def A4R(c:Cx)(n:Nat)(f:FuncId)(args:LY)(id:Nat)(s:LB)(K:AV->LB->Prop):Prop :=
 ∃ post:AV->LB->Prop,(AaA c.P f=true/\∀ h ρ w vs,Mine h ρ s w->Later c.h c.ρ c.sto c.w h ρ s w->RL h (Lf ρ s) false vs args->Calls c.P f vs.toArray w fun en w' =>
  ∃ v r s' h' ρ',en=.returned v/\post r s'/\Mine h' ρ' s' w'/\Later h ρ s w h' ρ' s' w'/\RV h' (Lf ρ' s') false v r)/\(∃ r s',post r s')/\∀ r s',post r s'->Agr n id s s'/\K r s'
section
variable {cx:Cx}{ops:Array Oper}{s:LB}{K:Env->LB->Prop}{im:List Nat}{n0 id:Nat}
end
section
variable {c:Cx}{k:List It}{e:Env}{s:LB}
mutual
def dxn(c:Cx)(all:List Oper)(im:List Nat)(n0 id:Nat)(k:List It):Nat->List Oper->LY->Env->LB->Prop
 | _,[],_,e,s=>AWp c k e s
 | 0,_::_,_,_,_=>False
 | n+1,o::r,cs,e,s=>bif im.contains (rix all (o::r)) then
   (match o.guard,xop false true c.P e s o.op with
    | none,.call f args=>A4R c n0 f args id s (fun v s'=>dxn c all im n0 id k n r cs (put e o.dst v) s')
    | _,_=>False)
  else dck (reader o.op&&!blind o.op) n0 id e o.op/\dxnc c all im n0 id k n (dgrd c all s o r cs e o.guard)
def dxnc(c:Cx)(all:List Oper)(im:List Nat)(n0 id:Nat)(k:List It):Nat->Dn->Prop
 | n,.go r cs e s=>dxn c all im n0 id k n r cs e s
 | n,.two b r cs e r' cs' e' s=>dbrn c all im n0 id k n b r cs e r' cs' e' s
 | n,.side p r cs e s=>p/\dxn c all im n0 id k n r cs e s
 | _,.fail=>False
def dbrn(c:Cx)(all:List Oper)(im:List Nat)(n0 id:Nat)(k:List It):Nat->Bool->List Oper->LY->Env->List Oper->LY->Env->LB->Prop
 | 0,_,_,_,_,_,_,_,_=>False
 | n+1,b,r,cs,e,r',cs',e',s=>(b=true->dxn c all im n0 id k n r cs e s)/\(b=false->dxn c all im n0 id k n r' cs' e' s)
end
theorem icc{n:Nat}{f:FuncId}{args:LY}{post:AV->LB->Prop}{K:AV->LB->Prop}{id:Nat}(hc:Ct c.P f args s post)(hin:∃ r s',post r s')(hk:∀ r s',post r s'->Agr n id s s'/\K r s'):A4R c n f args id s K :=
 ⟨post,⟨hc.1,fun h ρ w vs m l rr=>hc.2 h ρ w vs m rr⟩,hin,hk⟩
theorem Agr.push'{n id:Nat}{s:LB}(h:n<=s.length)(t:LB):Agr n id s (s++t):=fun i hi _=>by
 rw[lcf,lcf,lbz (by omega)]
end
