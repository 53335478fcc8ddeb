/- Numbers of scenes, as the reference tells them: walked. -/
import Derived.Test.YtgenkcmfeeakoaaGreatDoorX38
import Derived.Lib.Fields
set_option maxRecDepth 100000
set_option maxHeartbeats 2000000
set_option linter.all false
namespace Go.Proofs.YtgenkcmfeeakoaaGreatDoor
open Av RowKit Proofs.Tryz
theorem BjP(s:LU)(a b:Int):Pc prog 62 [.str s,.int .i64 a,.int .i64 b] (· = .bool (decide ((s.length:Int)>=a)&&decide ((s.length:Int)<=b))):=by
 cases d1:decide ((s.length:Int)>=a)with
 | true =>
  refine zpIN func62 rfl fun h ρ w=>?_
  simp only[go_sem,d1];exact zt [6]
 | false =>
  refine zpIN func62 rfl fun h ρ w=>?_
  simp only[go_sem,d1];exact zt [6]
theorem A4J(c:LU)(hc:c.length<1000000):Pc prog 119 [.str c,.str CAPS] (· = .bool (c.all capB)):=by
 rw[<- BaP c];refine zpIN func119 rfl fun h ρ w=>?_
 simp only[go_sem];refine zpN (A2I c CAPS (by omega) (by decide) (AbI (by decide))) ?_;simp only[go_sem];exact zt [4]
theorem AbX(s:LU)(hs:s.length<1000000):Pc prog 61 [.str s] (· = .bool (numberL s)):=by
 have hcl:=BgW s;have h1:=BjP (digs s) 1 3;have h2:=A4J (caps s) (by omega);have h3:=AbR (caps s) [65] (by omega);have e1:decide (((digs s).length:Int)>=1)=decide (1<=(digs s).length):=by congr 1; apply propext; omega
 have e2:decide (((digs s).length:Int)<=3)=decide ((digs s).length<=3):=by congr 1; apply propext; omega
 rw[e1,e2]at h1;rw[BpM s]
 cases d1:decide (1<=(digs s).length)&&decide ((digs s).length<=3)with
 | false =>
  rw[d1]at h1;refine zpIN func61 rfl fun h ρ w=>?_
  simp only[go_sem];refine zpN (AbM s hs) ?_;simp only[go_sem];refine zpN (h1) ?_;simp only[go_sem];refine aret [2] rfl ⟨?_,rfl⟩;have:(decide (1<=(digs s).length)&&(decide ((digs s).length<=3)&&(!decide (((caps s).length:Int)>5)&&((caps s).all capB&&(!Lib.hasSuffix (caps s) [65]&&(((s.getD 0 0).toNat:Int) != 48||(digs s==[48]&&caps s != [])))))))=false:=by
   rw[<- Bool.and_assoc,d1]; rfl
  rw[this]; rfl
 | true =>
  rw[d1]at h1;rw[<- Bool.and_assoc,d1,lbt];have hd0:1<=(digs s).length:=by
   simp only[lae,lag]at d1;exact d1.1
  have hg:(digs s).getD 0 0=s.getD 0 0:=by
   conv=>rhs; rw[AbF s]
   cases hq:digs s with
   | nil=>rw[hq]at hd0; simp at hd0
   | cons x t=>rfl
  rw[<- hg];have hgd:(0:Int)<((digs s).length:Int):=by omega
  cases d2:decide (((caps s).length:Int)>5)with
  | true =>
   refine zpIN func61 rfl fun h ρ w=>?_
   simp only[go_sem];refine zpN (AbM s hs) ?_;simp only[go_sem];refine zpN (h1) ?_;simp only[go_sem,d2];exact zt [2]
  | false =>
   cases d3:(caps s).all capB with
   | false =>
    rw[d3]at h2;refine zpIN func61 rfl fun h ρ w=>?_
    simp only[go_sem];refine zpN (AbM s hs) ?_;simp only[go_sem];refine zpN (h1) ?_;simp only[go_sem,d2];refine zpN (h2) ?_;simp only[go_sem];exact zt [2]
   | true =>
    rw[d3]at h2
    cases d4:Lib.hasSuffix (caps s) [65]with
    | true =>
     rw[d4]at h3;refine zpIN func61 rfl fun h ρ w=>?_
     simp only[go_sem];refine zpN (AbM s hs) ?_;simp only[go_sem];refine zpN (h1) ?_;simp only[go_sem,d2];refine zpN (h2) ?_;simp only[go_sem];refine zpN (h3) ?_;simp only[go_sem];exact zt [2]
    | false =>
     rw[d4]at h3
     cases d5:(((digs s).getD 0 0).toNat:Int) != 48 with
     | true =>
      refine zpIN func61 rfl fun h ρ w=>?_
      simp only[go_sem];refine zpN (AbM s hs) ?_;simp only[go_sem];refine zpN (h1) ?_;simp only[go_sem,d2];refine zpN (h2) ?_;simp only[go_sem];refine zpN (h3) ?_;simp only[go_sem,d5]
      repeat refine aqg ?_
      exact zt [2]
     | false =>
      cases d6:digs s==[48]with
      | false =>
       refine zpIN func61 rfl fun h ρ w=>?_
       simp only[go_sem];refine zpN (AbM s hs) ?_;simp only[go_sem];refine zpN (h1) ?_;simp only[go_sem,d2];refine zpN (h2) ?_;simp only[go_sem];refine zpN (h3) ?_;simp only[go_sem,d5,d6]
       repeat refine aqg ?_
       exact zt [2]
      | true =>
       refine zpIN func61 rfl fun h ρ w=>?_
       simp only[go_sem];refine zpN (AbM s hs) ?_;simp only[go_sem];refine zpN (h1) ?_;simp only[go_sem,d2];refine zpN (h2) ?_;simp only[go_sem];refine zpN (h3) ?_;simp only[go_sem,d5,d6]
       repeat refine aqg ?_
       exact zt [2]
theorem AeK(a b:LU)(ha:numberL a=true)(hb:numberL b=true):Pc prog 38 [.str a,.str b] (· = .int .i64 (compareN a b)):=A0F a b ha hb
theorem AlT(c:LU)(n:Nat)(h0:1<=n)(h1:n<=100)(hc:c.length<1000000)(hcap:∀ x∈c,x.toNat<=90):Pc prog 60 [.str c,.int .i64 n] (· = .tup [.str (aboveL c n),.bool (aboveL c n != [])]):=by
 by_cases hl:c.length<n
 .have hr:=AjS [65] (n-c.length-1) (by simp; omega) (by omega)
  rw[show((n-c.length-1:Nat):Int)=(n:Int)-c.length-1 by omega]at hr;have d:decide ((n:Int)>(c.length:Int))=true:=by simp; omega
  have e:aboveL c n=c++Lib.repeatL [65] (n-c.length-1)++[66]:=by rw[aboveL,if_pos hl,lowestL,lbu]
  have e2:(c++Lib.repeatL [65] (n-c.length-1)++[66] != [])=true:=by simp
  have hrl:(Lib.repeatL [65] (n-c.length-1)).length<=100:=by simp[Lib.repeatL_length]; omega
  rw[e,e2];refine zpIN func60 rfl fun h ρ w=>?_
  simp only[go_sem,d]
  repeat refine aqg ?_
  refine zpN (hr) ?_;simp only[go_sem]
  repeat refine aqg ?_
  exact zt [4,5]
 .have hl':n<=c.length:=by omega
  have d:decide ((n:Int)>(c.length:Int))=false:=by simp; omega
  have hlt:(c.take n).length=n:=by simp; omega
  have htl:=AuZ;refine zpIN func60 rfl fun h ρ w=>?_
  simp only[go_sem,d,hlt]
  repeat refine aqg ?_
  refine AaE (ι:=Nat) (fun j=>n-j) (fun j=>[(7,.int .i64 ((n:Int)-1-j)),(6,.sl 0 0 n n),(4,.str []),(5,.bool false),(1,.int .i64 n)]) (fun _=>[.arr 1 (bys (c.take n))])
   (fun j=>j<=n/\∀ i,n-j<=i->i<n->c.getD i 0=90) 0 ⟨by omega,by omega⟩ ?_ ?_
  .have e0:((n:Int)-1-(0:Nat))=n-1:=by omega
   simp only[e0];refine Lr ?_;simp only[go_sem]
  .rintro j ⟨g1,g2⟩ J hJ
   by_cases hj:j=n
   .subst hj
    have d1:decide ((j:Int)-1-j>=0)=false:=by simp; omega
    have e:aboveL c j=[]:=by rw[aboveL,if_neg (by omega),BeT hl' g2]
    rw[e];apply zgN;simp only[go_sem,d1];exact zt [4,5]
   .have d1:decide ((n:Int)-1-j>=0)=true:=by simp; omega
    have hk:((n:Int)-1-j).toNat=n-1-j:=by omega
    have hg0:(c.take n).getD (n-1-j) 0=c.getD (n-1-j) 0:=by
     simp only[List.getD,lce,if_pos (show n-1-j<n by omega)]
    have hg:(bys (c.take n)).getD (n-1-j) .any=.int .u8 (c.getD (n-1-j) 0).toNat:=by
     rw[A2P (by omega),hg0]
    have hx:(c.getD (n-1-j) 0).toNat<=90:=hcap _ (by simp only[List.getD,lab (show n-1-j<c.length by omega),lcn]; exact lac _)
    by_cases h90:c.getD (n-1-j) 0=90
    .have d2:decide (((c.getD (n-1-j) 0).toNat:Int)<90)=false:=by rw[h90]; rfl
     apply zgN;simp only[go_sem,d1,hk,hg,hlt,d2,bys_len]
     repeat refine aqg ?_
     rw[show(n:Int)-1-(j:Int)-1=(n:Int)-1-((j+1:Nat):Int) by omega];refine ainv (hJ (j+1) ⟨by omega,fun i h3 h4=>?_⟩ (by omega)) (Lr ?_)
     .by_cases e:i=n-1-j
      .rw [e]; exact h90
      .exact g2 i (by omega) h4
     .simp only [go_sem]
    .have hlt90:(c.getD (n-1-j) 0).toNat<90:=by
      by_cases e:(c.getD (n-1-j) 0).toNat=90
      .exact absurd (UInt8.toNat_inj.1 (by rw[e]; rfl)) h90
      .omega
     have d2:decide (((c.getD (n-1-j) 0).toNat:Int)<90)=true:=by rw[lag]; omega
     have hu:((c.getD (n-1-j) 0).toNat:Int)+1=((c.getD (n-1-j) 0+1).toNat:Int):=by
      have:∀ x:UInt8,x.toNat<=90->(x.toNat:Int)+1=((x+1).toNat:Int):=fun x h=>by
       have e:(x+1).toNat=(x.toNat+1)%256:=by rw[UInt8.toNat_add]; rfl
       omega
      exact this _ hx
     have hz:=BeS (Nat.le_of_lt (show j<n by omega)) hl' g2;rw[show n-j=(n-1-j)+1 by omega,BtA (by omega)]at hz;have hbs:=BeU (by omega) hl' g2 h90;have hab:aboveL c n=(fixR (c.take (n-1-j)++(c.getD (n-1-j) 0+1)::List.replicate j 65).reverse).reverse:=by
      rw[aboveL,if_neg (by omega),hbs]
      simp
     have hL:(c.take (n-1-j)++(c.getD (n-1-j) 0+1)::List.replicate j 65).length=n:=by simp; omega
     rw[BnO h0 hL]at hab;generalize hcx:c.getD (n-1-j) 0=x at *;have hPl:(c.take (n-1-j)).length=n-1-j:=by simp; omega
     generalize c.take (n-1-j)=P at *;have hset0:(bys (c.take n)).set (n-1-j) (.int .u8 (x+1).toNat)=bys (P++(x+1)::(List.replicate 0 65++List.replicate (j-0) 90)):=by
      rw[bys_set,hz,lbu,List.set_append_right _ _ (by omega)]
      simp[hPl]
     apply zgN;simp only[go_sem,d1,hk,hg,hlt,d2,bys_len,hu,hset0]
     repeat refine aqg ?_
     refine AaE (ι:=Nat) (fun m=>j-m) (fun m=>[(8,.int .i64 ((n:Int)-j+m)),(6,.sl 0 0 n n),(4,.str []),(5,.bool false),(1,.int .i64 n)]) (fun m=>[.arr 1 (bys (P++(x+1)::(List.replicate m 65++List.replicate (j-m) 90)))])
      (fun m=>m<=j) 0 (by omega) ?_ ?_
     .have e0:(n:Int)-1-(j:Int)+1=(n:Int)-j+(0:Nat):=by omega
      simp only[e0];refine Lr ?_;simp only[go_sem]
     .intro m gm J2 hJ2
      have hLm:(P++(x+1)::(List.replicate m 65++List.replicate (j-m) 90)).length=n:=by simp; omega
      by_cases hm:m<j
      .have dm:decide ((n:Int)-j+m<(n:Int))=true:=by simp; omega
       have km:((n:Int)-j+m).toNat=n-j+m:=by omega
       have hsm:(bys (P++(x+1)::(List.replicate m 65++List.replicate (j-m) 90))).set (n-j+m) (.int .u8 65)=bys (P++(x+1)::(List.replicate (m+1) 65++List.replicate (j-(m+1)) 90)):=by
        have e65:(.int .u8 65:AV)=.int .u8 ((65:UInt8).toNat:Int):=rfl;rw[e65,bys_set,List.set_append_right _ _ (by omega),show n-j+m-P.length=m+1 by omega,List.set_cons_succ,List.set_append_right _ _ (by simp),List.length_replicate,Nat.sub_self,show j-m=(j-(m+1))+1 by omega,List.replicate_succ,List.set_cons_zero,List.replicate_succ' (n:=m)]
        simp
       have hgm:=A2P (l:=P++(x+1)::(List.replicate m 65++List.replicate (j-m) 90)) (k:=n-j+m) (by omega);apply zgN;simp only[go_sem,dm,km,hsm,hLm,hgm,bys_len]
       repeat refine aqg ?_
       rw[show(n:Int)-j+m+1=(n:Int)-j+((m+1:Nat):Int) by omega];refine ainv (hJ2 (m+1) (by omega) (by omega)) (Lr ?_);simp only[go_sem]
      .have dm:decide ((n:Int)-j+m<(n:Int))=false:=by simp; omega
       have em:m=j:=by omega
       subst em;rw[Nat.sub_self,List.replicate_zero,lca];have hk1:((n:Int)-1).toNat=n-1:=by omega
       generalize P++(x+1)::List.replicate m 65=L at *;have hgL:=A2P (l:=L) (k:=n-1) (by omega);have hLt:List.take n L=L:=laj (by omega)
       by_cases h65:L.getD (n-1) 0=65
       .have d3:(((L.getD (n-1) 0).toNat:Int)==65)=true:=by rw[h65]; rfl
        rw[if_pos h65]at hab;have hs66:(bys L).set (n-1) (.int .u8 66)=bys (L.set (n-1) 66):=by
         have e66:(.int .u8 66:AV)=.int .u8 ((66:UInt8).toNat:Int):=rfl;rw[e66,bys_set]
        have hne:(L.set (n-1) 66 != [])=true:=by
         have:(L.set (n-1) 66).length=n:=by simp; omega
         cases hq:L.set (n-1) 66 with
         | nil=>rw[hq]at this; simp at this; omega
         | cons a r=>rfl
        have hl3:(L.set (n-1) 66).length=n:=by simp; omega
        rw[hab,hne];generalize L.set (n-1) 66=M at *;obtain⟨t1,t2⟩:=AuZ M;have hMt:List.take n (bys M)=bys M:=laj (by rw[bys_len]; omega);apply zgN;simp only[go_sem,dm,hk1,hgL,d3,hs66,bys_len,hL,hl3,hMt,t1,t2]
        repeat refine aqg ?_
        exact zt [4,5]
       .have d3:(((L.getD (n-1) 0).toNat:Int)==65)=false:=by
         rw[lbe];intro e;exact h65 (UInt8.toNat_inj.1 (by simpa using(show(L.getD (n-1) 0).toNat=65 by omega)))
        rw[if_neg h65]at hab;have hne:(L != [])=true:=by
         cases hq:L with
         | nil=>rw[hq]at hL; simp at hL; omega
         | cons a r=>rfl
        rw[hab,hne];obtain⟨t1,t2⟩:=AuZ L;have hMt:List.take n (bys L)=bys L:=laj (by rw[bys_len]; omega);apply zgN;simp only[go_sem,dm,hk1,hgL,d3,bys_len,hL,hMt,t1,t2]
        repeat refine aqg ?_
        exact zt [4,5]
def AwE(ps:List (List Ln)):Nat:=match ps.getLast? with
 | some p=>54-p.length
 | none=>0
def putR(ps:List (List Ln))(l:List Ln):List (List Ln):=ps.dropLast++[ps.getLastD []++l]
theorem room_snoc(ps:List (List Ln))(p:List Ln):AwE (ps++[p])=54-p.length:=by simp[AwE]
theorem put_snoc(ps:List (List Ln))(p l:List Ln):putR (ps++[p]) l=ps++[p++l]:=by grind[putR]
def tzR(b:Bl)(fr room:Nat):Nat:=(AeO b fr (min (fr+room-grp b) b.Lb.length)).getD fr
def turnR(b:Bl)(fr tz:Nat)(ps:List (List Ln)):List (List Ln):=putR (putR (putR ps (partL' b fr tz)) (if b.kind==3 then[AcT] else[])++[[]]) (if b.kind==3 then[goesLn b] else[])
def fillGo(b:Bl):Nat->Nat->List (List Ln)->List (List Ln)
 | 0,_,ps=>ps
 | f+1,fr,ps=>if b.Lb.length-fr<=AwE ps then putR ps (b.Lb.drop fr) else fillGo b f (tzR b fr (AwE ps)) (turnR b fr (tzR b fr (AwE ps)) ps)
def topR(b:Bl)(need:Nat)(ps:List (List Ln)):Bool:=decide (ps=[])||decide (AwE ps<gapN b+need)
def fillR(b:Bl)(need:Nat)(ps:List (List Ln)):List (List Ln):=fillGo b (b.Lb.length+1) 0 (if topR b need ps then ps++[[]] else putR ps (List.replicate (gapN b) []))
theorem break_end(b:Bl)(fr:Nat)(h:fr<b.Lb.length):breaksL b fr b.Lb.length=false:=by
 grind[breaksL]
theorem BjQ(b:Bl)(fr n:Nat)(h:fr<b.Lb.length):AeO b fr (min n b.Lb.length)=AeO b fr (min n (b.Lb.length-1)):=by
 by_cases c:n<b.Lb.length
 .grind
 .obtain ⟨m,hm⟩:∃ m,b.Lb.length=m+1:=⟨b.Lb.length-1,by omega⟩
  grind[break_end,AeO]
theorem AtL(b:Bl):∀ (n k j:Nat),firstB b n k=some j->breaksL b 0 j=true
 | 0,_,_,h=>by cases h
 | n+1,k,j,h=>by
  simp only[firstB]at h
  split at h
  .rename_i hb
   simp at h
   rw[<- h]; exact hb
  .exact AtL b n (k+1) j h
theorem A0G(b:Bl):∀ (n k j0:Nat),k<=j0->j0<k+n->breaksL b 0 j0=true->∃ j,firstB b n k=some j/\j<=j0
 | 0,k,j0,h1,h2,_=>by omega
 | n+1,k,j0,h1,h2,h3=>by
  simp only[firstB]
  by_cases hb:breaksL b 0 k=true
  .simp_all
  .rw [if_neg hb]
   have:k≠j0:=fun e=>by grind
   exact A0G b n (k+1) j0 (by omega) (by omega) h3
structure BrkOk(b:Bl):Prop where
 some:b.Lb≠[]
 least:AaY b<=54
 first:∀ room,AaY b<=room->b.Lb.length<=room\/∃ j,AeO b 0 (min (room-grp b) (b.Lb.length-1))=.some j
 next:∀ fr,0<fr->fr<b.Lb.length->b.Lb.length-fr<=54-grp b\/∃ j,AeO b fr (min (fr+(54-grp b)-grp b) (b.Lb.length-1))=.some j
theorem BrD{b:Bl}(h:AhI b)(h0:b.Lb≠[]):BrkOk b:=by
 refine⟨h0,?_,fun room hr=>?_,fun fr h1 h2=>?_⟩
 .unfold AaY
  split
  .omega
  .split
   .rename_i hk3
    simp at hk3
    rcases h with hk|⟨hk,hl,m,hm⟩|hl
    .omega
    .by_cases h21:21<=b.Lb.length
     .obtain ⟨j,w1,w2,w3⟩:=A3V hm (k:=19) (by omega) (by omega)
      have hb:breaksL b 0 (j+1)=true:=by
       grind[breaksL]
      obtain⟨q,hq,hq2⟩:=A0G b (b.Lb.length-1) 1 (j+1) (by omega) (by omega) hb
      grind
     .split
      .rename_i k hk'
       have:=AkG b _ _ _ hk';omega
      omega
    .split
     .rename_i k hk'
      have:=AkG b _ _ _ hk';omega
     omega
   .rename_i hn3
    rcases h with hk|⟨hk,hl,m,hm⟩|hl<;>grind
 .unfold AaY at hr
  split at hr
  .rename_i hk
   simp at hk
   by_cases hf:b.Lb.length<=room
   .omega
   .right
    have hb:breaksL b 0 2=true:=by
     grind[breaksL]
    grind[grp,AiF]
  .split at hr
   .rename_i hk
    simp at hk
    split at hr
    .rename_i k hk'
     by_cases hf:b.Lb.length<=room
     .omega
     .right
      have h1:=ApM b _ _ _ hk';have h2:=AkG b _ _ _ hk';have hg:grp b=1:=by grind[grp]
      obtain⟨j,hj,_⟩:=AiF (AtL b _ _ _ hk') (by omega) (min (room-grp b) (b.Lb.length-1)) (by omega)
      grind
    omega
   omega
 .by_cases hf:b.Lb.length-fr<=54-grp b
  .omega
  .right
   rcases h with hk|⟨hk,hl,m,hm⟩|hl
   .have hg:grp b=0:=by grind[grp]
    have hb:breaksL b fr (fr+50)=true:=by
     grind[breaksL]
    obtain⟨j,hj,_⟩:=AiF hb (by omega) (min (fr+(54-grp b)-grp b) (b.Lb.length-1)) (by omega)
    grind
   .have hg:grp b=1:=by grind[grp]
    obtain⟨q,w1,w2,w3⟩:=A3V hm (k:=fr+40) (by omega) (by omega);have hb:breaksL b fr (q+1)=true:=by
     simp only[breaksL,hk,show((3:Int)==1)=false from rfl,lbl,lan,if_false,if_true,lcf,w3,lbt,lae,lag];omega
    obtain⟨j,hj,_⟩:=AiF hb (by omega) (min (fr+(54-grp b)-grp b) (b.Lb.length-1)) (by omega)
    grind
   grind[grp]
def toP(s:LS):List (List Ln):=s.Lh++[s.Li]
def toQ(s:LS):List (List Ln):=if s.Li=[] then s.Lh else s.Lh++[s.Li]
theorem toP_add(s:LS)(l:List Ln):toP (addS s l)=putR (toP s) l:=by unfold toP; rw[put_snoc]; rfl
theorem BjR(b:Bl)(fr tz:Nat)(s:LS):toP (breakS b (addS s (partL' b fr tz)))=turnR b fr tz (toP s):=by
 grind[breakS,turnR,toP_add,flushS,toP]
theorem A8M(b:Bl)(s:LS):(breakS b s).Li.length=grp b:=by
 grind[break_page,grp]
theorem place_eq{b:Bl}(hb:BrkOk b):∀ (f fr:Nat)(s:LS),b.Lb.length-fr<f->fr<b.Lb.length->s.Li.length<=54->(fr=0->AaY b<=54-s.Li.length)->(0<fr->s.Li.length=grp b) ->
  toP (placeB b f fr s)=fillGo b f fr (toP s)/\(placeB b f fr s).Li≠[]/\(placeB b f fr s).Li.length<=54
 | 0,fr,s,h,_,_,_,_=>by omega
 | f+1,fr,s,h,hfr,hl,h0,h1=>by
  have hroom:AwE (toP s)=54-s.Li.length:=room_snoc _ _;unfold placeB fillGo;rw[hroom];generalize hr:54-s.Li.length=room at *
  by_cases hf:b.Lb.length-fr<=room
  .grind[stopL,partL',toP_add,addS]
  .have hex:∃ j,AeO b fr (min (fr+room-grp b) (b.Lb.length-1))=some j:=by
    by_cases z:fr=0
    .subst z
     have:=(hb.first room (h0 rfl)).resolve_left (by omega)
     grind
    .have hrm:room=54-grp b:=by omega
     subst hrm;exact(hb.next fr (by omega) hfr).resolve_left hf
   obtain⟨j,hj⟩:=hex;have hs:stopL b fr room=j:=by grind[stopL]
   have ht:tzR b fr room=j:=by grind[tzR]
   have hjl:=AmY b fr _ _ hj;rw[if_neg (by omega),if_neg hf,hs,ht,<- BjR];exact place_eq hb f j _ (by omega) (by omega) (by rw[A8M]; unfold grp; split <;> omega) (fun e=>by omega) (fun _=>A8M _ _)
theorem fill_eq{bs:List Bl}{i:Nat}{b:Bl}(hb:BrkOk b){s:LS}(hl:s.Li.length<=54)(h0:s.Li=[]->s.Lh=[]) :
  fillR b (AdJ bs i b) (toQ s)=toQ (placeB b (b.Lb.length+1) 0 (openS bs i b s))/\(placeB b (b.Lb.length+1) 0 (openS bs i b s)).Li≠[]/\(placeB b (b.Lb.length+1) 0 (openS bs i b s)).Li.length<=54 /\
  topR b (AdJ bs i b) (toQ s)=decide ((turnS bs i b s).Li=[])/\AaY b<=54-(openS bs i b s).Li.length:=by
 have hh:AaY b<=AdJ bs i b:=by grind[AdJ]
 have hle:=hb.least;have hlen:0<b.Lb.length:=List.length_pos_iff.2 hb.some;have key:toP (openS bs i b s)=(if topR b (AdJ bs i b) (toQ s) then toQ s++[[]] else putR (toQ s) (List.replicate (gapN b) []))/\(openS bs i b s).Li.length<=54/\AaY b<=54-(openS bs i b s).Li.length/\topR b (AdJ bs i b) (toQ s)=decide ((turnS bs i b s).Li=[]):=by
  by_cases hp:s.Li=[]
  .have hq:toQ s=[]:=by grind[toQ]
   simp_all[turnS,openS,gapS,firstS,topR,toP]
  .have hq:toQ s=s.Lh++[s.Li]:=by grind[toQ]
   have hpl:1<=s.Li.length:=by
    grind
   have hne:(s.Lh++[s.Li]=[])=False:=by simp
   have hrm:=room_snoc s.Lh s.Li
   by_cases hc:s.Li.length+gapN b+AdJ bs i b>54
   .have ht:turnS bs i b s=flushS s:=by grind[turnS]
    have htop:topR b (AdJ bs i b) (toQ s)=true:=by
     grind[topR]
    have hf1:firstS i (flushS s)={ flushS s with first:=i }:=by exact if_pos rfl
    simp_all[openS,gapS,flushS,toP]
   .have ht:turnS bs i b s=s:=by grind[turnS]
    have htop:topR b (AdJ bs i b) (toQ s)=false:=by
     grind[topR]
    grind[openS,gapS,firstS,toP,put_snoc]
 grind[place_eq,fillR,toP,toQ]
theorem lay_ne{bs:List Bl}(hb:∀ b∈bs,BrkOk b):∀ i,i<=bs.length->(layTo bs i).Li.length<=54/\((layTo bs i).Li=[]->(layTo bs i).Lh=[])/\(0<i->(layTo bs i).Li≠[])
 | 0,_=>⟨by simp[layTo],fun _=>rfl,fun h=>by omega⟩
 | i+1,h=>by
  obtain⟨h1,h2,_⟩:=lay_ne hb i (by omega);have hi:i<bs.length:=by omega
  simp only[layTo,lab hi];obtain⟨_,k2,k3,_,_⟩:=fill_eq (hb _ (lac hi)) h1 h2;exact⟨k3,fun e=>absurd e k2,fun _=>k2⟩
def tpR(bs:List Bl)(i:Nat):Bool:=match bs[i]? with
 | some b=>decide ((turnS bs i b (layTo bs i)).Li=[])
 | none=>false
theorem BrE{bs:List Bl}(hb:∀ b∈bs,BrkOk b){i:Nat}(hi:i<bs.length):fillR bs[i] (AdJ bs i bs[i]) (toQ (layTo bs i))=toQ (layTo bs (i+1))/\topR bs[i] (AdJ bs i bs[i]) (toQ (layTo bs i))=tpR bs i:=by
 grind[lay_ne,fill_eq,layTo,tpR]
theorem A4K{bs:List Bl}:toQ (layTo bs bs.length)=(layL bs).Lh:=by
 unfold layL toQ
 by_cases h:(layTo bs bs.length).Li=[]
 .grind
 .rw [if_neg h,if_pos h]; rfl
def allF(s:LS):List Int:=s.Lg++[s.first]
theorem AjF(b:Bl):∀ (f fr:Nat)(s:LS),∃ m,allF (placeB b f fr s)=allF s++List.replicate m (-1)/\(placeB b f fr s).Lh.length=s.Lh.length+m
 | 0,_,s=>⟨0,by simp[placeB],by simp[placeB]⟩
 | f+1,fr,s=>by
  unfold placeB
  split
  .simp_all[allF,addS]
  .obtain ⟨m,h1,h2⟩:=AjF b f (stopL b fr (54-s.Li.length)) (breakS b (addS s (partL' b fr (stopL b fr (54-s.Li.length)))))
   refine⟨m+1,?_,?_⟩<;>grind[allF,breakS,addS,flushS]
def stR(bs:List Bl)(i:Nat):Nat:=match bs[i]? with
 | some b=>(turnS bs i b (layTo bs i)).Lh.length
 | none=>0
theorem A0H(bs:List Bl)(i:Nat)(b:Bl)(s:LS):(∃ m,allF (turnS bs i b s)=allF s++List.replicate m (-1)/\(turnS bs i b s).Lh.length=s.Lh.length+m):=by
 unfold turnS
 split<;>simp_all[allF,flushS]
structure FsI(bs:List Bl)(i:Nat)(s:LS):Prop where
 len:(allF s).length=s.Lh.length+1
 iff:∀ (p:Nat) (j:Nat),(allF s)[p]? = some (j:Int) ↔ j<i/\tpR bs j=true/\stR bs j=p
theorem BtU{bs:List Bl}{i:Nat}{F:List Int}(h:∀ (p:Nat)(j:Nat),F[p]? = some (j:Int) ↔ j<i/\tpR bs j=true/\stR bs j=p)(m:Nat):∀ (p:Nat)(j:Nat),(F++List.replicate m (-1))[p]? = some (j:Int) ↔ j<i/\tpR bs j=true/\stR bs j=p:=by grind[lbf]
theorem BtV{bs:List Bl}(hbk:∀ b∈bs,BrkOk b):∀ i,i<=bs.length->FsI bs i (layTo bs i)
 | 0,_=>⟨rfl,fun p j=>⟨fun e=>by
   grind[layTo,allF],fun h=>by omega⟩⟩
 | i+1,hi=>by
  have ih:=BtV hbk i (by omega);have hb:i<bs.length:=by omega
  have hbi:=lab hb;simp only[layTo,hbi];unfold openS;obtain⟨m1,t1,t2⟩:=A0H bs i bs[i] (layTo bs i);have hT:tpR bs i=decide ((turnS bs i bs[i] (layTo bs i)).Li=[]):=by grind[tpR]
  have hS:stR bs i=(turnS bs i bs[i] (layTo bs i)).Lh.length:=by grind[stR]
  have hno:(turnS bs i bs[i] (layTo bs i)).Li=[]->(turnS bs i bs[i] (layTo bs i)).first=-1:=by
   unfold turnS
   split
   .intro _; rfl
   .intro e
    by_cases h0:0<i
    .grind[lay_ne]
    .have:i=0:=by omega
     subst this; rfl
  have k1:=BtU ih.iff m1;have k2:(allF (turnS bs i bs[i] (layTo bs i))).length=(turnS bs i bs[i] (layTo bs i)).Lh.length+1:=by
   rw[t1,t2,lah,List.length_replicate,ih.len]; omega
  generalize turnS bs i bs[i] (layTo bs i)=s1 at *;have k3:(allF (firstS i s1)).length=s1.Lh.length+1/\(firstS i s1).Lh=s1.Lh/\∀ (p:Nat) (j:Nat),(allF (firstS i s1))[p]? = some (j:Int) ↔ j<i+1/\tpR bs j=true/\stR bs j=p:=by
   have hfl:s1.Lg.length=s1.Lh.length:=by grind[allF]
   by_cases hp:s1.Li=[]
   .have e:firstS i s1={ s1 with first:=i }:=by grind[firstS]
    have hn1:=hno hp;rw[e];refine⟨by grind[allF],rfl,fun p j=>?_⟩;have hTt:tpR bs i=true:=by grind
    by_cases hpl:p<s1.Lg.length
    .have e1:(allF { s1 with first:=(i:Int) })[p]? = (allF s1)[p]?:=by
      grind[allF]
     grind
    .simp only [allF]
     rw[lcg (by omega)]
     by_cases hpe:p=s1.Lg.length
     .subst hpe
      simp
      constructor
      .grind
      .rintro ⟨a,b,c⟩
       by_cases ej:j=i
       .rw [ej]
       .exfalso
        have hk:=(k1 s1.Lg.length j).2 ⟨by omega,b,c⟩
        grind[allF]
     .have:p-s1.Lg.length≠0:=by omega
      rw[List.getElem?_eq_none (by grind)]
      constructor
      .grind
      .rintro ⟨a,b,c⟩
       exfalso
       by_cases ej:j=i
       .grind
       .have hk:=(k1 p j).2 ⟨by omega,b,c⟩
        grind
   grind[firstS]
  obtain⟨k4,k5,k6⟩:=k3;obtain⟨m2,p1,p2⟩:=AjF bs[i] (bs[i].Lb.length+1) 0 (gapS bs[i] (firstS i s1));have e1:allF (gapS bs[i] (firstS i s1))=allF (firstS i s1):=rfl;have e2:(gapS bs[i] (firstS i s1)).Lh=s1.Lh:=k5;rw[e1]at p1;rw[e2]at p2;refine⟨?_,fun p j=>?_⟩
  .grind
  .rw [p1]; exact BtU k6 m2 p j
theorem AtM{bs:List Bl}(hb:∀ b∈bs,BrkOk b){i:Nat}(hi:i<bs.length)(h0:bs[i].kind=0):(toQ (layTo bs (i+1))).length=stR bs i+1:=by
 obtain⟨h1,h2,_⟩:=lay_ne hb i (by omega);obtain⟨_,k2,_,_,k5⟩:=fill_eq (bs:=bs) (i:=i) (hb _ (lac hi)) h1 h2;have hle:AaY bs[i]=bs[i].Lb.length:=by grind[AaY]
 have hst:stopL bs[i] 0 (54-(openS bs i bs[i] (layTo bs i)).Li.length)=bs[i].Lb.length:=by grind[stopL]
 have e:placeB bs[i] (bs[i].Lb.length+1) 0 (openS bs i bs[i] (layTo bs i))=addS (openS bs i bs[i] (layTo bs i)) (partL' bs[i] 0 bs[i].Lb.length):=by
  grind[placeB]
 grind[layTo,addS,openS,stR,gapS,firstS,toQ]
def HdOk(ss:List (List Bl)):Prop:=∀ l∈ss,∃ b r,l=b::r/\b.kind=0/\∀ d∈r,d.kind≠0
def AwF(l:List Bl)(i:Nat)(b:Bl):Nat:=AaY b+(if b.kind==0 then(match l[i+1]? with
 | some d=>1+AaY d
 | none=>0) else 0)
def hxR(ss:List (List Bl))(k:Nat):Nat:=(ss.take k).flatten.length
theorem BjS{ss:List (List Bl)}{k:Nat}(hk:k<ss.length):hxR ss (k+1)=hxR ss k+ss[k].length:=by
 grind[hxR,laf]
theorem flat_split{ss:List (List Bl)}{k:Nat}(hk:k<ss.length):ss.flatten=(ss.take k).flatten++(ss[k]++(ss.drop (k+1)).flatten):=by
 grind[lbc,lbs]
theorem BjT{ss:List (List Bl)}{k i:Nat}(hk:k<ss.length)(hi:i<ss[k].length):ss.flatten[hxR ss k+i]? = some ss[k][i]:=by
 grind[flat_split,hxR]
theorem ByK{ss:List (List Bl)}(h:HdOk ss){k i:Nat}(hk:k<ss.length)(hi:i<ss[k].length):AdJ ss.flatten (hxR ss k+i) ss[k][i]=AwF ss[k] i ss[k][i]:=by
 unfold AdJ AwF
 split
 .have hn:ss.flatten[hxR ss k+i+1]? = (ss[k]++(ss.drop (k+1)).flatten)[i+1]?:=by
   grind[flat_split,hxR]
  rw[hn]
  by_cases h1:i+1<ss[k].length
  .obtain ⟨b,r,e,_,hr⟩:=h _ (lac hk)
   grind
  .rw [lcg (by omega),List.getElem?_eq_none (show ss[k].length<=i+1 by omega)]
   cases hq:ss.drop (k+1)with
   | nil=>rfl
   | cons l r =>
    have hm:l∈ss:=lba (i:=k+1) (by grind);obtain⟨b,r',e,hb,_⟩:=h l hm
    grind
 .rfl
def fiTo(bs:List Bl)(hx:Nat->Nat)(no:Nat->LU)(n:Nat):Nat->List LU
 | 0=>List.replicate n []
 | k+1=>if tpR bs (hx k) then(fiTo bs hx no n k).set (stR bs (hx k)) (no k) else fiTo bs hx no n k
theorem fiTo_len(bs:List Bl)(hx:Nat->Nat)(no:Nat->LU)(n:Nat):∀ k,(fiTo bs hx no n k).length=n
 | 0=>by simp[fiTo]
 | k+1=>by
  have:=fiTo_len bs hx no n k;simp only[fiTo]; split
  .simp [this]
  .exact this
theorem A8N(xs:List Sc)(nos:List LU):entsB xs nos=(nos.map (entB xs)).flatten:=by grind[entsB]
theorem fi_eq{xs:List Sc}{nos:List LU}(h:MdOk xs nos)(hb:∀ b∈entsB xs nos,BrkOk b):fiTo (entsB xs nos) (fun k=>(entsB xs (nos.take k)).length) (fun k=>nos.getD k []) (layL (entsB xs nos)).Lh.length nos.length=firstsI xs nos:=by
 have hF:=BtV hb _ (lad _);have hlayn:=lay_ne hb _ (lad _);generalize hbs:entsB xs nos=bs at *;have hfl:∀ p,p<(layL bs).Lh.length->(layL bs).Lg[p]? = (allF (layTo bs bs.length))[p]?:=by
  intro p hp;unfold layL at hp |-
  by_cases h0:(layTo bs bs.length).Li=[]
  .grind
  .rw [if_pos h0]; rfl
 have hfn:=firsts_pages bs;have hx1:∀ k,k<nos.length->(entsB xs (nos.take k)).length<bs.length:=fun k hk=>by
  have:=AsW h hk (lad _)
  grind
 have key:∀ k,k<=nos.length->∀ p,p<(layL bs).Lh.length ->
   (∀ j,j<k->(layL bs).Lg[p]? = some ((entsB xs (nos.take j)).length:Int)->(fiTo bs (fun k=>(entsB xs (nos.take k)).length) (fun k=>nos.getD k []) (layL bs).Lh.length k)[p]? = some (nos.getD j [])) /\
   ((∀ j,j<k->(layL bs).Lg[p]?≠some ((entsB xs (nos.take j)).length:Int))->(fiTo bs (fun k=>(entsB xs (nos.take k)).length) (fun k=>nos.getD k []) (layL bs).Lh.length k)[p]? = some []):=by
  intro k
  induction k with
  | zero =>
   grind[fiTo]
  | succ k ih =>
   intro hk p hp;obtain⟨i1,i2⟩:=ih (by omega) p hp;have hiff:=hF.iff p (entsB xs (nos.take k)).length;rw[<- hfl p hp]at hiff;have hl:=fiTo_len bs (fun k=>(entsB xs (nos.take k)).length) (fun k=>nos.getD k []) (layL bs).Lh.length k
   by_cases hc:(layL bs).Lg[p]? = some ((entsB xs (nos.take k)).length:Int)
   .obtain ⟨a,b,c⟩:=hiff.1 hc
    have e:(fiTo bs (fun k=>(entsB xs (nos.take k)).length) (fun k=>nos.getD k []) (layL bs).Lh.length (k+1))[p]? = some (nos.getD k []):=by
     grind[fiTo]
    refine⟨fun j hj hq=>?_,fun hn=>absurd hc (hn k (by omega))⟩;rw[hc,lao]at hq;have:j=k:=by
     by_cases e2:j=k
     .omega
     .have:=AsW h (i:=j) (j:=k) (by omega) (by omega)
      omega
    grind
   grind[fiTo]
 refine lbz fun p=>?_
 by_cases hp:p<(layL bs).Lh.length
 .obtain ⟨k1,k2⟩:=key nos.length (lad _) p hp
  have hpf:p<(layL bs).Lg.length:=by omega
  have hR:(firstsI xs nos)[p]? = some (AiK xs nos (layL bs).Lg[p]):=by
   grind[firstsI]
  grind[AiK]
 grind[fiTo_len,firstsI]
def HdK(l:List Int):Prop:=∃ r,l=0::r/\∀ k∈r,k≠0
theorem BrF(p:Pa):(newB p).kind≠0:=by
 grind[newB]
theorem A8O:∀ (ps:List Pa)(s:List Bl×Bl),HdK ((s.1++[s.2]).map (·.kind))->HdK (((ps.foldl bstep s).1++[(ps.foldl bstep s).2]).map (·.kind))
 | [],s,h=>h
 | p::r,s,h=>by
  refine A8O r (bstep s p) ?_;unfold bstep
  split
  .simpa [AsU]using h
  .obtain ⟨q,e,hq⟩:=h
   refine⟨q++[(newB p).kind],?_,fun k hk=>?_⟩
   .rw [lak,e]; rfl
   .rcases List.mem_append.1 hk with hk|hk
    .exact hq k hk
    .rw [List.mem_singleton.1 hk]; exact BrF p
theorem B1M(xs:List Sc)(nos:List LU):HdOk (nos.map (entB xs)):=by
 intro l hl;obtain⟨n,_,rfl⟩:=List.mem_map.1 hl;have h:HdK ((entB xs n).map (·.kind)):=by
  unfold entB
  split
  .exact A8O _ _ ⟨[],rfl,by simp⟩
  .exact ⟨[],rfl,by simp⟩
 obtain⟨r,e,hr⟩:=h
 cases hq:entB xs n<;>grind
theorem AeL:∀ t,∃ w ws,splitW t=w::ws
 | []=>⟨[],[],rfl⟩
 | c::r=>by
  simp only[splitW]
  split
  .grind
  .cases splitW r with
   | nil=>exact⟨_,_,rfl⟩
   | cons w ws=>exact⟨_,_,rfl⟩
theorem A0I:∀ (t cur:LU)(w:LU)(ws:List LU),splitW t=w::ws->(∀ c∈t,Lib.isSp c=(c==32))->Lib.fieldsGo cur t=((cur++w)::ws).filter (· != [])
 | [],cur,w,ws,h,_=>by
  grind[splitW,Lib.fieldsGo]
 | c::r,cur,w,ws,h,hc=>by
  obtain⟨w',ws',hr⟩:=AeL r;have ih:=fun cur=>A0I r cur w' ws' hr (fun x hx=>hc x (by simp[hx]))
  have h1:=hc c (by simp);simp only[Lib.fieldsGo,h1];simp only[splitW]at h
  by_cases h32:c=32
  .have e:(c==32)=true:=by simpa using h32
   rw[e]at h |-;obtain⟨rfl,rfl⟩:=h;rw[hr,ih []]
   cases cur <;> simp
  .have e:(c==32)=false:=by simpa using h32
   rw[e]at h |-
   simp at h |-
   rw[hr]at h;obtain⟨rfl,rfl⟩:=h;rw[ih]
   simp
def spOk(t:LU):Prop:=∀ c∈t,Lib.isSp c=(c==32)
theorem fields_split{t:LU}(h:spOk t):Lib.fields t=(splitW t).filter (· != []):=by
 obtain⟨w,ws,hs⟩:=AeL t;have:=A0I t [] w ws hs h
 grind[Lib.fields]
theorem fold_filter{W:Nat}:∀ (l:List LU)(s:List LU×LU),(l.filter (· != [])).foldl (AcF W) s=l.foldl (AcF W) s
 | [],s=>rfl
 | w::r,s=>by
  by_cases h:w=[]
  .subst h
   have:AcF W s []=s:=by simp[AcF]
   simp[fold_filter r,this]
  .have hb:(w != [])=true:=by simpa using h
   simp[List.filter_cons,hb,fold_filter r]
def wsR(W:Nat)(ws:List LU)(j:Nat):List LU×LU:=(ws.take j).foldl (AcF W) ([],[])
def outW(s:List LU×LU):List LU:=if s.2=[] then s.1 else s.1++[s.2]
theorem BrG{W:Nat}{t:LU}(h:spOk t):wrapL W t=outW (wsR W (Lib.fields t) (Lib.fields t).length):=by
 grind[wsR,wrapF,fields_split,fold_filter,wrapL,outW]
theorem A8P{W:Nat}{ws:List LU}{j:Nat}(h:j<ws.length):wsR W ws (j+1)=AcF W (wsR W ws j) ws[j]:=by
 grind[wsR,laf]
theorem BjU{t:LU}(h:spOk t):∀ w∈Lib.fields t,w≠[]:=by grind[fields_split]
theorem wrapS_ne{W:Nat}(hW:0<W)(s:List LU×LU){w:LU}(h:w≠[]):(AcF W s w).2≠[]:=by
 unfold AcF;rw[if_neg (by grind)]
 split
 .simp
 .exact (AvS hW w.length w (lad _)).2.2.1 h
theorem BjV{W M:Nat}{ws:List LU}(h:∀ w∈ws,w.length<=M):∀ j,j<=ws.length->(wsR W ws j).1.length+(wsR W ws j).2.length<=j*(M+1)
 | 0,_=>by simp[wsR]
 | j+1,hj=>by
  have ih:=BjV (W:=W) h j (by omega);have:=AyX W (wsR W ws j) ws[j]
  grind[A8P]
theorem BrH(s:List LU×LU):(outW s).length<=s.1.length+s.2.length:=by
 grind[outW,List.length_pos_iff]
theorem BrI{W:Nat}(hW:0<W)(s:List LU×LU){w:LU}(h:w≠[]) :
  outW (AcF W s w)=if s.2≠[]/\s.2.length+1+w.length<=W then s.1++[s.2++32::w] else outW s++(chop W w).1++[(chop W w).2]:=by
 grind[wrapS_ne,outW,AcF]
