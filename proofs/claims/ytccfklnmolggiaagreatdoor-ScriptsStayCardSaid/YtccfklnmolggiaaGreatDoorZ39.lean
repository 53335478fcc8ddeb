/- A name that stands by itself, replaced. -/
import Derived.Test.YtccfklnmolggiaaGreatDoorZ38
set_option maxRecDepth 100000
set_option maxHeartbeats 8000000
set_option linter.all false
namespace Go.Proofs.YtccfklnmolggiaaGreatDoor
open Av RowKit Proofs.Tryz
def AmQ(c:UInt8):Bool:=letB c.toNat||(digI c.toNat||(c.toNat:Int)==39)
def partAt(s:LU)(i:Int):Bool:=decide (i>=0)&&(decide (i<(s.length:Int))&&AmQ (s.getD i.toNat 0))
theorem AmR(s:LU)(hs:s.length<1000000)(i:Int):Ct prog 60 [.int .i64 i,.ptr 0 1 0 0] [.arr 1 [.str s]] (fun r st=>r=.bool (partAt s i)/\st=[.arr 1 [.str s]]):=by
 unfold partAt
 cases d0:decide (i>=0)with
 | false =>
  refine zcIN func60 rfl fun h ρ w=>?_
  simp only[go_sem,d0];exact zt [3]
 | true =>
  cases d1:decide (i<(s.length:Int))with
  | false =>
   refine zcIN func60 rfl fun h ρ w=>?_
   simp only[go_sem,d0,d1];exact zt [3]
  | true =>
   have h0:0<=i:=by simpa using d0
   have h1:i<s.length:=by simpa using d1
   obtain⟨k,rfl⟩:=Int.eq_ofNat_of_zero_le h0;have hk:k<s.length:=by omega
   unfold AmQ
   cases e1:letB (s.getD k 0).toNat with
   | true =>
    refine zcIN func60 rfl fun h ρ w=>?_
    simp only[go_sem,d0,d1];refine⟨by omega,by omega,?_⟩;refine zpN (AdK _) ?_;simp only[go_sem,e1];exact zt [3]
   | false =>
    cases e2:digI (s.getD k 0).toNat with
    | true =>
     refine zcIN func60 rfl fun h ρ w=>?_
     simp only[go_sem,d0,d1];refine⟨by omega,by omega,?_⟩;refine zpN (AdK _) ?_;simp only[go_sem,e1];refine⟨by omega,by omega,?_⟩;refine zpN (AcJ _) ?_;simp only[go_sem,e1,e2];exact zt [3]
    | false =>
     refine zcIN func60 rfl fun h ρ w=>?_
     simp only[go_sem,d0,d1];refine⟨by omega,by omega,?_⟩;refine zpN (AdK _) ?_;simp only[go_sem,e1];refine⟨by omega,by omega,?_⟩;refine zpN (AcJ _) ?_;simp only[go_sem,e1,e2];refine⟨by omega,by omega,?_⟩;exact zt [3]
def AxM(fr:LU)(p:Bool)(r:LU):Bool:=Lib.hasPrefix r fr&&(!p&&!((r.drop fr.length).head?.any AmQ))
def replK(fr tu:LU):Bool->Nat->LU->LU
 | _,_,[]=>[]
 | _,k+1,c::r=>replK fr tu (AmQ c) k r
 | p,0,c::r=>if AxM fr p (c::r) then tu++replK fr tu (AmQ c) (fr.length-1) r else c::replK fr tu (AmQ c) 0 r
def AxN(s fr tu:LU):LU:=replK fr tu false 0 s
theorem A2Q(s:LU)(i:Nat):partAt s i=((s.drop i).head?.any AmQ):=by
 unfold partAt
 by_cases h:i<s.length
 .have:(s.drop i).head? = some s[i]:=by rw[List.head?_drop,lad h]
  rw[this]
  simp[h]
 .have:(s.drop i).head? = none:=by rw[List.head?_drop,List.getElem?_eq_none (by omega)]
  rw[this]
  simp; omega
theorem AgV(s:LU)(i:Nat)(h:i<s.length):partAt s i=AmQ s[i]:=by
 unfold partAt; simp[h]
theorem AoO(fr tu s:LU):∀ (k i:Nat),i+k<=s.length->replK fr tu (partAt s ((i:Int)-1)) k (s.drop i)=replK fr tu (partAt s ((i:Int)+k-1)) 0 (s.drop (i+k))
 | 0,i,_=>by simp
 | k+1,i,h=>by
  have hi:i<s.length:=by omega
  have ih:=AoO fr tu s k (i+1) (by omega);have e1:(((i+1:Nat):Int)-1)=(i:Int):=by omega
  rw[e1,AgV s i hi]at ih;rw[lbc hi];simp only[replK];rw[ih,show i+1+k=i+(k+1) by omega,show((i+1:Nat):Int)+(k:Int)-1=(i:Int)+((k+1:Nat):Int)-1 by omega]
theorem BdR(fr tu s:LU)(i:Nat)(hi:i<s.length)(hf:0<fr.length) :
  replK fr tu (partAt s ((i:Int)-1)) 0 (s.drop i)=if AxM fr (partAt s ((i:Int)-1)) (s.drop i) then tu++replK fr tu (partAt s ((i:Int)+fr.length-1)) 0 (s.drop (i+fr.length)) else s[i]::replK fr tu (partAt s (((i+1:Nat):Int)-1)) 0 (s.drop (i+1)):=by
 have e1:(((i+1:Nat):Int)-1)=(i:Int):=by omega
 rw[e1,AgV s i hi]
 split
 .rename_i ha
  have hp:Lib.hasPrefix (s.drop i) fr=true:=by
   unfold AxM at ha; simp only[lac]at ha; exact ha.1
  have hlen:fr.length<=(s.drop i).length:=(List.isPrefixOf_iff_prefix.1 hp).length_le;simp only[List.length_drop]at hlen;have hk:=AoO fr tu s (fr.length-1) (i+1) (by omega);rw[e1,AgV s i hi]at hk;rw[lbc hi]at ha |-;simp only[replK,ha,if_true];rw[hk,show i+1+(fr.length-1)=i+fr.length by omega,show((i+1:Nat):Int)+((fr.length-1:Nat):Int)-1=(i:Int)+(fr.length:Int)-1 by omega]
 .rename_i ha
  rw[lbc hi]at ha |-;simp only[replK,ha,if_false]
  first|rfl|simp
theorem AuQ{S:Std}(s fr tu:LU)(hs:s.length<=100000)(hf:0<fr.length)(hf2:fr.length<=1000)(ht:tu.length<=1000):PcH prog S 31 [.str s,.str fr,.str tu] (· = .str (AxN s fr tu)):=by
 obtain⟨i,hi,hz⟩:=BkB;refine AbW (AiE func31 rfl ntmps31 hB31 (by simp) fun h ρ w hg hm=>go rfl 9 ?_);simp only[go_sem];refine BeC (T:=109) (t:=7) rfl rfl rfl ntmps31 (by decide) hi hz 5 ?_;intro b hb;apply zgN;simp only[go_sem];refine bloop (ι:=Nat×LU) (fun y=>s.length-y.1)
  (fun y=>[(9,.int .i64 y.1),(8,.fn (.func 60) [.ptr 0 1 0 0]),(7,.raw (.pointer (some ⟨b,0,none⟩))),(3,.ptr 0 1 0 0),(2,.str tu),(1,.str fr)])
  (fun _=>[.arr 1 [.str s]]) (fun y=>y.2) (fun y=>y.1<=s.length/\y.2.length<=y.1*1001/\y.2++replK fr tu (partAt s ((y.1:Int)-1)) 0 (s.drop y.1)=AxN s fr tu) (0,[]) rfl ⟨by simp,by simp,by simp[partAt,AxN]⟩ ?_ ?_
 .refine Lo ?_
  simp only[go_sem]
 .rintro ⟨i,l⟩ ⟨g1,g2,g3⟩ hJ
  simp only at g1 g2 g3 hJ |-
  by_cases gi:i<s.length
  .have di:decide ((i:Int)<(s.length:Int))=true:=by simp; omega
   have hR:=BdR fr tu s i gi hf;have hgi:s.getD i 0=s[i]:=by simp[gi]
   have hpe:=A2Q s (i+fr.length);rw[show((i+fr.length:Nat):Int)=(i:Int)+fr.length by omega]at hpe;have hal:AxM fr (partAt s ((i:Int)-1)) (s.drop i)=(Lib.hasPrefix (s.drop i) fr&&(!partAt s ((i:Int)-1)&&!partAt s ((i:Int)+fr.length))):=by
    unfold AxM;rw[List.drop_drop,<- hpe]
   have hone:∀ (h:AxM fr (partAt s ((i:Int)-1)) (s.drop i)=false),(l++[s.getD i 0])++replK fr tu (partAt s (((i+1:Nat):Int)-1)) 0 (s.drop (i+1))=AxN s fr tu:=fun h=>by
    rw[<- g3,hR,h,hgi]; simp
   cases hp:Lib.hasPrefix (s.drop i) fr with
   | false =>
    apply zgN;simp only[go_sem,di]
    repeat refine aqb ?_
    refine zpN (AcP _ _) ?_;simp only[go_sem,hp]
    repeat refine aqb ?_
    refine AxL ArC rfl rfl rfl rfl (by simp; omega) (zgN ?_);simp only[go_sem]
    repeat refine aqb ?_
    rw[ic i];refine hJ (i+1,l++[s.getD i 0]) ⟨by simp only; omega,by simp; omega,hone ?_⟩ (by simp only; omega) _ rfl _ _ (Lo ?_)
    .rw [hal,hp]; simp
    .simp only [go_sem]
   | true =>
    have hlen:fr.length<=(s.drop i).length:=(List.isPrefixOf_iff_prefix.1 hp).length_le;simp only[List.length_drop]at hlen
    cases hp1:partAt s ((i:Int)-1)with
    | true =>
     apply zgN;simp only[go_sem,di]
     repeat refine aqb ?_
     refine zpN (AcP _ _) ?_;simp only[go_sem,hp]
     repeat refine aqb ?_
     refine za (AmR s (by omega) ((i:Int)-1)) ?_;rintro _ _ ⟨rfl,rfl⟩;apply zgN;simp only[go_sem,hp1]
     repeat refine aqb ?_
     refine AxL ArC rfl rfl rfl rfl (by simp; omega) (zgN ?_);simp only[go_sem]
     repeat refine aqb ?_
     rw[ic i];refine hJ (i+1,l++[s.getD i 0]) ⟨by simp only; omega,by simp; omega,hone ?_⟩ (by simp only; omega) _ rfl _ _ (Lo ?_)
     .rw [hal,hp1]; simp
     .simp only [go_sem]
    | false =>
     cases hp2:partAt s ((i:Int)+fr.length)with
     | true =>
      apply zgN;simp only[go_sem,di]
      repeat refine aqb ?_
      refine zpN (AcP _ _) ?_;simp only[go_sem,hp]
      repeat refine aqb ?_
      refine za (AmR s (by omega) ((i:Int)-1)) ?_;rintro _ _ ⟨rfl,rfl⟩;apply zgN;simp only[go_sem,hp1]
      repeat refine aqb ?_
      refine za (AmR s (by omega) ((i:Int)+fr.length)) ?_;rintro _ _ ⟨rfl,rfl⟩;apply zgN;simp only[go_sem,hp2]
      repeat refine aqb ?_
      refine AxL ArC rfl rfl rfl rfl (by simp; omega) (zgN ?_);simp only[go_sem]
      repeat refine aqb ?_
      rw[ic i];refine hJ (i+1,l++[s.getD i 0]) ⟨by simp only; omega,by simp; omega,hone ?_⟩ (by simp only; omega) _ rfl _ _ (Lo ?_)
      .rw [hal,hp2]; simp
      .simp only [go_sem]
     | false =>
      apply zgN;simp only[go_sem,di]
      repeat refine aqb ?_
      refine zpN (AcP _ _) ?_;simp only[go_sem,hp]
      repeat refine aqb ?_
      refine za (AmR s (by omega) ((i:Int)-1)) ?_;rintro _ _ ⟨rfl,rfl⟩;apply zgN;simp only[go_sem,hp1]
      repeat refine aqb ?_
      refine za (AmR s (by omega) ((i:Int)+fr.length)) ?_;rintro _ _ ⟨rfl,rfl⟩;apply zgN;simp only[go_sem,hp2];refine AsC AkZ rfl rfl rfl rfl (by omega) (zgN ?_);simp only[go_sem]
      repeat refine aqb ?_
      rw[show(i:Int)+(fr.length:Int)=((i+fr.length:Nat):Int) by omega];refine hJ (i+fr.length,l++tu) ⟨by simp only; omega,by simp; omega,?_⟩ (by simp only; omega) _ rfl _ _ (Lo ?_)
      .have ha:AxM fr (partAt s ((i:Int)-1)) (s.drop i)=true:=by rw[hal,hp,hp1,hp2]; rfl
       rw[<- g3,hR,if_pos ha,lae]
       simp
      .simp only [go_sem]
  .have di:decide ((i:Int)<(s.length:Int))=false:=by simp; omega
   have hi':i=s.length:=by omega
   have hl:l=AxN s fr tu:=by rw[<- g3,hi',List.drop_length]; simp[replK]
   apply zgN;simp only[go_sem,di];refine A4J AyJ rfl rfl rfl hm rfl rfl (zgN ?_);simp only[go_sem];exact aret [6] rfl ⟨by rw[hl]; rfl,rfl⟩
theorem BiN(l:List Sc)(i:Nat)(h:i<l.length):List.getD (List.map scA l) i .any=.agg [.str l[i].no,.int .i64 l[i].place,.str l[i].set,.int .i64 l[i].time,.fz 2 (l[i].Lc.map paA)]:=by simp[List.getD,h,scA]
theorem A9H{caps:LY}(hc:caps.all frozen0=true):caps.all nr1=true:=by
 rw[lbv]at hc |-;intro x hx;have:=hc x hx
 cases x <;> first|exact A0K this|(simp[frozen0]at this)
theorem AuR{a:AV}{caps:LY}(ha:nr1 a=true)(hc:caps.all frozen0=true):(a::caps).all nr1=true:=by
 simp only[laz,ha,A9H hc,lbo]
theorem A9I{α:Type}{p:α->Bool}{l:List α}(h:∀ j,(hj:j<l.length)->p l[j]=false):idxP p l=-1:=by
 grind[List.getElem_of_mem,idxP]
theorem A9J{α:Type}{p:α->Bool}{l:List α}{i:Nat}(hi:i<l.length)(hp:p l[i]=true)(h:∀ j,(hj:j<i)->p (l[j]'(by omega))=false):idxP p l=i:=by
 grind[List.findIdx?_eq_some_iff_getElem,idxP]
theorem BdS{α:Type}{p:α->Bool}{l:List α}:decide (idxP p l>=0)=l.any p:=by
 grind[idxP]
theorem A9K(f:FuncId)(caps:LY)(hc:caps.all frozen0=true)(p:Sc->Bool)(l:List Sc)(hl:l.length<100000000)(hf:∀ x∈l,Pc prog f (scA x::caps) (· = .bool (p x))) :
  Pc prog 59 [.fz 5 (l.map scA),.fn (.func f) caps] (· = .int .i64 (idxP p l)):=by
 refine zpIB func59 rfl fun h ρ w=>?_
 simp only[go_sem];refine AaI (ι:=Nat) (fun i=>l.length-i) (fun i=>[(8,.int .i64 i),(7,.int .i64 l.length),(1,.fn (.func f) caps),(0,.fz 5 (l.map scA))]) (fun _=>[]) (fun i=>i<=l.length/\∀ j,(hj:j<l.length)->j<i->p l[j]=false) 0 ⟨by simp,fun j _ h=>absurd h (by omega)⟩ ?_ ?_
 .refine Lo ?_
  simp only[go_sem,laa]
 .rintro i ⟨g1,g2⟩ J hJ
  by_cases gi:i<l.length
  .have di:decide ((i:Int)<(l.length:Int))=true:=by simp; omega
   have hfx:=hf _ (lai gi);simp only[scA]at hfx;apply zgB;simp only[go_sem,di,BiN l i gi,laa]
   repeat refine aqe ?_
   cases hp:p l[i]with
   | true =>
    rw[hp]at hfx;refine AcH hfx (AuR rfl hc) rfl rfl (zgB ?_);simp only[go_sem];exact aret [4] rfl ⟨congrArg _ (A9J gi hp fun j hj=>g2 j (by omega) hj).symm,rfl⟩
   | false =>
    rw[hp]at hfx;refine AcH hfx (AuR rfl hc) rfl rfl (zgB ?_);simp only[go_sem]
    repeat refine aqf ?_
    rw[ic i];refine ainv (hJ (i+1) ⟨by omega,fun j hj h=>?_⟩ (by omega)) (Lo ?_)
    .rcases Nat.lt_or_ge j i with h2|h2
     .exact g2 j hj h2
     .have:j=i:=by omega
      subst this; exact hp
    .simp only [go_sem]
  .have di:decide ((i:Int)<(l.length:Int))=false:=by simp; omega
   apply zgB;simp only[go_sem,di];exact aret [4] rfl ⟨congrArg _ (A9I fun j hj=>g2 j hj (by omega)).symm,rfl⟩
theorem A9L(f:FuncId)(caps:LY)(hc:caps.all frozen0=true)(p:Sc->Bool)(l:List Sc)(hl:l.length<100000000)(hf:∀ x∈l,Pc prog f (scA x::caps) (· = .bool (p x))) :
  Pc prog 29 [.fz 5 (l.map scA),.fn (.func f) caps] (· = .bool (l.any p)):=by
 refine zpIB func29 rfl fun h ρ w=>?_
 simp only[go_sem];refine AcH (A9K f caps hc p l hl hf) (by simp only[laz,List.all_nil,nr1,Av.frozen,hc,lbo]) rfl rfl (zgB ?_);simp only[go_sem];refine aret [4] rfl ⟨?_,rfl⟩;simp only[resV,Av.get,Av.put,lav,lbi];rw[<- BdS]
theorem BiO(nm:LU)(x:Sc)(hl:x.Lc.length<1000000):Pc prog 30 [scA x,.pin 1 [.str nm] 0 0] (· = .bool (AeR x nm)):=by
 have hc:=AtC x nm hl;simp only[scA]at hc |-;refine zpIB func30 rfl fun h ρ w=>?_
 simp only[go_sem];refine zpB (hc) ?_;simp only[go_sem];exact zt [3]
theorem BeW(x:Sr)(nm:LU)(hl:x.Lb.length<100000000)(hp:∀ y∈x.Lb,y.Lc.length<1000000):Pc prog 28 [.str nm,.pin 2 [srA x] 0 0] (· = .bool (x.Lb.any fun y=>AeR y nm)):=by
 have ha:=A9L 30 [.pin 1 [.str nm] 0 0] rfl (fun y=>AeR y nm) x.Lb hl (fun y hy=>BiO nm y (hp y hy));simp only[srA];refine zpIB func28 rfl fun h ρ w=>?_
 simp only[go_sem];refine zpB (ha) ?_;simp only[go_sem];exact zt [3]
theorem OwnR.par{lo hi T a R}(h:OwnR lo hi T a R){i:Nat}{q:Sc×Nat}(hq:R[i]? = some q)(ps:List Pa)(hl:ps.length=q.1.Lc.length)(hn:q.1.Lc≠[]) :
  OwnR lo hi (T.set q.2 (.arr 2 (ps.map paA))) a (R.set i ({ q.1 with Lc:=ps },q.2)):=by
 have hmem:q∈R:=laj hq;have hrow:=h.row q hmem hn;have hne:q.2≠a:=fun e=>by
  rw[e,h.sc]at hrow
  simp at hrow
 have hps:ps≠[]:=fun e=>by
  rw[e]at hl;exact hn (lbb hl.symm)
 have hsame:rowQ ({ q.1 with Lc:=ps },q.2)=rowQ q:=by
  have e1:ps.isEmpty=false:=by cases ps with|nil=>exact(hps rfl).elim|cons _ _=>rfl
  have e2:q.1.Lc.isEmpty=false:=by cases hqp:q.1.Lc with|nil=>exact(hn hqp).elim|cons _ _=>rfl
  simp only[rowQ,scH,cellP,e1,e2,lba,hl]
 have hmap:(R.set i ({ q.1 with Lc:=ps },q.2)).map rowQ=R.map rowQ:=by
  rw[List.map_set,hsame];obtain⟨h1,h2⟩:=List.getElem?_eq_some_iff.1 hq;subst h2;apply List.ext_getElem (by simp);intro j hj1 hj2;rw[List.getElem_set]
  split
  .rename_i e; subst e; simp
  .rfl
 obtain⟨hi1,hi2⟩:=List.getElem?_eq_some_iff.1 hq;refine⟨by rw[hmap]; exact AbE h.sc hne _,h.la,h.ha,fun p hp=>?_,fun p hp hpn=>?_,?_⟩
 .rcases List.mem_or_eq_of_mem_set hp with hp|rfl
  .exact h.lt p hp
  .exact h.lt q hmem
 .obtain ⟨j,hj,rfl⟩:=List.getElem_of_mem hp
  rw[List.getElem_set]at hpn |-
  split at hpn <;> rename_i hij
  .rw [if_pos hij]
   exact AbV (AcG hrow) _
  .rw [if_neg hij]
   have hj':j<R.length:=by simpa using hj
   refine AbE (h.row _ (lai hj') hpn) ?_ _;subst hi2
   rcases Nat.lt_or_ge i j with hlt|hge
   .exact List.pairwise_iff_getElem.1 h.dis i j hi1 hj' hlt
   .exact fun e=>List.pairwise_iff_getElem.1 h.dis j i hj' hi1 (by omega) e.symm
 .rw [List.pairwise_iff_getElem]
  intro j k hj hk hjk;have key:∀ m (hm:m<(R.set i ({ q.1 with Lc:=ps },q.2)).length),((R.set i ({ q.1 with Lc:=ps },q.2))[m]).2=(R[m]'(by simpa using hm)).2:=fun m hm=>by
   rw[List.getElem_set]
   split
   .rename_i e; subst e; simp only; rw[hi2]
   .rfl
  rw[key j hj,key k hk];exact List.pairwise_iff_getElem.1 h.dis j k (by simpa using hj) (by simpa using hk) hjk
def TxR(R:List (Sc×Nat))(i k:Nat):Prop:=∀ (j k':Nat)(q:Sc×Nat)(p:Pa),R[j]? = some q->q.1.Lc[k']? = some p->(i<j\/(i=j/\k<=k'))->p.text.length<=2000
theorem TxR.next{R i k}(h:TxR R i k):TxR R (i+1) 0:=fun j k' q p hj hk hij=>h j k' q p hj hk (by omega)
theorem TxR.par{R i k q}(h:TxR R i k)(hq:R[i]? = some q)(p:Pa):TxR (R.set i ({ q.1 with Lc:=q.1.Lc.set k p },q.2)) i (k+1):=fun j k' q' p' hj hk hij=>by
 rw[List.getElem?_set]at hj
 split at hj
 .rename_i e
  subst e
  split at hj
  .cases hj
   simp only at hk;rw[lax (by omega)]at hk;exact h i k' q p' hq hk (by omega)
  .cases hj
 .exact h j k' q' p' hj hk (by omega)
def LnR(R:List (Sc×Nat)):Prop:=∀ q∈R,q.1.Lc.length<=100000
theorem LnR.par{R i q}(h:LnR R)(hq:R[i]? = some q)(k:Nat)(p:Pa):LnR (R.set i ({ q.1 with Lc:=q.1.Lc.set k p },q.2)):=fun q' hq'=>by
 rcases List.mem_or_eq_of_mem_set hq' with h1|rfl
 .exact h q' h1
 .simp only [lbp]
  exact h q (laj hq)
theorem A9M{lo hi T a n R}(h:OwnR lo hi T a R)(hl:LnR R)(hn:R.length=n)(hn2:n<=1000):ScsS lo hi T (.sl a 0 n n):=by
 subst hn;exact h.shape (by omega) (fun q hq=>by have:=hl q hq; omega)
theorem A9N{R:List (Sc×Nat)}{i:Nat}{q:Sc×Nat}(h:R[i]? = some q):List.getD (R.map rowQ) i .any=.agg [.str q.1.no,.int .i64 q.1.place,.str q.1.set,.int .i64 q.1.time,cellP q.2 q.1]:=by
 simp[List.getD,h,rowQ,scH]
theorem AhW(fr tu:LU):∀ (s:LU)(p:Bool)(k:Nat),(replK fr tu p k s).length<=s.length*(tu.length+1)
 | [],p,k=>by simp[replK]
 | a::s,p,k+1=>by
  have:=AhW fr tu s (AmQ a) k;simp only[replK,laf,Nat.succ_mul]; omega
 | a::s,p,0=>by
  have h1:=AhW fr tu s (AmQ a) 0;have h2:=AhW fr tu s (AmQ a) (fr.length-1);simp only[replK]
  split <;> simp only[laf,lak,Nat.succ_mul] <;> omega
theorem A9O{T:LB}{k:Nat}{x:Sr}(h:T[k]? = some (.arr 2 [srA x]))(nm:LU):[AV.str nm,.ptr k 1 0 0].map (borF 1 T)=[.str nm,.pin 2 [srA x] 0 0]:=by
 have hg:T.getD k .dead=.arr 2 [srA x]:=AbC h;simp only[lah,laq,borF,borP,hg];rfl
theorem AxO{St:Std}(hS:LibOk St)(x:Sr)(hx:ScriptOk x)(fr tu:LU)(hfr:A4Z fr=true)(htu:A4Z tu=true)(hlf:fr.length<=30)(hlt:tu.length<=30)(hp0:0<fr.length)(hne:(tu != fr)=true)(T0:LB) :
  CtH prog St 10 [srA x,.str fr,.str tu] T0 (fun r T=>∃ u ti,∃ m e:Int,r=.tup [.agg [.str ti,u],.int .i64 m,.int .i64 e]/\ScsS T0.length T.length T u/\Ext T0 T):=by
 have hck:=AeG hS x hx;have hxl:=hx.len;have hps:=AdL hx;have hok:=BhC _ _ _ hx.ok;have hb1:=fun T h=>Ct.borrowF (P:=prog) (f:=28) (args:=[.str fr,.ptr T0.length 1 0 0]) 1 T (post:=(· = .bool (x.Lb.any fun y=>AeR y fr))) (by rw[A9O h]; exact BeW x fr (by omega) (fun y hy=>by have:=hps y hy; omega)) (by rintro r rfl; rfl)
 have hb2:=fun T h=>Ct.borrowF (P:=prog) (f:=28) (args:=[.str tu,.ptr T0.length 1 0 0]) 1 T (post:=(· = .bool (x.Lb.any fun y=>AeR y tu))) (by rw[A9O h]; exact BeW x tu (by omega) (fun y hy=>by have:=hps y hy; omega)) (by rintro r rfl; rfl)
 have hcp:=fun T=>AiO T x.Lj x.Lb (by omega) hps
 generalize (x.Lb.any fun y=>AeR y fr)=v1 at hb1;generalize (x.Lb.any fun y=>AeR y tu)=v2 at hb2;have hin1:=AfS hS fr (by omega);have hin2:=AfS hS tu (by omega);rw[hfr]at hin1;rw[htu]at hin2;obtain⟨ti,xs⟩:=x;simp only[srA]at hck hcp hxl hps hok hb1 hb2 |-;have hE1:∀ U Z,Ext T0 ((T0++U).set (T0.length+1) Z):=fun U Z=>((Ext.refl T0).app U).set (by omega) Z
 refine zdIN func10 rfl fun h ρ w hg=>?_
 simp only[go_sem,gt_at,gt_at0,st_at,st_at0,gd_end,st_end,lae];refine zqN hg (hck) ?_;simp only[go_sem,gt_at,gt_at0,st_at,st_at0,gd_end,st_end,lae];refine zqN hg (hin1) ?_;simp only[go_sem];refine zqN hg (hin2) ?_;simp only[go_sem];refine za (hb1 _ (by simp)) ?_;rintro _ _ ⟨rfl,rfl⟩;apply zgN
 cases v1 with
 | false =>
  simp only[go_sem,gt_at,gt_at0,st_at,st_at0,gd_end,st_end,lae];refine AbU [.cell 6 28,.tmp 7,.tmp 8] rfl [.agg [.str [],.raw (.slice none 0 0)],.int .i64 0,.int .i64 8] ⟨by simp only[go_sem,sideIs,gt_at,gt_at0,st_at,st_at0,gd_end,st_end,lae],rfl,rfl,trivial⟩ ⟨_,[],0,8,rfl,⟨[],.inl ⟨rfl,.inl rfl⟩,by simp,by simp⟩,(Ext.refl T0).app _⟩
 | true =>
 simp only[go_sem,hne,gt_at,gt_at0,st_at,st_at0,gd_end,st_end,lae];refine za (hb2 _ (by simp)) ?_;rintro _ _ ⟨rfl,rfl⟩;apply zgN
 cases v2 with
 | true =>
  simp only[go_sem,gt_at,gt_at0,st_at,st_at0,gd_end,st_end,lae];refine AbU [.cell 6 28,.tmp 7,.tmp 8] rfl [.agg [.str [],.raw (.slice none 0 0)],.int .i64 0,.int .i64 6] ⟨by simp only[go_sem,sideIs,gt_at,gt_at0,st_at,st_at0,gd_end,st_end,lae],rfl,rfl,trivial⟩ ⟨_,[],0,6,rfl,⟨[],.inl ⟨rfl,.inl rfl⟩,by simp,by simp⟩,(Ext.refl T0).app _⟩
 | false =>
 simp only[go_sem,gt_at,gt_at0,st_at,st_at0,gd_end,st_end,lae];refine za (hcp _) ?_;rintro _ T ⟨a,R,rfl,hR,hRx,hE⟩;clear hck hcp hb1 hb2 hin1 hin2 hE1;have q1:T[T0.length+1]? = some (.arr 2 [.agg [.str [],.raw (.slice none 0 0)]]):=hE _ _ (by simp);have hE0:Ext T0 T:=fun k b e=>hE k b (AaV e _)
 have hel:=hE.len;simp only[lak,laf,lar]at hel hR;have hRn:R.length=xs.length:=by rw[<- hRx,laa]
 have hLn:LnR R:=fun q hq=>hps q.1 (hRx▸List.mem_map.2 ⟨q,hq,rfl⟩)
 have hTx:TxR R 0 0:=fun j k' q p hj hk _=>by
  have h1:q.1∈xs:=hRx▸List.mem_map.2 ⟨q,laj hj,rfl⟩;obtain⟨e,hr,_,_⟩:=(hok _ h1).run;exact AgC (AlL _ _ _ hr p (laj hk))
 clear hE hRx hok hps;generalize hxn:xs.length=n at *;have k0:=AcB hR.sc;have hRl:(R.map rowQ).length=n:=by simpa using hRn
 apply zgN;simp only[go_sem,k0,gt_at,gt_at0,st_at,st_at0,gd_end,st_end,lae];refine⟨hRl.symm,?_⟩;have hR2:=hR.app [.arr 2 [.agg [.str ti,.sl a 0 n n]]];have hcl:(T++[Blk.arr 2 [.agg [.str ti,.sl a 0 n n]]])[T.length]? = some (.arr 2 [.agg [.str ti,.sl a 0 n n]]):=by simp
 have hE2:=hE0.app [.arr 2 [.agg [.str ti,.sl a 0 n n]]];have q2:=AaV q1 [.arr 2 [.agg [.str ti,.sl a 0 n n]]];clear hR k0 hRl hE0 q1;generalize hc:T.length=c at *;generalize T++[Blk.arr 2 [.agg [.str ti,.sl a 0 n n]]]=T1 at *;refine AaI (ι:=Nat×LB×List (Sc×Nat)×Int×Bool×Bool) (fun y=>n-y.1)
  (fun y=>[(56,.int .i64 y.1),(55,.int .i64 n),(12,.int .i64 y.2.2.2.1),(13,.bool y.2.2.2.2.1),(14,.bool y.2.2.2.2.2),(11,.ptr c 1 0 0),(1,.str fr),(2,.str tu),(6,.ptr (T0.length+1) 1 0 0)])
  (fun y=>y.2.1) (fun y=>y.1<=n/\OwnR (T0.length+1+1) c y.2.1 a y.2.2.1/\y.2.2.1.length=n/\LnR y.2.2.1/\TxR y.2.2.1 y.1 0/\Ext T0 y.2.1/\y.2.1[c]? = some (.arr 2 [.agg [.str ti,.sl a 0 n n]])/\y.2.1[T0.length+1]? = some (.arr 2 [.agg [.str [],.raw (.slice none 0 0)]])/\0<=y.2.2.2.1/\y.2.2.2.1<=(y.1:Int)*100000)
  (0,T1,R,0,false,false) ⟨lbq _,hR2,hRn,hLn,hTx,hE2,hcl,q2,by simp,by simp⟩ ?_ ?_
 .refine Lp ?_ rfl
  simp only[go_sem]
  try exact⟨rfl,rfl,rfl⟩
 clear hR2 hcl hE2 q2 hRn hLn hTx hc;clear T1 T R;rintro⟨i,T,R,m,b1,b2⟩ ⟨g1,g2,g3,g4,g5,g6,g7,g8,g9,g10⟩ J hJ;simp only at g1 g2 g3 g4 g5 g6 g7 g8 g9 g10 hJ |-;have hcT:=AcG g7
 by_cases gi:i<n
 .have di:decide ((i:Int)<(n:Int))=true:=by simp; omega
  obtain⟨q,hq⟩:∃ q,R[i]? = some q:=⟨_,lad (by omega)⟩;have hqm:=laj hq;have hlt2:=g2.lt q hqm;have hL1:=g4 q hqm;have hRl:(R.map rowQ).length=n:=by simpa using g3
  have k1:=AbC g7;have k2:=AbC g2.sc;have hg':=A9N hq;have hfin:∀ (T':LB) (R':List (Sc×Nat)) (m':Int) (b1' b2':Bool),_:=fun T' R' m' b1' b2'=>hJ (i+1,T',R',m',b1',b2')
  clear hJ
  by_cases hn:q.1.Lc=[]
  .have hce:cellP q.2 q.1=.fz 2 []:=by simp[cellP,hn]
   rw[hce]at hg';apply zgN;simp only[go_sem,di,k1,k2,hg',hRl]
   repeat refine And.intro (by first|omega|exact .inl trivial|exact .inl (.inl trivial)|rfl|(simp; done)|(simp; omega)) ?_
   refine AbD (around ?_);apply zgN;simp only[go_sem]
   repeat refine And.intro (by first|omega|exact .inl trivial|exact .inl (.inl trivial)|rfl|(simp; done)|(simp; omega)) ?_
   rw[ic i];refine ainv (hfin T R m b1 b2 ⟨by simp only; omega,g2,g3,g4,g5.next,g6,g7,g8,g9,by simp only; omega⟩ (by simp only; omega)) (Lp ?_ rfl);simp only[go_sem]
  .have hce:cellP q.2 q.1=.sl q.2 0 q.1.Lc.length q.1.Lc.length:=by
    have:q.1.Lc.isEmpty=false:=by cases hqp:q.1.Lc with|nil=>exact(hn hqp).elim|cons _ _=>rfl
    simp only[cellP,this,lba]
   rw[hce]at hg';have hrow:=g2.row q hqm hn;have k3:=AbC hrow;obtain⟨id,hid⟩:∃ id,id=q.2:=⟨_,rfl⟩;obtain⟨L,hL⟩:∃ L,L=q.1.Lc.length:=⟨_,rfl⟩;rw[<- hid]at hg' k3 hlt2;rw[<- hL]at hg' hL1;have hL':=hL.symm;apply zgN;simp only[go_sem,di,k1,k2,k3,hg',hRl,hL',laa]
   repeat refine And.intro (by first|omega|exact .inl trivial|exact .inl (.inl trivial)|rfl|(simp; done)|(simp; omega)) ?_
   refine AaI (ι:=Nat×LB×List (Sc×Nat)×Int×Bool×Bool) (fun y=>L-y.1)
    (fun y=>[(66,.int .i64 y.1),(65,.int .i64 L),(15,.int .i64 i),(56,.int .i64 i),(55,.int .i64 n),(12,.int .i64 y.2.2.2.1),(13,.bool y.2.2.2.2.1),(14,.bool y.2.2.2.2.2),(11,.ptr c 1 0 0),(1,.str fr),(2,.str tu),(6,.ptr (T0.length+1) 1 0 0)])
    (fun y=>y.2.1) (fun y=>y.1<=L/\OwnR (T0.length+1+1) c y.2.1 a y.2.2.1/\y.2.2.1.length=n/\LnR y.2.2.1/\TxR y.2.2.1 i y.1/\Ext T0 y.2.1/\y.2.1[c]? = some (.arr 2 [.agg [.str ti,.sl a 0 n n]])/\y.2.1[T0.length+1]? = some (.arr 2 [.agg [.str [],.raw (.slice none 0 0)]])/\0<=y.2.2.2.1/\y.2.2.2.1<=(i:Int)*100000+y.1/\∃ q,y.2.2.1[i]? = some q/\q.2=id/\q.1.Lc.length=L/\q.1.Lc≠[])
    (0,T,R,m,b1,b2) ⟨lbq _,g2,g3,g4,g5,g6,g7,g8,g9,by simp only; omega,q,hq,hid.symm,hL',hn⟩ ?_ ?_
   .refine Lp ?_ rfl
    simp only[go_sem]
   clear g2 g3 g4 g5 g6 g7 g8 g9 g10 hqm hRl k1 k2 hg' hrow k3 hL' hcT hce hn;clear hid hL hq q;clear T R m b1 b2;rintro⟨k,T,R,m,b1,b2⟩ ⟨g0,g2,g3,g4,g5,g6,g7,g8,g9,g10,q,hq,hid,hL,hn⟩ J2 hJ2;simp only at g0 g2 g3 g4 g5 g6 g7 g8 g9 g10 hJ2 |-
   by_cases gk:k<L
   .have dk:decide ((k:Int)<(L:Int))=true:=by simp; omega
    have hqm:=laj hq;have hRl:(R.map rowQ).length=n:=by simpa using g3
    have k1:=AbC g7;have k2:=AbC g2.sc;have hrow:=g2.row q hqm hn;rw[hid]at hrow;have k3:=AbC hrow;have hg':=A9N hq;have hce:cellP q.2 q.1=.sl id 0 L L:=by
     have:q.1.Lc.isEmpty=false:=by cases hqp:q.1.Lc with|nil=>exact(hn hqp).elim|cons _ _=>rfl
     simp only[cellP,this,lba,hid,hL]
    rw[hce]at hg';have gk':k<q.1.Lc.length:=by omega
    have hpk:=A7M q.1.Lc k gk';have htx:=g5 i k q q.1.Lc[k] hq (lad gk') (.inr ⟨rfl,lab _⟩);have hpl:(q.1.Lc.map paA).length=L:=by simpa using hL
    have hfin2:∀ (t:LU) (m':Int) (b1' b2':Bool),0<=m'->m'<=m+1->_:=fun t m' b1' b2' h1 h2 =>
     hJ2 (k+1,T.set id (.arr 2 ((q.1.Lc.set k ⟨q.1.Lc[k].kind,t⟩).map paA)),R.set i ({ q.1 with Lc:=q.1.Lc.set k ⟨q.1.Lc[k].kind,t⟩ },q.2),m',b1',b2')
      ⟨by simp only; omega,by
       have:=g2.par hq (q.1.Lc.set k ⟨q.1.Lc[k].kind,t⟩) (by simp) hn;rw[hid]at this;rw[hid];exact this,by simpa using g3,g4.par hq k _,g5.par hq _,g6.set (by omega) _,AbE g7 (by omega) _,AbE g8 (by omega) _,h1,by simp only; omega,({ q.1 with Lc:=q.1.Lc.set k ⟨q.1.Lc[k].kind,t⟩ },q.2),by
       rw[List.getElem?_set_self (by omega)],hid,by simpa using hL,fun e=>hn (by
       have:=congrArg List.length e;simp only[lbp,lar]at this;exact lbb this)⟩ (by simp only; omega)
    have hset:=fun t=>A7L q.1.Lc k ⟨q.1.Lc[k].kind,t⟩
    simp only at hset;have hpk2:∀ t,List.getD ((q.1.Lc.set k ⟨q.1.Lc[k].kind,t⟩).map paA) k .any=.agg [.int .i64 q.1.Lc[k].kind,.str t]:=fun t=>by
     rw[A7M _ _ (by simpa using gk')]
     simp
    have hpl2:∀ t,((q.1.Lc.set k ⟨q.1.Lc[k].kind,t⟩).map paA).length=L:=fun t=>by simpa using hL
    have k4:∀ Z,(T.set id Z).getD id .dead=Z:=fun Z=>AbC (AbV (AcG hrow) Z)
    clear hJ2;generalize q.1.Lc[k]=p at hpk htx hfin2 hset hpk2 hpl2;obtain⟨pk,pt⟩:=p;simp only at hpk htx hfin2 hset hpk2 hpl2;refine go rfl 53 ?_;simp only[go_sem,dk,k1,k2,k3,hg',hRl,hpk,hpl]
    repeat refine And.intro (by first|omega|exact .inl trivial|exact .inl (.inl trivial)|rfl|(simp; done)|(simp; omega)) ?_
    refine acut (ι:=LU)
     (fun t=>[(18,.str t),(17,.ptr id L k 0),(66,.int .i64 k),(65,.int .i64 L),(15,.int .i64 i),(56,.int .i64 i),(55,.int .i64 n),(12,.int .i64 m),(13,.bool b1),(14,.bool b2),(11,.ptr c 1 0 0),(1,.str fr),(2,.str tu),(6,.ptr (T0.length+1) 1 0 0)])
     (fun _=>T) (fun t=>t.length<1000000) ?_ ?_
    .intro Jc hJc
     cases hk2:pk==2 with
     | true =>
      have hk3:(pk != 2)=false:=by simpa using hk2
      cases hte:pt==fr with
      | true =>
       apply zgN;simp only[go_sem,k3,hpk,hpl,hk3,hte]
       repeat refine And.intro (by first|omega|exact .inl trivial|exact .inl (.inl trivial)|rfl|(simp; done)|(simp; omega)) ?_
       refine ainv (hJc tu (by omega)) (Lo ?_);simp only[go_sem]
      | false =>
       apply zgN;simp only[go_sem,k3,hpk,hpl,hk3,hte]
       repeat refine And.intro (by first|omega|exact .inl trivial|exact .inl (.inl trivial)|rfl|(simp; done)|(simp; omega)) ?_
       refine ainv (hJc pt (by omega)) (Lo ?_);simp only[go_sem]
     | false =>
      have hk3:(pk != 2)=true:=by simpa using hk2
      have hrl:=AhW fr tu pt false 0;have h3:pt.length*(tu.length+1)<=2000*31:=Nat.mul_le_mul htx (by omega);apply zgN;simp only[go_sem,k3,hpk,hpl,hk3]
      repeat refine And.intro (by first|omega|exact .inl trivial|exact .inl (.inl trivial)|rfl|(simp; done)|(simp; omega)) ?_
      refine zqN hg (AuQ pt fr tu (by omega) hp0 (by omega) (by omega)) ?_;simp only[go_sem];refine ainv (hJc (AxN pt fr tu) (by unfold AxN; omega)) (Lo ?_);simp only[go_sem]
    rintro t ht;refine go rfl 1 ?_;simp only[go_sem];refine acut (ι:=Int)
     (fun m'=>[(18,.str t),(17,.ptr id L k 0),(66,.int .i64 k),(65,.int .i64 L),(15,.int .i64 i),(56,.int .i64 i),(55,.int .i64 n),(12,.int .i64 m'),(13,.bool b1),(14,.bool b2),(11,.ptr c 1 0 0),(1,.str fr),(2,.str tu),(6,.ptr (T0.length+1) 1 0 0)])
     (fun _=>T) (fun m'=>0<=m'/\m'<=m+1) ?_ ?_
    .intro Jc hJc
     cases hc:(t != pt)with
     | true =>
      apply zgN;simp only[go_sem,k3,hpk,hpl,hc]
      repeat refine And.intro (by first|omega|exact .inl trivial|exact .inl (.inl trivial)|rfl|(simp; done)|(simp; omega)) ?_
      refine ainv (hJc (m+1) ⟨by omega,by omega⟩) (Lo ?_);simp only[go_sem]
     | false =>
      apply zgN;simp only[go_sem,k3,hpk,hpl,hc]
      repeat refine And.intro (by first|omega|exact .inl trivial|exact .inl (.inl trivial)|rfl|(simp; done)|(simp; omega)) ?_
      refine ainv (hJc m ⟨by omega,by omega⟩) (Lo ?_);simp only[go_sem]
    rintro m' ⟨hm1,hm2⟩;refine go rfl 14 ?_;simp only[go_sem,k3,hset,hpk,hpl]
    repeat refine And.intro (by first|omega|exact .inl trivial|exact .inl (.inl trivial)|rfl|(simp; done)|(simp; omega)) ?_
    have hset':=hset t;refine acut (ι:=Bool)
     (fun b=>[(18,.str t),(17,.ptr id L k 0),(66,.int .i64 k),(65,.int .i64 L),(15,.int .i64 i),(56,.int .i64 i),(55,.int .i64 n),(12,.int .i64 m'),(13,.bool b),(14,.bool b2),(11,.ptr c 1 0 0),(1,.str fr),(2,.str tu),(6,.ptr (T0.length+1) 1 0 0)])
     (fun _=>T.set id (.arr 2 ((q.1.Lc.set k ⟨pk,t⟩).map paA))) (fun _=>True) ?_ ?_
    .intro Jc hJc
     have hp3:=hpk2 t;have hl3:=hpl2 t
     cases b1 with
     | true =>
      apply zgN;simp only[go_sem,k4,hp3,hl3]
      repeat refine And.intro (by first|omega|exact .inl trivial|exact .inl (.inl trivial)|rfl|(simp; done)|(simp; omega)) ?_
      refine ainv (hJc true trivial) (Lo ?_);simp only[go_sem]
     | false =>
      cases d1:decide ((t.length:Int)>2000)with
      | true =>
       apply zgN;simp only[go_sem,k4,hp3,hl3,d1]
       repeat refine And.intro (by first|omega|exact .inl trivial|exact .inl (.inl trivial)|rfl|(simp; done)|(simp; omega)) ?_
       refine ainv (hJc true trivial) (Lo ?_);simp only[go_sem]
      | false =>
       cases k3':pk==3 with
       | false =>
        apply zgN;simp only[go_sem,k4,hp3,hl3,d1,k3']
        repeat refine And.intro (by first|omega|exact .inl trivial|exact .inl (.inl trivial)|rfl|(simp; done)|(simp; omega)) ?_
        refine ainv (hJc false trivial) (Lo ?_);simp only[go_sem]
       | true =>
        cases d2:decide ((t.length:Int)>200)with
        | true =>
         apply zgN;simp only[go_sem,k4,hp3,hl3,d1,k3',d2]
         repeat refine And.intro (by first|omega|exact .inl trivial|exact .inl (.inl trivial)|rfl|(simp; done)|(simp; omega)) ?_
         refine ainv (hJc true trivial) (Lo ?_);simp only[go_sem]
        | false =>
         apply zgN;simp only[go_sem,k4,hp3,hl3,d1,k3',d2]
         repeat refine And.intro (by first|omega|exact .inl trivial|exact .inl (.inl trivial)|rfl|(simp; done)|(simp; omega)) ?_
         refine ainv (hJc false trivial) (Lo ?_);simp only[go_sem]
    rintro b _;have hp3:=hpk2 t;have hl3:=hpl2 t
    cases b2 with
    | true =>
     apply zgN;simp only[go_sem,k4,hp3,hl3]
     repeat refine And.intro (by first|omega|exact .inl trivial|exact .inl (.inl trivial)|rfl|(simp; done)|(simp; omega)) ?_
     rw[ic k];refine ainv (hfin2 t m' b true hm1 hm2) (Lo ?_);simp only[go_sem]
    | false =>
     cases k5:pk==5 with
     | false =>
      apply zgN;simp only[go_sem,k4,hp3,hl3,k5]
      repeat refine And.intro (by first|omega|exact .inl trivial|exact .inl (.inl trivial)|rfl|(simp; done)|(simp; omega)) ?_
      rw[ic k];refine ainv (hfin2 t m' b false hm1 hm2) (Lo ?_);simp only[go_sem]
     | true =>
      apply zgN;simp only[go_sem,k4,hp3,hl3,k5]
      repeat refine And.intro (by first|omega|exact .inl trivial|exact .inl (.inl trivial)|rfl|(simp; done)|(simp; omega)) ?_
      refine zpN (AsH t ht) ?_
      cases hT:isTurnL t with
      | true =>
       simp only[go_sem]
       repeat refine And.intro (by first|omega|exact .inl trivial|exact .inl (.inl trivial)|rfl|(simp; done)|(simp; omega)) ?_
       rw[ic k];refine ainv (hfin2 t m' b false hm1 hm2) (Lo ?_);simp only[go_sem]
      | false =>
       simp only[go_sem]
       repeat refine And.intro (by first|omega|exact .inl trivial|exact .inl (.inl trivial)|rfl|(simp; done)|(simp; omega)) ?_
       rw[ic k];refine ainv (hfin2 t m' b true hm1 hm2) (Lo ?_);simp only[go_sem]
   .have dk:decide ((k:Int)<(L:Int))=false:=by simp; omega
    clear hJ2;have h3:=hfin T R m b1 b2 ⟨by simp only; omega,g2,g3,g4,g5.next,g6,g7,g8,g9,by simp only; omega⟩ (by simp only; omega);apply zgN;simp only[go_sem,dk]
    repeat refine And.intro (by first|omega|exact .inl trivial|exact .inl (.inl trivial)|rfl|(simp; done)|(simp; omega)) ?_
    rw[ic i];refine ainv h3 (Lo ?_);simp only[go_sem]
 .have di:decide ((i:Int)<(n:Int))=false:=by simp; omega
  have k7:=AbC g7;have k8:=AbC g8;have k6:∀ Z,(T.set (T0.length+1) Z).getD (T0.length+1) .dead=Z:=fun Z=>AbC (AbV (AcG g8) Z)
  clear hJ
  cases b1 with
  | true =>
   apply zgN;simp only[go_sem,di,k7,k8];refine AbU [.cell 6 28,.tmp 7,.tmp 8] rfl [.agg [.str [],.raw (.slice none 0 0)],.int .i64 0,.int .i64 2] ⟨by simp only[go_sem,sideIs,k6],rfl,rfl,trivial⟩ ⟨_,[],0,2,rfl,⟨[],.inl ⟨rfl,.inl rfl⟩,by simp,by simp⟩,g6.set (by omega) _⟩
  | false =>
   cases b2 with
   | true =>
    apply zgN;simp only[go_sem,di,k7,k8];refine AbU [.cell 6 28,.tmp 7,.tmp 8] rfl [.agg [.str [],.raw (.slice none 0 0)],.int .i64 0,.int .i64 3] ⟨by simp only[go_sem,sideIs,k6],rfl,rfl,trivial⟩ ⟨_,[],0,3,rfl,⟨[],.inl ⟨rfl,.inl rfl⟩,by simp,by simp⟩,g6.set (by omega) _⟩
   | false =>
    apply zgN;simp only[go_sem,di,k7,k8];refine AbU [.cell 6 28,.tmp 7,.tmp 8] rfl [.agg [.str ti,.sl a 0 n n],.int .i64 m,.int .i64 0] ⟨by simp only[go_sem,sideIs,k6],rfl,rfl,trivial⟩ ⟨_,ti,m,0,rfl,?_,g6.set (by omega) _⟩;rw[lbp];exact((A9M g2 g4 g3 (by omega)).below (by omega) _).wide (by omega) (by omega)
