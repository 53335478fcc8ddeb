/- slices.Index of numbers, slices.Contains of texts, slices.IndexFunc of strips; a person's. -/
import Derived.Test.YtooohdocabpblaaGreatDoorV29
set_option maxRecDepth 100000
set_option maxHeartbeats 2000000
set_option linter.all false
namespace Go.Proofs.YtooohdocabpblaaGreatDoor
open Av RowKit Proofs.Tryz
theorem A1L{caps:LA}(hc:caps.all AcJ=true):caps.all nr1=true:=by
 rw[law]at hc |-;intro x hx;have:=hc x hx
 cases x <;> first|exact AsZ this|grind[AcJ]
theorem AsU{a:AV}{caps:LA}(ha:nr1 a=true)(hc:caps.all AcJ=true):(a::caps).all nr1=true:=by
 grind[A1L]
theorem A1M(l:List Row){i:Nat}(h:i<l.length):(l.map rowA).getD i .any=rowA l[i]:=by simp[List.getD,h]
theorem AmY(l:List Int){i:Nat}(h:i<l.length):(iA l).getD i .any=kI l[i]:=by simp[List.getD,h]
def idxI(s:Int)(l:List Int):Int:=match l.findIdx? (·==s)with|some i=>i|none=>-1
theorem A1N{s:Int}{l:List Int}{i:Nat}(h:i<l.length)(h1:(l.take i).all (· != s)=true)(h2:l[i]=s):idxI s l=i:=by
 unfold idxI;have:l.findIdx? (·==s)=some i:=by
  rw[List.findIdx?_eq_some_iff_getElem];refine⟨h,by simpa using h2,fun j hj=>?_⟩;have:=List.all_eq_true.1 h1 l[j] (List.mem_take_iff_getElem.2 ⟨j,by omega,rfl⟩)
  simpa using this
 rw[this]
theorem AyM{s:Int}{l:List Int}(h1:l.all (· != s)=true):idxI s l=-1:=by
 unfold idxI;have:l.findIdx? (·==s)=none:=by
  rw[List.findIdx?_eq_none_iff];intro x hx;have:=List.all_eq_true.1 h1 x hx
  simpa using this
 rw[this]
theorem A6G{s:Int}{l:List Int}{j:Nat}(h:j<l.length)(h2:l[j]=s):idxI s l<=j:=by
 unfold idxI
 cases hq:l.findIdx? (·==s)with
 | none=>simp only; omega
 | some i =>
  obtain⟨h3,h4,h5⟩:=List.findIdx?_eq_some_iff_getElem.1 hq;simp only
  rcases lau j i with h6|h6
  .exact absurd (by simpa using h2) (h5 j h6)
  .omega
theorem AyN(l:List Int)(s:Int)(hl:l.length<1000000):Pc prog 13 [.fz 1 (iA l),kI s] (· = kI (idxI s l)):=by
 refine zpIB func13 rfl fun h ρ w=>?_
 simp only[go_sem,laa];refine AbP (ι:=Nat) (fun i=>l.length-i) (fun i=>[(8,kI i),(7,kI l.length),(1,kI s),(0,.fz 1 (iA l))]) (fun _=>[]) (fun i=>i<=l.length/\(l.take i).all (· != s)=true) 0 (by simp) ?_ ?_
 .refine Ld ?_
  simp only[go_sem]
 .rintro i ⟨g1,g2⟩ J hJ
  by_cases gi:i<l.length
  .have di:decide ((i:Int)<(l.length:Int))=true:=by simp; omega
   have hget:=AmY l gi;have hst:l[i]≠s->(l.take (i+1)).all (· != s)=true:=fun h=>by
    rw[lag gi,lbd,g2]
    simpa using h
   cases e:s==l[i]with
   | true =>
    apply zgB;simp only[go_sem,di,hget,e,laa]
    repeat refine aj ?_
    exact aret [4] rfl ⟨by rw[A1N gi g2 (by simpa using(beq_iff_eq.1 e).symm)]; rfl,rfl⟩
   | false =>
    have hfin:=hJ (i+1) ⟨by omega,hst (fun h=>by rw[h]at e; simp at e)⟩ (by omega);apply zgB;simp only[go_sem,di,hget,e,laa]
    repeat refine aj ?_
    rw[ic i];refine ainv hfin (Ld ?_);simp only[go_sem]
  .have di:decide ((i:Int)<(l.length:Int))=false:=by simp; omega
   rw[laf (by omega)]at g2;apply zgB;simp only[go_sem,di];exact aret [4] rfl ⟨by rw[AyM g2]; rfl,rfl⟩
def idxP{α:Type}(p:α->Bool)(l:List α):Int:=match l.findIdx? p with|some i=>(i:Int)|none=>-1
theorem AsV{α:Type}{p:α->Bool}{l:List α}{i:Nat}(hi:i<l.length)(hp:p l[i]=true)(h:∀ j,(hj:j<i)->p (l[j]'(by omega))=false):idxP p l=i:=by
 have:l.findIdx? p=some i:=List.findIdx?_eq_some_iff_getElem.2 ⟨hi,hp,fun j hj=>by simp[h j hj]⟩
 simp[idxP,this]
theorem ApJ{α:Type}{p:α->Bool}{l:List α}(h:∀ j,(hj:j<l.length)->p l[j]=false):idxP p l=-1:=by
 have:l.findIdx? p=none:=List.findIdx?_eq_none_iff.2 fun y hy=>by
  obtain⟨j,hj,rfl⟩:=List.getElem_of_mem hy;exact h j hj
 simp[idxP,this]
theorem A1O{x:LU}{l:List LU}:decide (idxP (fun y=>x==y) l>=0)=decide (x∈l):=by
 by_cases h:x∈l
 .obtain ⟨i,hi⟩:∃ i,l.findIdx? (fun y=>x==y)=some i:=by
   cases hq:l.findIdx? (fun y=>x==y)with
   | some i=>exact⟨i,rfl⟩
   | none =>
    have:=List.findIdx?_eq_none_iff.1 hq x h
    simp at this
  simp[idxP,hi,h]
 .have hi:l.findIdx? (fun y=>x==y)=none:=List.findIdx?_eq_none_iff.2 fun y hy=>by simp; exact fun e=>h (e▸hy)
  simp[idxP,hi,h]
theorem A1P(l:List LU)(x:LU)(hl:l.length<1000000):Pc prog 28 [.fz 1 (l.map .str),.str x] (· = kI (idxP (fun y=>x==y) l)):=by
 refine zpIB func28 rfl fun h ρ w=>?_
 simp only[go_sem];refine AbP (ι:=Nat) (fun i=>l.length-i) (fun i=>[(8,kI i),(7,kI l.length),(1,.str x),(0,.fz 1 (l.map .str))]) (fun _=>[]) (fun i=>i<=l.length/\∀ j (h:j<l.length),j<i->(x==l[j])=false) 0 ⟨by simp,fun j _ h=>absurd h (by omega)⟩ ?_ ?_
 .refine Ld ?_
  simp only[go_sem,laa]
 rintro i ⟨g1,g2⟩ J hJ
 by_cases gi:i<l.length
 .have di:decide ((i:Int)<(l.length:Int))=true:=by simp; omega
  have hx:=AdU l gi;apply zgB
  cases he:x==l[i]with
  | true =>
   simp only[go_sem,di,hx,he,laa]
   repeat refine aqj ?_
   exact aret [4] rfl ⟨congrArg _ (AsV (p:=fun y=>x==y) gi he fun j hj=>g2 j (by omega) hj).symm,rfl⟩
  | false =>
   have hfin:=hJ (i+1) ⟨by omega,fun j hj h=>by
    rcases lau j i with hh|hh
    .exact g2 j hj hh
    .have:j=i:=by omega
     subst this; exact he⟩ (by omega)
   simp only[go_sem,di,hx,he,laa]
   repeat refine aqj ?_
   rw[ic i];refine ainv hfin (Ld ?_);simp only[go_sem]
 .have di:decide ((i:Int)<(l.length:Int))=false:=by simp; omega
  apply zgB;simp only[go_sem,di];exact aret [4] rfl ⟨congrArg _ (ApJ (p:=fun y=>x==y) fun j hj=>g2 j hj (by omega)).symm,rfl⟩
theorem ArF(l:List LU)(x:LU)(hl:l.length<1000000):Pc prog 12 [.fz 1 (l.map .str),.str x] (· = .bool (decide (x∈l))):=by
 have hi:=A1P l x hl;rw[<- A1O];refine zpIB func12 rfl fun h ρ w=>?_
 simp only[go_sem];refine zpB (hi) ?_;simp only[go_sem];exact zt [4]
theorem ArG(f:FuncId)(caps:LA)(hc:caps.all AcJ=true)(p:Strip->Bool)(l:List Strip)(hl:l.length<100000000)(hf:∀ x∈l,Pc prog f (stripA x::caps) (· = .bool (p x))) :
  Pc prog 10 [.fz 8 (l.map stripA),.fn (.func f) caps] (· = kI (idxP p l)):=by
 refine zpIB func10 rfl fun h ρ w=>?_
 simp only[go_sem];refine AbP (ι:=Nat) (fun i=>l.length-i) (fun i=>[(8,kI i),(7,kI l.length),(1,.fn (.func f) caps),(0,.fz 8 (l.map stripA))]) (fun _=>[]) (fun i=>i<=l.length/\∀ j,(hj:j<l.length)->j<i->p l[j]=false) 0 ⟨by simp,fun j _ h=>absurd h (by omega)⟩ ?_ ?_
 .refine Ld ?_
  simp only[go_sem,laa]
 .rintro i ⟨g1,g2⟩ J hJ
  by_cases gi:i<l.length
  .have di:decide ((i:Int)<(l.length:Int))=true:=by simp; omega
   have hfx:=hf _ (lae gi);have hg:=AcH l gi;simp only[stripA,strA]at hfx hg;apply zgB;simp only[go_sem,di,hg,laa]
   repeat refine aqj ?_
   cases hp:p l[i]with
   | true =>
    rw[hp]at hfx;refine AiT hfx (AsU rfl hc) rfl rfl (zgB ?_);simp only[go_sem];exact aret [4] rfl ⟨congrArg _ (AsV gi hp fun j hj=>g2 j (by omega) hj).symm,rfl⟩
   | false =>
    rw[hp]at hfx;refine AiT hfx (AsU rfl hc) rfl rfl (zgB ?_);simp only[go_sem]
    repeat refine aqe ?_
    rw[ic i];refine ainv (hJ (i+1) ⟨by omega,fun j hj h=>?_⟩ (by omega)) (Ld ?_)
    .rcases lau j i with h2|h2
     .exact g2 j hj h2
     .have:j=i:=by omega
      subst this; exact hp
    .simp only [go_sem]
  .have di:decide ((i:Int)<(l.length:Int))=false:=by simp; omega
   apply zgB;simp only[go_sem,di];exact aret [4] rfl ⟨congrArg _ (ApJ fun j hj=>g2 j hj (by omega)).symm,rfl⟩
theorem A3E(k:LU)(d:Int):∀ (l:List LU)(acc:List Int),(l.map fun x=>(d,x)).foldl (dsStep k) acc=if k∈l/\acc.getLast?≠some d then acc++[d] else acc
 | [],acc=>by simp
 | x::l,acc=>by
  rw[lak,List.foldl_cons,A3E k d l]
  by_cases hx:x=k
  .subst hx
   by_cases ha:acc.getLast? = some d
   .simp [dsStep,ha]
   .simp [dsStep,ha]
  .have h0:dsStep k acc (d,x)=acc:=by simp[dsStep,hx]
   have h1:(k∈x::l) ↔ k∈l:=by
    rw[lbf];exact⟨fun h=>h.resolve_left fun e=>hx e.symm,.inr⟩
   rw[h0];simp only[h1]
theorem A1Q(p:Plan)(k:LU)(d:Int)(x:LU)(ev:Evs):dsOf (ev++evS p d x) k=if k∈(stOf p x).people/\(dsOf ev k).getLast?≠some d then dsOf ev k++[d] else dsOf ev k:=by
 rw[dsOf,List.foldl_append,evS,A3E];rfl
theorem AsW{acc:List Int}{d:Int}(h:acc.Pairwise (·<·))(hd:∀ v∈acc,v<=d):d∈acc ↔ acc.getLast? = some d:=by
 constructor
 .intro hm
  obtain⟨q,hq,e⟩:=List.getElem_of_mem hm
  rcases lau q (acc.length-1)with h7|h7
  .have h8:=List.pairwise_iff_getElem.1 h q (acc.length-1) hq (by omega) h7
   have h9:=hd _ (lae (show acc.length-1<acc.length by omega));omega
  .rw [List.getLast?_eq_getElem?,las (by omega),<- e]
   congr 2; omega
 .intro h
  rw[List.getLast?_eq_getElem?]at h;exact laj h
theorem AsX{p:Plan}{l:List BDay}{e:Int×LU}(h:e∈evB p l):∃ d∈l,e.1=d.day:=by
 obtain⟨d,hd,he⟩:=List.mem_flatMap.1 h;exact⟨d,hd,AgO he⟩
def evU(p:Plan)(l:List BDay)(i:Nat)(d:Int)(ss:List LU):Evs:=evB p (l.take i)++ss.flatMap (evS p d)
theorem A9C(p:Plan)(l:List BDay)(i:Nat)(d:Int)(ss:List LU):evU p l i d ss=evB p (l.take i++[⟨d,ss⟩]):=by
 simp[evU,evB,evD,List.flatMap_append]
theorem A6H(p:Plan)(l:List BDay)(i:Nat)(d:Int):evU p l i d []=evB p (l.take i):=by simp[evU]
theorem evU_snoc(p:Plan)(l:List BDay)(i:Nat)(d:Int)(ss:List LU)(x:LU):evU p l i d (ss++[x])=evU p l i d ss++evS p d x:=by
 simp[evU,List.flatMap_append]
theorem A1R(p:Plan)(l:List BDay){i:Nat}(h:i<l.length):evU p l i l[i].day l[i].Lb=evB p (l.take (i+1)):=by
 rw[evU,lag h,evB,evB,List.flatMap_append]
 simp[evD]
theorem A9D(p:Plan){l:List BDay}(h:l.Pairwise fun a b=>a.day<b.day){i:Nat}(hi:i<l.length)(ss:List LU)(k:LU) :
  (dsOf (evU p l i l[i].day ss) k).Pairwise (·<·)/\∀ v∈dsOf (evU p l i l[i].day ss) k,v<=l[i].day:=by
 have h2:(l.take i++[(⟨l[i].day,ss⟩:BDay)]).Pairwise fun a b=>a.day<b.day:=by
  refine List.pairwise_append.2 ⟨h.sublist (List.take_sublist i l),by simp,fun a ha b hb=>?_⟩;rw[List.mem_singleton.1 hb];obtain⟨q,hq,rfl⟩:=List.mem_take_iff_getElem.1 ha;exact List.pairwise_iff_getElem.1 h q i (by omega) hi (by omega)
 rw[A9C];obtain⟨a1,a2⟩:=AhQ (AmU p h2) k;refine⟨a1,fun v hv=>?_⟩;obtain⟨e,he,rfl⟩:=a2 v hv;obtain⟨d,hd,e2⟩:=AsX he;rw[e2]
 rcases List.mem_append.1 hd with hd|hd
 .obtain ⟨q,hq,rfl⟩:=List.mem_take_iff_getElem.1 hd
  exact Int.le_of_lt (List.pairwise_iff_getElem.1 h q i (by omega) hi (by omega))
 .rw [List.mem_singleton.1 hd]
  exact Int.le_refl _
def dayM(l:List Int):List (AV×AV):=l.map fun v=>(kI v,.bool true)
theorem AjM(k:Int):∀ (l:List Int)(n:Nat),(mfind (.int .i64) (kI k) (dayM l) n=some none/\k ∉ l)\/∃ i,mfind (.int .i64) (kI k) (dayM l) n=some (some (n+i,.bool true))/\l[i]? = some k
 | [],n=>.inl ⟨rfl,by simp⟩
 | v::r,n=>by
  simp only[dayM,lak,mfind,keyEq]
  cases hb:k==v with
  | true =>
   have:k=v:=by simpa using hb
   exact .inr ⟨0,rfl,by subst this; simp⟩
  | false =>
   have hb':k≠v:=by simpa using hb
   rcases AjM k r (n+1)with⟨h,h'⟩|⟨i,h1,h2⟩
   .exact .inl ⟨h,by simp only[lbf,not_or]; exact⟨hb',h'⟩⟩
   .exact .inr ⟨i+1,by rw[show n+(i+1)=n+1+i by omega]; exact h1,by simpa using h2⟩
theorem AyO(l:List Int)(v:Int):dayM l++[(kI v,.bool true)]=dayM (l++[v]):=by simp[dayM]
theorem A1S(l:List Int)(i:Nat)(v:Int)(h:l[i]? = some v):(dayM l).set i (kI v,.bool true)=dayM l:=by
 have hi:=(List.getElem?_eq_some_iff.1 h);rw[dayM,<- List.map_set (f:=fun v=>((kI v,.bool true):AV×AV)),<- hi.2,List.set_getElem_self]
theorem dayM_lvs:∀ l:List Int,lvs (dayM l)=dayM l
 | []=>rfl
 | v::r=>by
  show lvs ((kI v,.bool true)::dayM r)=_
  rw[lvs,dayM_lvs r];rfl
theorem A1T(l:List Int):(dayM l).length=l.length:=by simp[dayM]
theorem A1U{fst lst:Int}{ev:Evs}{x:Row}(h:RowOk fst lst ev x)(hb:∀ v∈dsOf ev x.key,fst<=v/\v<=lst){i:Nat}(hi:i<x.marks.length)(h2:x.marks[i]=2) :
  idxI 1 x.marks<=i/\∃ j,∃ h:j<x.marks.length,i<j/\x.marks[j]=1:=by
 obtain⟨⟨a,ha,a1⟩,b,hb2,b1⟩:=h.hold i hi h2;have hl:=h.len;have h3:=hb a ha;have h4:=hb b hb2
 constructor
 .have hj:(a-fst).toNat<x.marks.length:=by omega
  have:=A6G hj ((h.work _ hj).2 (by rw[show fst+((a-fst).toNat:Int)=a by omega]; exact ha));omega
 .have hj:(b-fst).toNat<x.marks.length:=by omega
  exact⟨_,hj,by omega,(h.work _ hj).2 (by rw[show fst+((b-fst).toNat:Int)=b by omega]; exact hb2)⟩
end Go.Proofs.YtooohdocabpblaaGreatDoor
namespace Go.Av
open RowKit
variable [Tr]
section
variable {h:Mem}{ρ:Own}{sto:LB}{w:World}{P:Program}{G:Std}
theorem CtH.sliceAt{f:FuncId}{e:Nat}{l l':LA}{args:LA}{R:AV}{n:Nat}(hc:CtH P G f (.sl 0 0 n n::args) [.arr e l] (fun r s=>r=R/\∃ junk,s=.arr e l'::junk))(hn:n=l.length)(h0:l≠[])(hl':l'.length=l.length)
  (hf:(flat l).all frozen=true) (hf':(flat l').all frozen=true) (hR:nr2 R=true) (ha:args.all nr1=true) {id:Nat} (hid:sto[id]? = some (.arr e l)) :
  CtH P G f (.sl id 0 n n::args) sto (fun r s=>r=R/\s=sto.set id (.arr e l')):=by
 subst hn;have hpos:0<l.length:=List.length_pos_iff.2 h0;refine⟨hc.1,fun h ρ w vs hg0 m hv=>?_⟩
 cases hv with
 | @cons _ v0 _ vs _ r0 rs =>
  have hl:=(AbN r0).2;simp only[LfC,hid]at hl
  rcases hl.2 (by omega)with⟨hz,_⟩|⟨g,tot,h1,h2,_⟩
  .omega
  have hown:=m.own id _ hid
  rcases hown with⟨hn,_⟩|⟨g',tot',cur,tt,i3,i4,i5,i6,i7,i8,i9,i10,i11⟩
  .exact absurd hn h0
  rw[h1]at i3;simp only[lad,laq]at i3;obtain⟨rfl,rfl⟩:=i3
  let ρ0:Own:=fun i=>if i=0 then some (g,tot) else none
  have hρ0:∀ i b t,ρ0 i=some (b,t)->i=0/\b=g/\t=tot:=by
   intro i b t hh;simp only[ρ0]at hh
   split at hh
   .rename_i hi; simp at hh; exact⟨hi,hh.1.symm,hh.2.symm⟩
   .simp at hh
  have m0:Mine h ρ0 [.arr e l] w:=by
   refine⟨m.mem,?_,?_,?_,?_⟩
   .intro i blk hb
    match i,hb with
    | 0,hb =>
     simp at hb; subst hb
     exact .inr ⟨g,tot,cur,tt,rfl,i4,i5,i6,i7,i8,i9,i10,(AbT i11 hf).thaw (fun _ _ _ x=>x)⟩
    | i+1,hb=>simp at hb
   .intro i hi
    simp at hi
    simp[ρ0]; omega
   .intro i j b t t' hi hj
    rw[(hρ0 i b t hi).1,(hρ0 j b t' hj).1]
   .intro i b t hi o
    obtain⟨_,rfl,_⟩:=hρ0 i b t hi;exact m.disj id _ _ h1 o
  have hp0:RV h (Lf ρ0 [.arr e l]) false v0 (.sl 0 0 l.length l.length):=by
   refine .leaf ⟨(AbN r0).1,?_⟩;simp only[LfC,lbp];exact⟨by omega,fun _=>.inr ⟨g,tot,rfl,h2,lal _⟩⟩
  have hg1:Le G w ρ0:=fun k o hk=>⟨(hg0 k o hk).1,fun i t hi=>by
   obtain⟨_,rfl,_⟩:=hρ0 i k t hi;exact(hg0 _ o hk).2 id _ h1⟩
  refine(hc.2 h ρ0 w (v0::vs) hg1 m0 (.cons hp0 ((AeO rs ha (Lf':=Lf ρ0 [.arr e l])).thaw (fun _ _ _ x=>x)))).mono ?_;rintro en w' ⟨v,r,s',h',ρ',rfl,⟨rfl,junk,rfl⟩,m',lt',rv⟩;have hk1:=lt'.keep (.slice (some ⟨g,0*e,none⟩) l.length (tot-0)) (.sl 0 0 l.length l.length) ⟨rfl,by
   simp only[LfC,lbp];exact⟨by omega,fun _=>.inr ⟨g,tot,rfl,rfl,lal _⟩⟩⟩
  have hρ':ρ' 0=some (g,tot):=by
   have hk:=hk1.2;simp only[LfC,lbp]at hk
   rcases hk.2 (by omega)with⟨hh,_⟩|⟨g',t',e1,e2,_⟩
   .omega
   .simp at e2
    rcases m'.own 0 _ rfl with⟨hn,_⟩|⟨g2,tot2,cur2,tt2,k3,k4,k5,k6,_⟩
    .rw [hn]at hl'; simp at hl'; omega
    rw[e1]at k3;simp only[lad,laq]at k3;rw[e1,e2.1,e2.2]
  have hset:∀ v a,Lf ρ sto v a->Lf ρ (sto.set id (.arr e l')) v a:=fun v a lf=>⟨lf.1,AbL hid (fun _ _=>rfl) (Or.inl ⟨rfl,hl',rfl⟩:(_/\_/\_)\/_) lf.2⟩
  have hlt:=(List.getElem?_eq_some_iff.1 hid).1;refine⟨v,r,_,h',ρ,rfl,⟨rfl,rfl⟩,⟨m'.mem,?_,?_,m.inj,?_⟩,⟨lt'.hle,?_,hset,lt'.os,lt'.tape,lt'.output,lt'.size,?_,fun i _ t x=>.inl ⟨i,t,x⟩⟩,(AnV rv hR (Lf':=Lf0)).thaw (fun _ _ _ x=>x)⟩
  .intro j blk hb
   by_cases hj:j=id
   .subst hj
    simp[hlt]at hb
    subst hb
    rcases m'.own 0 _ rfl with⟨hn,_⟩|⟨g2,tot2,cur2,tt2,k3,k4,k5,k6,k7,k8,k9,k10,k11⟩
    .rw [hn]at hl'; simp at hl'; omega
    rw[hρ']at k3;simp only[lad,laq]at k3;obtain⟨rfl,rfl⟩:=k3;exact .inr ⟨g,tot,cur2,tt2,h1,k4,k5,k6,k7,k8,k9,k10,(AbT k11 hf').thaw (fun _ _ _ x=>x)⟩
   .rw [lba (Ne.symm hj)]at hb
    refine(m.own j blk hb).mono lt'.hle hset rfl (fun gj t hgj=>lt'.block gj (m.lt hgj) fun i t' hi=>?_);obtain⟨_,rfl,_⟩:=hρ0 i gj t' hi;exact hj (m.inj j id _ _ _ hgj h1)
  .intro i hi
   simp at hi
   exact m.out i hi
  .intro i gi t hi o
   by_cases hj:i=id
   .subst hj
    rw[h1]at hi;simp only[lad,laq]at hi;obtain⟨rfl,rfl⟩:=hi;exact m'.disj 0 _ _ hρ' o
   .have hd:=m.disj i gi t hi o
    cases hq:h' gi o with
    | none=>rfl
    | some u =>
     rcases lt'.hnew gi o hd (by simp[hq])with⟨j,t',hj'⟩|hs
     .obtain ⟨_,rfl,_⟩:=hρ0 j gi t' hj'
      exact(hj (m.inj i id _ _ _ hi h1)).elim
     .have:=m.lt hi; omega
  .intro b o hb hb'
   rcases lt'.hnew b o hb hb' with⟨j,t',hj'⟩|hs
   .obtain ⟨_,rfl,_⟩:=hρ0 j b t' hj'
    exact .inl ⟨id,_,h1⟩
   .exact .inr hs
  .intro k hk hno
   exact lt'.block k hk fun i t hi=>by
    obtain⟨_,rfl,_⟩:=hρ0 i k t hi;exact hno id _ h1
end
end Go.Av
namespace Go.Proofs.YtooohdocabpblaaGreatDoor
open Av RowKit Proofs.Tryz
def orcC:Cl:=orcS [(35,oCmp)]
theorem AmZ{S:Std}:ClOk prog S orcC:=by
 refine AmK fun x hx args r h=>?_
 simp only[lbf,List.not_mem_nil,or_false]at hx;subst hx;simp only[oCmp]at h
 split at h
 .simp only [lad]at h
  subst h;exact⟨(AeQ _ _).toH,rfl⟩
 .cases h
def AsY(r:Option (AV×LB))(es:Nat)(l':LA):Bool:=match r with
 | some (x,b::_)=>eqA x (.tup [])&&eqB b (.arr es l')
 | _=>false
theorem ApK{S:Std}{orc:Cl}(ho:ClOk prog S orc){f:FuncId}{args:LA}{s:LB}{n es:Nat}{l':LA}(h:AsY (AhC prog orc n f args s) es l'=true):CtH prog S f args s (fun r s=>r=.tup []/\∃ junk,s=.arr es l'::junk):=by
 unfold AsY at h
 split at h
 .rename_i x b r hc
  rw[lac]at h;have:=A2Y AaL ho n hc;refine⟨this.1,fun h' ρ w vs hg hm hv=>(this.2 h' ρ w vs hg hm hv).mono ?_⟩;rintro en w' ⟨v,r',s',h'',ρ',e1,⟨rfl,rfl⟩,rest⟩;exact⟨v,_,_,h'',ρ',e1,⟨AbB _ _ h.1,r,by rw[A2W _ _ h.2]⟩,rest⟩
 .cases h
theorem AuQ:((AaW 3).all fun l=>l.isEmpty||AsY (AhC prog orcC 30 33 [.sl 0 0 l.length l.length,.fn (.func 34) []] [.arr 4 (l.map lookA)]) 4 ((AdW l).map lookA))=true:=by kernel_rfl
def subL:List LU->List (List LU)
 | []=>[[]]
 | x::r=>subL r++(subL r).map (x::·)
theorem ArH:((subL (PeopleL.take 4)).all fun l=>l.isEmpty||AsY (AhC prog orcC 30 19 [.sl 0 0 l.length l.length] [.arr 1 (l.map .str)]) 1 (l.map .str))=true:=by kernel_rfl
theorem AgP{i:Nat}{l:List Look}{v:LU}(h:l∈AaW i)(hv:v∈ValL):l++[AdV i v]∈AaW (i+1):=List.mem_append.2 (.inr (List.mem_flatMap.2 ⟨l,h,List.mem_map.2 ⟨v,hv,rfl⟩⟩))
theorem AgQ{i:Nat}{l:List Look}(h:l∈AaW i):l∈AaW (i+1):=List.mem_append.2 (.inl h)
theorem AyP:((AaW 3).all fun l=>decide (l.length<=3)&&decide ((AdW l).length=l.length))=true:=by decide +kernel
theorem AnA(L:List Int)(k:Int)(ls:List LU)(h1:1<=ls.length)(h2:ls.length<=1000)(h3:0<=k)(h4:k<=1000000) :
  Mc prog 32 2 (str L k) [.fz 1 (ls.map .str)] (fun r s=>(∃ x∈ls,r=.str x)/\s=str L (k+1)):=by
 have hlen:((List.map AV.str ls).length:Int)=ls.length:=by simp
 refine zcIN func32 rfl fun h ρ w=>?_
 simp only[go_sem];refine zm 0 (AdX L k _ (by omega) (by omega) h3 h4) ?_;rintro _ _ ⟨⟨v,rfl,hv0,hv1⟩,rfl⟩;have hv:v.toNat<ls.length:=by omega
 have hx:(List.map AV.str ls).getD v.toNat .any=.str ls[v.toNat]:=by simp[List.getD,hv]
 apply zgN;simp only[go_sem,hx];refine⟨by omega,by omega,by simpa using hv,?_⟩;exact aret [4] rfl ⟨_,_,rfl,⟨_,lae hv,rfl⟩,rfl,rfl,rfl⟩
theorem ArI{S:Std}:PcH prog S 33 [.fz 4 [],.fn (.func 34) []] (· = .tup []):=AfW AaL AmZ 30 2 (by kernel_rfl)
theorem ApL{S:Std}:PcH prog S 19 [.fz 1 []] (· = .tup []):=AfW AaL AmZ 30 2 (by kernel_rfl)
theorem AyQ{S:Std}(L:List Int)(k:Int)(h3:0<=k)(h4:k<=900000) :
  McH prog S 18 2 (str L k) [] (fun r s=>∃ (l:List Look) (k':Int),r=.fz 4 (l.map lookA)/\(∃ l0∈AaW 3,l=AdW l0)/\s=str L k'/\k<=k'/\k'<=k+10):=by
 refine zdIF func18 rfl fun h ρ w hg=>?_
 simp only[go_sem];refine AWp.shift (Shift.nilsl 3 4 rfl) ?_;refine AbA (ι:=Int×Int×List Look) (κ:=Int×List Look) (fun x=>(3-x.1).toNat)
  (fun x=>[(7,kI x.1),(6,.agg [.str ballN,.str coatN,.str hatN]),(3,.sl 1 0 x.2.2.length x.2.2.length),(0,.ptr 0 1 0 0)])
  (fun x=>[.arr 2 [str L x.2.1],.arr 4 (x.2.2.map lookA)])
  (fun x=>0<=x.1/\x.1<=3/\k<=x.2.1/\x.2.1<=k+2*x.1/\x.2.2∈AaW x.1.toNat/\(x.2.2.length:Int)<=x.1)
  (fun x=>[(3,.sl 1 0 x.2.length x.2.length),(0,.ptr 0 1 0 0)]) (fun x=>[.arr 2 [str L x.1],.arr 4 (x.2.map lookA)])
  (fun x=>k<=x.1/\x.1<=k+6/\x.2∈AaW 3)
  (0,k,[]) ⟨Int.le_refl _,by simp,by simp,by simp,by simp[AaW],by simp⟩ ?_ ?_ ?_
 .refine Lg ?_ rfl
  simp only[go_sem];rfl
 .rintro ⟨k1,l⟩ ⟨f1,f2,f3⟩
  simp only at f1 f2 f3 |-
  by_cases he:l=[]
  .subst he
   refine AWp.shift (Shift.freeze 3 (id:=1) (es:=4) rfl rfl rfl (lal _) rfl) ?_;apply zgF;simp only[go_sem];refine zqF hg (ArI) ?_;simp only[go_sem];exact aret [2] rfl ⟨_,_,rfl,⟨[],k1,rfl,⟨[],f3,rfl⟩,rfl,by omega,by omega⟩,rfl,rfl⟩
  .have hx:=List.all_eq_true.1 AyP l f3
   simp only[lac,lar]at hx;have hsort:=List.all_eq_true.1 AuQ l f3;have hem:l.isEmpty=false:=by cases l <;> simp_all
   rw[hem,Bool.false_or]at hsort;apply zgF;simp only[go_sem];refine zaH hg (CtH.sliceAt (l:=l.map lookA) (l':=(AdW l).map lookA) (ApK AmZ hsort) (by simp) (by simpa using he) (by simp[hx.2]) (AlW _) (AlW _) rfl rfl rfl) ?_;rintro _ _ ⟨rfl,rfl⟩;apply zgF;simp only[go_sem];refine ARet.shift (Shift.freeze 2 (id:=1) (es:=4) (l:=(AdW l).map lookA) rfl rfl (by simp[hx.2]) (lal _) (AlW _)) (aret [2] rfl ⟨_,_,rfl,⟨AdW l,k1,?_,⟨l,f3,rfl⟩,rfl,by omega,by omega⟩,rfl,rfl⟩)
   simp[resV,Av.get,Av.put,laf,hx.2]
 .rintro ⟨i,k2,l⟩ ⟨g1,g2,g3,g4,g5,g6⟩ J Q hJ hQ
  simp only at g1 g2 g3 g4 g5 g6 hJ hQ |-
  by_cases gi:i<3
  .have di:decide (i<3)=true:=by simp; omega
   have hi:i=0\/i=1\/i=2:=by omega
   rcases hi with rfl|rfl|rfl
   .apply zgF
    simp only[go_sem,di];refine zm 0 (AdI L k2 2 (by omega) (by omega) (by omega) (by omega)) ?_;rintro _ _ ⟨⟨b,rfl⟩,rfl⟩
    cases b with
    | true =>
     apply zgF;simp only[go_sem];refine zm 0 (AnA L (k2+1) [[110,101,119],[116,111,114,110],[119,101,116]] (by decide) (by decide) (by omega) (by omega)) ?_;rintro _ _ ⟨⟨v,hv,rfl⟩,rfl⟩;apply zgF;simp only[go_sem,laa]
     repeat refine aqa ?_
     have e3:l.map lookA++[.agg [kI 2,.str ballN,.str [115,116,97,116,101],.str v]]=(l++[AdV 0 v]).map lookA:=by
      simp only[lav,lak,List.map_nil]; rfl
     rw[e3,AhB l (AdV 0 v)];refine ainv (hJ (0+1,k2+1+1,l++[AdV 0 v]) ⟨by simp,by simp,by simp only; omega,by simp only; omega,AgP g5 hv,by simp; omega⟩ (by simp)) (Lg ?_ rfl);simp only[go_sem]
    | false =>
     apply zgF;simp only[go_sem];refine ainv (hJ (0+1,k2+1,l) ⟨by simp,by simp,by simp only; omega,by simp only; omega,AgQ g5,by simp only; omega⟩ (by simp)) (Lg ?_ rfl);simp only[go_sem]
   .apply zgF
    simp only[go_sem,di];refine zm 0 (AdI L k2 2 (by omega) (by omega) (by omega) (by omega)) ?_;rintro _ _ ⟨⟨b,rfl⟩,rfl⟩
    cases b with
    | true =>
     apply zgF;simp only[go_sem];refine zm 0 (AnA L (k2+1) [[110,101,119],[116,111,114,110],[119,101,116]] (by decide) (by decide) (by omega) (by omega)) ?_;rintro _ _ ⟨⟨v,hv,rfl⟩,rfl⟩;apply zgF;simp only[go_sem,laa]
     repeat refine aqa ?_
     have e3:l.map lookA++[.agg [kI 3,.str coatN,.str [115,116,97,116,101],.str v]]=(l++[AdV 1 v]).map lookA:=by
      simp only[lav,lak,List.map_nil]; rfl
     rw[e3,AhB l (AdV 1 v)];refine ainv (hJ (1+1,k2+1+1,l++[AdV 1 v]) ⟨by simp,by simp,by simp only; omega,by simp only; omega,AgP g5 hv,by simp; omega⟩ (by simp)) (Lg ?_ rfl);simp only[go_sem]
    | false =>
     apply zgF;simp only[go_sem];refine ainv (hJ (1+1,k2+1,l) ⟨by simp,by simp,by simp only; omega,by simp only; omega,AgQ g5,by simp only; omega⟩ (by simp)) (Lg ?_ rfl);simp only[go_sem]
   .apply zgF
    simp only[go_sem,di];refine zm 0 (AdI L k2 2 (by omega) (by omega) (by omega) (by omega)) ?_;rintro _ _ ⟨⟨b,rfl⟩,rfl⟩
    cases b with
    | true =>
     apply zgF;simp only[go_sem];refine zm 0 (AnA L (k2+1) [[110,101,119],[116,111,114,110],[119,101,116]] (by decide) (by decide) (by omega) (by omega)) ?_;rintro _ _ ⟨⟨v,hv,rfl⟩,rfl⟩;apply zgF;simp only[go_sem,laa]
     repeat refine aqa ?_
     have e3:l.map lookA++[.agg [kI 2,.str hatN,.str [115,116,97,116,101],.str v]]=(l++[AdV 2 v]).map lookA:=by
      simp only[lav,lak,List.map_nil]; rfl
     rw[e3,AhB l (AdV 2 v)];refine ainv (hJ (2+1,k2+1+1,l++[AdV 2 v]) ⟨by simp,by simp,by simp only; omega,by simp only; omega,AgP g5 hv,by simp; omega⟩ (by simp)) (Lg ?_ rfl);simp only[go_sem]
    | false =>
     apply zgF;simp only[go_sem];refine ainv (hJ (2+1,k2+1,l) ⟨by simp,by simp,by simp only; omega,by simp only; omega,AgQ g5,by simp only; omega⟩ (by simp)) (Lg ?_ rfl);simp only[go_sem]
  .have di:decide (i<3)=false:=by simp; omega
   have hi:i=3:=by omega
   subst hi;apply zgF;simp only[go_sem,di];refine ainv (hQ (k2,l) ⟨by simp only; omega,by simp only; omega,g5⟩) (Lg ?_ rfl);simp only[go_sem]
