/- renumbered: the scenes of a script get numbers, what is left of the old ones is gone. -/
import Derived.Test.YtlldmgboedknfaaGreatDoorC38
set_option maxRecDepth 100000
set_option maxHeartbeats 4000000
set_option linter.unusedSimpArgs false
set_option linter.unusedVariables false
namespace Go.Proofs.YtlldmgboedknfaaGreatDoor
open Go Go.Av Go.RowKit _root_.Go.Proofs.Tryz
theorem BkW{caps:List AV}(hc:caps.all frozen0=true):caps.all nr1=true:=by
 rw[List.all_eq_true]at hc |-;intro x hx;have:=hc x hx
 cases x <;> first|exact A6R this|(simp[frozen0]at this)
theorem A5Y{a:AV}{caps:List AV}(ha:nr1 a=true)(hc:caps.all frozen0=true):(a::caps).all nr1=true:=by
 simp only[List.all_cons,ha,BkW hc,Bool.and_self]
theorem BeZ(f:FuncId)(caps:List AV)(hc:caps.all frozen0=true)(p:List UInt8->Bool)(l:List (List UInt8))(hl:l.length<100000000)(hf:∀ x∈l,Pc prog f (.str x::caps) (· = .bool (p x))) :
  Pc prog 69 [.fz 1 (l.map .str),.fn (.func f) caps] (· = .int .i64 (idxP p l)):=by
 refine zpIB func69 rfl fun h ρ w=>?_
 simp only[go_sem];refine AaI (ι:=Nat) (fun i=>l.length-i) (fun i=>[(8,.int .i64 i),(7,.int .i64 l.length),(1,.fn (.func f) caps),(0,.fz 1 (l.map .str))]) (fun _=>[]) (fun i=>i<=l.length/\∀ j,(hj:j<l.length)->j<i->p l[j]=false) 0 ⟨by simp,fun j _ h=>absurd h (by omega)⟩ ?_ ?_
 .refine Shift.weak ?_
  simp only[go_sem,List.length_map]
 .rintro i ⟨g1,g2⟩ J hJ
  by_cases gi:i<l.length
  .have di:decide ((i:Int)<(l.length:Int))=true:=by simp; omega
   have hfx:=hf _ (List.getElem_mem gi);refine zgB ?_;simp only[go_sem,di,AcB gi,List.length_map]
   repeat refine aqd ?_
   cases hp:p l[i]with
   | true =>
    have hidx:idxP p l=(i:Int):=by
     unfold idxP;rw[List.findIdx?_eq_some_iff_getElem.2 ⟨gi,hp,fun j hj=>by simp[g2 j (by omega) hj]⟩]
    rw[hp]at hfx;refine AcS hfx (A5Y rfl hc) rfl rfl (zgB ?_);simp only[go_sem];exact aret [4] rfl ⟨congrArg _ hidx.symm,rfl⟩
   | false =>
    rw[hp]at hfx;refine AcS hfx (A5Y rfl hc) rfl rfl (zgB ?_);simp only[go_sem]
    repeat refine aqe ?_
    rw[ic i];refine ainv (hJ (i+1) ⟨by omega,fun j hj h=>?_⟩ (by omega)) (Shift.weak ?_)
    .rcases Nat.lt_or_ge j i with h2|h2
     .exact g2 j hj h2
     .have:j=i:=by omega
      subst this; exact hp
    .simp only [go_sem]
  .have di:decide ((i:Int)<(l.length:Int))=false:=by simp; omega
   have hidx:idxP p l=-1:=by
    unfold idxP;rw[List.findIdx?_eq_none_iff.2 fun y hy=>by
     obtain⟨j,hj,rfl⟩:=List.getElem_of_mem hy;exact g2 j hj (by omega)]
   refine zgB ?_;simp only[go_sem,di];exact aret [4] rfl ⟨congrArg _ hidx.symm,rfl⟩
def AgT(last:List UInt8)(no:List UInt8):Bool:=last==[]||decide (AaC no last>0)
theorem BtN(no last:List UInt8)(hn:numberL no=true)(hl:last=[]\/numberL last=true):Pc prog 70 [.str no,.pin 1 [.str last] 0 0] (· = .bool (AgT last no)):=by
 unfold AgT
 cases e:last==[]with
 | true =>
  refine zpIB func70 rfl fun h ρ w=>?_
  simp only[go_sem,e]
  repeat refine ak ?_
  exact zt [3]
 | false =>
  have hc:=AbI no last hn (hl.resolve_left (by simpa using e));refine zpIB func70 rfl fun h ρ w=>?_
  simp only[go_sem,e]
  repeat refine ak ?_
  refine zpB (hc) ?_;simp only[go_sem,e]
  repeat refine ak ?_
  exact zt [3]
def sc0:Sc:=⟨[],0,[],0,[]⟩
def upF(E:List (List UInt8))(last:List UInt8):List UInt8:=match E.find? (AgT last)with
 | some e=>e
 | none=>[]
def lastY(ys:List Sc):List UInt8:=if ys=[] then[] else(ys.getD (ys.length-1) sc0).no
def AuU(E:List (List UInt8))(last:List UInt8)(x:Sc):List UInt8:=if x.no=[] then betweenL last (upF E last) else x.no
def ysTo(E:List (List UInt8))(xs:List Sc):Nat->List Sc
 | 0=>[]
 | i+1=>ysTo E xs i++[{ xs.getD i sc0 with no:=AuU E (lastY (ysTo E xs i)) (xs.getD i sc0) }]
theorem AhP(E:List (List UInt8))(xs:List Sc):∀ i,(ysTo E xs i).length=i
 | 0=>rfl
 | i+1=>by simp[ysTo,AhP E xs i]
def AcL(xs:List Sc):Nat->List UInt8
 | 0=>[]
 | i+1=>if(xs.getD i sc0).no=[] then AcL xs i else(xs.getD i sc0).no
def RunS(xs:List Sc)(E:List (List UInt8))(i:Nat):Prop:=∀ j,j<i->(xs.getD j sc0).no≠[]->(xs.getD j sc0).no∈E/\(AcL xs j=[]\/nLt (AcL xs j) (xs.getD j sc0).no)
theorem BfA{xs:List Sc}{E:List (List UInt8)}{i:Nat}(h:RunS xs E i)(h0:(xs.getD i sc0).no=[]):RunS xs E (i+1):=fun j hj hn=>by
 by_cases e:j=i
 .subst e; exact absurd h0 hn
 .exact h j (by omega) hn
theorem A5Z{xs:List Sc}{E:List (List UInt8)}{i:Nat}(h:RunS xs E i)(hm:(xs.getD i sc0).no∈E)(hl:AcL xs i=[]\/nLt (AcL xs i) (xs.getD i sc0).no):RunS xs E (i+1):=fun j hj hn=>by
 by_cases e:j=i
 .subst e; exact⟨hm,hl⟩
 .exact h j (by omega) hn
structure RenI(E:List (List UInt8))(xs:List Sc)(i:Nat):Prop where
 num:∀ y∈ysTo E xs i,numberL y.no=true
 rise:(nosL (ysTo E xs i)).Pairwise nLt
 gap:∀ e∈E,(AcL xs i=[]\/nLt (AcL xs i) e)->lastY (ysTo E xs i)=[]\/nLt (lastY (ysTo E xs i)) e
theorem lastY_snoc(ys:List Sc)(y:Sc):lastY (ys++[y])=y.no:=by
 have:ys++[y]≠[]:=by simp
 rw[lastY,if_neg this]; simp
theorem AyT{ys:List Sc}(h:∀ y∈ys,numberL y.no=true):lastY ys=[]\/numberL (lastY ys)=true:=by
 unfold lastY
 split
 .exact .inl rfl
 .rename_i hne
  have hl:=List.length_pos_iff.2 hne
  right
  have:ys.length-1<ys.length:=by omega
  exact h _ (by simp[List.getD,this])
theorem AyU{ys:List Sc}(h:(nosL ys).Pairwise nLt){y:Sc}(hy:y∈ys):y.no=lastY ys\/nLt y.no (lastY ys):=by
 have hne:ys≠[]:=fun e=>by subst e; simp at hy
 have hl:=List.length_pos_iff.2 hne;obtain⟨j,hj,rfl⟩:=List.mem_iff_getElem.1 hy;have hlt:ys.length-1<ys.length:=by omega
 have e:lastY ys=ys[ys.length-1].no:=by
  unfold lastY;rw[if_neg hne]
  simp[List.getD,hlt]
 rw[e]
 by_cases h2:j=ys.length-1
 .left; congr
 .right
  have:=List.pairwise_iff_getElem.1 h j (ys.length-1) (by simpa[nosL]using hj) (by simpa[nosL]using hlt) (by omega)
  simpa[nosL]using this
theorem BfB{ys:List Sc}(h:(nosL ys).Pairwise nLt){y:Sc}(hy:lastY ys=[]\/nLt (lastY ys) y.no)(hn:∀ z∈ys,numberL z.no=true):(nosL (ys++[y])).Pairwise nLt:=by
 simp only[nosL,List.map_append,List.map_cons,List.map_nil];refine List.pairwise_append.2 ⟨h,by simp,fun a ha b hb=>?_⟩;obtain⟨z,hz,rfl⟩:=List.mem_map.1 ha;rw[List.mem_singleton.1 hb]
 rcases hy with hy|hy
 .exfalso
  rcases AyU h hz with e|e
  .exact AgR (hn z hz) (by rw[e,hy])
  .have hne:ys≠[]:=fun e=>by subst e; simp at hz
   have hl:=List.length_pos_iff.2 hne;have hlt:ys.length-1<ys.length:=by omega
   have:lastY ys=(ys.getD (ys.length-1) sc0).no:=if_neg hne;rw[hy]at this;exact AgR (hn (ys.getD (ys.length-1) sc0) (by simp[List.getD,hlt])) this.symm
 .rcases AyU h hz with e|e
  .rw [e]; exact hy
  .exact AaF e hy
theorem above_iff{last e:List UInt8}:AgT last e=true ↔ last=[]\/nLt last e:=by
 unfold AgT;rw[Bool.or_eq_true,beq_iff_eq,decide_eq_true_eq,AoB]
theorem BtO{E:List (List UInt8)}(hE:E.Pairwise nLt){last e:List UInt8}(he:e∈E)(h:last=[]\/nLt last e):upF E last∈E/\(upF E last=e\/nLt (upF E last) e):=by
 unfold upF
 cases hq:E.find? (AgT last)with
 | none =>
  have:=List.find?_eq_none.1 hq e he;exact absurd (above_iff.2 h) this
 | some u =>
  refine⟨List.mem_of_find?_eq_some hq,?_⟩;obtain⟨hu,i,hi,rfl,hb⟩:=List.find?_eq_some_iff_getElem.1 hq;obtain⟨j,hj,rfl⟩:=List.mem_iff_getElem.1 he
  rcases Nat.lt_trichotomy j i with h2|h2|h2
  .have:=hb j h2
   rw[above_iff.2 h]at this
   simp at this
  .subst h2; exact .inl rfl
  .exact .inr (List.pairwise_iff_getElem.1 hE i j hi hj h2)
theorem BqJ{E:List (List UInt8)}(hE:∀ e∈E,numberL e=true)(last:List UInt8):upF E last=[]\/numberL (upF E last)=true:=by
 unfold upF
 cases hq:E.find? (AgT last)with
 | none=>exact .inl rfl
 | some u=>exact .inr (hE u (List.mem_of_find?_eq_some hq))
theorem AyV{xs:List Sc}{E:List (List UInt8)}(hE:∀ e∈E,numberL e=true):∀ {i:Nat},RunS xs E i->AcL xs i=[]\/numberL (AcL xs i)=true
 | 0,_=>.inl rfl
 | i+1,h=>by
  unfold AcL
  split
  .exact AyV hE fun j hj hn=>h j (by omega) hn
  .rename_i hn
   exact .inr (hE _ (h i (by omega) hn).1)
theorem ren_start{E:List (List UInt8)}{xs:List Sc}:RenI E xs 0:=⟨by simp[ysTo],by simp[ysTo,nosL],fun e _ _=>.inl (by simp[ysTo,lastY])⟩
theorem A6A{E:List (List UInt8)}{xs:List Sc}{i:Nat}(hE:E.Pairwise nLt)(hn:∀ e∈E,numberL e=true)(hr:RunS xs E (i+1))(h:RenI E xs i)(hne:AuU E (lastY (ysTo E xs i)) (xs.getD i sc0)≠[]):RenI E xs (i+1):=by
 have hln:=AyT h.num;have hr0:RunS xs E i:=fun j hj hh=>hr j (by omega) hh
 have key:numberL (AuU E (lastY (ysTo E xs i)) (xs.getD i sc0))=true/\(lastY (ysTo E xs i)=[]\/nLt (lastY (ysTo E xs i)) (AuU E (lastY (ysTo E xs i)) (xs.getD i sc0))) /\
   (∀ e∈E,(AcL xs (i+1)=[]\/nLt (AcL xs (i+1)) e)->nLt (AuU E (lastY (ysTo E xs i)) (xs.getD i sc0)) e):=by
  unfold AuU at hne |-
  by_cases h0:(xs.getD i sc0).no=[]
  .rw [if_pos h0]at hne |-
   obtain⟨b1,b2,b3⟩:=AeM hln hne;refine⟨b1,b2,fun e he hs=>?_⟩;have e1:AcL xs (i+1)=AcL xs i:=by simp only[AcL]; rw[if_pos h0]
   rw[e1]at hs;obtain⟨u1,u2⟩:=BtO hE he (h.gap e he hs);have hun:=AgR (hn _ u1);have:=b3.resolve_left hun
   rcases u2 with u2|u2
   .exact (congrArg (nLt _) u2).mp this
   .exact AaF this u2
  .rw [if_neg h0]
   obtain⟨r1,r2⟩:=hr i (by omega) h0;have e1:AcL xs (i+1)=(xs.getD i sc0).no:=by simp only[AcL]; rw[if_neg h0]
   refine⟨hn _ r1,h.gap _ r1 r2,fun e he hs=>?_⟩;rw[e1]at hs;exact hs.resolve_left h0
 obtain⟨k1,k2,k3⟩:=key;refine⟨fun y hy=>?_,?_,fun e he hs=>?_⟩
 .simp only [ysTo,List.mem_append,List.mem_singleton]at hy
  rcases hy with hy|rfl
  .exact h.num y hy
  .exact k1
 .simp only [ysTo]
  exact BfB h.rise k2 h.num
 .simp only [ysTo,lastY_snoc]
  exact .inr (k3 e he hs)
def hasE(ys:List Sc):List (List UInt8×AV):=(nosL ys).map fun n=>(n,.bool true)
theorem BfC(ys:List Sc)(k:List UInt8):(hasE ys).find? (fun p=>p.1==k)=if k∈nosL ys then some (k,.bool true) else none:=by
 induction ys with
 | nil=>simp[hasE,nosL]
 | cons y r ih =>
  simp only[hasE,nosL,List.map_cons,List.find?_cons]at ih |-
  by_cases h:y.no=k
  .subst h; simp
  .have h1:(y.no==k)=false:=by simpa using h
   rw[h1,ih]
   simp[show ¬ k=y.no from fun e=>h e.symm]
theorem AuV(ys:List Sc)(k:List UInt8):(k∈nosL ys/\∃ i,mfind .string (.str k) (sM (hasE ys)) 0=some (some (i,.bool true)))\/(k ∉ nosL ys/\mfind .string (.str k) (sM (hasE ys)) 0=some none):=by
 have hf:=BfC ys k
 rcases AkZ k (hasE ys) 0 with⟨i,v,h1,h2⟩|⟨h1,h2⟩
 .rw [hf]at h1
  split at h1
  .rename_i hm
   simp only[Option.some.injEq,Prod.mk.injEq,true_and]at h1;exact .inl ⟨hm,i,by rw[h2,h1]⟩
  .simp at h1
 .rw [hf]at h1
  split at h1
  .simp at h1
  .rename_i hm; exact .inr ⟨hm,h2⟩
theorem AyW(ys:List Sc)(y:Sc):sM (hasE ys)++[(.str y.no,.bool true)]=sM (hasE (ys++[y])):=by simp[hasE,sM,nosL]
def goneN(E:List (List UInt8))(ys:List Sc):List (List UInt8):=E.filter fun e=>decide (e ∉ nosL ys)
theorem AsD(E:List (List UInt8))(ys:List Sc)(i:Nat)(h:i<E.length):goneN (E.take (i+1)) ys=if E[i]∈nosL ys then goneN (E.take i) ys else goneN (E.take i) ys++[E[i]]:=by
 rw[List.take_succ_eq_append_getElem h];simp only[goneN,List.filter_append,List.filter_cons,List.filter_nil]
 split <;> simp_all
theorem AjT(E:List (List UInt8))(ys:List Sc):(goneN E ys).length<=E.length:=List.length_filter_le _ _
def drZ:AV:=.agg [.int .i64 0,.str [],.raw (.slice none 0 0),.raw (.slice none 0 0),.raw (.slice none 0 0)]
def drN(ti:List UInt8)(ys:List Sc)(gone:List (List UInt8)):AV:=.agg [.int .i64 0,.str ti,.fz 5 (ys.map scA),.fz 1 (gone.map .str),.raw (.slice none 0 0)]
def RenR(E:List (List UInt8))(x:Sr)(r:AV):Prop:=(∃ e:Int,e≠0/\r=.tup [drZ,.int .i64 e]) \/
 (r=.tup [drN x.title (ysTo E x.scenes x.scenes.length) (goneN E (ysTo E x.scenes x.scenes.length)),.int .i64 0]/\RunS x.scenes E x.scenes.length/\RenI E x.scenes x.scenes.length/\(goneN E (ysTo E x.scenes x.scenes.length)).length+x.scenes.length<=300)
theorem BfD(Y:List Sc)(x:Sc)(r:List Sc):List.getD ((Y++x::r).map scA) Y.length .any=.agg [.str x.no,.int .i64 x.place,.str x.set,.int .i64 x.time,.fz 2 (x.paras.map paA)]:=by simp[List.getD,scA]
theorem BqK(Y:List Sc)(x:Sc)(r:List Sc)(no':List UInt8):((Y++x::r).map scA).set Y.length (.agg [.str no',.int .i64 x.place,.str x.set,.int .i64 x.time,.fz 2 (x.paras.map paA)])=((Y++[{ x with no:=no' }])++r).map scA:=by simp[scA]
theorem BkX(Y:List Sc)(x:Sc)(r:List Sc):List.getD ((Y++[x]++r).map scA) Y.length .any=.agg [.str x.no,.int .i64 x.place,.str x.set,.int .i64 x.time,.fz 2 (x.paras.map paA)]:=by
 rw[List.append_assoc]; exact BfD Y x r
theorem A2R(n:Nat)(l:List Sc):lowB n (.arr 5 (l.map scA))=true:=AbL (AaD l)
theorem AqZ{St:Std}(hS:LibOk St)(d:Dr)(E:List (List UInt8))(hE:EntOf d E)(hgl:d.gone.length<=1000)(hdl:d.scenes.length<=1000)(x:Sr)(hx:ScriptOk x)(hno:∀ y∈x.scenes,y.no=[]\/numberL y.no=true) :
  PcH prog St 28 [drA d,srA x] (RenR E x):=by
 have hEl:E.length<=2000:=by
  have:=hE.perm.length_eq
  simp[nosL]at this
  omega
 have hen:=ArR d E hE hgl hdl;have hxl:=hx.len;obtain⟨ti,xs⟩:=x;simp only at hno hxl;have hsno:∀ i,(h:i<xs.length)->xs.getD i sc0=xs[i]:=fun i h=>by simp[List.getD,h]
 unfold RenR;simp only[srA,drA]at hen |-;refine zqIF func28 rfl fun h ρ w hg=>?_
 simp only[go_sem];refine zpF (hen) ?_;simp only[go_sem];refine AaI (ι:=Nat) (fun i=>xs.length-i)
  (fun i=>[(23,.int .i64 i),(22,.int .i64 xs.length),(21,.fz 5 (xs.map scA)),(7,.ptr 3 1 0 0),(6,.fz 1 (E.map .str)),(4,.ptr 2 1 0 0),(3,.ptr 1 1 0 0)])
  (fun i=>[.arr 5 [.agg [.int .i64 d.no,.str d.title,.fz 5 (d.scenes.map scA),.fz 1 (d.gone.map .str),.fz 4 (d.leaves.map leA)]],.arr 2 [.agg [.str ti,.fz 5 (xs.map scA)]],.arr 5 [.agg [.int .i64 0,.str [],.raw (.slice none 0 0),.raw (.slice none 0 0),.raw (.slice none 0 0)]],.arr 1 [.str (AcL xs i)]])
  (fun i=>i<=xs.length/\RunS xs E i) 0 ⟨by simp,fun j hj=>absurd hj (by omega)⟩ ?_ ?_
 .refine Shift.weakS ?_ rfl
  simp only[go_sem,List.length_map]
 .rintro i ⟨g1,g2⟩ J hJ
  by_cases gi:i<xs.length
  .have di:decide ((i:Int)<(xs.length:Int))=true:=by rw[decide_eq_true_eq]; omega
   have hg':List.getD (List.map scA xs) i .any=.agg [.str xs[i].no,.int .i64 xs[i].place,.str xs[i].set,.int .i64 xs[i].time,.fz 2 (xs[i].paras.map paA)]:=by simp[List.getD,gi,scA]
   have hsi:=hsno i gi
   by_cases h0:xs[i].no=[]
   .have q0:(xs[i].no==[])=true:=by simpa using h0
    have e1:AcL xs (i+1)=AcL xs i:=by simp only[AcL]; rw[hsi,if_pos h0]
    have hfin:=hJ (i+1) ⟨by omega,BfA g2 (by rw[hsi]; exact h0)⟩ (by omega);rw[e1]at hfin;refine zgF ?_;simp only[go_sem,di,hg',q0,List.length_map]
    repeat refine aqa ?_
    rw[ic i];refine ainv hfin (Shift.low 4 (by simp) (by simp) rfl ?_);simp only[go_sem]
   .have q0:(xs[i].no==[])=false:=by simpa using h0
    have e1:AcL xs (i+1)=xs[i].no:=by simp only[AcL]; rw[hsi,if_neg h0]
    have hcn:=ApD E xs[i].no (by omega);have hnum:=(hno _ (List.getElem_mem gi)).resolve_left h0
    by_cases hm:xs[i].no∈E
    .rw [decide_eq_true hm]at hcn
     by_cases hl0:AcL xs i=[]
     .have ql:(AcL xs i != [])=false:=by simp[hl0]
      have hfin:=hJ (i+1) ⟨by omega,A5Z g2 (by rw[hsi]; exact hm) (.inl hl0)⟩ (by omega);rw[e1]at hfin;refine zgF ?_;simp only[go_sem,di,hg',q0,List.length_map]
      repeat refine aqa ?_
      refine zpF (hcn) ?_;simp only[go_sem,ql]
      repeat refine aqa ?_
      rw[ic i];refine ainv hfin (Shift.low 4 (by simp) (by simp) rfl ?_);simp only[go_sem]
     .have ql:(AcL xs i != [])=true:=by simpa using hl0
      have hlnum:=(AyV hE.num g2).resolve_left hl0;have hc:=AbI xs[i].no (AcL xs i) hnum hlnum
      by_cases hlt:nLt (AcL xs i) xs[i].no
      .have dl:decide (AaC xs[i].no (AcL xs i)<=0)=false:=by
        rw[decide_eq_false_iff_not,compareN_le]; exact fun e=>e hlt
       have hfin:=hJ (i+1) ⟨by omega,A5Z g2 (by rw[hsi]; exact hm) (.inr (by rw[hsi]; exact hlt))⟩ (by omega);rw[e1]at hfin;refine zgF ?_;simp only[go_sem,di,hg',q0,List.length_map]
       repeat refine aqa ?_
       refine zpF (hcn) ?_;simp only[go_sem,ql];refine zpF (hc) ?_;simp only[go_sem,ql,dl]
       repeat refine aqa ?_
       rw[ic i];refine ainv hfin (Shift.low 4 (by simp) (by simp) rfl ?_);simp only[go_sem]
      .have dl:decide (AaC xs[i].no (AcL xs i)<=0)=true:=by
        rw[decide_eq_true_eq,compareN_le]; exact hlt
       refine zgF ?_;simp only[go_sem,di,hg',q0,List.length_map]
       repeat refine aqa ?_
       refine zpF (hcn) ?_;simp only[go_sem,ql];refine zpF (hc) ?_;simp only[go_sem,ql,dl];exact AbB [.cell 4 32,.tmp 5] rfl [_,_] ⟨by simp only[go_sem,sideIs,drZ],rfl,trivial⟩ ⟨.inl ⟨7,by decide,rfl⟩,rfl⟩
    .rw [decide_eq_false hm]at hcn
     refine zgF ?_;simp only[go_sem,di,hg',q0,List.length_map]
     repeat refine aqa ?_
     refine zpF (hcn) ?_;simp only[go_sem];exact AbB [.cell 4 32,.tmp 5] rfl [_,_] ⟨by simp only[go_sem,sideIs,drZ],rfl,trivial⟩ ⟨.inl ⟨8,by decide,rfl⟩,rfl⟩
  .have di:decide ((i:Int)<(xs.length:Int))=false:=by rw[decide_eq_false_iff_not]; omega
   have hi:i=xs.length:=by omega
   subst hi
   by_cases hx0:xs=[]
   .subst hx0
    have hcut:=A5L hS ⟨ti,[]⟩ hx 0 (Nat.le_refl _);simp only[srA,List.take_nil,List.map_nil]at hcut;have dn:decide ((0:Int)<0)=false:=by decide
    refine zgF ?_;simp only[go_sem,di];refine zqF hg (hcut) ?_;simp only[go_sem];refine AaI (ι:=Unit) (fun _=>0) (fun _=>[(64,.int .i64 0),(63,.int .i64 0),(11,.mp 5),(10,.ptr 4 1 0 0),(7,.ptr 3 1 0 0),(6,.fz 1 (E.map .str)),(4,.ptr 2 1 0 0)])
     (fun _=>[.arr 5 [.agg [.int .i64 d.no,.str d.title,.fz 5 (d.scenes.map scA),.fz 1 (d.gone.map .str),.fz 4 (d.leaves.map leA)]],.arr 2 [.agg [.str ti,.fz 5 []]],.arr 5 [.agg [.int .i64 0,.str [],.raw (.slice none 0 0),.raw (.slice none 0 0),.raw (.slice none 0 0)]],.arr 1 [.str []],.arr 5 [.agg [.int .i64 0,.str ti,.fz 5 [],.raw (.slice none 0 0),.raw (.slice none 0 0)]],.mp []]) (fun _=>True) () trivial ?_ ?_
    .refine Shift.weakS ?_ rfl
     simp only[go_sem]
    clear hJ J;rintro _ _ J hJ;refine zgF ?_;simp only[go_sem,dn,List.length_map];refine AaI (ι:=Nat) (fun i=>E.length-i)
     (fun i=>[(107,.int .i64 i),(106,.int .i64 E.length),(105,.fz 1 (E.map .str)),(11,.mp 5),(10,.ptr 4 1 0 0),(4,.ptr 2 1 0 0)])
     (fun i=>[.arr 5 [.agg [.int .i64 d.no,.str d.title,.fz 5 (d.scenes.map scA),.fz 1 (d.gone.map .str),.fz 4 (d.leaves.map leA)]],.arr 2 [.agg [.str ti,.fz 5 []]],.arr 5 [.agg [.int .i64 0,.str [],.raw (.slice none 0 0),.raw (.slice none 0 0),.raw (.slice none 0 0)]],.arr 1 [.str []],.arr 5 [.agg [.int .i64 0,.str ti,.fz 5 ((([]:List Sc)).map scA),.sl 6 0 (goneN (E.take i) (([]:List Sc))).length (goneN (E.take i) (([]:List Sc))).length,.raw (.slice none 0 0)]],.mp (sM (hasE [])),.arr 1 ((goneN (E.take i) (([]:List Sc))).map .str)]) (fun i=>i<=E.length) 0 (by simp) ?_ ?_
    .refine Shift.trans (Shift.cells 4 1 [.agg [.int .i64 0,.str ti,.fz 5 ((([]:List Sc)).map scA),.sl 6 0 0 0,.raw (.slice none 0 0)]] rfl rfl (by simp[cellsOf]) ⟨.refl,.refl,.refl,.sl,.refl,trivial⟩) (Shift.weakS ?_ (by simp[goneN,sM,hasE,nosL]))
     simp only[go_sem,List.length_map]
     repeat(first|rfl|(simp; done)|refine And.intro (by first|rfl|(simp; done)) ?_)
    .intro i g1 J hJ
     by_cases gi:i<E.length
     .have di:decide ((i:Int)<(E.length:Int))=true:=by rw[decide_eq_true_eq]; omega
      have hg':=AcB gi;have hst:=AsD E (([]:List Sc)) i gi;have hgl:=AjT (E.take i) (([]:List Sc));have hgt:(E.take i).length<=2000:=by simp; omega
      have hlow:lowB 7 (.mp (sM (hasE (([]:List Sc)))))=true:=AgN (by intro p hp; simp only[hasE,List.mem_map]at hp; obtain⟨n,_,rfl⟩:=hp; rfl);have hfin:=hJ (i+1) (by omega) (by omega)
      rcases AuV (([]:List Sc)) E[i]with⟨hm,j,mf⟩|⟨hm,mf⟩
      .rw [if_pos hm]at hst
       rw[hst]at hfin;generalize goneN (E.take i) (([]:List Sc))=Gn at *;refine zgF ?_;simp only[go_sem,di,hg',mf,List.length_map]
       repeat refine aqa ?_
       rw[ic i];refine ainv hfin (Shift.low 7 (by simp) (by simp) ?_ ?_)
       .simp only[go_sem,↓hlow,↓AbA,lowB,flat]
       .simp only[go_sem]
      .rw [if_neg hm]at hst
       rw[hst]at hfin;have hap:List.map AV.str (goneN (E.take i) (([]:List Sc)))++[.str E[i]]=List.map AV.str (goneN (E.take i) (([]:List Sc))++[E[i]]):=by simp
       generalize goneN (E.take i) (([]:List Sc))=Gn at *;refine zgF ?_;simp only[go_sem,di,hg',mf,hap,List.length_map]
       repeat refine aqa ?_
       rw[show(i:Int)+1=((i+1:Nat):Int) by omega,show Gn.length+1=(Gn++[E[i]]).length by simp];refine ainv hfin (Shift.low 7 (by simp) (by simp) ?_ ?_)
       .simp only[go_sem,↓hlow,↓AbA,lowB,flat]
       .simp only[go_sem]
     .have di:decide ((i:Int)<(E.length:Int))=false:=by rw[decide_eq_false_iff_not]; omega
      have hi:i=E.length:=by omega
      subst hi;rw[List.take_length];have hgl:=AjT E (([]:List Sc));refine AWp.shift (Shift.frz 6 rfl (AaZ _)) ?_;generalize hGn:goneN E (([]:List Sc))=Gn at *;have htk:List.take Gn.length (List.map AV.str Gn)=List.map AV.str Gn:=List.take_of_length_le (by simp);simp only[go_sem,frzE,frzC,frz,frz1,frzB,List.length_map,Nat.le_refl,htk]
      by_cases hbig:Gn.length+0<=300
      .have dbig:decide ((Gn.length:Int)+(0:Int)>300)=false:=by rw[decide_eq_false_iff_not]; omega
       refine zgF ?_;simp only[go_sem,di,dbig,List.length_map]
       repeat refine aqa ?_
       subst hGn;exact AbB [.cell 4 32,.tmp 5] rfl [_,_] ⟨by simp only[go_sem,sideIs,drN,ysTo],rfl,trivial⟩ ⟨.inr ⟨rfl,g2,ren_start,hbig⟩,rfl⟩
      .have dbig:decide ((Gn.length:Int)+(0:Int)>300)=true:=by rw[decide_eq_true_eq]; omega
       refine zgF ?_;simp only[go_sem,di,dbig,List.length_map]
       repeat refine aqa ?_
       exact AbB [.cell 4 32,.tmp 5] rfl [_,_] ⟨by simp only[go_sem,sideIs,drZ],rfl,trivial⟩ ⟨.inl ⟨2,by decide,rfl⟩,rfl⟩
   .have hpos:=List.length_pos_iff.2 hx0
    have hcut:∀ T,CtH prog St 56 [srA ⟨ti,xs⟩,.int .i64 0,.int .i64 (xs.length:Int)] T (fun r s=>r=.tup [.agg [.str ti,.sl T.length 0 xs.length xs.length],.int .i64 0]/\s=T++[.arr 5 (xs.map scA),.arr 2 [.agg [.str ti,.sl T.length 0 xs.length xs.length]]]):=by
     cases xs with
     | nil=>exact absurd rfl hx0
     | cons y ys=>exact BeS hS ti y ys hx
    simp only[srA]at hcut;refine zgF ?_;simp only[go_sem,di,List.length_map];refine zaH hg (hcut _) ?_;rintro _ _ ⟨rfl,rfl⟩;simp only[List.cons_append,List.nil_append,List.length_cons,List.length_nil,Nat.zero_add,Nat.reduceAdd];refine zgF ?_;simp only[go_sem]
    repeat refine aqa ?_
    have hsl:∀ j,j<=xs.length->(ysTo E xs j++xs.drop j).length=xs.length:=fun j hj=>by simp[AhP]; omega
    refine AaI (ι:=Nat) (fun i=>xs.length-i)
     (fun i=>[(64,.int .i64 i),(63,.int .i64 xs.length),(11,.mp 7),(10,.ptr 4 1 0 0),(7,.ptr 3 1 0 0),(6,.fz 1 (E.map .str)),(4,.ptr 2 1 0 0)])
     (fun i=>[.arr 5 [.agg [.int .i64 d.no,.str d.title,.fz 5 (d.scenes.map scA),.fz 1 (d.gone.map .str),.fz 4 (d.leaves.map leA)]],.arr 2 [.agg [.str ti,.fz 5 (xs.map scA)]],.arr 5 [.agg [.int .i64 0,.str [],.raw (.slice none 0 0),.raw (.slice none 0 0),.raw (.slice none 0 0)]],.arr 1 [.str (lastY (ysTo E xs i))],.arr 5 [.agg [.int .i64 0,.str ti,.sl 5 0 xs.length xs.length,.raw (.slice none 0 0),.raw (.slice none 0 0)]],.arr 5 ((ysTo E xs i++xs.drop i).map scA),.arr 2 [.agg [.str ti,.sl 5 0 xs.length xs.length]],.mp (sM (hasE (ysTo E xs i)))])
     (fun i=>i<=xs.length/\RenI E xs i) 0 ⟨by simp,ren_start⟩ ?_ ?_
    .refine Shift.weakS ?_ (by simp[ysTo,lastY,hasE,nosL,sM])
     simp only[go_sem,List.length_map]
    clear hJ J;rintro i ⟨g3,g4⟩ J hJ
    by_cases gi:i<xs.length
    .have di:decide ((i:Int)<(xs.length:Int))=true:=by rw[decide_eq_true_eq]; omega
     have hsi:=hsno i gi;have hdr:xs.drop i=xs[i]::xs.drop (i+1):=List.drop_eq_getElem_cons gi;have hyl:=AhP E xs i;have hgetL:=BfD (ysTo E xs i) xs[i] (xs.drop (i+1));rw[<- hdr,hyl]at hgetL;have hset:=fun no'=>BqK (ysTo E xs i) xs[i] (xs.drop (i+1)) no'
     simp only[<- hdr,hyl]at hset;have hys:ysTo E xs (i+1)=ysTo E xs i++[{ xs[i]with no:=AuU E (lastY (ysTo E xs i)) xs[i] }]:=by simp only[ysTo,hsi]
     have hrun:RunS xs E (i+1):=fun j hj hn=>g2 j (by omega) hn
     have hln:=AyT g4.num;have hlow:∀ Ys:List Sc,lowB 8 (.mp (sM (hasE Ys)))=true:=fun Ys=>AgN (by intro p hp; simp only[hasE,List.mem_map]at hp; obtain⟨n,_,rfl⟩:=hp; rfl)
     have hll:(List.map scA (ysTo E xs i++xs.drop i)).length=xs.length:=by rw[List.length_map]; exact hsl i g3
     by_cases h0:xs[i].no=[]
     .have q0:(xs[i].no==[])=true:=by simpa using h0
      have hnew:AuU E (lastY (ysTo E xs i)) xs[i]=betweenL (lastY (ysTo E xs i)) (upF E (lastY (ysTo E xs i))):=if_pos h0;rw[hnew]at hys;have hbt:=AjS hS (lastY (ysTo E xs i)) (upF E (lastY (ysTo E xs i))) hln (BqJ hE.num _);have hidx:=BeZ 70 [.pin 1 [.str (lastY (ysTo E xs i))] 0 0] rfl (AgT (lastY (ysTo E xs i))) E (by omega) (fun x hx=>BtN x (lastY (ysTo E xs i)) (hE.num x hx) hln);have hres:betweenL (lastY (ysTo E xs i)) (upF E (lastY (ysTo E xs i)))≠[]->_:=fun hne=>A6A hE.sorted hE.num hrun g4 (by rw[hsi,hnew]; exact hne)
      have hup:upF E (lastY (ysTo E xs i))=match E.find? (AgT (lastY (ysTo E xs i)))with|some e=>e|none=>[]:=rfl
      have hfnd:=AyI (p:=AgT (lastY (ysTo E xs i))) (l:=E);have hfin:betweenL (lastY (ysTo E xs i)) (upF E (lastY (ysTo E xs i)))≠[]->_:=fun hne=>hJ (i+1) ⟨by omega,hres hne⟩ (by omega)
      rw[hys]at hfin;simp only[lastY_snoc]at hfin;have hmf:betweenL (lastY (ysTo E xs i)) (upF E (lastY (ysTo E xs i)))≠[]->mfind .string (.str (betweenL (lastY (ysTo E xs i)) (upF E (lastY (ysTo E xs i))))) (sM (hasE (ysTo E xs i))) 0=some none:=fun hne=>by
       have hrise:=(hres hne).rise;rw[hys]at hrise;simp only[nosL,List.map_append,List.map_cons,List.map_nil]at hrise
       rcases AuV (ysTo E xs i) (betweenL (lastY (ysTo E xs i)) (upF E (lastY (ysTo E xs i))))with⟨hm,_⟩|⟨_,h⟩
       .exact absurd ((List.pairwise_append.1 hrise).2.2 _ hm _ (by simp)) (AaH _)
       .exact h
      have hsn:=fun y=>AyW (ysTo E xs i) y
      clear hres hys;generalize lastY (ysTo E xs i)=la at *;generalize ysTo E xs i=YL at *;generalize hU:upF E la=U at *;generalize betweenL la U=R at *;have hbor:=fun(v:Int) (hv:idxP (AgT la) E=v)=>Ct.borrowF (P:=prog) (f:=69) (args:=[.fz 1 (E.map .str),.fn (.func 70) [.ptr 3 1 0 0]]) 1 [.arr 5 [.agg [.int .i64 d.no,.str d.title,.fz 5 (d.scenes.map scA),.fz 1 (d.gone.map .str),.fz 4 (d.leaves.map leA)]],.arr 2 [.agg [.str ti,.fz 5 (xs.map scA)]],.arr 5 [.agg [.int .i64 0,.str [],.raw (.slice none 0 0),.raw (.slice none 0 0),.raw (.slice none 0 0)]],.arr 1 [.str la],.arr 5 [.agg [.int .i64 0,.str ti,.sl 5 0 xs.length xs.length,.raw (.slice none 0 0),.raw (.slice none 0 0)]],.arr 5 ((YL++xs.drop i).map scA),.arr 2 [.agg [.str ti,.sl 5 0 xs.length xs.length]],.mp (sM (hasE YL))] (post:=(· = .int .i64 v)) (hv▸hidx) (by rintro r rfl; rfl)
      refine zgF ?_;simp only[go_sem,di,q0,hgetL,hll,List.length_map]
      repeat refine aqa ?_
      have hget2:=BkX YL { xs[i]with no:=R } (xs.drop (i+1));rw[hyl]at hget2;simp only at hget2
      rcases hfnd with⟨hv,hf⟩|⟨j,hj,hv,hf⟩
      .have hU0:U=[]:=by rw[hup,hf]
       subst hU0;have dk:decide ((-1:Int)>=0)=false:=by decide
       refine za ((hbor (-1) hv)) ?_;rintro _ _ ⟨rfl,rfl⟩;refine zgF ?_;simp only[go_sem,dk]
       repeat refine aqa ?_
       by_cases hR:R=[]
       .have dR:(R==[])=true:=by simpa using hR
        refine zqF hg (hbt) ?_;simp only[go_sem,hgetL,hll,hset R,hget2,dR,List.length_map]
        repeat refine aqa ?_
        exact AbB [.cell 4 32,.tmp 5] rfl [_,_] ⟨by simp only[go_sem,sideIs,drZ],rfl,trivial⟩ ⟨.inl ⟨11,by decide,rfl⟩,rfl⟩
       .have dR:(R==[])=false:=by simpa using hR
        have hfin:=hfin hR;have hmf:=hmf hR;have hsn:=hsn { xs[i]with no:=R };refine zqF hg (hbt) ?_;simp only[go_sem,hgetL,hll,hset R,hget2,dR,hmf,hsn,List.length_map]
        repeat refine aqa ?_
        rw[ic i];refine ainv hfin (Shift.low 8 (by simp) (by simp) ?_ ?_)
        .simp only[go_sem,↓hlow,↓A2R,lowB,flat]
        .simp only[go_sem]
      .have hU0:U=E[j]:=by rw[hup,hf]
       subst hU0;have dk:decide ((j:Int)>=0)=true:=by rw[decide_eq_true_eq]; omega
       refine za ((hbor (j:Int) hv)) ?_;rintro _ _ ⟨rfl,rfl⟩;refine zgF ?_;simp only[go_sem,dk,AcB hj,List.length_map]
       repeat refine aqa ?_
       by_cases hR:R=[]
       .have dR:(R==[])=true:=by simpa using hR
        refine zqF hg (hbt) ?_;simp only[go_sem,hgetL,hll,hset R,hget2,dR,List.length_map]
        repeat refine aqa ?_
        exact AbB [.cell 4 32,.tmp 5] rfl [_,_] ⟨by simp only[go_sem,sideIs,drZ],rfl,trivial⟩ ⟨.inl ⟨11,by decide,rfl⟩,rfl⟩
       .have dR:(R==[])=false:=by simpa using hR
        have hfin:=hfin hR;have hmf:=hmf hR;have hsn:=hsn { xs[i]with no:=R };refine zqF hg (hbt) ?_;simp only[go_sem,hgetL,hll,hset R,hget2,dR,hmf,hsn,List.length_map]
        repeat refine aqa ?_
        rw[ic i];refine ainv hfin (Shift.low 8 (by simp) (by simp) ?_ ?_)
        .simp only[go_sem,↓hlow,↓A2R,lowB,flat]
        .simp only[go_sem]
     .have q0:(xs[i].no==[])=false:=by simpa using h0
      have hnew:AuU E (lastY (ysTo E xs i)) xs[i]=xs[i].no:=if_neg h0;rw[hnew]at hys;have hres:=A6A hE.sorted hE.num hrun g4 (by rw[hsi,hnew]; exact h0);have hfin:=hJ (i+1) ⟨by omega,hres⟩ (by omega);have hrise:=hres.rise;rw[hys]at hfin hrise;simp only[nosL,List.map_append,List.map_cons,List.map_nil]at hrise;have hmf:mfind .string (.str xs[i].no) (sM (hasE (ysTo E xs i))) 0=some none:=by
       rcases AuV (ysTo E xs i) xs[i].no with⟨hm,_⟩|⟨_,h⟩
       .exact absurd ((List.pairwise_append.1 hrise).2.2 _ hm _ (by simp)) (AaH _)
       .exact h
      have hsn:=AyW (ysTo E xs i) xs[i];have hsame:ysTo E xs i++[xs[i]]++xs.drop (i+1)=ysTo E xs i++xs.drop i:=by rw[hdr]; simp
      rw[lastY_snoc,hsame]at hfin;clear hres hrise hys;generalize lastY (ysTo E xs i)=la at *;generalize ysTo E xs i=YL at *;refine zgF ?_;simp only[go_sem,di,q0,hgetL,hll,hmf,hsn,List.length_map]
      repeat refine aqa ?_
      rw[ic i];refine ainv hfin (Shift.low 8 (by simp) (by simp) ?_ ?_)
      .simp only[go_sem,↓hlow,↓A2R,lowB,flat]
      .simp only[go_sem]
    .have di:decide ((i:Int)<(xs.length:Int))=false:=by rw[decide_eq_false_iff_not]; omega
     have hi:i=xs.length:=by omega
     subst hi;have hyl:=AhP E xs xs.length;have hd0:xs.drop xs.length=[]:=List.drop_length;rw[hd0,List.append_nil];generalize hY:ysTo E xs xs.length=Y at *;refine AWp.shift (Shift.frz 5 rfl (AaD _)) ?_;have htk0:List.take xs.length (List.map scA Y)=List.map scA Y:=List.take_of_length_le (by simp[hyl]);simp only[go_sem,frzE,frzC,frz,frz1,frzB,List.length_map,hyl,Nat.le_refl,htk0];refine zgF ?_;simp only[go_sem,di,List.length_map];refine AaI (ι:=Nat) (fun i=>E.length-i)
      (fun i=>[(107,.int .i64 i),(106,.int .i64 E.length),(105,.fz 1 (E.map .str)),(11,.mp 7),(10,.ptr 4 1 0 0),(4,.ptr 2 1 0 0)])
      (fun i=>[.arr 5 [.agg [.int .i64 d.no,.str d.title,.fz 5 (d.scenes.map scA),.fz 1 (d.gone.map .str),.fz 4 (d.leaves.map leA)]],.arr 2 [.agg [.str ti,.fz 5 (xs.map scA)]],.arr 5 [.agg [.int .i64 0,.str [],.raw (.slice none 0 0),.raw (.slice none 0 0),.raw (.slice none 0 0)]],.arr 1 [.str (lastY Y)],.arr 5 [.agg [.int .i64 0,.str ti,.fz 5 ((Y).map scA),.sl 8 0 (goneN (E.take i) (Y)).length (goneN (E.take i) (Y)).length,.raw (.slice none 0 0)]],.dead,.arr 2 [.agg [.str ti,.fz 5 (Y.map scA)]],.mp (sM (hasE (Y))),.arr 1 ((goneN (E.take i) (Y)).map .str)]) (fun i=>i<=E.length) 0 (by simp) ?_ ?_
     .refine Shift.trans (Shift.cells 4 1 [.agg [.int .i64 0,.str ti,.fz 5 ((Y).map scA),.sl 8 0 0 0,.raw (.slice none 0 0)]] rfl rfl (by simp[cellsOf]) ⟨.refl,.refl,.refl,.sl,.refl,trivial⟩) (Shift.weakS ?_ (by simp[goneN,sM,hasE,nosL]))
      simp only[go_sem,List.length_map]
      repeat(first|rfl|(simp; done)|refine And.intro (by first|rfl|(simp; done)) ?_)
     .intro i g1 J hJ
      by_cases gi:i<E.length
      .have di:decide ((i:Int)<(E.length:Int))=true:=by rw[decide_eq_true_eq]; omega
       have hg':=AcB gi;have hst:=AsD E (Y) i gi;have hgl:=AjT (E.take i) (Y);have hgt:(E.take i).length<=2000:=by simp; omega
       have hlow:lowB 9 (.mp (sM (hasE (Y))))=true:=AgN (by intro p hp; simp only[hasE,List.mem_map]at hp; obtain⟨n,_,rfl⟩:=hp; rfl);have hfin:=hJ (i+1) (by omega) (by omega)
       rcases AuV (Y) E[i]with⟨hm,j,mf⟩|⟨hm,mf⟩
       .rw [if_pos hm]at hst
        rw[hst]at hfin;generalize goneN (E.take i) (Y)=Gn at *;refine zgF ?_;simp only[go_sem,di,hg',mf,List.length_map]
        repeat refine aqa ?_
        rw[ic i];refine ainv hfin (Shift.low 9 (by simp) (by simp) ?_ ?_)
        .simp only[go_sem,↓hlow,↓AbA,lowB,flat]
        .simp only[go_sem]
       .rw [if_neg hm]at hst
        rw[hst]at hfin;have hap:List.map AV.str (goneN (E.take i) (Y))++[.str E[i]]=List.map AV.str (goneN (E.take i) (Y)++[E[i]]):=by simp
        generalize goneN (E.take i) (Y)=Gn at *;refine zgF ?_;simp only[go_sem,di,hg',mf,hap,List.length_map]
        repeat refine aqa ?_
        rw[show(i:Int)+1=((i+1:Nat):Int) by omega,show Gn.length+1=(Gn++[E[i]]).length by simp];refine ainv hfin (Shift.low 9 (by simp) (by simp) ?_ ?_)
        .simp only[go_sem,↓hlow,↓AbA,lowB,flat]
        .simp only[go_sem]
      .have di:decide ((i:Int)<(E.length:Int))=false:=by rw[decide_eq_false_iff_not]; omega
       have hi:i=E.length:=by omega
       subst hi;rw[List.take_length];have hgl:=AjT E (Y);refine AWp.shift (Shift.frz 8 rfl (AaZ _)) ?_;generalize hGn:goneN E (Y)=Gn at *;have htk:List.take Gn.length (List.map AV.str Gn)=List.map AV.str Gn:=List.take_of_length_le (by simp);simp only[go_sem,frzE,frzC,frz,frz1,frzB,List.length_map,Nat.le_refl,htk]
       by_cases hbig:Gn.length+xs.length<=300
       .have dbig:decide ((Gn.length:Int)+(xs.length:Int)>300)=false:=by rw[decide_eq_false_iff_not]; omega
        refine zgF ?_;simp only[go_sem,di,dbig,hyl,List.length_map]
        repeat refine aqa ?_
        subst hGn;exact AbB [.cell 4 32,.tmp 5] rfl [_,_] ⟨by simp only[go_sem,sideIs,drN],rfl,trivial⟩ ⟨.inr ⟨rfl,g2,g4,hbig⟩,rfl⟩
       .have dbig:decide ((Gn.length:Int)+(xs.length:Int)>300)=true:=by rw[decide_eq_true_eq]; omega
        refine zgF ?_;simp only[go_sem,di,dbig,hyl,List.length_map]
        repeat refine aqa ?_
        exact AbB [.cell 4 32,.tmp 5] rfl [_,_] ⟨by simp only[go_sem,sideIs,drZ],rfl,trivial⟩ ⟨.inl ⟨2,by decide,rfl⟩,rfl⟩
