/- strings.SplitSeq, stopped at any piece; tag.readPattern, exact. -/
import Derived.Test.YtnfkjpihaficbaaGreatDoorK30
set_option maxRecDepth 100000
set_option maxHeartbeats 4000000
set_option linter.unusedSimpArgs false
set_option linter.unusedVariables false
namespace Go.Proofs.YtnfkjpihaficbaaGreatDoor
open Go Go.Av Go.RowKit _root_.Go.Proofs.Tryz
theorem AuL{St:Std}(hS:LibOk St)(text:List UInt8)(hl:text.length<100000000)(n:Nat)(S:Nat->List UInt8->List Blk)(ip is iz:Nat)(h1:∀ j q,(S j q).getD ip .dead=.arr 1 [.str [32]])(h2:∀ j q,(S j q).getD is .dead=.arr 1 [.str q])
  (h3:∀ j q,(S j q).getD iz .dead=.arr 1 [.int .i64 0]) (h4:∀ j q q',(S j q).set is (.arr 1 [.str q'])=S j q') :
  ItS prog St 259 [.ptr ip 1 0 0,.ptr is 1 0 0,.ptr iz 1 0 0] ((splitW text).map .str) n S text:=by
 refine A8D func259 rfl ntmps259 hB259 rfl (by simp) fun l c out Y hY' o1 hP hfn hsto hg hY hYs hfin hqui=>?_
 obtain⟨P,fn,h,ρ,sto,w,post,x,hx⟩:=c;simp only at hP hfn hsto hg hY hYs hqui;subst hP; subst hfn; subst hsto;refine goR ntmps259 300 ?_;simp only[go_sem,h1,h2,h3];refine BfL (ι:=Nat×List UInt8) (fun y=>y.2.length) (fun _=>[(0,.raw (.func (.yield l) #[] #[])),(1,.ptr ip 1 0 0),(2,.ptr is 1 0 0),(3,.ptr iz 1 0 0)]) (fun y=>S y.1 y.2)
  (fun y=>(splitW text).drop y.1=splitW y.2/\y.2.length<=text.length/\y.1<=n) (0,text) ⟨rfl,Nat.le_refl _,Nat.zero_le _⟩ ?_ ?_
 .refine Shift.weak ?_
  simp only[go_sem]
 .rintro ⟨j,q⟩ ⟨g1,g2,g3⟩ J hJ
  simp only at g1 g2 g3 hJ |-;have hidx:=A7U hS q [32] (by omega);have hat:∀ a r,splitW q=a::r->(List.map AV.str (splitW text))[j]? = some (.str a):=fun a r e=>by
   rw[e]at g1;have:(splitW text)[j]? = some a:=by
    have:=congrArg (·[0]?) g1
    simpa using this
   simp[this]
  have hlen:∀ a r,splitW q=a::r->j<(List.map AV.str (splitW text)).length:=fun a r e=>(List.getElem?_eq_some_iff.1 (hat a r e)).1
  by_cases hjn:j=n
  .subst hjn
   rcases AfN q with⟨e1,e2⟩|⟨i,e1,e2,e3⟩
   .rw [e1]at hidx
    refine goR ntmps259 300 ?_;simp only[go_sem,h1,h2,h3];refine AcS hg (hidx) rfl ntmps259 rfl (goR ntmps259 300 ?_);simp only[go_sem,h1,h2,h3];refine A8C (f:=?f) (x:=?x) (ts:=?ts) (s':=S (j+1) q) (l:=l) (hY:=hY') (o1:=o1) ?ho ?hf ?_ ?_
    case ho=>rfl
    case hf=>rfl
    .intro a1 a2 a3 a4 b1 b2 b3 b4
     exact hYs q (.str q) (hat q [] e2) a1 a2 a3 a4 b1 b2 b3 b4
    intro h' ρ' w' c1 c2;refine goR ntmps259 300 ?_;simp only[go_sem];exact AOut.shift (e':=[]) (Shift.weak trivial) (hqui (hlen _ _ e2) .normal q _ _ _ c1 c2 (.inl rfl))
   .rw [e1]at hidx
    have hlt:decide ((i:Int)<0)=false:=by simp
    refine goR ntmps259 300 ?_;simp only[go_sem,h1,h2,h3];refine AcS hg (hidx) rfl ntmps259 rfl (goR ntmps259 300 ?_);simp only[go_sem,h1,h2,h3,hlt]
    repeat refine al ?_
    refine A8C (f:=?f2) (x:=?x2) (ts:=?ts2) (s':=S (j+1) q) (l:=l) (hY:=hY') (o1:=o1) ?ho2 ?hf2 ?_ ?_
    case ho2=>rfl
    case hf2=>rfl
    .intro a1 a2 a3 a4 b1 b2 b3 b4
     exact hYs q (.str (q.take i)) (hat _ _ e3) a1 a2 a3 a4 b1 b2 b3 (by simpa[ev,Av.get,Av.put,cutL]using b4)
    intro h' ρ' w' c1 c2;refine goR ntmps259 300 ?_;simp only[go_sem];exact AOut.shift (e':=[]) (Shift.weak trivial) (hqui (hlen _ _ e3) .ret q _ _ _ c1 c2 (.inr rfl))
  have hjl:j<n:=by omega
  rcases AfN q with⟨e1,e2⟩|⟨i,e1,e2,e3⟩
  .rw [e1]at hidx
   have hn:(List.map AV.str (splitW text)).length=j+1:=by
    rw[e2]at g1;have:=congrArg List.length g1
    simp at this |-; omega
   have hfin:=hfin (by omega);refine goR ntmps259 300 ?_;simp only[go_sem,h1,h2,h3];refine AcS hg (hidx) rfl ntmps259 rfl (goR ntmps259 300 ?_);simp only[go_sem,h1,h2,h3];refine A7H (f:=?fc) (x:=?xc) (ts:=?tsc) (s':=S (j+1) q) (l:=l) ?hoc ?hfc ?_ ?_
   case hoc=>rfl
   case hfc=>rfl
   .intro a1 a2 a3 a4 b1 b2 b3 b4
    exact hY j q (.str q) (hat q [] e2) hjl a1 a2 a3 a4 b1 b2 b3 b4
   refine goR ntmps259 300 ?_;simp only[go_sem];rw[<- hn];exact AOut.shift (e':=[]) (Shift.weak trivial) (hfin .normal q (.inl rfl))
  .rw [e1]at hidx
   have hlt:decide ((i:Int)<0)=false:=by simp
   refine goR ntmps259 300 ?_;simp only[go_sem,h1,h2,h3];refine AcS hg (hidx) rfl ntmps259 rfl (goR ntmps259 300 ?_);simp only[go_sem,h1,h2,h3,hlt]
   repeat refine al ?_
   refine A7H (f:=?f2b) (x:=?x2b) (ts:=?ts2b) (s':=S (j+1) q) (l:=l) ?ho2b ?hf2b ?_ ?_
   case ho2b=>rfl
   case hf2b=>rfl
   .intro a1 a2 a3 a4 b1 b2 b3 b4
    exact hY j q (.str (q.take i)) (hat _ _ e3) hjl a1 a2 a3 a4 b1 b2 b3 (by simpa[ev,Av.get,Av.put,cutL]using b4)
   refine goR ntmps259 300 ?_;simp only[go_sem,h1,h2,h3,h4]
   repeat refine al ?_
   refine ArE (hJ (j+1,q.drop (i+1)) ⟨?_,by simp; omega,by simp only; omega⟩ (by simp; omega)) (Shift.weak ?_)
   .rw [e3]at g1
    rw[<- List.drop_drop,g1];rfl
   .simp only [go_sem]
theorem AnJ:∀ (m:Nat)(q:List UInt8),q.length<=m->(splitW q).length<=q.length+1/\∀ x∈splitW q,x.length<=q.length
 | m,q,h=>by
  rcases AfN q with⟨_,e2⟩|⟨i,_,e2,e3⟩
  .rw [e2]
   exact⟨by simp,fun x hx=>by rw[List.mem_singleton.1 hx]; exact Nat.le_refl _⟩
  .match m with
   | 0=>omega
   | m+1 =>
    obtain⟨a,b⟩:=AnJ m (q.drop (i+1)) (by simp; omega);rw[e3];simp only[List.length_cons,List.length_drop,List.mem_cons]at a b |-;refine⟨by omega,?_⟩;rintro x (rfl|hx)
    .rw [List.length_take]; omega
    .have:=b x hx; omega
def wdsN(x:It2):Bool:=match x.words with
 | none=>false
 | some l=>decide (0<l.length)
def AaT(l:List (List UInt8)):List It2:=l.map fun s=>(AeX s).1
def AcK(l:List (List UInt8)):Nat:=l.findIdx fun s=>!(AeX s).2
def patT(p:List UInt8):Option (List It2)×Bool :=
 if AcK (splitW p)<(splitW p).length then(none,false) else(some (AaT (splitW p)),(AaT (splitW p)).any wdsN&&decide ((splitW p).length<=8))
def patA:Option (List It2)->AV
 | none=>.raw (.slice none 0 0)
 | some l=>.fz 4 (l.map itB)
def rpG(l:List (List UInt8))(q:List UInt8):List Blk:=[.arr 1 [.raw (.slice none 0 0)],.arr 1 [.bool false],.arr 1 [.sl 7 0 l.length l.length],.arr 1 [.bool ((AaT l).any wdsN)],.arr 1 [.str q],.arr 1 [.str [32]],.arr 1 [.int .i64 0],.arr 4 ((AaT l).map itB)]
theorem ArM:∀ l:List It2,(flat (l.map itB)).all Av.frozen=true
 | []=>rfl
 | x::l=>by
  obtain⟨a,b,c,d⟩:=x;have ih:=ArM l
  cases d with
  | none=>simpa[itB,wdsA,flat,cellsOf,Av.frozen]using ih
  | some d=>simpa[itB,wdsA,flat,cellsOf,Av.frozen]using ih
theorem BdN(T:List (List UInt8))(y q:List UInt8):rpG (T++[y]) q=[.arr 1 [.raw (.slice none 0 0)],.arr 1 [.bool false],.arr 1 [.sl 7 0 (T.length+1) (T.length+1)],.arr 1 [.bool ((AaT T).any wdsN||wdsN (AeX y).1)],.arr 1 [.str q],.arr 1 [.str [32]],.arr 1 [.int .i64 0],.arr 4 ((AaT T).map itB++[itB (AeX y).1])]:=by
 simp[rpG,AaT]
theorem ArN{St:Std}(hS:LibOk St)(p:List UInt8)(hl:p.length<900):PcH prog St 104 [.str p] (· = .tup [patA (patT p).1,.bool (patT p).2]):=by
 obtain⟨hlen,hle⟩:=AnJ p.length p (Nat.le_refl _);unfold patT;have hr0:=fun x (hx:x∈splitW p)=>A8B hS x (by have:=hle x hx; omega)
 have hits:=fun n S h1 h2 h3 h4=>AuL hS p (by omega) n S 5 4 6 h1 h2 h3 h4
 generalize splitW p=l at *;refine AfG (ApG func104 rfl ntmps104 hB104 (by simp) fun h ρ w hg=>?_);refine goR ntmps104 300 ?_;simp only[go_sem];refine BlQ (AuI _ _ [32]) ntmps104 rfl ?_;rintro _ _ ⟨rfl,rfl⟩;refine goR ntmps104 300 ?_;simp only[go_sem];refine AWpR.shift (Shift.cells 2 4 [.sl 7 0 0 0] rfl rfl (by simp[cellsOf]) ⟨.sl,trivial⟩) ?_;refine BiR (n:=AcK l) (S:=fun j q=>rpG (l.take (min j (AcK l))) q) (q0:=p) (xs:=l.map .str) (E1:=fun j=>[(6,.str (l.getD j [])),(2,.ptr 0 1 0 0),(3,.ptr 1 1 0 0),(4,.ptr 2 1 0 0),(5,.ptr 3 1 0 0)]) hg rfl rfl
  (hits _ _ (fun _ _=>rfl) (fun _ _=>rfl) (fun _ _=>rfl) (fun _ _ _=>rfl)) (by decide) ?_ ?_ ?_ ?_ ?_
 .intro j q x h1 ρ1 w1 L id J hx hjn hg hJ
  have hxe:x=.str (l.getD j []):=by
   rw[List.getElem?_map]at hx
   cases hq:l[j]? with
   | none=>rw[hq]at hx; cases hx
   | some y =>
    rw[hq]at hx;rw[List.getD_eq_getElem?_getD,hq];exact(Option.some.inj hx).symm
  subst hxe;refine goR ntmps104 300 ?_;simp only[go_sem];refine ArE hJ (Shift.weak ?_);simp only[go_sem]
 .intro j q x h1 ρ1 w1 L id J hx hjn hg hJ
  have hyl:j<l.length:=by
   have:=(List.getElem?_eq_some_iff.1 hx).1
   simpa using this
  have hgd:l.getD j []=l[j]:=by simp[List.getD,hyl]
  have hr:=hr0 l[j] (List.getElem_mem hyl);have hnr:=hlen;rw[hgd];have hok:(AeX l[j]).2=true:=by
   have:=List.not_of_lt_findIdx (p:=fun s=>!(AeX s).2) (show j<l.findIdx fun s=>!(AeX s).2 from hjn)
   simpa using this
  rw[show min j (AcK l)=j by omega]at hJ |-;rw[show min (j+1) (AcK l)=j+1 by omega,List.take_succ_eq_append_getElem hyl,BdN]at hJ;rw[hok]at hr;unfold rpG at hJ |-;have hml:((AaT (l.take j)).map itB).length=(l.take j).length:=by simp[AaT]
  have htl:(l.take j).length<=1000:=by rw[List.length_take]; omega
  have hfz:=ArM (AaT (l.take j));generalize (AeX l[j]).1=X at *;generalize l[j]=y at *;generalize (AaT (l.take j)).map itB=M at *;generalize (AaT (l.take j)).any wdsN=b at *;generalize (l.take j).length=m at *;obtain⟨x1,x2,x3,x4⟩:=X;have hdl:∀ ws:List (List UInt8),decide ((ws.length:Int)>0)=decide (0<ws.length):=fun ws=>by simp
  cases b with
  | true =>
   cases x4 with
   | none =>
    simp only[itB,wdsA,wdsN,Bool.true_or,Bool.false_or]at hr hJ |-;have hlw:lowB 8 (.arr 4 (M++[.agg [.bool x1,.bool x2,.bool x3,.raw (.slice none 0 0)]]))=true:=AaD (by rw[flat_append,List.all_append,hfz]; rfl);refine goFR ntmps104 300 ?_;simp only[go_sem,hml];refine AcS hg (hr) rfl ntmps104 rfl (goFR ntmps104 300 ?_);simp only[go_sem,hml,hdl,List.length_map]
    repeat refine aqi ?_
    refine ArE hJ (Shift.trans (Shift.low 8 (e':=[]) (by first|exact Nat.le_refl _|simp) (by simp) (by simp only[List.take_succ_cons,List.take_zero,List.all_cons,List.all_nil,hlw,Bool.and_true]; rfl) trivial) (Shift.weakS trivial rfl))
   | some ws =>
    simp only[itB,wdsA,wdsN,Bool.true_or,Bool.false_or]at hr hJ |-;have hlw:lowB 8 (.arr 4 (M++[.agg [.bool x1,.bool x2,.bool x3,.fz 1 (ws.map .str)]]))=true:=AaD (by rw[flat_append,List.all_append,hfz]; rfl);refine goFR ntmps104 300 ?_;simp only[go_sem,hml];refine AcS hg (hr) rfl ntmps104 rfl (goFR ntmps104 300 ?_);simp only[go_sem,hml,hdl,List.length_map]
    repeat refine aqi ?_
    refine ArE hJ (Shift.trans (Shift.low 8 (e':=[]) (by first|exact Nat.le_refl _|simp) (by simp) (by simp only[List.take_succ_cons,List.take_zero,List.all_cons,List.all_nil,hlw,Bool.and_true]; rfl) trivial) (Shift.weakS trivial rfl))
  | false =>
   cases x4 with
   | none =>
    simp only[itB,wdsA,wdsN,Bool.true_or,Bool.false_or]at hr hJ |-;have hlw:lowB 8 (.arr 4 (M++[.agg [.bool x1,.bool x2,.bool x3,.raw (.slice none 0 0)]]))=true:=AaD (by rw[flat_append,List.all_append,hfz]; rfl);refine goFR ntmps104 300 ?_;simp only[go_sem,hml];refine AcS hg (hr) rfl ntmps104 rfl (goFR ntmps104 300 ?_);simp only[go_sem,hml,hdl,List.length_map]
    repeat refine aqi ?_
    refine ArE hJ (Shift.trans (Shift.low 8 (e':=[]) (by first|exact Nat.le_refl _|simp) (by simp) (by simp only[List.take_succ_cons,List.take_zero,List.all_cons,List.all_nil,hlw,Bool.and_true]; rfl) trivial) (Shift.weakS trivial rfl))
   | some ws =>
    simp only[itB,wdsA,wdsN,Bool.true_or,Bool.false_or]at hr hJ |-;have hlw:lowB 8 (.arr 4 (M++[.agg [.bool x1,.bool x2,.bool x3,.fz 1 (ws.map .str)]]))=true:=AaD (by rw[flat_append,List.all_append,hfz]; rfl);refine goFR ntmps104 300 ?_;simp only[go_sem,hml];refine AcS hg (hr) rfl ntmps104 rfl (goFR ntmps104 300 ?_);simp only[go_sem,hml,hdl,List.length_map]
    repeat refine aqi ?_
    refine ArE hJ (Shift.trans (Shift.low 8 (e':=[]) (by first|exact Nat.le_refl _|simp) (by simp) (by simp only[List.take_succ_cons,List.take_zero,List.all_cons,List.all_nil,hlw,Bool.and_true]; rfl) trivial) (Shift.weakS trivial rfl))
 .intro q x h1 ρ1 w1 L id J hx hg hJ
  have hyl:AcK l<l.length:=by
   have:=(List.getElem?_eq_some_iff.1 hx).1
   simpa using this
  have hgd:l.getD (AcK l) []=l[AcK l]:=by simp[List.getD,hyl]
  have hr:=hr0 l[AcK l] (List.getElem_mem hyl);have hok:(AeX l[AcK l]).2=false:=by
   have:=List.findIdx_getElem (p:=fun s=>!(AeX s).2) (xs:=l) (w:=hyl);rw[Bool.not_eq_true']at this;exact this
  rw[hgd];rw[show min (AcK l) (AcK l)=AcK l by omega]at hJ |-;rw[show min (AcK l+1) (AcK l)=AcK l by omega]at hJ;rw[hok]at hr;unfold rpG at hJ |-;have hlw:lowB 8 (.arr 4 ((AaT (l.take (AcK l))).map itB))=true:=AaD (ArM _);generalize (AeX l[AcK l]).1=X at *;generalize l[AcK l]=y at *;generalize (AaT (l.take (AcK l))).map itB=M at *;generalize (AaT (l.take (AcK l))).any wdsN=b at *;generalize (l.take (AcK l)).length=m at *;obtain⟨x1,x2,x3,x4⟩:=X
  cases x4 with
  | none =>
   simp only[itB,wdsA]at hr;refine goFR ntmps104 300 ?_;simp only[go_sem];refine AcS hg (hr) rfl ntmps104 rfl (goFR ntmps104 300 ?_);simp only[go_sem]
   repeat refine aqi ?_
   exact BlT hJ (Shift.trans (Shift.low 8 (e':=[]) (by first|exact Nat.le_refl _|simp) (by simp) (by simp only[List.take_succ_cons,List.take_zero,List.all_cons,List.all_nil,hlw,Bool.and_true]; rfl) trivial) (Shift.weakS trivial rfl))
  | some ws =>
   simp only[itB,wdsA]at hr;refine goFR ntmps104 300 ?_;simp only[go_sem];refine AcS hg (hr) rfl ntmps104 rfl (goFR ntmps104 300 ?_);simp only[go_sem]
   repeat refine aqi ?_
   exact BlT hJ (Shift.trans (Shift.low 8 (e':=[]) (by first|exact Nat.le_refl _|simp) (by simp) (by simp only[List.take_succ_cons,List.take_zero,List.all_cons,List.all_nil,hlw,Bool.and_true]; rfl) trivial) (Shift.weakS trivial rfl))
 .intro hxn D q hD
  have hnl:l.length<=AcK l:=by simpa using hxn
  rw[if_neg (by omega),show min (l.map AV.str).length (AcK l)=l.length by rw[List.length_map]; omega,List.take_of_length_le (Nat.le_refl _)];unfold rpG;simp only[patA];have hml:((AaT l).map itB).length=l.length:=by simp[AaT]
  have hfz:=ArM (AaT l);have htk:(((AaT l).map itB).drop 0).take l.length=(AaT l).map itB:=by rw[List.drop_zero,List.take_of_length_le (by omega)]
  generalize (AaT l).map itB=M at *;generalize (AaT l).any wdsN=b at *;refine AWpR.shift (Shift.trans (Shift.frz 7 (es:=4) (l:=M) rfl hfz) (Shift.weakS (e':=[(2,.ptr 0 1 0 0),(3,.ptr 1 1 0 0),(4,.ptr 2 1 0 0),(5,.ptr 3 1 0 0)]) (s':=[.arr 1 [.raw (.slice none 0 0)],.arr 1 [.bool false],.arr 1 [.fz 4 M],.arr 1 [.bool b],.arr 1 [.str q],.arr 1 [.str [32]],.arr 1 [.int .i64 0],.dead]) ?_ ?_)) ?_
  .exact ⟨rfl,rfl,rfl,rfl,trivial⟩
  .simp only [List.set_cons_succ,List.set_cons_zero,List.map_cons,List.map_nil,frzB,frzC,frz1,beq_self_eq_true,cond_true,htk,hml,Nat.zero_add,decide_true,Nat.le_refl,Bool.and_self]
  have d8:decide ((l.length:Int)<=8)=decide (l.length<=8):=by
   rw[Bool.eq_iff_iff]
   simp
   try omega
  cases b with
  | true =>
   refine goFR ntmps104 300 ?_;simp only[go_sem];refine A7Z [(7,0),(8,1)] [] [] mixed (by decide) ntmps104 (by decide) 100 ?_;simp only[go_sem,Go.Av.dxh,Go.Av.dxhc,↓Go.Av.AuK,↓Go.Av.ApO,Go.Av.dbrh,Go.Av.sck,Go.Av.stoD,hml,d8]
   repeat refine aqh ?_
   refine goFR ntmps104 300 ?_;simp only[go_sem];exact A8A (.inr rfl) hD [.cell 2 188,.cell 3 4] rfl [.fz 4 M,.bool (decide (l.length<=8))] ⟨by simp only[go_sem,sideIs],by simp only[go_sem,sideIs],trivial⟩ ⟨rfl,rfl⟩
  | false =>
   refine goFR ntmps104 300 ?_;simp only[go_sem];refine A7Z [(7,0),(8,1)] [] [] mixed (by decide) ntmps104 (by decide) 100 ?_;simp only[go_sem,Go.Av.dxh,Go.Av.dxhc,↓Go.Av.AuK,↓Go.Av.ApO,Go.Av.dbrh,Go.Av.sck,Go.Av.stoD]
   repeat refine aqh ?_
   refine goFR ntmps104 300 ?_;simp only[go_sem];exact A8A (.inr rfl) hD [.cell 2 188,.cell 3 4] rfl [.fz 4 M,.bool false] ⟨by simp only[go_sem,sideIs],by simp only[go_sem,sideIs],trivial⟩ ⟨rfl,rfl⟩
 .intro hxn D q hD
  rw[show min (AcK l+1) (AcK l)=AcK l by omega];rw[if_pos (by simpa using hxn)];exact A8A (.inr rfl) hD [.cell 2 188,.cell 3 4] rfl [.raw (.slice none 0 0),.bool false] ⟨by simp only[rpG,go_sem,sideIs],by simp only[rpG,go_sem,sideIs],trivial⟩ ⟨rfl,rfl⟩
theorem BfP:∀ s:List UInt8,s.all digB=true->digs s=s
 | [],_=>rfl
 | c::s,h=>by
  simp only[List.all_cons,Bool.and_eq_true]at h;have ih:=BfP s h.2;unfold digs at ih |-;rw[List.takeWhile_cons_of_pos h.1,ih]
theorem BdO{s:List UInt8}(h:s.all digB=true)(h1:1<=s.length)(h2:s.length<=18):∃ n,Lib.atoi s=some n:=by
 have hd:=BfP s h;have:=A6M (s:=s) ⟨by rw[hd]; exact h1,by rw[hd]; exact h2⟩;rw[hd]at this;exact⟨_,this⟩
def cntI(s:List UInt8):Int :=
 if 0<=idxS s numNames then idxS s numNames+1 else if s.length<1\/s.length>3 then 0 else if s.getD 0 0=48 then 0 else if s.all digB then(Lib.atoi s).getD 0 else 0
theorem BiS(s:List UInt8)(l:List (List UInt8)):-1<=idxS s l/\idxS s l<=l.length:=by
 unfold idxS
 split
 .rename_i i h
  have:=(List.findIdx?_eq_some_iff_getElem.1 h).1;omega
 .omega
theorem A8E(s:List UInt8)(hl:s.length<1000000):Pc prog 212 [.str s] (· = .int .i64 (cntI s)):=by
 have hx:=AnH numNames s (by decide);have hb:=BiS s numNames;have hnl:numNames.length=12:=rfl;unfold cntI;generalize idxS s numNames=k at *;simp only[numNames,List.map_cons,List.map_nil]at hx
 by_cases hk:0<=k
 .have dk:decide (k>=0)=true:=by simpa using hk
  rw[if_pos hk];refine AcF (AbV func212 rfl ntmps212 hB212 (by simp) fun h ρ w=>goB rfl 16 ?_);simp only[go_sem];refine AWp.shift (Shift.trans (Shift.frz 0 rfl rfl) (Shift.weakS (e':=[(3,.pin 12 [.agg (numNames.map .str)] 0 0),(0,.str s)]) (s':=[.dead]) ⟨rfl,rfl,trivial⟩ rfl)) ?_;simp only[numNames,List.map_cons,List.map_nil];refine zgB ?_;simp only[go_sem]
  repeat refine aqh ?_
  refine zpB (hx) ?_;simp only[go_sem,dk]
  repeat refine aqj ?_
  exact zt [2]
 have dk:decide (k>=0)=false:=by simpa using hk
 rw[if_neg hk];refine AcF (AbV func212 rfl ntmps212 hB212 (by simp) fun h ρ w=>goB rfl 16 ?_);simp only[go_sem];refine AWp.shift (Shift.trans (Shift.frz 0 rfl rfl) (Shift.weakS (e':=[(3,.pin 12 [.agg (numNames.map .str)] 0 0),(0,.str s)]) (s':=[.dead]) ⟨rfl,rfl,trivial⟩ rfl)) ?_;simp only[numNames,List.map_cons,List.map_nil];refine zgB ?_;simp only[go_sem]
 repeat refine aqh ?_
 by_cases h1:s.length<1
 .have d1:decide ((s.length:Int)<1)=true:=by simp; omega
  rw[if_pos (.inl h1)];refine zpB (hx) ?_;simp only[go_sem,dk,d1];exact zt [2]
 have d1:decide ((s.length:Int)<1)=false:=by simp; omega
 by_cases h2:s.length>3
 .have d2:decide ((s.length:Int)>3)=true:=by simp; omega
  rw[if_pos (.inr h2)];refine zpB (hx) ?_;simp only[go_sem,dk,d1,d2];exact zt [2]
 have d2:decide ((s.length:Int)>3)=false:=by simp; omega
 rw[if_neg (by omega)];have hnat:∀ c:UInt8,((c.toNat:Int)==48)=decide (c=48):=fun c=>by
  rw[Bool.eq_iff_iff];simp only[beq_iff_eq,decide_eq_true_eq]
  constructor
  .intro h
   have:c.toNat=(48:UInt8).toNat:=by
    have h48:(48:UInt8).toNat=48:=rfl;omega
   exact UInt8.toNat_inj.1 this
  .rintro rfl; rfl
 by_cases h3:s.getD 0 0=48
 .have d3:(((s.getD 0 0).toNat:Int)==48)=true:=by rw[hnat]; simpa using h3
  rw[if_pos h3];refine zpB (hx) ?_;simp only[go_sem,dk,d1,d2,d3]
  repeat refine aqk ?_
  exact zt [2]
 have d3:(((s.getD 0 0).toNat:Int)==48)=false:=by rw[hnat]; simpa using h3
 rw[if_neg h3];refine zpB (hx) ?_;simp only[go_sem,dk,d1,d2,d3]
 repeat refine aqk ?_
 refine AaC (ι:=Nat) (fun i=>s.length-i) (fun i=>[(31,.int .i64 i),(30,.int .i64 s.length),(0,.str s)]) (fun _=>[.dead]) (fun i=>i<=s.length/\(s.take i).all digB=true) 0 (by simp) ?_ ?_
 .refine Shift.weakS ?_ rfl
  simp only[go_sem]
 rintro i ⟨g1,g2⟩ J hJ
 by_cases hi:i<s.length
 .have di:decide ((i:Int)<(s.length:Int))=true:=by simp; omega
  have hgd:s.getD i 0=s[i]:=by simp[List.getD,hi]
  have hfin:=fun(h:digB s[i]=true)=>hJ (i+1) ⟨by omega,by rw[List.take_succ_eq_append_getElem hi,List.all_append,g2]; simp[h]⟩ (by omega)
  have hbad:digB s[i]=false->s.all digB=false:=fun h=>by
   rw[List.all_eq_false];exact⟨_,List.getElem_mem hi,by simp[h]⟩
  simp only[digB]at hfin hbad
  cases c1:digI (s[i].toNat:Int)with
  | true =>
   have hfin:=hfin c1;refine zgB ?_;simp only[go_sem,di,hgd]
   repeat refine aqk ?_
   refine zpB (AaN _) ?_;simp only[go_sem,c1]
   repeat refine aqk ?_
   rw[ic i];refine ainv hfin (Shift.weakS ?_ rfl);simp only[go_sem]
  | false =>
   have hb2:s.all digB=false:=hbad c1;rw[hb2,if_neg (by simp)];refine zgB ?_;simp only[go_sem,di,hgd]
   repeat refine aqk ?_
   refine zpB (AaN _) ?_;simp only[go_sem,c1];exact zt [2]
 .have di:decide ((i:Int)<(s.length:Int))=false:=by simp; omega
  rw[List.take_of_length_le (by omega)]at g2;obtain⟨n,hn⟩:=BdO g2 (by omega) (by omega);rw[g2,if_pos rfl,hn];clear hJ;refine zgB ?_;simp only[go_sem,di];refine zpB (AqY s n (by omega) hn) ?_;simp only[go_sem];exact zt [2]
def inS(x:List UInt8)(l:List (List UInt8)):Bool:=decide (idxS x l>=0)
theorem BlU(l:List (List UInt8))(x:List UInt8)(hl:l.length<1000000):Pc prog 261 [.fz 1 (l.map .str),.str x] (· = .bool (inS x l)):=by
 have hi:=AnH l x hl;unfold inS;refine zpIB func261 rfl fun h ρ w=>?_
 simp only[go_sem];refine zpB (hi) ?_;simp only[go_sem];exact zt [4]
structure ItOk(x:It2):Prop where
 wds:x.any'=true\/x.count=true\/∃ w l,x.words=some (w::l)
 len:∀ l,x.words=some l->l.length<1000
def wordsOf(x:It2):List (List UInt8):=x.words.getD []
def matI(x:It2)(w:List UInt8):Bool :=
 x.any'||(if x.count then decide (cntI w>0) else if x.begins then Lib.hasPrefix w ((wordsOf x).headD []) else inS w (wordsOf x))
theorem BiT(x:It2)(hx:ItOk x)(w:List UInt8)(hw:w.length<1000000):Pc prog 211 [itB x,.str w] (· = .bool (matI x w)):=by
 obtain⟨h1,h2⟩:=hx;obtain⟨a,c,b,ws⟩:=x;have hc:=A8E w hw;simp only[itB,matI]at h1 h2 |-
 cases a with
 | true =>
  rw[Bool.true_or]
  cases ws with
  | none =>
   simp only[wdsA];refine zpIB func211 rfl fun h ρ w=>?_
   simp only[go_sem];exact zt [4]
  | some l0 =>
   simp only[wdsA];refine zpIB func211 rfl fun h ρ w=>?_
   simp only[go_sem];exact zt [4]
 | false =>
  rw[Bool.false_or]
  cases c with
  | true =>
   rw[if_pos rfl]
   cases ws with
   | none =>
    simp only[wdsA];refine zpIB func211 rfl fun h ρ w=>?_
    simp only[go_sem];refine zpB (hc) ?_;simp only[go_sem];exact zt [4]
   | some l0 =>
    simp only[wdsA];refine zpIB func211 rfl fun h ρ w=>?_
    simp only[go_sem];refine zpB (hc) ?_;simp only[go_sem];exact zt [4]
  | false =>
   obtain⟨v,l,rfl⟩:∃ v l,ws=some (v::l):=by
    rcases h1 with h|h|h
    .cases h
    .cases h
    .exact h
   rw[if_neg (by simp)];have hl:=h2 _ rfl
   cases b with
   | true =>
    have hp:=AfH w v;rw[if_pos rfl];simp only[wdsA,wordsOf,Option.getD_some,List.headD_cons,List.map_cons];refine zpIB func211 rfl fun h ρ w=>?_
    simp only[go_sem]
    repeat refine aql ?_
    refine zpB (hp) ?_;simp only[go_sem];exact zt [4]
   | false =>
    have hi:=BlU (v::l) w (by omega);rw[if_neg (by simp)];simp only[wdsA,wordsOf,Option.getD_some];generalize v::l=V at *;refine zpIB func211 rfl fun h ρ w=>?_
    simp only[go_sem];refine zpB (hi) ?_;simp only[go_sem];exact zt [4]
