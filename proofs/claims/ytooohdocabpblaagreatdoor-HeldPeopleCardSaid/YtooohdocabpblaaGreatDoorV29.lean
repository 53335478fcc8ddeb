/- A desk's changes of looks: some number. -/
import Derived.Test.YtooohdocabpblaaGreatDoorV28
set_option maxRecDepth 100000
set_option maxHeartbeats 8000000
set_option linter.all false
namespace Go.Proofs.YtooohdocabpblaaGreatDoor
open Av RowKit Proofs.Tryz
theorem ApG(x:Look):∀ (n:Nat)(l:List Look),mfindT prog 126 (lookA x) (lookM l) n=some none\/∃ j,mfindT prog 126 (lookA x) (lookM l) n=some (some (j,.bool true))
 | _,[]=>.inl rfl
 | n,y::l=>by
  simp only[lookM,lak,mfindT,keyLook]
  cases(x.kind==y.kind&&(x.name==y.name&&(x.facet==y.facet&&(x.value==y.value&&true))))with
  | true=>exact .inr ⟨n,rfl⟩
  | false=>exact ApG x (n+1) l
theorem AsR(x:Look):∀ (n:Nat)(l:List Look),mfindT prog 215 (facA x) (facM l) n=some none\/∃ j,mfindT prog 215 (facA x) (facM l) n=some (some (j,.bool true))
 | _,[]=>.inl rfl
 | n,y::l=>by
  simp only[facM,lak,mfindT,keyFac]
  cases(x.kind==y.kind&&(x.name==y.name&&(x.facet==y.facet&&true)))with
  | true=>exact .inr ⟨n,rfl⟩
  | false=>exact AsR x (n+1) l
theorem AsS:∀ (l:List Strip)(i:Nat)(h:i<l.length),(mapsT l)[3*i+1]? = some (.mp (lookM l[i].looks))/\(mapsT l)[3*i+2]? = some (.mp (facM l[i].looks))
 | x::l,0,_=>⟨rfl,rfl⟩
 | x::l,i+1,h=>by
  have:=AsS l i (by simpa using h);rw[show 3*(i+1)+1=(3*i+1)+3 by omega,show 3*(i+1)+2=(3*i+2)+3 by omega]
  simpa[mapsT]using this
theorem AsT(b n i:Nat)(h:i<n):(rowL b n).getD i .any=.mp (b+3*i):=by simp[rowL,List.getD,h]
theorem ArE{S:Std}(p:Plan)(ok:PlanOk p)(dr:List (AV×AV))(T:LB)(a b:LU)(ha:a∈p.strips.map (·.scene))(hb:b∈p.strips.map (·.scene)) :
  CtH prog S 83 [.ptr 3 1 0 0,.str a,.str b] (dkT p dr (tailT p)++T) (fun r s=>∃ v V,r=kI v/\0<=v/\v<=100/\s=dkT p dr (tailT p)++(T++V)):=by
 obtain⟨st,hst,rfl⟩:=List.mem_map.1 ha;obtain⟨j,hj,ej,f1⟩:=ApB ok.desk.Lb hst;obtain⟨su,hsu,rfl⟩:=List.mem_map.1 hb;have hs:=AgN (S:=S) p dr (tailT p++T) ok.desk.Lb su hsu (by have:=ok.few; omega);have hsl:su.looks.length<=3:=by
  obtain⟨l0,h0,e⟩:=(ok.strips su hsu).looks;have:=List.all_eq_true.1 AlA l0 h0;rw[lac,lar,lar]at this;rw[e]; exact this.2
 have e0:dkT p dr (tailT p++T)=dkT p dr (tailT p)++T:=rfl;rw[e0]at hs;have d0:∀ U,(dkT p dr (tailT p)++U).getD 0 .dead=.mp (stripM 0 p.strips):=fun U=>rfl
 have d3:∀ U,(dkT p dr (tailT p)++U).getD 3 .dead=deskB p p.strips.length:=fun U=>rfl
 have d4:∀ U,(dkT p dr (tailT p)++U).getD 4 .dead=.arr 1 (rowL 7 p.strips.length):=fun U=>rfl
 have d5:∀ U,(dkT p dr (tailT p)++U).getD 5 .dead=.arr 1 (rowL 8 p.strips.length):=fun U=>rfl
 obtain⟨m1,m2⟩:=AsS p.strips j hj;rw[ej]at m1 m2;have d7:∀ U,(dkT p dr (tailT p)++U).getD (7+3*j) .dead=.mp (lookM st.looks):=fun U=>AxE (by
  show(_::_::_::_::_::_::mapsT p.strips)[7+3*j]? = _
  rw[show 7+3*j=(3*j+1)+6 by omega]; exact m1) U
 have d8:∀ U,(dkT p dr (tailT p)++U).getD (8+3*j) .dead=.mp (facM st.looks):=fun U=>AxE (by
  show(_::_::_::_::_::_::mapsT p.strips)[8+3*j]? = _
  rw[show 8+3*j=(3*j+2)+6 by omega]; exact m2) U
 have r7:=AsT 7 p.strips.length j hj;have r8:=AsT 8 p.strips.length j hj;have rl7:=AfS 7 p.strips.length;have rl8:=AfS 8 p.strips.length;generalize dkT p dr (tailT p)=D at hs d0 d3 d4 d5 d7 d8 |-;simp only[stripA,strA]at hs;refine zdIB func83 rfl fun h ρ w hg=>?_
 simp only[go_sem,undD,tsD,d0,d3,f1,deskB,planC];refine zaH hg (hs) ?_;rintro _ _ ⟨rfl,V,rfl⟩;apply zgB;simp only[go_sem,laa,lab];refine AbP (ι:=Nat×Int×LB) (fun y=>su.looks.length-y.1) (fun y=>[(22,kI y.1),(21,kI su.looks.length),(20,.fz 4 (su.looks.map lookA)),(8,kI y.2.1),(7,kI j),(0,.ptr 3 1 0 0)]) (fun y=>D++y.2.2)
  (fun y=>y.1<=su.looks.length/\0<=y.2.1/\y.2.1<=y.1/\∃ V,y.2.2=T++V) (0,0,T++V) ⟨by simp,by simp,by simp,V,rfl⟩ ?_ ?_
 .refine Lg ?_ rfl
  simp only[go_sem]
  try rfl
 rintro⟨i,n,W⟩ ⟨g1,g2,g3,hW⟩ J hJ;simp only at g1 g2 g3 hW hJ |-
 rcases lau i su.looks.length with hi|hi
 case inr =>
  have di:decide ((i:Int)<(su.looks.length:Int))=false:=by simp; omega
  obtain⟨V2,rfl⟩:=hW;apply zgB;simp only[go_sem,di];exact aret [6] rfl ⟨n,V2,rfl,g2,by omega,rfl⟩
 have di:decide ((i:Int)<(su.looks.length:Int))=true:=by simp; omega
 have p1:=AoF su.looks hi;have hfa:=AsR su.looks[i] 0 st.looks;have hla:=ApG su.looks[i] 0 st.looks;generalize su.looks[i]=x at *;have hW2:∃ V,W++[Blk.arr 4 [lookA x]]=T++V:=by
  obtain⟨V2,rfl⟩:=hW;exact⟨V2++[Blk.arr 4 [lookA x]],by simp⟩
 simp only[facA,lookA]at hfa hla
 rcases hfa with fa|⟨ja,fa⟩
 .apply zgB
  simp only[go_sem,di,p1,lookA,gt_at0,st_at0,gt_at,st_at,lab,laa]
  repeat refine aqf ?_
  refine zr [] AaL ?_;simp only[go_sem,undD,tsD,d3,d4,d5,d7,d8,r7,r8,rl7,rl8,fa,deskB,planC,gt_at0,st_at0,gt_at,st_at,lab,laa]
  repeat refine aqg ?_
  apply zgB;simp only[go_sem]
  repeat refine aqf ?_
  rw[ic i];refine ainv (hJ (i+1,n,W++[.arr 4 [lookA x]]) ⟨by simp only; omega,by simp only; omega,by simp only; omega,hW2⟩ (by simp only; omega)) (Lg ?_ (by simp[lookA]));simp only[go_sem]
  try rfl
 .rcases hla with la|⟨jl,la⟩
  .apply zgB
   simp only[go_sem,di,p1,lookA,gt_at0,st_at0,gt_at,st_at,lab,laa]
   repeat refine aqf ?_
   refine zr [] AaL ?_;simp only[go_sem,undD,tsD,d3,d4,d5,d7,d8,r7,r8,rl7,rl8,fa,la,deskB,planC,gt_at0,st_at0,gt_at,st_at,lab,laa]
   repeat refine aqg ?_
   apply zgB;simp only[go_sem]
   repeat refine aqf ?_
   rw[ic i];refine ainv (hJ (i+1,n+1,W++[.arr 4 [lookA x]]) ⟨by simp only; omega,by simp only; omega,by simp only; omega,hW2⟩ (by simp only; omega)) (Lg ?_ (by simp[lookA]));simp only[go_sem]
   try rfl
  .apply zgB
   simp only[go_sem,di,p1,lookA,gt_at0,st_at0,gt_at,st_at,lab,laa]
   repeat refine aqf ?_
   refine zr [] AaL ?_;simp only[go_sem,undD,tsD,d3,d4,d5,d7,d8,r7,r8,rl7,rl8,fa,la,deskB,planC,gt_at0,st_at0,gt_at,st_at,lab,laa]
   repeat refine aqg ?_
   apply zgB;simp only[go_sem]
   repeat refine aqf ?_
   rw[ic i];refine ainv (hJ (i+1,n,W++[.arr 4 [lookA x]]) ⟨by simp only; omega,by simp only; omega,by simp only; omega,hW2⟩ (by simp only; omega)) (Lg ?_ (by simp[lookA]));simp only[go_sem]
   try rfl
end Go.Proofs.YtooohdocabpblaaGreatDoor
namespace Go.Proofs.YtooohdocabpblaaGreatDoor
open Av RowKit Proofs.Tryz
structure Slot where
 scene:LU
 fr:Int
 till:Int
 drive:Int
 ch:Int
def slotA(x:Slot):AV:=.agg [.str x.scene,kI x.fr,kI x.till,kI x.drive,kI x.ch]
theorem ApH(l:List Slot){i:Nat}(h:i<l.length):(l.map slotA).getD i .any=slotA l[i]:=by simp[List.getD,h]
theorem AmX(k:LU):∀ (l:List Site)(n:Nat),k∈l.map (·.key)->∃ i x,x∈l/\mfind .string (.str k) (siteM l) n=some (some (i,siteA x))
 | [],_,h=>by simp at h
 | x::l,n,h=>by
  simp only[siteM,lak,mfind,keyEq]
  cases hb:k==x.key with
  | true=>exact⟨n,x,by simp,rfl⟩
  | false =>
   have hb':k≠x.key:=by simpa using hb
   obtain⟨i,y,h1,h2⟩:=AmX k l (n+1) (by simpa[hb']using h);exact⟨i,y,by simp[h1],h2⟩
def dF(p:Plan)(T:LB)(es:List (LU×Nat)):LB:=dkT p (drM es) (tailT p)++T
section
variable {S:Std}{p:Plan}{T W:LB}{es:List (LU×Nat)}
theorem A6C(p:Plan)(T W:LB)(es:List (LU×Nat)):dkT p (drM es) (tailT p++(T++W))=dF p T es++W:=by
 rw[dF,lab]; rfl
theorem dF_len(p:Plan)(T:LB)(es:List (LU×Nat)):(dF p T es).length=6+3*p.strips.length+T.length:=by
 rw[dF,lat,dk_len]
theorem A1I(ok:PlanOk p){x:LU}(hx:x∈p.strips.map (·.scene)) :
  CtH prog S 41 [.ptr 3 1 0 0,.str x] (dF p T es++W) (fun r s=>r=stripA (stOf p x)/\∃ V,s=dF p T es++(W++V)):=by
 obtain⟨h1,h2⟩:=AcF hx;have h:=AgN (S:=S) p (drM es) (tailT p++(T++W)) ok.desk.Lb (stOf p x) h1 (by have:=ok.few; omega);rw[h2,A6C]at h;refine CtH.impG h ?_;rintro _ _ ⟨rfl,V,rfl⟩;exact⟨rfl,V,by rw[lab]⟩
theorem A1J(ok:PlanOk p)(hd:DrOk p es (tailT p++(T++W))){a b:LU}(ha:a∈p.crew.sites.map (·.key))(hb:b∈p.crew.sites.map (·.key)) :
  CtH prog S 82 [.ptr 3 1 0 0,.str a,.str b] (dF p T es++W) (fun r s=>∃ v es' V,r=kI v/\0<=v/\v<=farN/\s=dF p T es'++(W++V)/\DrOk p es' (tailT p++(T++(W++V)))):=by
 have h:=AyH (S:=S) p ok es (tailT p++(T++W)) hd a b ha hb;rw[A6C]at h;refine CtH.impG h ?_;rintro _ _ ⟨v,es',V,rfl,v1,v2,rfl,h3⟩;rw[lab,lab]at h3 |-;exact⟨v,es',V,rfl,v1,v2,A6C p T (W++V) es',h3⟩
theorem AuO(ok:PlanOk p){a b:LU}(ha:a∈p.strips.map (·.scene))(hb:b∈p.strips.map (·.scene)) :
  CtH prog S 83 [.ptr 3 1 0 0,.str a,.str b] (dF p T es++W) (fun r s=>∃ v V,r=kI v/\0<=v/\v<=100/\s=dF p T es++(W++V)):=by
 have h:=ArE (S:=S) p ok (drM es) (T++W) a b ha hb;rw[<- lab]at h;refine CtH.impG h ?_;rintro _ _ ⟨v,V,rfl,v1,v2,rfl⟩;exact⟨v,V,rfl,v1,v2,by rw[dF,lab,lab]⟩
theorem DrOk.grow(h:DrOk p es W)(V:LB):DrOk p es (W++V) :=
 ⟨h.keys,fun x hx=>by
  obtain⟨j,l2,h1,h2,h3⟩:=h.blk x hx;exact⟨j,l2,h1,by rw[lao (List.getElem?_eq_some_iff.1 h2).1]; exact h2,h3⟩⟩
theorem DrOk.more(h:DrOk p es (tailT p++(T++W)))(V:LB):DrOk p es (tailT p++(T++(W++V))):=by
 have:=h.grow V
 simpa only [lab]using this
theorem A9B(es es':List (LU×Nat))(W V:LB){n:Nat}(hn:n<=(dF p T es++W).length):Agr n 2 (dF p T es++W) (dF p T es'++(W++V)):=fun i hi hne=>by
 have hl:(dF p T es'++W).length=(dF p T es++W).length:=by rw[lat,lat,dF_len,dF_len]
 rw[<- lab,lam,lam,lao (l₂:=V) (by omega)]
 match i,hne with
 | 0,_=>rfl
 | 1,_=>rfl
 | 2,h=>exact absurd rfl h
 | k+3,_=>rfl
def MpR(A A':LB):Prop:=∀ (j:Nat) l,A[j]? = some (.mp l)->A'[j]? = some (.mp l)
theorem MpR.pre{A A':LB}(h:MpR A A')(P:LB):MpR (P++A) (P++A'):=fun j l hj=>by
 rcases lau j P.length with h4|h4
 .rw [lao h4]at hj |-
  exact hj
 .rw [List.getElem?_append_right h4]at hj |-
  exact h _ _ hj
theorem MpR.con{A A':LB}{b b':Blk}(h:MpR A A')(hb:∀ l,b≠.mp l):MpR (b::A) (b'::A')
 | 0,l,hj=>absurd (Option.some.inj hj) (hb l)
 | j+1,l,hj=>h j l hj
theorem MpR.grow(A X:LB):MpR A (A++X):=fun j l hj=>by
 rw[lao (List.getElem?_eq_some_iff.1 hj).1];exact hj
theorem DrOk.mps{A A':LB}(h:DrOk p es A)(hm:MpR A A'):DrOk p es A' :=
 ⟨h.keys,fun x hx=>by
  obtain⟨j,l2,h1,h2,h3⟩:=h.blk x hx;exact⟨j,l2,h1,hm _ _ h2,h3⟩⟩
end
end Go.Proofs.YtooohdocabpblaaGreatDoor
namespace Go.Proofs.YtooohdocabpblaaGreatDoor
open Av RowKit Proofs.Tryz
theorem A6D{S:Std}(p:Plan)(ok:PlanOk p)(T:LB)(es:List (LU×Nat))(hd:DrOk p es (tailT p++T))(x:BDay)(h1:0<=x.day)(h2:x.day<=100)(h3:∀ s∈x.Lb,s∈p.strips.map (·.scene))(h4:x.Lb.length<=1000)(B:Nat)(hB:B=6+3*p.strips.length+T.length) :
  CtH prog S 42 [.ptr 3 1 0 0,bdayA x] (dF p T es) (fun r s=>(∃ y,r=.tup [y,kI 11])\/∃ (sl:List Slot) (es':List (LU×Nat)) (V:LB),sl.map (·.scene)=x.Lb/\r=.tup [.sl B 0 sl.length sl.length,kI 0]/\s=dF p T es'++(.arr 5 (sl.map slotA)::V) /\
   DrOk p es' (tailT p++(T++(.arr 5 (sl.map slotA)::V)))):=by
 have hlen:∀ es,(dF p T es).length=B:=fun es=>by rw[hB,dF_len]
 have gB:∀ es U k,(dF p T es++U).getD (B+k) .dead=U.getD k .dead:=fun es U k=>by rw[<- hlen es]; exact gt_at
 have gB0:∀ es U,(dF p T es++U).getD B .dead=U.getD 0 .dead:=fun es U=>gB es U 0
 have sB:∀ es U k y,(dF p T es++U).set (B+k) y=dF p T es++U.set k y:=fun es U k y=>by rw[<- hlen es]; exact st_at
 have sB0:∀ es U y,(dF p T es++U).set B y=dF p T es++U.set 0 y:=fun es U y=>sB es U 0 y
 have g0:∀ es U,(dF p T es++U).getD 0 .dead=.mp (stripM 0 p.strips):=fun _ _=>rfl
 have g1:∀ es U,(dF p T es++U).getD 1 .dead=.mp (siteM p.crew.sites):=fun _ _=>rfl
 have g3:∀ es U,(dF p T es++U).getD 3 .dead=deskB p p.strips.length:=fun _ _=>rfl
 have g3':∀ es,(dF p T es).getD 3 .dead=deskB p p.strips.length:=fun _=>rfl
 have hst:=fun es W x hx=>A1I (S:=S) (T:=T) (W:=W) (es:=es) (x:=x) ok hx
 have hdr:=fun es W a b hd ha hb=>A1J (S:=S) (T:=T) (W:=W) (es:=es) (a:=a) (b:=b) ok hd ha hb
 have hch:=fun es W a b ha hb=>AuO (S:=S) (T:=T) (W:=W) (es:=es) (a:=a) (b:=b) ok ha hb
 have hag:=fun n es es' W V h=>A9B (p:=p) (T:=T) es es' W V (n:=n) h
 have hdm:=fun es W V h=>DrOk.more (p:=p) (T:=T) (es:=es) (W:=W) h V
 have hr1:=ok.rules.start;have hr2:=ok.rules.change;have hd0:DrOk p es (tailT p++(T++[.arr 5 (([]:List Slot).map slotA)])):=by
  have:=hd.grow [.arr 5 (([]:List Slot).map slotA)]
  rwa [lab]at this
 generalize dF p T=F at *;simp only[bdayA,strA];refine zdIB func42 rfl fun h ρ w hg=>?_
 simp only[go_sem];refine zr [] AaL ?_;simp only[go_sem,undD,tsD,g3',deskB,planC]
 repeat refine aqf ?_
 apply zgB;simp only[go_sem,laa];refine AWp.shift (Shift.nilsl 6 5 rfl) ?_;rw[hlen];refine AbP (ι:=Nat×Int×List Slot×List (LU×Nat)×LB) (fun y=>x.Lb.length-y.1)
  (fun y=>[(26,kI y.1),(25,kI x.Lb.length),(24,.fz 1 (x.Lb.map .str)),(7,kI y.2.1),(6,.sl B 0 y.2.2.1.length y.2.2.1.length),(3,.pin 2 [.agg [kI x.day,.fz 1 (x.Lb.map .str)]] 0 0),(0,.ptr 3 1 0 0)])
  (fun y=>F y.2.2.2.1++(.arr 5 (y.2.2.1.map slotA)::y.2.2.2.2))
  (fun y=>y.1<=x.Lb.length/\0<=y.2.1/\y.2.2.1.map (·.scene)=x.Lb.take y.1/\(∀ s∈y.2.2.1,0<=s.till/\s.till<=40000000)/\DrOk p y.2.2.2.1 (tailT p++(T++(.arr 5 (y.2.2.1.map slotA)::y.2.2.2.2))))
  (0,x.day*1440+p.rules.start,[],es,[]) ⟨by simp,by simp only; omega,by simp,by simp,hd0⟩ ?_ ?_
 .refine Lg ?_ rfl
  simp only[go_sem]
  try rfl
 rintro⟨i,a,L,ds,V⟩ ⟨q1,q2,q3,q4,q5⟩ J hJ;simp only at q1 q2 q3 q4 q5 hJ |-;have hL:L.length=i:=by
  have:=congrArg List.length q3;simp only[laa,List.length_take]at this;omega
 subst hL
 rcases lau L.length x.Lb.length with hi|hi
 case inr =>
  have di:decide ((L.length:Int)<(x.Lb.length:Int))=false:=by simp; omega
  rw[laf (by omega)]at q3;apply zgB;simp only[go_sem,di];exact aret [4,5] rfl (.inr ⟨L,ds,V,q3,rfl,rfl,q5⟩)
 have di:decide ((L.length:Int)<(x.Lb.length:Int))=true:=by simp; omega
 have p1:=AdU x.Lb hi;have hmem:=h3 _ (lae hi);obtain⟨sc,hsc⟩:∃ sc,sc=x.Lb[L.length]:=⟨_,rfl⟩;rw[<- hsc]at p1 hmem;have hs:=hst ds (.arr 5 (L.map slotA)::V) sc hmem;obtain⟨sm,-⟩:=AcF hmem;have so:=ok.strips _ sm;generalize stOf p sc=st at *;simp only[stripA,strA]at hs;apply zgB;simp only[go_sem,di,p1,laa]
 repeat refine aqf ?_
 refine zaH hg (hs) ?_;rintro _ _ ⟨rfl,V1,rfl⟩;have q6:=hdm _ _ V1 q5;rw[lah]at q6 |-;clear q5 hs;generalize V++V1=V at q6 |-;apply zgB;have p0:∀ hp:0<L.length,(x.Lb.map AV.str).getD ((L.length:Int)-1).toNat .any=.str (x.Lb[L.length-1]'(by omega)):=fun hp=>by
  rw[show((L.length:Int)-1).toNat=L.length-1 by omega];exact AdU x.Lb (by omega)
 rcases Nat.eq_zero_or_pos L.length with h0|hp
 case inr =>
  have p0:=p0 hp;have dp:decide ((L.length:Int)>0)=true:=by simp; omega
  have hml:=h3 _ (lae (show L.length-1<x.Lb.length by omega));obtain⟨la,hla⟩:∃ y,y=x.Lb[L.length-1]:=⟨_,rfl⟩;rw[<- hla]at p0 hml;simp only[go_sem,dp,p0,hlen,gB,gB0,sB,sB0,gt_at0,st_at0,gt_at,st_at,lab,laa]
  repeat refine aqf ?_
  refine AoL [3,7,11] 2 [] AaL (by decide) rfl rfl 100 ?_;simp only[go_sem,Go.Av.dxn,Go.Av.dxnc,↓Go.Av.AbF,↓Go.Av.AaY,Go.Av.dbrn,hlen,gB,gB0,sB,sB0,gt_at0,st_at0,gt_at,st_at,lab,laa];have okl:=ok.strips _ (AcF hml).1;refine iccH hg (hst ds _ la hml) ⟨_,_,rfl,[],rfl⟩ ?_;rintro _ _ ⟨rfl,V2,rfl⟩;refine⟨by rw[<- lab]; exact Agr.push' (by simp only[lat,hlen,lan,lbm]; omega) _,?_⟩;generalize stOf p la=sl at okl |-;simp only[stripA,strA];simp only[go_sem,Go.Av.dxn,Go.Av.dxnc,↓Go.Av.AbF,↓Go.Av.AaY,Go.Av.dbrn,hlen,gB,gB0,sB,sB0,gt_at0,st_at0,gt_at,st_at,lab,laa]
  repeat refine aqf ?_
  refine iccH hg (hdr ds _ sl.site st.site (hdm ds _ _ q6) okl.site so.site) ⟨_,_,0,ds,[],rfl,by omega,by simp[farN],rfl,?_⟩ ?_
  .rw [lbn]
   exact hdm ds _ _ q6
  rintro _ _ ⟨dv,es2,V3,rfl,dv1,dv2,rfl,q7⟩;refine⟨hag _ ds es2 _ V3 (by simp only[lat,hlen,lan,lbm]; omega),?_⟩;simp only[go_sem,Go.Av.dxn,Go.Av.dxnc,↓Go.Av.AbF,↓Go.Av.AaY,Go.Av.dbrn,hlen,gB,gB0,sB,sB0,gt_at0,st_at0,gt_at,st_at,lab,laa];refine iccH hg (hch es2 _ la sc hml hmem) ⟨_,_,0,[],rfl,by omega,by omega,rfl⟩ ?_;rintro _ _ ⟨cv,V4,rfl,c1,c2,rfl⟩;have q8:=hdm es2 _ V4 q7;refine⟨by rw[<- lab]; exact Agr.push' (by simp only[lat,hlen,lan,lbm]; omega) _,?_⟩;simp only[go_sem,Go.Av.dxn,Go.Av.dxnc,↓Go.Av.AbF,↓Go.Av.AaY,Go.Av.dbrn,hlen,gB,gB0,sB,sB0,gt_at0,st_at0,gt_at,st_at,lab,laa]
  repeat refine aqf ?_
  replace q8:=q8
  simp only[lab,lah]at q8;generalize V2++(V3++V4)=U at q8 |-;apply zgB;simp only[go_sem,hlen,gB,gB0,sB,sB0,gt_at0,st_at0,gt_at,st_at,lab,laa];refine ze (A1F dv) ?_;rintro _ ⟨b,rfl,-⟩
  cases b with
  | true =>
   apply zgB;simp only[go_sem];exact aret [4,5] rfl (.inl ⟨_,rfl⟩)
  | false =>
   have p2:=ApH L (show((L.length:Int)-1).toNat<L.length by omega);obtain⟨l1,l2⟩:=q4 _ (lae (show((L.length:Int)-1).toNat<L.length by omega));generalize L[((L.length:Int)-1).toNat]=ls at p2 l1 l2;have cm:=A3D (x:=p.rules.change) (d:=cv) (A:=240) (B:=100) (by omega) (by omega) (by omega) c1 c2;have cm0:=Int.mul_nonneg hr2.1 c1;simp only[farN]at dv2;apply zgB;simp only[go_sem,hlen,gB,gB0,sB,sB0,gt_at0,st_at0,gt_at,st_at,lab,laa];refine zr [] AaL ?_;simp only[go_sem,g3,deskB,planC,undD,tsD,p2,slotA,hlen,gB,gB0,sB,sB0,gt_at0,st_at0,gt_at,st_at,lab,laa]
   repeat refine aqf ?_
   have a3:0<=ls.till+dv+p.rules.change*cv:=by omega
   generalize ls.till+dv+p.rules.change*cv=a2 at a3 |-;obtain⟨k,y,hy,f1⟩:=AmX st.site p.crew.sites 0 so.site;have hbg:=AsQ y (ok.crew.sites.2.2.2 y hy) st.light a2 st.minutes so.light a3 so.minutes.1 so.minutes.2;simp only[siteA]at hbg f1;apply zgB;simp only[go_sem];refine AoL [12] 2 [] AaL (by decide) rfl rfl 100 ?_;simp only[go_sem,Go.Av.dxn,Go.Av.dxnc,↓Go.Av.AbF,↓Go.Av.AaY,Go.Av.dbrn,g1,g3,deskB,planC,undD,tsD,f1,hlen,gB,gB0,sB,sB0,gt_at0,st_at0,gt_at,st_at,lab,laa]
   repeat refine aqf ?_
   refine AwS hbg rfl ⟨_,0,rfl,by omega,by omega⟩ ?_;rintro _ ⟨n,rfl,n1,n2⟩;simp only[go_sem,Go.Av.dxn,Go.Av.dxnc,↓Go.Av.AbF,↓Go.Av.AaY,Go.Av.dbrn,hlen,gB,gB0,sB,sB0,gt_at0,st_at0,gt_at,st_at,lab,laa]
   repeat refine aqf ?_
   cases dn:decide (n<0)with
   | true =>
    apply zgB;simp only[go_sem,dn,hlen,gB,gB0,sB,sB0,gt_at0,st_at0,gt_at,st_at,lab,laa];exact aret [4,5] rfl (.inl ⟨_,rfl⟩)
   | false =>
    have dn':0<=n:=by simpa using dn
    have so1:=so.minutes;have hf:=hJ (L.length+1,a2,L++[⟨sc,n,n+st.minutes,dv,cv⟩],es2,V++Blk.arr 8 [.agg [.str st.scene,kI st.eighths,kI st.minutes,.str st.site,kI st.light,.bool st.outside,.fz 1 (st.people.map .str),.fz 4 (st.looks.map lookA)]]::.arr 5 [slotA ⟨sc,n,n+st.minutes,dv,cv⟩]::U) ⟨by simp only; omega,a3,by
      rw[lav,q3,lag hi,<- hsc]; rfl,fun s hs=>by
      rcases List.mem_append.1 hs with hs|hs
      .exact q4 s hs
      .rw [List.mem_singleton.1 hs]; simp only; omega,q8.mps (.pre (.pre (.con (.pre (.con (.con (fun _ _ hj=>hj) (by simp)) (by simp)) V) (by simp)) T) (tailT p))⟩ (by simp only; omega)
    apply zgB;simp only[go_sem,dn,hlen,gB,gB0,sB,sB0,gt_at0,st_at0,gt_at,st_at,lab,laa]
    repeat refine aqa ?_
    rw[show(L.length:Int)+1=((L.length+1:Nat):Int) by omega];refine ainv hf (Lg ?_ (by simp[slotA]));simp only[go_sem]
    try rfl
 have L0:L=[]:=List.length_eq_zero_iff.1 h0;have dp:decide ((L.length:Int)>0)=false:=by rw[h0]; rfl
 have q8:=hdm ds _ [Blk.arr 8 [.agg [.str st.scene,kI st.eighths,kI st.minutes,.str st.site,kI st.light,.bool st.outside,.fz 1 (st.people.map .str),.fz 4 (st.looks.map lookA)]],.arr 5 [.agg [.str sc,kI 0,kI 0,kI 0,kI 0]]] q6;simp only[lah,lab]at q8;have a3:=q2;simp only[go_sem,dp,hlen,gB,gB0,sB,sB0,gt_at0,st_at0,gt_at,st_at,lab,laa]
 repeat refine aqf ?_
 obtain⟨k,y,hy,f1⟩:=AmX st.site p.crew.sites 0 so.site;have hbg:=AsQ y (ok.crew.sites.2.2.2 y hy) st.light a st.minutes so.light a3 so.minutes.1 so.minutes.2;simp only[siteA]at hbg f1;refine AoL [12] 2 [] AaL (by decide) rfl rfl 100 ?_;simp only[go_sem,Go.Av.dxn,Go.Av.dxnc,↓Go.Av.AbF,↓Go.Av.AaY,Go.Av.dbrn,g1,g3,deskB,planC,undD,tsD,f1,hlen,gB,gB0,sB,sB0,gt_at0,st_at0,gt_at,st_at,lab,laa]
 repeat refine aqf ?_
 refine AwS hbg rfl ⟨_,0,rfl,by omega,by omega⟩ ?_;rintro _ ⟨n,rfl,n1,n2⟩;simp only[go_sem,Go.Av.dxn,Go.Av.dxnc,↓Go.Av.AbF,↓Go.Av.AaY,Go.Av.dbrn,hlen,gB,gB0,sB,sB0,gt_at0,st_at0,gt_at,st_at,lab,laa]
 repeat refine aqf ?_
 cases dn:decide (n<0)with
 | true =>
  apply zgB;simp only[go_sem,dn,hlen,gB,gB0,sB,sB0,gt_at0,st_at0,gt_at,st_at,lab,laa];exact aret [4,5] rfl (.inl ⟨_,rfl⟩)
 | false =>
  have dn':0<=n:=by simpa using dn
  have so1:=so.minutes;have hf:=hJ (L.length+1,a,L++[⟨sc,n,n+st.minutes,0,0⟩],ds,V++Blk.arr 8 [.agg [.str st.scene,kI st.eighths,kI st.minutes,.str st.site,kI st.light,.bool st.outside,.fz 1 (st.people.map .str),.fz 4 (st.looks.map lookA)]]::.arr 5 [slotA ⟨sc,n,n+st.minutes,0,0⟩]::[]) ⟨by simp only; omega,a3,by
    rw[lav,q3,lag hi,<- hsc]; rfl,fun s hs=>by
    rcases List.mem_append.1 hs with hs|hs
    .exact q4 s hs
    .rw [List.mem_singleton.1 hs]; simp only; omega,q8.mps (.pre (.pre (.con (.pre (.con (.con (fun _ _ hj=>hj) (by simp)) (by simp)) V) (by simp)) T) (tailT p))⟩ (by simp only; omega)
  apply zgB;simp only[go_sem,dn,hlen,gB,gB0,sB,sB0,gt_at0,st_at0,gt_at,st_at,lab,laa]
  repeat refine aqa ?_
  rw[show(L.length:Int)+1=((L.length+1:Nat):Int) by omega];refine ainv hf (Lg ?_ (by simp[slotA]));simp only[go_sem]
  try rfl
abbrev Rq:=Nat×List Slot
def outA(B:Nat)(R:List Rq):LA:=R.map fun q=>.sl (B+q.1) 0 q.2.length q.2.length
structure RqOk(W:LB)(R:List Rq):Prop where
 blk:∀ q∈R,1<=q.1/\W[q.1]? = some (.arr 5 (q.2.map slotA))
theorem RqOk.grow{W V:LB}{R:List Rq}(h:RqOk W R):RqOk (W++V) R:=⟨fun q hq=>by
 obtain⟨h1,h2⟩:=h.blk q hq;exact⟨h1,by rw[lao (List.getElem?_eq_some_iff.1 h2).1]; exact h2⟩⟩
theorem RqOk.put{b b':Blk}{V:LB}{R:List Rq}(h:RqOk (b::V) R):RqOk (b'::V) R:=⟨fun q hq=>by
 obtain⟨h1,h2⟩:=h.blk q hq;refine⟨h1,?_⟩;obtain⟨k,hk⟩:∃ k,q.1=k+1:=⟨q.1-1,by omega⟩;rw[hk]at h2 |-;exact h2⟩
theorem RqOk.push{W:LB}{R:List Rq}(h:RqOk W R){q:Rq}(h1:1<=q.1)(h2:W[q.1]? = some (.arr 5 (q.2.map slotA))):RqOk W (R++[q]):=⟨fun x hx=>by
 rcases List.mem_append.1 hx with hx|hx
 .exact h.blk x hx
 .rw [List.mem_singleton.1 hx]; exact⟨h1,h2⟩⟩
theorem dF_grow(p:Plan)(W V:LB)(es:List (LU×Nat)):dF p W es++V=dF p (W++V) es:=by
 rw[dF,dF,lab]
theorem AyI{S:Std}(p:Plan)(ok:PlanOk p)(l:List BDay)(okb:BoardOk p l)(B:Nat)(hB:B=6+3*p.strips.length) :
  CtH prog S 23 [.ptr 3 1 0 0,boardA l] (dkT p [] (tailT p)) (fun r s=>(∃ y,r=.tup [y,kI 11])\/∃ (R:List Rq) (es:List (LU×Nat)) (W:LB),r=.tup [.sl B 0 R.length R.length,kI 0]/\s=dF p (.arr 1 (outA B R)::W) es /\
   RqOk (.arr 1 (outA B R)::W) R/\R.map (fun q=>q.2.map (·.scene))=l.map (·.Lb)):=by
 have hlen:∀ es W,(dF p W es).length=B+W.length:=fun es W=>by rw[hB,dF_len]
 have hlen0:(dkT p [] (tailT p)).length=B:=by rw[hB,dk_len]
 have gB0:∀ es b U,(dF p (b::U) es).getD B .dead=b:=fun es b U=>by
  have e:B=(dkT p (drM es) (tailT p)).length:=by rw[dk_len,hB]
  rw[dF,e]; exact gt_at0
 have sB0:∀ es b U y,(dF p (b::U) es).set B y=dF p (y::U) es:=fun es b U y=>by
  have e:B=(dkT p (drM es) (tailT p)).length:=by rw[dk_len,hB]
  rw[dF,dF,e]; exact st_at0
 have gZ:∀ es b c J (V V2:LB),(dF p (b::(V++c::(V2++[J]))) es).getD (B+(V.length+(V2.length+1)+1)) .dead=J:=fun es b c J V V2=>by
  have e:dF p (b::(V++c::(V2++[J]))) es=dF p (b::(V++c::V2)) es++[J]:=by rw[dF_grow]; simp
  rw[e,show B+(V.length+(V2.length+1)+1)=(dF p (b::(V++c::V2)) es).length by rw[hlen]; simp];exact gt_at0
 have hdy:=fun W es hd x hx=>A6D (S:=S) p ok W es hd x (okb.days x hx).1 (okb.days x hx).2.1 (fun s hs=>okb.Lb.2 s (List.mem_flatMap.2 ⟨x,hx,hs⟩)) (by have:=(okb.days x hx).2.2.2; omega) (B+W.length) (by rw[hB])
 have hd0:DrOk p [] (tailT p++[.arr 1 (outA B [])]):=⟨.nil,by simp⟩;have e0:dkT p [] (tailT p)++[.arr 1 []]=dF p [.arr 1 (outA B [])] []:=rfl;have gE:∀ es b V U,(dF p (b::V) es++U).getD (B+(V.length+1)) .dead=U.getD 0 .dead:=fun es b V U=>by
  rw[<- lan (a:=b),<- hlen es]; exact gt_at0
 have sE:∀ es b V U y,(dF p (b::V) es++U).set (B+(V.length+1)) y=dF p (b::V) es++U.set 0 y:=fun es b V U y=>by
  rw[<- lan (a:=b),<- hlen es]; exact st_at0
 have hfew:=okb.few;simp only[boardA];refine zdIB func23 rfl fun h ρ w hg=>?_
 simp only[go_sem,laa];refine AWp.shift (Shift.nilsl 6 1 rfl) ?_;rw[hlen0,e0];refine AbP (ι:=Nat×List Rq×List (LU×Nat)×LB) (fun y=>l.length-y.1)
  (fun y=>[(14,kI y.1),(13,kI l.length),(12,.fz 2 (l.map bdayA)),(6,.sl B 0 y.2.1.length y.2.1.length),(0,.ptr 3 1 0 0)])
  (fun y=>dF p (.arr 1 (outA B y.2.1)::y.2.2.2) y.2.2.1)
  (fun y=>y.1<=l.length/\y.2.1.length=y.1/\RqOk (.arr 1 (outA B y.2.1)::y.2.2.2) y.2.1/\y.2.1.map (fun q=>q.2.map (·.scene))=(l.take y.1).map (·.Lb)/\DrOk p y.2.2.1 (tailT p++(.arr 1 (outA B y.2.1)::y.2.2.2)))
  (0,[],[],[]) ⟨by simp,rfl,⟨by simp⟩,by simp,hd0⟩ ?_ ?_
 .refine Lg ?_ rfl
  simp only[go_sem]
  try rfl
 rintro⟨i,R,es,V⟩ ⟨q1,q2,q3,q4,q5⟩ J hJ;simp only at q1 q2 q3 q4 q5 hJ |-
 rcases lau i l.length with hi|hi
 case inr =>
  have di:decide ((i:Int)<(l.length:Int))=false:=by simp; omega
  rw[laf (by omega)]at q4;apply zgB;simp only[go_sem,di];exact aret [4,5] rfl (.inr ⟨R,es,V,rfl,rfl,q3,q4⟩)
 have di:decide ((i:Int)<(l.length:Int))=true:=by simp; omega
 have p1:=AbZ l hi;have hmem:=lae hi;obtain⟨x,hx⟩:∃ x,x=l[i]:=⟨_,rfl⟩;rw[<- hx]at p1 hmem;have hc:=fun W es hd=>hdy W es hd x hmem
 simp only[bdayA,strA]at hc p1;apply zgB;simp only[go_sem,di,p1,hlen,gE,sE,laa]
 repeat refine aqf ?_
 rw[dF_grow,lah];have q6:DrOk p es (tailT p++(.arr 1 (outA B R)::(V++[.arr 2 [.agg [kI x.day,.fz 1 (x.Lb.map .str)]]]))):=by
  have:=q5.grow [.arr 2 [.agg [kI x.day,.fz 1 (x.Lb.map .str)]]];rw[lab]at this;exact this
 have q7:RqOk (.arr 1 (outA B R)::(V++[.arr 2 [.agg [kI x.day,.fz 1 (x.Lb.map .str)]]])) R:=q3.grow (V:=[_]);generalize V++[Blk.arr 2 [.agg [kI x.day,.fz 1 (x.Lb.map .str)]]]=V at q6 q7 |-;clear q3 q5;refine zaH hg (hc _ _ q6) ?_;rintro _ _ (⟨y,rfl⟩|⟨sl,es2,V2,e1,rfl,rfl,q8⟩)
 .apply zgB
  simp only[go_sem];exact aret [4,5] rfl (.inl ⟨_,rfl⟩)
 rw[dF_grow,lah];rw[lah]at q8;have e3:outA B R++[.sl (B+(V.length+1)) 0 sl.length sl.length]=outA B (R++[((V.length+1,sl):Rq)]):=by simp[outA]
 have hf:=hJ (i+1,R++[((V.length+1,sl):Rq)],es2,V++(.arr 5 (sl.map slotA)::(V2++[.arr 1 [.sl (B+(V.length+1)) 0 sl.length sl.length]]))) ⟨by simp only; omega,by simp[q2],
  ((q7.grow (V:=.arr 5 (sl.map slotA)::(V2++[.arr 1 [.sl (B+(V.length+1)) 0 sl.length sl.length]]))).push (q:=(V.length+1,sl)) (by simp) (by simp)).put,by
   rw[lav,q4,lag hi,<- hx,lav,lak,List.map_nil,lak,List.map_nil,e1],q8.mps (.pre (.con (.pre (.con (.grow _ _) (by simp)) V) (by simp)) (tailT p))⟩ (by simp only; omega)
 simp only at hf;rw[<- e3]at hf;have hR:R.length<=1000:=by omega
 have ho:(outA B R).length=R.length:=by simp[outA]
 apply zgN;simp only[go_sem,gB0,sB0,gZ,ho,dF_grow,hlen,lab,laa]
 trace_state
 repeat refine aqa ?_
 rw[ic i];refine ainv hf (Lg ?_ rfl);simp only[go_sem]
 try rfl
theorem AuP{S:Std}(hS:LibOk S)(p:Plan)(ok:PlanOk p)(l:List BDay)(okb:BoardOk p l)(B:Nat)(hB:B=6+3*p.strips.length) :
  CtH prog S 8 [.agg (planC p),boardA l] [] (fun r s=>(∃ y,r=.tup [y,kI 11])\/∃ (R:List Rq) (es:List (LU×Nat)) (W:LB),r=.tup [.sl B 0 R.length R.length,kI 0]/\s=dF p (.arr 1 (outA B R)::W) es /\
   RqOk (.arr 1 (outA B R)::W) R/\R.map (fun q=>q.2.map (·.scene))=l.map (·.Lb)):=by
 have hb:=AsO hS p ok l okb;have ht:=AyI (S:=S) p ok l okb B hB;simp only[planC,boardA]at hb ht |-;refine zdIB func8 rfl fun h ρ w hg=>?_
 simp only[go_sem];refine zaH hg (hb) ?_;rintro _ _ ⟨rfl,hs⟩;rw[hs];apply zgB;simp only[go_sem];refine zaH hg (ht) ?_;rintro _ _ (⟨y,rfl⟩|⟨R,es,W,rfl,rfl,h3,h4⟩)
 .apply zgB
  simp only[go_sem];exact aret [4,5] rfl (.inl ⟨_,rfl⟩)
 .apply zgB
  simp only[go_sem];exact aret [4,5] rfl (.inr ⟨R,es,W,rfl,rfl,h3,h4⟩)
theorem AyJ(n:Nat)(s:LB)(l:List Slot):(l.map slotA).map (borC n s)=l.map slotA:=by
 rw[List.map_map];refine lbl fun x _=>?_
 cases n <;> rfl
theorem A6E{s:LB}{id:Nat}{l:List Slot}(n:Nat)(h:s.getD id .dead=.arr 5 (l.map slotA)):bor (n+1) s (.sl id 0 l.length l.length)=.fz 5 (l.map slotA):=by
 rw[bor_sl,h];simp only[laa,lbc,lal,decide_true,Bool.and_self,lai,List.drop_zero];rw[laf (by simp),AyJ]
theorem A1K{B:Nat}{s:LB}{R:List Rq}(h:∀ q∈R,s.getD (B+q.1) .dead=.arr 5 (q.2.map slotA)):(outA B R).map (borC 1 s)=(R.map (·.2)).map fun s=>.fz 5 (s.map slotA):=by
 rw[outA,List.map_map,List.map_map];exact lbl fun q hq=>A6E 0 (h q hq)
def slotsA(Q:List (List Slot)):AV:=.fz 1 (Q.map fun s=>.fz 5 (s.map slotA))
theorem AyK{S:Std}(hS:LibOk S)(p:Plan)(ok:PlanOk p)(l:List BDay)(okb:BoardOk p l) :
  PcH prog S 8 [.agg (planC p),boardA l] (fun r=>(∃ y,r=.tup [y,kI 11])\/∃ Q:List (List Slot),r=.tup [slotsA Q,kI 0]/\Q.map (fun s=>s.map (·.scene))=l.map (·.Lb)):=by
 obtain⟨B,hB⟩:∃ B,B=6+3*p.strips.length:=⟨_,rfl⟩;refine PcH.mono (PcH.ofOwn 2 (AuP hS p ok l okb B hB)) ?_;rintro _ ⟨_,_,⟨y,rfl⟩|⟨R,es,W,rfl,rfl,h3,h4⟩,rfl⟩
 .exact .inl ⟨_,rfl⟩
 .refine .inr ⟨R.map (·.2),?_,by rw[List.map_map]; exact h4⟩
  have e:∀ s,borV 2 s (.tup [.sl B 0 R.length R.length,kI 0])=.tup [bor 2 s (.sl B 0 R.length R.length),kI 0]:=fun s=>rfl
  have hB2:(dkT p (drM es) (tailT p)).length=B:=by rw[dk_len,hB]
  have hg:∀ k,(dF p (.arr 1 (outA B R)::W) es).getD (B+k) .dead=(.arr 1 (outA B R)::W).getD k .dead:=fun k=>by
   rw[dF,<- hB2]; exact gt_at
  have hg0:(dF p (.arr 1 (outA B R)::W) es).getD B .dead=.arr 1 (outA B R):=hg 0;have hl:(outA B R).length=R.length:=by simp[outA]
  rw[e,bor_sl,hg0];simp only[hl,lbc,lal,decide_true,Bool.and_self,lai,List.drop_zero];rw[laf (by rw[hl]; exact lal _),A1K fun q hq=>by rw[hg,lam,(h3.blk q hq).2]; rfl];rfl
end Go.Proofs.YtooohdocabpblaaGreatDoor
namespace Go.Av
open RowKit
variable [Tr]
def borP(n:Nat)(s:LB):AV->AV
 | .ptr id m i off=>match s.getD id .dead with
  | .arr e l=>bif decide (m=l.length)&&decide (i<l.length) then .pin e (l.map (borC n s)) i off else .any
  | _=>.any
 | x=>borC n s x
def borF(n:Nat)(s:LB):AV->AV
 | .fn f r=>.fn f (r.map (borP n s))
 | x=>borP n s x
section
variable {h:Mem}{ρ:Own}{s:LB}{w:World}
theorem AyL(m:Mine h ρ s w)(n:Nat){v:Value}{a:AV}(r:RV h (Lf ρ s) false v a):RV (AcR w) Lf0 true v (borP n s a):=by
 cases a with
 | ptr id k i off =>
  have hl:=(AcK r).2;simp only[borP]
  cases hq:s[id]? with
  | none =>
   have hgd:s.getD id .dead=.dead:=by grind
   rw[hgd];exact .any _
  | some b =>
   have hgd:s.getD id .dead=b:=by grind
   rw[hgd]
   cases b with
   | arr e l =>
    simp only
    cases hd:decide (k=l.length)&&decide (i<l.length)with
    | false=>exact .any _
    | true =>
     simp at hd
     obtain⟨hd1,hd⟩:=hd;simp only[LfC,hq]at hl;obtain⟨_,g,tot,h1,rfl⟩:=hl.2 hd1
     rcases m.own id _ hq with⟨_,hn⟩|⟨g',tot',cur,t,h3,h4,h5,h6,h7,h8,h9,h10,h11⟩
     .grind
     .rw [h3]at h1
      simp at h1
      have hr:RL (AcR w) Lf0 true (cur.toList.take (l.length*e)) (flat (l.map (borC n s))):=by
       grind[bor_flat,bor_list,AsK]
      have:=RV.pin (fl:=true) g' 0 e (l.map (borC n s)) _ i off hr (fun x hx=>by
       grind[bor_cells]) (fun k v hk=>by
       rw[lbq]at hk
       split at hk
       .unfold AcR
        rw[h4.cell,<- lbo,lbc,hk]
        grind
       grind) (by grind)
      grind
   | _=>exact .any _
 | _=>exact A5N m n r
theorem ApI(m:Mine h ρ s w)(n:Nat):∀ {l:LA}{vs:List Value},RL h (Lf ρ s) false vs l->RL (AcR w) Lf0 true vs (l.map (borP n s))
 | [],_,r=>by cases r; exact .nil
 | a::l,_,r=>by cases r with|cons r1 r2=>exact .cons (AyL m n r1) (ApI m n r2)
theorem A6F(m:Mine h ρ s w)(n:Nat){v:Value}{a:AV}(r:RV h (Lf ρ s) false v a):RV (AcR w) Lf0 true v (borF n s a):=by
 cases a with
 | fn f l =>
  obtain⟨vs,rfl,rl⟩:=AvG r;exact .fn f vs _ (ApI m n rl)
 | _=>exact AyL m n r
theorem AjL(m:Mine h ρ s w)(n:Nat):∀ {l:LA}{vs:List Value},RL h (Lf ρ s) false vs l->RL (AcR w) Lf0 true vs (l.map (borF n s))
 | [],_,r=>by cases r; exact .nil
 | a::l,_,r=>by cases r with|cons r1 r2=>exact .cons (A6F m n r1) (AjL m n r2)
end
theorem Ct.borrowF{P:Program}{f:FuncId}{args:LA}{post:AV->Prop}(n:Nat)(s:LB)(hc:Pc P f (args.map (borF n s)) post)(hp:∀ r,post r->A8U r=true):Ct P f args s (fun r s'=>post r/\s'=s):=by
 refine⟨hc.1,fun h ρ w vs m r=>?_⟩;refine(hc.2 (AcR w) w vs AjI (AjL m n r)).mono ?_;rintro en w' ⟨v,r,h',rfl,hpo,hm',_,_,hs,rv⟩;refine⟨v,r,s,h,ρ,rfl,⟨hpo,rfl⟩,m.same hs,Later.same hs,?_⟩;have:=hp r hpo
 cases rv with
 | int k n=>exact .int k n
 | bool b=>exact .bool b
 | str s=>exact .str s
 | _=>cases this
theorem CtH.borrowF{P:Program}{g:Std}{f:FuncId}{args:LA}{post:AV->Prop}(n:Nat)(s:LB)(hc:PcH P g f (args.map (borF n s)) post)(hp:∀ r,post r->A8U r=true):CtH P g f args s (fun r s'=>post r/\s'=s):=by
 refine⟨hc.1,fun h ρ w vs hg m r=>?_⟩;refine(hc.2 (AcR w) w vs (fun k o e=>(hg k o e).1) AjI (AjL m n r)).mono ?_;rintro en w' ⟨v,r,h',rfl,hpo,hm',_,_,hs,rv⟩;refine⟨v,r,s,h,ρ,rfl,⟨hpo,rfl⟩,m.same hs,Later.same hs,?_⟩;have:=hp r hpo
 cases rv with
 | int k n=>exact .int k n
 | bool b=>exact .bool b
 | str s=>exact .str s
 | _=>cases this
