/- Draws: a story; any right script. -/
import Derived.Test.YtccfklnmolggiaaGreatDoorZ25
set_option maxRecDepth 100000
set_option maxHeartbeats 2000000
set_option linter.all false
namespace Go.Proofs.YtccfklnmolggiaaGreatDoor
open Av RowKit Proofs.Tryz
def blkS(L:List Int)(k:Int):Blk:=.arr 2 [str L k]
def blkZ:Blk:=.arr 2 [.agg [.str [],.raw (.slice none 0 0)]]
theorem AtN{S:Std}(hS:LibOk S)(L:List Int)(k:Int)(ti:LU)(x:Sc)(xs:List Sc)(hl:xs.length<=1000) :
  CtH prog S 43 [srA ⟨ti,x::xs⟩] [blkS L k,blkZ] (fun r s=>r=.agg [.str ti,.sl 4 0 (xs.length+1) (xs.length+1)] /\
   s=[blkS L k,blkZ,.arr 2 [srA ⟨ti,x::xs⟩],.arr 2 [.agg [.str ti,.sl 4 0 (xs.length+1) (xs.length+1)]],.arr 5 ((numL 0 (x::xs)).map scA),.arr 2 [.agg [.str ti,.sl 4 0 (xs.length+1) (xs.length+1)]]]):=by
 simp only[srA];refine zdIN func43 rfl fun h ρ w hg=>?_
 simp only[go_sem];refine AWp.shift (Lr 5) ?_;refine AyI [4] 4 [] AaJ (by decide) rfl rfl 100 ?_;simp only[go_sem];have hfro:(flat ((x::xs).map scA)).all Av.frozen=true:=AaT (x::xs);refine AsI (AyT x xs (by omega)) (by simp) (by simp) rfl hfro rfl ?_;simp only[go_sem];apply zgN;simp only[go_sem];refine⟨by simp,?_⟩;have hnum:∃ out,numL 0 (x::xs)=out:=⟨_,rfl⟩;obtain⟨out,hout⟩:=hnum;rw[hout];refine AaI (ι:=List Sc×List Sc) (fun y=>y.2.length)
  (fun y=>[(14,.int .i64 y.1.length),(13,.int .i64 ↑(xs.length+1)),(3,.ptr 5 1 0 0),(2,.ptr 3 1 0 0)])
  (fun y=>[blkS L k,blkZ,.arr 2 [.agg [.str ti,.fz 5 (scA x::List.map scA xs)]],.arr 2 [.agg [.str [],.raw (.slice none 0 0)]],.arr 5 (List.map scA (y.1++y.2)),.arr 2 [.agg [.str ti,.sl 4 0 (xs.length+1) (xs.length+1)]]])
  (fun y=>y.1.length+y.2.length=xs.length+1/\y.1++numL y.1.length y.2=out) ([],x::xs) ⟨by simp,hout⟩ ?_ ?_
 .refine Lo ?_
  simp only[go_sem]
 .rintro ⟨dn,rest⟩ ⟨g1,g2⟩ J hJ
  simp only at g1 g2 hJ |-
  cases rest with
  | cons y r =>
   have di:decide ((dn.length:Int)<((xs.length+1:Nat):Int))=true:=by simp at g1 |-; omega
   apply zgN;simp only[go_sem,di];refine zr [.str (Lib.itoa ((dn.length:Int)+1))] AaJ ?_;have hx:List.getD (List.map scA (dn++y::r)) dn.length .any=.agg [.str y.no,.int .i64 y.place,.str y.set,.int .i64 y.time,.fz 2 (y.Lc.map paA)]:=by simp[List.getD,scA]
   simp only[go_sem,hx];refine⟨by omega,by omega,(AjR hS _ (by omega) (by omega)).at hg,rfl,by simp at g1 |-; omega,by omega,by simp at g1 |-; omega,by omega,by simp,?_⟩;have hset:(List.map scA (dn++y::r)).set dn.length (.agg [.str (Lib.itoa ((dn.length:Int)+1)),.int .i64 y.place,.str y.set,.int .i64 y.time,.fz 2 (y.Lc.map paA)])=List.map scA ((dn++[nm dn.length y])++r):=by
    simp[nm,scA]
   rw[hset];apply zgN;simp only[go_sem];refine⟨by omega,by omega,?_⟩;rw[show(dn.length:Int)+1=((dn++[nm dn.length y]).length:Int) by simp];refine ainv (hJ (dn++[nm dn.length y],r) ⟨by simp at g1 |-; omega,by rw[<- g2]; simp[numL]⟩ (by simp)) (Lo ?_);simp only[go_sem]
  | nil =>
   simp only[lbg,numL]at g2 |-;subst g2;have hn:dn.length=xs.length+1:=by simpa using g1
   have di:decide ((dn.length:Int)<((xs.length+1:Nat):Int))=false:=by simp; omega
   apply zgN;simp only[go_sem,di];exact AbU [.cell 2 28] rfl [_] ⟨by simp only[go_sem,sideIs],trivial⟩ ⟨rfl,rfl⟩
theorem AqK(i:Nat)(hi:i<5):Lib.itoa ((i:Int)+1)=AdO (i+1):=by
 rw[AsL (by omega) (by omega)];exact(AiH i hi).2.2.2.2.2.2.2.2.symm
theorem numL_len:∀ (i:Nat)(xs:List Sc),(numL i xs).length=xs.length
 | _,[]=>rfl
 | i,x::r=>by simp[numL,numL_len (i+1) r]
theorem AqL:∀ (xs:List Sc)(i j:Nat)(h:j<xs.length),(numL i xs)[j]? = some (nm (i+j) xs[j])
 | [],i,j,h=>by simp at h
 | x::r,i,0,h=>by simp[numL]
 | x::r,i,j+1,h=>by
  simp only[numL,List.getElem?_cons_succ,List.getElem_cons_succ];rw[AqL r (i+1) j (by simpa using h)]
  congr 2
  omega
theorem set_same{α:Type}{l:List α}{i:Nat}{a:α}(h:l[i]? = some a):l.set i a=l:=by
 apply List.ext_getElem?;intro j;rw[List.getElem?_set]
 split
 .rename_i hj
  subst hj
  split
  .exact h.symm
  .rename_i hn
   rw[List.getElem?_eq_none (by omega)]at h
   cases h
 .rfl
def AnX(x:Sr):Prop:=∃ y,DrawnR y/\(x=y\/x=numR y)
theorem A6R:(TitleL.all fun t=>plainL t&&(decide (1<=t.length)&&decide (t.length<=60)))=true:=by decide +kernel
theorem A6S:(SetL.all fun t=>isSetL t&&decide (t.length<1000000))=true:=by decide +kernel
theorem AlS{x:Sc}(h:DrawnS x):SceneOk x:=by
 have:=List.all_eq_true.1 A6S x.set h.set
 simp at this
 exact⟨this.1,this.2,by have:=h.len; omega,h.run⟩
theorem BeL:∀ (l:List Sc),(∀ y∈l,y.Lc.length<=60)->paraSum l<=60*l.length
 | [],_=>by simp[paraSum]
 | x::r,h=>by
  have h1:=h x (by simp);have h2:=BeL r (fun y hy=>h y (by simp[hy]));simp only[paraSum,lah,List.sum_cons,laf]at h2 |-;omega
theorem A6T:∀ (i:Nat)(l:List Sc),paraSum (numL i l)=paraSum l
 | _,[]=>rfl
 | i,x::r=>by
  have:=A6T (i+1) r;simp only[paraSum,numL,lah,List.sum_cons,nm]at this |-;omega
theorem AzL:∀ (l:List Sc)(acc:List LU)(first:Bool),(∀ y∈l,DrawnS y)->(first=true->∀ y,l.head? = some y->y.time≠5)->AlH acc first l
 | [],_,_,_,_=>trivial
 | x::r,acc,first,h,h5=>by
  have hx:=h x (by simp);exact⟨.inl hx.no,hx.place,hx.time,fun hf=>h5 hf x rfl,AlS hx,AzL r _ false (fun y hy=>h y (by simp[hy])) (by simp)⟩
def accN(i:Nat):List LU:=(List.range i).map fun j=>AdO (j+1)
theorem A6U:∀ i,i<5->AdO (i+1) ∉ accN i/\numberL (AdO (i+1))=true/\(AdO (i+1)).length<1000000:=by
 have h:∀ i:Fin 5,AdO (i.1+1) ∉ accN i.1/\numberL (AdO (i.1+1))=true/\(AdO (i.1+1)).length<1000000:=by decide +kernel
 exact fun i hi=>h ⟨i,hi⟩
theorem BeM:∀ (l:List Sc)(i:Nat),i+l.length<=5->(∀ y∈l,DrawnS y)->(i=0->∀ y,l.head? = some y->y.time≠5)->AlH (accN i) (decide (i=0)) (numL i l)
 | [],_,_,_,_=>trivial
 | x::r,i,hl,h,h5=>by
  have hx:=h x (by simp)
  simp at hl
  have ha:=A6U i (by omega);have hn:(nm i x).no=AdO (i+1):=AqK i (by omega);have hd:dd (accN i) (nm i x).no=accN (i+1):=by
   rw[hn,dd,if_neg ha.1]
   simp[accN,List.range_succ]
  refine⟨.inr ?_,hx.place,hx.time,fun hf=>h5 (by simpa using hf) x rfl,?_,?_⟩
  .rw [hn]; exact⟨ha.2.1,ha.2.2,ha.1⟩
  .have:=AlS hx
   exact⟨this.set,this.len,this.many,this.run⟩
  .rw [hd]
   have:=BeM r (i+1) (by omega) (fun y hy=>h y (by simp[hy])) (by simp)
   simpa using this
theorem AzM{x:Sr}(h:AnX x):ScriptOk x:=by
 obtain⟨y,hy,hx⟩:=h;have ht:=List.all_eq_true.1 A6R y.Lj hy.Lj
 simp at ht
 have hl:=hy.len;have hs:=BeL y.Lb (fun z hz=>(hy.all z hz).len)
 rcases hx with rfl|rfl
 .exact ⟨ht.2,ht.1,by omega,by omega,AzL _ _ _ hy.all (fun _=>hy.first)⟩
 .refine ⟨ht.2,ht.1,by grind[numR,numL_len],by grind[numR,A6T],?_⟩
  exact BeM y.Lb 0 (by omega) hy.all (fun _=>hy.first)
def noS(w:LU):Prop:=∀ b∈w,b≠32
def nbL(l:LU):Prop:=l≠[]/\l.head?≠some 32
theorem BeN{w:LU}(h:noS w)(h0:w≠[]):nbL w:=by
 cases w with
 | nil=>grind
 | cons a r=>exact⟨by simp,by simpa using h a (by simp)⟩
theorem A6V{c:UInt8}(hc:c≠32):∀ {ws:List LU},(∀ w∈ws,noS w)->∀ w∈ApZ c ws,noS w
 | [],_,w,hw=>by
  have:w=[c]:=by grind[ApZ]
  intro b hb
  grind
 | a::r,h,w,hw=>by
  rcases(by grind[ApZ]:w=c::a\/w∈r)with rfl|hw
  .intro b hb
   rcases List.mem_cons.1 hb with rfl|hb
   .omega
   .exact h a (by simp) b hb
  grind
theorem AlT:∀ q:LU,∀ w∈splitW q,noS w
 | [],w,hw=>by
  have:w=[]:=by grind[splitW]
  intro b hb; grind
 | c::r,w,hw=>by
  simp only[splitW]at hw
  split at hw
  .rcases List.mem_cons.1 hw with rfl|hw
   .intro b hb; simp at hb
   .exact AlT r w hw
  .rename_i hc
   exact A6V (by simpa using hc) (AlT r) w hw
theorem AzN(W:Nat)(hW:0<W):∀ (n:Nat)(w:LU),w.length<=n->noS w->(∀ l∈(chop W w).1,nbL l)/\noS (chop W w).2
 | 0,w,h,hn=>by grind[chop_end]
 | n+1,w,h,hn=>by
  by_cases hc:W<w.length/\0<W
  .rw [AcR hc.1 hc.2]
   obtain⟨i1,i2⟩:=AzN W hW n (w.drop W) (by simp; omega) (fun b hb=>hn b (lbe hb));refine⟨fun l hl=>?_,i2⟩
   rcases List.mem_cons.1 hl with rfl|hl
   .refine BeN (fun b hb=>hn b (lbh hb)) fun e=>?_
    have:=congrArg List.length e;rw[List.length_take,lar]at this; omega
   .exact i1 l hl
  grind[chop]
def wInv(s:List LU×LU):Prop:=(∀ l∈s.1,nbL l)/\(s.2≠[]->nbL s.2)
theorem A6W{W:Nat}(hW:0<W){s:List LU×LU}{w:LU}(h:wInv s)(hw:noS w):wInv (wrapS W s w):=by
 unfold wrapS
 split
 .exact h
 .split
  .rename_i hc
   simp at hc
   refine⟨h.1,fun _=>?_⟩;obtain⟨h1,h2⟩:=h.2 hc.1
   cases hq:s.2 with
   | nil=>grind
   | cons a r=>exact⟨by simp,by grind⟩
  .obtain ⟨i1,i2⟩:=AzN W hW w.length w (lab _) hw
   refine⟨fun l hl=>?_,fun h0=>BeN i2 h0⟩
   rcases List.mem_append.1 hl with hl|hl
   .split at hl
    .rcases List.mem_append.1 hl with hl|hl
     .exact h.1 l hl
     .rw [List.mem_singleton.1 hl]
      exact h.2 (by grind)
    .exact h.1 l hl
   grind
theorem AhJ{α β:Type}{f:α->β->α}{P:α->Prop}{Q:β->Prop}(hf:∀ s x,P s->Q x->P (f s x)):∀ (l:List β)(s:α),P s->(∀ x∈l,Q x)->P (l.foldl f s)
 | [],s,h,_=>h
 | x::r,s,h,hq=>AhJ hf r (f s x) (hf s x h (hq x (by simp))) (fun y hy=>hq y (by grind))
theorem AqM{W:Nat}(hW:0<W)(t:LU):∀ l∈wrapL W t,nbL l:=by
 have h:wInv (wrapF W t):=AhJ (Q:=noS) (fun s x h1 h2=>A6W hW h1 h2) _ _ ⟨by simp,by simp⟩ (AlT t);intro l hl;unfold wrapL at hl
 split at hl
 .rcases List.mem_append.1 hl with hl|hl
  .exact h.1 l hl
  .rw [List.mem_singleton.1 hl]
   exact h.2 (by grind)
 .exact h.1 l hl
theorem AtO{n:Nat}(hn:n<20){l:LU}(h:nbL l):OwnLn (indent n l):=by
 have hp:Lib.hasPrefix (indent n l) AcZ=false:=by
  cases hq:Lib.hasPrefix (indent n l) AcZ with
  | false=>rfl
  | true =>
   exfalso
   obtain⟨t,ht⟩:=List.isPrefixOf_iff_prefix.1 hq;have hb:AcZ=Lib.repeatL [32] n++Lib.repeatL [32] (20-n):=by
    have:∀ k:Fin 20,AcZ=Lib.repeatL [32] k.1++Lib.repeatL [32] (20-k.1):=by decide +kernel
    exact this ⟨n,hn⟩
   rw[hb,indent,lae]at ht;have ht:=List.append_cancel_left ht;have h0:Lib.repeatL [32] (20-n)=32::(Lib.repeatL [32] (20-n)).tail:=by
    have:∀ k:Fin 20,Lib.repeatL [32] (20-k.1)=32::(Lib.repeatL [32] (20-k.1)).tail:=by decide +kernel
    exact this ⟨n,hn⟩
   rw[h0]at ht;rw[<- ht]at h;exact h.2 rfl
 refine⟨fun e=>?_,by grind⟩;rw[e]at hp
 revert hp
 decide +kernel
theorem BeO{l:LU}(h:nbL l):OwnLn l:=by
 have:=AtO (n:=0) (by omega) h;have e:indent 0 l=l:=rfl
 grind
def ownLnB(l:LU):Bool:=l != AbX&&!(Lib.hasSuffix l A1R&&Lib.hasPrefix l AcZ)
theorem ownLnB_ok{l:LU}(h:ownLnB l=true):OwnLn l:=by
 simp only[ownLnB,lac,bne_iff_ne,ne_eq,lbr]at h;exact⟨h.1,h.2⟩
theorem BhH:(NameL.all fun t=>ownLnB (indent 20 t))=true:=by decide +kernel
theorem BcE:(TurnL.all fun t=>ownLnB (turnLine t))=true:=by decide +kernel
structure BlOk(b:Bl):Prop where
 own:∀ l∈b.La,OwnLn l
 kinds:b.kind=3->b.kinds.length=b.La.length
theorem A6X{b:Bl}(h:BlOk b)(kd:Int){n:Nat}(hn:n<20){ls:List LU}(hl:∀ l∈ls,nbL l):BlOk (addB b kd n ls):=by
 refine⟨fun l hq=>?_,fun hk=>?_⟩
 .rcases List.mem_append.1 hq with hq|hq
  .exact h.own l hq
  grind[AtO]
 .simp only [addB,lak,lbz,laa]at hk |-
  rw[h.kinds hk]
def A6Y(p:Pa):Prop:=p.kind=5->p.text∈TurnL
theorem BhI{p:Pa}(h2:p.kind=2->p.text∈NameL)(h5:A6Y p)(hj:joins p=false)(hk:1<=p.kind/\p.kind<=5):BlOk (newB p):=by
 unfold newB
 split
 .exact ⟨fun l hl=>BeO (AqM (by omega) _ l hl),fun e=>by grind⟩
 .split
  .refine ⟨fun l hl=>?_,fun e=>by grind⟩
   rw[List.mem_singleton.1 hl];exact ownLnB_ok (List.all_eq_true.1 BcE _ (h5 (by grind)))
  .refine ⟨fun l hl=>?_,fun _=>rfl⟩<;>grind[joins,ownLnB_ok,BhH]
theorem BcF{b:Bl}(h:BlOk b)(p:Pa):BlOk (moreB b p):=by
 unfold moreB
 split
 .exact A6X h 1 (by omega) (AqM (by omega) _)
 .exact A6X h 2 (by omega) (AqM (by omega) _)
def bInv(s:List Bl×Bl):Prop:=(∀ b∈s.1,BlOk b)/\BlOk s.2
theorem AlU{x:Sc}(h:∀ p∈x.Lc,(p.kind=2->p.text∈NameL)/\A6Y p/\1<=p.kind/\p.kind<=5):∀ b∈blocksL x,BlOk b:=by
 have h0:BlOk ⟨0,wrapL 60 (headL x),[],[]⟩:=⟨fun l hl=>BeO (AqM (by omega) _ l hl),fun e=>by grind⟩;have hi:bInv (AeU x):=AhJ (fun s p h1 h2=>by
  unfold bstep
  split
  .exact ⟨h1.1,BcF h1.2 p⟩
  .refine ⟨fun b hb=>?_,BhI h2.1 h2.2.1 (by grind) h2.2.2⟩
   rcases List.mem_append.1 hb with hb|hb
   .exact h1.1 b hb
   .rw [List.mem_singleton.1 hb]; exact h1.2) _ _ ⟨by simp,h0⟩ h
 intro b hb
 rcases List.mem_append.1 hb with hb|hb
 .exact hi.1 b hb
 .rw [List.mem_singleton.1 hb]; exact hi.2
structure BlFit(b:Bl):Prop where
 kinds:b.kind=3->b.kinds.length=b.La.length
 len:b.La.length<=50000000
 name:b.name.length<=500000
theorem AfJ(b:Bl):∀ (n k j:Nat),firstB b n k=some j->j<k+n
 | 0,_,_,h=>by cases h
 | n+1,k,j,h=>by
  simp only[firstB]at h
  split at h
  .simp at h; omega
  .have:=AfJ b n (k+1) j h; omega
theorem least_le(b:Bl):AaH b<=b.La.length+2:=by
 unfold AaH
 split
 .omega
 .split
  .split
   .rename_i k hk
    have:=AfJ b _ _ _ hk;omega
   .omega
  .omega
theorem AzO(b:Bl)(hb:BlFit b):Pc prog 142 [blA b] (· = .int .i64 ((AaH b:Nat):Int)):=by
 have hn:=hb.len;have hbr:=fun k h1 h2=>AtM b 0 k h1 (fun h=>by rw[hb.kinds h]; exact h2) (by omega) (by omega) (by omega)
 unfold AaH;simp only[blA]at hbr |-
 cases k1:b.kind==1&&decide ((b.La.length:Int)>3)with
 | true =>
  simp only[lac]at k1;obtain⟨k1,d1⟩:=k1;refine zpIN func142 rfl fun h ρ w=>?_
  simp only[go_sem,k1,d1,laa];exact zt [2]
 | false =>
  simp only[lan,if_false];have step1:∀ (Q:Prop),((b.kind==1)=false->Q)->((b.kind==1)=true->decide ((b.La.length:Int)>3)=false->Q)->Q:=fun Q h1 h2=>by
   cases q:b.kind==1 with
   | false=>exact h1 q
   | true=>rw[q,lbn]at k1; exact h2 q k1
  cases k3:b.kind==3&&decide ((b.La.length:Int)>4)with
  | false =>
   simp only[lan,if_false];refine step1 _ (fun q1=>?_) (fun q1 q2=>?_)
   .cases q3:b.kind==3 with
    | false =>
     refine zpIN func142 rfl fun h ρ w=>?_
     simp only[go_sem,q1,q3,laa];exact zt [2]
    | true =>
     rw[q3,lbn]at k3;refine zpIN func142 rfl fun h ρ w=>?_
     simp only[go_sem,q1,q3,k3,laa];exact zt [2]
   .have q3:(b.kind==3)=false:=by
     have:b.kind=1:=by simpa using q1
     rw[this]; rfl
    refine zpIN func142 rfl fun h ρ w=>?_
    simp only[go_sem,q1,q2,q3,laa];exact zt [2]
  | true =>
   simp only[if_true];simp only[lac]at k3;obtain⟨k3,d4⟩:=k3;have q1:(b.kind==1)=false:=by
    have:b.kind=3:=by simpa using k3
    rw[this]; rfl
   have hlen:4<b.La.length:=by
    have:=of_decide_eq_true d4;omega
   generalize hX:firstB b (b.La.length-1) 1=X;refine zpIN func142 rfl fun h ρ w=>?_
   simp only[go_sem,q1,k3,d4,laa];refine AaI (ι:=Nat) (fun k=>b.La.length-k) (fun k=>[(4,.int .i64 k),(3,.int .i64 b.La.length),(1,.ptr 0 1 0 0)])
    (fun _=>[.arr 4 [.agg [.int .i64 b.kind,.fz 1 (b.La.map .str),.fz 1 (b.kinds.map (.int .i64)),.str b.name]]]) (fun k=>1<=k/\k<=b.La.length/\firstB b (b.La.length-k) k=X) 1 ⟨by omega,by omega,hX⟩ ?_ ?_
   .refine Lo ?_
    simp only[go_sem]
    first|done|simp
   .rintro k ⟨g1,g2,g3⟩ J hJ
    by_cases gk:k<b.La.length
    .have dk:decide ((k:Int)<(b.La.length:Int))=true:=by simp; omega
     rw[show b.La.length-k=(b.La.length-(k+1))+1 by omega]at g3;simp only[firstB]at g3;apply zgN;simp only[go_sem,dk];refine zpN (hbr k g1 (by omega)) ?_
     cases hq:breaksL b 0 k with
     | true =>
      rw[hq]at g3;simp only[if_true]at g3;subst g3;simp only[go_sem]
      repeat refine aqb ?_
      exact aret [2] rfl ⟨by simp[resV,Av.get],rfl⟩
     | false =>
      rw[hq]at g3;simp only[lan,if_false]at g3;simp only[go_sem]
      repeat refine aqb ?_
      rw[ic k];refine ainv (hJ (k+1) ⟨by omega,by omega,g3⟩ (by omega)) (Lo ?_);simp only[go_sem]
    .have dk:decide ((k:Int)<(b.La.length:Int))=false:=by simp; omega
     rw[show b.La.length-k=0 by omega]at g3;simp only[firstB]at g3;subst g3;apply zgN;simp only[go_sem,dk];exact zt [2]
theorem BhJ(bs:List Bl)(i:Nat)(hi:i<bs.length)(hb:∀ b∈bs,BlFit b)(hl:bs.length<=100000000):Pc prog 100 [.fz 4 (bs.map blA),.int .i64 (i:Int)] (· = .int .i64 ((AcK bs i bs[i]:Nat):Int)):=by
 have hg:List.getD (bs.map blA) i .any=.agg [.int .i64 bs[i].kind,.fz 1 (bs[i].La.map .str),.fz 1 (bs[i].kinds.map (.int .i64)),.str bs[i].name]:=by simp[List.getD,hi,blA]
 have h1:=AzO bs[i] (hb _ (lai hi));have hle:=least_le bs[i];have hfi:=(hb _ (lai hi)).len;simp only[blA]at h1;have e1:(i:Int)+1=((i+1:Nat):Int):=by omega
 unfold AcK
 cases k0:bs[i].kind==0 with
 | false =>
  simp only[lan,if_false,Nat.add_zero];refine zpIN func100 rfl fun h ρ w=>?_
  simp only[go_sem,hg,laa]
  repeat refine aqb ?_
  refine zpN (h1) ?_;simp only[go_sem,hg,k0,laa]
  repeat refine aqb ?_
  exact zt [4]
 | true =>
  simp only[if_true]
  by_cases h2:i+1<bs.length
  .have d2:decide (((i+1:Nat):Int)<(bs.length:Int))=true:=by simp; omega
   have hg2:List.getD (bs.map blA) (i+1) .any=.agg [.int .i64 bs[i+1].kind,.fz 1 (bs[i+1].La.map .str),.fz 1 (bs[i+1].kinds.map (.int .i64)),.str bs[i+1].name]:=by simp[List.getD,h2,blA]
   have h3:=AzO bs[i+1] (hb _ (lai h2));have hle2:=least_le bs[i+1];have hfi2:=(hb _ (lai h2)).len;simp only[blA]at h3;simp only[lad h2]
   cases k2:bs[i+1].kind==0 with
   | true =>
    have k2':(bs[i+1].kind != 0)=false:=by simpa using k2
    simp only[if_true,Nat.add_zero];refine zpIN func100 rfl fun h ρ w=>?_
    simp only[go_sem,hg,laa]
    repeat refine aqb ?_
    refine zpN (h1) ?_;simp only[go_sem,hg,k0,e1,d2,hg2,k2',laa]
    repeat refine aqb ?_
    exact zt [4]
   | false =>
    have k2':(bs[i+1].kind != 0)=true:=by simpa using k2
    simp only[lan,if_false];refine zpIN func100 rfl fun h ρ w=>?_
    simp only[go_sem,hg,laa]
    repeat refine aqb ?_
    refine zpN (h1) ?_;simp only[go_sem,hg,k0,e1,d2,hg2,k2',laa]
    repeat refine aqb ?_
    refine zpN (h3) ?_;simp only[go_sem]
    repeat refine aqb ?_
    exact aret [4] rfl ⟨by simp[resV,Av.get],rfl⟩
  .have d2:decide (((i+1:Nat):Int)<(bs.length:Int))=false:=by simp; omega
   simp only[List.getElem?_eq_none (by omega:bs.length<=i+1),Nat.add_zero];refine zpIN func100 rfl fun h ρ w=>?_
   simp only[go_sem,hg,laa]
   repeat refine aqb ?_
   refine zpN (h1) ?_;simp only[go_sem,hg,k0,e1,d2,laa]
   repeat refine aqb ?_
   exact zt [4]
theorem BhK(b:Bl)(hb:BlFit b)(fr room:Nat)(hf:fr<=b.La.length)(hr:AhI b fr room)(hr2:room<=100):Pc prog 101 [blA b,.int .i64 (fr:Int),.int .i64 (room:Int)] (· = .int .i64 ((stopL b fr room:Nat):Int)):=by
 have hn:=hb.len;have hbr:=fun k h1 h2=>AtM b fr k h1 (fun h=>by rw[hb.kinds h]; exact h2) (by omega) (by omega) (by omega)
 unfold stopL;simp only[blA]at hbr |-
 by_cases h0:b.La.length-fr<=room
 .have d0:decide ((b.La.length:Int)-fr<=(room:Int))=true:=by simp; omega
  rw[if_pos h0];refine zpIN func101 rfl fun h ρ w=>?_
  simp only[go_sem,d0,laa]
  repeat refine aqb ?_
  exact zt [6]
 .have d0:decide ((b.La.length:Int)-fr<=(room:Int))=false:=by simp; omega
  rw[if_neg h0]
  cases k3:b.kind==3 with
  | true =>
   have hg:grp b=1:=by unfold grp; rw[k3]; rfl
   have hr1:2<=room:=by
    rcases hr with hr|hr
    .omega
    .rw [hg]at hr; omega
   rw[hg];have hK:(fr:Int)+room-1=((fr+room-1:Nat):Int):=by omega
   have hN:(b.La.length:Int)-1=((b.La.length-1:Nat):Int):=by omega
   generalize hKK:fr+room-1=K at hK |-;have hmin:(if((b.La.length-1:Nat):Int)<(K:Int) then((b.La.length-1:Nat):Int) else(K:Int))=((min K (b.La.length-1):Nat):Int):=by split <;> omega
   generalize hM:min K (b.La.length-1)=M at hmin |-;have hmax:(if(M:Int)<(fr:Int)+1 then(fr:Int)+1 else(M:Int))=((max M (fr+1):Nat):Int):=by split <;> omega
   generalize hX:AcD b fr M=X;refine zpIN func101 rfl fun h ρ w=>?_
   simp only[go_sem,d0,k3,hK,hN,hmin,laa]
   repeat refine aqb ?_
   refine AaI (ι:=Nat) (fun j=>j) (fun j=>[(9,.int .i64 j),(8,.int .i64 K),(7,.int .i64 b.La.length),(1,.int .i64 fr),(3,.ptr 0 1 0 0)])
    (fun _=>[.arr 4 [.agg [.int .i64 b.kind,.fz 1 (b.La.map .str),.fz 1 (b.kinds.map (.int .i64)),.str b.name]]]) (fun j=>j<=b.La.length-1/\AcD b fr j=X) M ⟨by omega,hX⟩ ?_ ?_
   .refine Lo ?_
    simp only[go_sem]
   .rintro j ⟨g2,g3⟩ J hJ
    by_cases gj:fr<j
    .have dj:decide ((j:Int)>(fr:Int))=true:=by simp; omega
     rw[show j=(j-1)+1 by omega]at g3;simp only[AcD]at g3;rw[if_pos (by omega),show j-1+1=j by omega]at g3;apply zgN;simp only[go_sem,dj];refine zpN (hbr j (by omega) (by omega)) ?_
     cases hq:breaksL b fr j with
     | true =>
      rw[hq,if_pos rfl]at g3;subst g3;simp only[go_sem];exact zt [6]
     | false =>
      rw[hq,if_neg (by simp)]at g3;simp only[go_sem]
      repeat refine aqb ?_
      rw[show(j:Int)-1=((j-1:Nat):Int) by omega];refine ainv (hJ (j-1) ⟨by omega,g3⟩ (by omega)) (Lo ?_);simp only[go_sem]
    .have dj:decide ((j:Int)>(fr:Int))=false:=by simp; omega
     have hnone:X=none:=by
      rw[<- g3]
      cases j with
      | zero=>rfl
      | succ j=>simp only[AcD]; rw[if_neg gj]
     subst hnone;apply zgN;simp only[go_sem,dj,hN,hmin,hmax]
     repeat refine aqb ?_
     exact zt [6]
  | false =>
   have hg:grp b=0:=by unfold grp; rw[k3]; rfl
   have hr1:1<=room:=by
    rcases hr with hr|hr
    .omega
    .rw [hg]at hr; omega
   rw[hg];have hK:(fr:Int)+room=((fr+room-0:Nat):Int):=by omega
   have hN:(b.La.length:Int)-1=((b.La.length-1:Nat):Int):=by omega
   generalize hKK:fr+room-0=K at hK |-;have hmin:(if((b.La.length-1:Nat):Int)<(K:Int) then((b.La.length-1:Nat):Int) else(K:Int))=((min K (b.La.length-1):Nat):Int):=by split <;> omega
   generalize hM:min K (b.La.length-1)=M at hmin |-;have hmax:(if(M:Int)<(fr:Int)+1 then(fr:Int)+1 else(M:Int))=((max M (fr+1):Nat):Int):=by split <;> omega
   generalize hX:AcD b fr M=X;refine zpIN func101 rfl fun h ρ w=>?_
   simp only[go_sem,d0,k3,hK,hN,hmin,laa]
   repeat refine aqb ?_
   refine AaI (ι:=Nat) (fun j=>j) (fun j=>[(9,.int .i64 j),(8,.int .i64 K),(7,.int .i64 b.La.length),(1,.int .i64 fr),(3,.ptr 0 1 0 0)])
    (fun _=>[.arr 4 [.agg [.int .i64 b.kind,.fz 1 (b.La.map .str),.fz 1 (b.kinds.map (.int .i64)),.str b.name]]]) (fun j=>j<=b.La.length-1/\AcD b fr j=X) M ⟨by omega,hX⟩ ?_ ?_
   .refine Lo ?_
    simp only[go_sem]
   .rintro j ⟨g2,g3⟩ J hJ
    by_cases gj:fr<j
    .have dj:decide ((j:Int)>(fr:Int))=true:=by simp; omega
     rw[show j=(j-1)+1 by omega]at g3;simp only[AcD]at g3;rw[if_pos (by omega),show j-1+1=j by omega]at g3;apply zgN;simp only[go_sem,dj];refine zpN (hbr j (by omega) (by omega)) ?_
     cases hq:breaksL b fr j with
     | true =>
      rw[hq,if_pos rfl]at g3;subst g3;simp only[go_sem];exact zt [6]
     | false =>
      rw[hq,if_neg (by simp)]at g3;simp only[go_sem]
      repeat refine aqb ?_
      rw[show(j:Int)-1=((j-1:Nat):Int) by omega];refine ainv (hJ (j-1) ⟨by omega,g3⟩ (by omega)) (Lo ?_);simp only[go_sem]
    .have dj:decide ((j:Int)>(fr:Int))=false:=by simp; omega
     have hnone:X=none:=by
      rw[<- g3]
      cases j with
      | zero=>rfl
      | succ j=>simp only[AcD]; rw[if_neg gj]
     subst hnone;apply zgN;simp only[go_sem,dj,hN,hmin,hmax]
     repeat refine aqb ?_
     exact zt [6]
end Go.Proofs.YtccfklnmolggiaaGreatDoor
namespace Go.Av
open RowKit
variable [Tr]
theorem acut{c:Cx}{x:It}{B:Code}{k:List It}{e:Env}{s:LB}{ι:Type}(E:ι->Env)(S:ι->LB)(H:ι->Prop)
  (h1:∀ J:Act->World->Prop,(∀ y,H y->∀ a w,Sim c (E y) (S y) a w->J a w)->AWp c (x::.inv J::k) e s)
  (h2:∀ y,H y->AWp c (.code B::k) (E y) (S y)):AWp c (x::.code B::k) e s:=by
 intro a w hs;have h:=h1 (fun a w=>B.wp c.P (WQ c k) a w) (fun y hy a w hs=>h2 y hy a w hs) a w hs;have e1:WQ c (.inv (fun a w=>B.wp c.P (WQ c k) a w)::k)=WQ c (.code B::k):=by
  funext en a w
  cases en <;> rfl
 have e2:WQ c (x::.inv (fun a w=>B.wp c.P (WQ c k) a w)::k)=WQ c (x::.code B::k):=by
  funext en a w
  cases en <;> simp only[WQ,e1]
 rw[e2]at h;exact h
end Go.Av
namespace Go.Proofs.YtccfklnmolggiaaGreatDoor
open Av RowKit
def pgA(p:List Ln):AV:=.fz 1 (p.map .str)
theorem AdE(l:List Ln):(flat (l.map AV.str)).all Av.frozen=true:=by
 induction l with
 | nil=>rfl
 | cons y l ih=>simpa[flat,cellsOf,Av.frozen]using ih
theorem AqN{α:Type}{id es:Nat}{l:LY}{f:α->AV}(h:∀ x,frzC id es l (f x)=f x)(xs:List α):(xs.map f).map (frzC id es l)=xs.map f:=by
 rw[List.map_map]; exact lcc fun x _=>h x
theorem AcT{α:Type}{σ:List Nat}{f:α->AV}(h:∀ x,renC σ (f x)=f x)(xs:List α):(xs.map f).map (renC σ)=xs.map f:=by
 rw[List.map_map]; exact lcc fun x _=>h x
theorem BcG{bs:List Bl}{i:Nat}{b:Bl}{M:Nat}(h:∀ d∈bs,d.La.length<=M):AcK bs i b<=b.La.length+M+5:=by
 grind[least_le,AcK]
theorem BcH{bs:List Bl}{i:Nat}{b:Bl}{s:LS}{w:List Ln}(h:PInv s w):PInv (turnS bs i b s) w/\((turnS bs i b s).Lh=[]\/(turnS bs i b s).Lh.length+gapN b+AcK bs i b<=54):=by
 have hn:∀ s:LS,addS s []=s:=fun s=>by simp[addS]
 unfold turnS
 split
 .have k:=AfI h (.inl rfl) (by grind) (by simpa using h.len)
  rw[hn]at k;exact⟨k,.inl rfl⟩
 grind
theorem A6Z(bs:List Bl)(i:Nat)(b:Bl)(s:LS):(turnS bs i b s).Lg.length<=s.Lg.length+1/\((turnS bs i b s).Ld.length=(turnS bs i b s).Lg.length ↔ s.Ld.length=s.Lg.length)/\(turnS bs i b s).Lk=s.Lk:=by
 grind[turnS,flushS]
theorem A1T{b:Bl}(ho:∀ x∈b.La,OwnLn x){fr:Nat}{s:LS}{w:List Ln}(h:PInv s w)(hfr:fr<=b.La.length)(hr:AhI b fr (54-s.Lh.length))(hne:stopL b fr (54-s.Lh.length)≠b.La.length) :
  fr<stopL b fr (54-s.Lh.length)/\stopL b fr (54-s.Lh.length)<b.La.length/\(∃ w',PInv (breakS b (addS s (partL' b fr (stopL b fr (54-s.Lh.length))))) w')/\AhI b (stopL b fr (54-s.Lh.length)) (54-(breakS b (addS s (partL' b fr (stopL b fr (54-s.Lh.length))))).Lh.length):=by
 rcases AlR hr hfr with⟨h1,h2⟩|⟨h1,h2,h3⟩
 .omega
 .generalize hto:stopL b fr (54-s.Lh.length)=tz at h1 h2 h3 |-
  have hpl:=AgD b (fr:=fr) (Nat.le_of_lt h2);have ho':∀ x∈partL' b fr tz,OwnLn x:=fun x hx=>ho x (lbh (lbe hx))
  have k1:=AqI h ho' (by grind);have k2:=AtK (b:=b) k1 (by grind[addS]) (by grind[addS]);refine⟨h1,h2,⟨_,k2⟩,?_⟩
  right
  grind[break_page,grp]
def costTo(bs:List Bl)(i:Nat):Nat:=((bs.take i).map fun b=>b.La.length+1).sum
theorem AlV{bs:List Bl}{i:Nat}(h:i<bs.length):costTo bs (i+1)=costTo bs i+(bs[i].La.length+1):=by
 grind[costTo,lal]
theorem AgT(bs:List Bl){i:Nat}(h:i<=bs.length):costTo bs i<=costTo bs bs.length:=by
 grind[costTo,List.take_append_drop]
end Go.Proofs.YtccfklnmolggiaaGreatDoor
namespace Go.Av
open RowKit
variable [Tr]
theorem AlW{n:Nat}{v:AV}(h:lowC n v=true):lowC (n+1) v=true:=by
 cases v <;> simp only[lowC,lao]at h |- <;> first|omega|exact h
theorem A7A{n:Nat}{v:AV}(h:lowV n v=true):lowV (n+1) v=true:=by
 cases v<;>grind[lowV,AlW]
theorem A7B{n:Nat}{b:Blk}(h:lowB n b=true):lowB (n+1) b=true:=by
 cases b with
 | arr e l=>simp only[lowB,lbv]at h |-; exact fun x hx=>AlW (h x hx)
 | mp es=>simp only[lowB,lbv]at h |-; exact fun x hx=>A7A (h x hx)
 | it m n' s=>simp only[lowB,lao]at h |-; omega
 | dead=>rfl
theorem gd_end(T:LB)(y d:Blk):(T++[y]).getD T.length d=y:=by simp[List.getD]
theorem st_end(T:LB)(x y:Blk):(T++[x]).set T.length y=T++[y]:=by simp
theorem AbC{T:LB}{k:Nat}{b:Blk}(h:T[k]? = some b):T.getD k .dead=b:=by
 rw[lbk,h]; rfl
theorem gt_at{T U:LB}{c:Nat}{d:Blk}:(T++U).getD (T.length+c) d=U.getD c d:=by
 rw[lbk,lbk,lay (by omega),Nat.add_sub_cancel_left]
theorem gt_at0{T U:LB}{d:Blk}:(T++U).getD T.length d=U.getD 0 d:=gt_at (c:=0)
theorem st_at{T U:LB}{c:Nat}{b:Blk}:(T++U).set (T.length+c) b=T++U.set c b:=by
 rw[List.set_append,if_neg (by omega),Nat.add_sub_cancel_left]
theorem st_at0{T U:LB}{b:Blk}:(T++U).set T.length b=T++U.set 0 b:=st_at (c:=0)
theorem AcB{T:LB}{k:Nat}{b:Blk}(h:T[k]? = some b)(U:LB):(T++U).getD k .dead=b:=by
 rw[lbk,lat (List.getElem?_eq_some_iff.1 h).1,h]; rfl
theorem AhK{n m:Nat}(h:n<=m){b:AV}(hb:lowC n b=true):lowC m b=true:=by
 induction h<;>grind[AlW]
theorem AnY{n m:Nat}(h:n<=m){l:LY}(hb:l.all (lowC n)=true):l.all (lowC m)=true:=by grind[AhK]
theorem AdA{n m:Nat}(h:n<=m){b:Blk}(hb:lowB n b=true):lowB m b=true:=by
 induction h<;>grind[A7B]
