/- Draws: a story; any right script. -/
import Derived.Test.YtlldmgboedknfaaGreatDoorB29
set_option maxRecDepth 100000
set_option maxHeartbeats 2000000
set_option linter.unusedSimpArgs false
set_option linter.unusedVariables false
namespace Go.Proofs.YtlldmgboedknfaaGreatDoor
open Go Go.Av Go.RowKit _root_.Go.Proofs.Tryz
def blkS(L:List Int)(k:Int):Blk:=.arr 2 [str L k]
def blkZ:Blk:=.arr 2 [.agg [.str [],.raw (.slice none 0 0)]]
theorem AvM{S:Std}(hS:LibOk S)(L:List Int)(k:Int)(ti:List UInt8)(x:Sc)(xs:List Sc)(hl:xs.length<=1000) :
  CtH prog S 23 [srA ⟨ti,x::xs⟩] [blkS L k,blkZ] (fun r s=>r=.agg [.str ti,.sl 4 0 (xs.length+1) (xs.length+1)] /\
   s=[blkS L k,blkZ,.arr 2 [srA ⟨ti,x::xs⟩],.arr 2 [.agg [.str ti,.sl 4 0 (xs.length+1) (xs.length+1)]],.arr 5 ((numL 0 (x::xs)).map scA),.arr 2 [.agg [.str ti,.sl 4 0 (xs.length+1) (xs.length+1)]]]):=by
 simp only[srA];refine zdIN func23 rfl fun h ρ w hg=>?_
 simp only[go_sem];refine AWp.shift (Shift.reserve 5) ?_;refine ApI [4] 4 [] mixed (by decide) rfl rfl 100 ?_;simp only[go_sem];have hfro:(flat ((x::xs).map scA)).all Av.frozen=true:=AaD (x::xs);refine AuH (AsO x xs (by omega)) (by simp) (by simp) rfl hfro rfl ?_;simp only[go_sem];refine zgN ?_;simp only[go_sem];refine⟨by simp,?_⟩;have hnum:∃ out,numL 0 (x::xs)=out:=⟨_,rfl⟩;obtain⟨out,hout⟩:=hnum;rw[hout];refine AaL (ι:=List Sc×List Sc) (fun y=>y.2.length)
  (fun y=>[(14,.int .i64 y.1.length),(13,.int .i64 ↑(xs.length+1)),(3,.ptr 5 1 0 0),(2,.ptr 3 1 0 0)])
  (fun y=>[blkS L k,blkZ,.arr 2 [.agg [.str ti,.fz 5 (scA x::List.map scA xs)]],.arr 2 [.agg [.str [],.raw (.slice none 0 0)]],.arr 5 (List.map scA (y.1++y.2)),.arr 2 [.agg [.str ti,.sl 4 0 (xs.length+1) (xs.length+1)]]])
  (fun y=>y.1.length+y.2.length=xs.length+1/\y.1++numL y.1.length y.2=out) ([],x::xs) ⟨by simp,hout⟩ ?_ ?_
 .refine Shift.weak ?_
  simp only[go_sem]
 .rintro ⟨dn,rest⟩ ⟨g1,g2⟩ J hJ
  simp only at g1 g2 hJ |-
  cases rest with
  | cons y r =>
   have di:decide ((dn.length:Int)<((xs.length+1:Nat):Int))=true:=by simp at g1 |-; omega
   refine zgN ?_;simp only[go_sem,di];refine zr [.str (Lib.itoa ((dn.length:Int)+1))] mixed ?_;have hx:List.getD (List.map scA (dn++y::r)) dn.length .any=.agg [.str y.no,.int .i64 y.place,.str y.set,.int .i64 y.time,.fz 2 (y.paras.map paA)]:=by simp[List.getD,scA]
   simp only[go_sem,hx];refine⟨by omega,by omega,(AiD hS _ (by omega) (by omega)).at hg,rfl,by simp at g1 |-; omega,by omega,by simp at g1 |-; omega,by omega,by simp,?_⟩;have hset:(List.map scA (dn++y::r)).set dn.length (.agg [.str (Lib.itoa ((dn.length:Int)+1)),.int .i64 y.place,.str y.set,.int .i64 y.time,.fz 2 (y.paras.map paA)])=List.map scA ((dn++[nm dn.length y])++r):=by
    simp[nm,scA]
   rw[hset];refine zgN ?_;simp only[go_sem];refine⟨by omega,by omega,?_⟩;rw[show(dn.length:Int)+1=((dn++[nm dn.length y]).length:Int) by simp];refine ainv (hJ (dn++[nm dn.length y],r) ⟨by simp at g1 |-; omega,by rw[<- g2]; simp[numL]⟩ (by simp)) (Shift.weak ?_);simp only[go_sem]
  | nil =>
   simp only[List.append_nil,numL]at g2 |-;subst g2;have hn:dn.length=xs.length+1:=by simpa using g1
   have di:decide ((dn.length:Int)<((xs.length+1:Nat):Int))=false:=by simp; omega
   refine zgN ?_;simp only[go_sem,di];exact AbG [.cell 2 28] rfl [_] ⟨by simp only[go_sem,sideIs],trivial⟩ ⟨rfl,rfl⟩
theorem AsQ(i:Nat)(hi:i<5):Lib.itoa ((i:Int)+1)=AcN (i+1):=by
 rw[AiE (by omega) (by omega)];exact(AjR i hi).2.2.2.2.2.2.2.2.symm
theorem numL_len:∀ (i:Nat)(xs:List Sc),(numL i xs).length=xs.length
 | _,[]=>rfl
 | i,x::r=>by simp[numL,numL_len (i+1) r]
theorem AsR:∀ (xs:List Sc)(i j:Nat)(h:j<xs.length),(numL i xs)[j]? = some (nm (i+j) xs[j])
 | [],i,j,h=>by simp at h
 | x::r,i,0,h=>by simp[numL]
 | x::r,i,j+1,h=>by
  simp only[numL,List.getElem?_cons_succ,List.getElem_cons_succ];rw[AsR r (i+1) j (by simpa using h)]
  congr 2
  omega
theorem set_same{α:Type}{l:List α}{i:Nat}{a:α}(h:l[i]? = some a):l.set i a=l:=by
 apply List.ext_getElem?;intro j;rw[List.getElem?_set]
 split
 .rename_i hj
  subst hj
  split
  .exact h.symm
  .rename_i hn
   rw[List.getElem?_eq_none (by omega)]at h
   cases h
 .rfl
theorem A8Y{S:Std}(hS:LibOk S)(L:List Int)(k:Int)(h3:0<=k)(h4:k<=500000) :
  McH prog S 6 2 (str L k) [] (fun r s=>∃ (x:Sr) (k':Int),r=srA (numR x)/\DrawnR x/\s=str L k'/\k<=k'/\k'<=k+40000):=by
 refine zdIF func6 rfl fun h ρ w hg=>?_
 simp only[go_sem];refine zm 0 (A8C L k (by omega) (by omega)) ?_;rintro _ _ ⟨⟨ti,xs⟩,k',rfl,hx,rfl,t1,t2⟩;have hlen:xs.length<=5:=hx.len
 cases xs with
 | nil =>
  refine zgF ?_;simp only[go_sem];refine zqN hg (AvL hS ⟨ti,[]⟩ (by simp)) ?_;have e0:srA (numR ⟨ti,[]⟩)=.agg [.str ti,.fz 5 []]:=rfl;rw[e0];simp only[go_sem];refine zm 0 (AeT L k' 3 (by omega) (by omega) (by omega) (by omega)) ?_;rintro _ _ ⟨⟨b,rfl⟩,rfl⟩
  cases b with
  | true =>
   refine zgF ?_;simp only[go_sem];refine AcL (around (zgN ?_));simp only[go_sem];exact AbG [.cell 2 28] rfl [_] ⟨by simp only[go_sem,sideIs,numR,numL],trivial⟩ ⟨_,_,rfl,⟨⟨ti,[]⟩,k'+1,rfl,hx,rfl,by omega,by omega⟩,rfl,rfl⟩
  | false =>
   refine zgF ?_;simp only[go_sem];exact AbG [.cell 2 28] rfl [_] ⟨by simp only[go_sem,sideIs,numR,numL],trivial⟩ ⟨_,_,rfl,⟨⟨ti,[]⟩,k'+1,rfl,hx,rfl,by omega,by omega⟩,rfl,rfl⟩
 | cons x xs =>
  refine zgF ?_;simp only[go_sem];refine zaH hg (AvM hS L k' ti x xs (by simp at hlen; omega)) ?_;rintro _ _ ⟨rfl,rfl⟩;refine zgF ?_;simp only[go_sem,blkS,blkZ];refine zm 0 (AeT L k' 3 (by omega) (by omega) (by omega) (by omega)) ?_;rintro _ _ ⟨⟨b,rfl⟩,rfl⟩;have htake:List.take (xs.length+1) (List.map scA (numL 0 (x::xs)))=List.map scA (numL 0 (x::xs)):=List.take_of_length_le (by simp[numL_len]);have hl5:xs.length+1<=5:=by simpa using hlen
  cases b with
  | false =>
   refine AWp.shift (Shift.frz 4 rfl (AaD _)) ?_;simp only[Go.Av.put,srA,↓AeV,↓AhL,frzE,frz,frz1,frzC,frzB,List.map_cons,List.map_nil,List.set_cons_succ,List.set_cons_zero,Nat.reduceBEq,cond_true,cond_false,Bool.false_and,Bool.true_and,List.length_map,Nat.zero_add,numL_len,List.length_cons,decide_true,Nat.le_refl,List.drop_zero];simp only[htake];refine zgF ?_;simp only[go_sem];exact AbG [.cell 2 28] rfl [_] ⟨by simp only[go_sem,sideIs,numR],trivial⟩ ⟨_,_,rfl,⟨⟨ti,x::xs⟩,k'+1,rfl,hx,rfl,by omega,by omega⟩,rfl,rfl⟩
  | true =>
   refine zgF ?_;simp only[go_sem];refine⟨by simp[numL_len],?_⟩;refine AaL (ι:=Nat×Int) (fun y=>5-y.1)
    (fun y=>[(14,.int .i64 y.1),(13,.int .i64 ↑(xs.length+1)),(4,.str (AcN y.1)),(3,.ptr 6 1 0 0),(2,.ptr 1 1 0 0),(0,.ptr 0 1 0 0)])
    (fun y=>[.arr 2 [str L y.2],.arr 2 [.agg [.str [],.raw (.slice none 0 0)]],.arr 2 [srA ⟨ti,x::xs⟩],.arr 2 [.agg [.str ti,.sl 4 0 (xs.length+1) (xs.length+1)]],.arr 5 (List.map scA (numL 0 (x::xs))),.arr 2 [.agg [.str ti,.sl 4 0 (xs.length+1) (xs.length+1)]],.arr 2 [.agg [.str ti,.sl 4 0 (xs.length+1) (xs.length+1)]]])
    (fun y=>y.1<=xs.length+1/\k<=y.2/\y.2<=k+30001+y.1) (0,k'+1) ⟨by simp,by simp only; omega,by simp only; omega⟩ ?_ ?_
   .refine Shift.weak ?_
    simp only[go_sem,AcN]
   .rintro ⟨i,k2⟩ ⟨g1,g2,g3⟩ J hJ
    simp only at g1 g2 g3 hJ |-
    by_cases gi:i<xs.length+1
    .have di:decide ((i:Int)<((xs.length+1:Nat):Int))=true:=by simp; omega
     have hlast:(AcN (i+1)==[])=false:=by
      have:=AjR i (by omega);rw[this.2.2.2.2.2.2.2.2]; exact this.2.2.2.2.2.2.2.1
     refine zgF ?_;simp only[go_sem,di];refine zm 0 (AkG L k2 [[],[],[57]] (by decide) (by decide) (by omega) (by omega)) ?_;rintro _ _ ⟨⟨z,hz,rfl⟩,rfl⟩;have hzz:z=[]\/z=[57]:=by simpa using hz
     refine zgF ?_;simp only[go_sem];refine zqF hg (AsP hS i (by omega) z hzz) ?_;have hi:i<(x::xs).length:=by simpa using gi
     have hget:(List.map scA (numL 0 (x::xs)))[i]? = some (.agg [.str (AcN (i+1)),.int .i64 (x::xs)[i].place,.str (x::xs)[i].set,.int .i64 (x::xs)[i].time,.fz 2 ((x::xs)[i].paras.map paA)]):=by
      rw[List.getElem?_map,AsR _ _ _ hi];simp only[Option.map_some,nm,scA,Nat.zero_add,AsQ i (by omega)]
     have hgd:List.getD (List.map scA (numL 0 (x::xs))) i .any=.agg [.str (AcN (i+1)),.int .i64 (x::xs)[i].place,.str (x::xs)[i].set,.int .i64 (x::xs)[i].time,.fz 2 ((x::xs)[i].paras.map paA)]:=by
      rw[List.getD_eq_getElem?_getD,hget]; rfl
     simp only[go_sem,hlast,hgd];have hset:=set_same hget;refine⟨by simp[numL_len],by omega,by omega,Nat.le_refl _,by simp[numL_len]; omega,by omega,by omega,?_⟩;rw[hset,show(i:Int)+1=((i+1:Nat):Int) by omega];refine ainv (hJ (i+1,k2+1) ⟨by simp only; omega,by simp only; omega,by simp only; omega⟩ (by simp only; omega)) (Shift.weak ?_);simp only[go_sem]
    .have di:decide ((i:Int)<((xs.length+1:Nat):Int))=false:=by simp; omega
     refine AWp.shift (Shift.frz 4 rfl (AaD _)) ?_;simp only[Go.Av.put,srA,↓AeV,↓AhL,frzE,frz,frz1,frzC,frzB,List.map_cons,List.map_nil,List.set_cons_succ,List.set_cons_zero,Nat.reduceBEq,cond_true,cond_false,Bool.false_and,Bool.true_and,List.length_map,Nat.zero_add,numL_len,List.length_cons,decide_true,Nat.le_refl,List.drop_zero];simp only[htake];refine zgF ?_;simp only[go_sem,di];exact AbG [.cell 2 28] rfl [_] ⟨by simp only[go_sem,sideIs,numR],trivial⟩ ⟨_,_,rfl,⟨⟨ti,x::xs⟩,k2,rfl,hx,rfl,by omega,by omega⟩,rfl,rfl⟩
def BlT(x:Sr):Prop:=∃ y,DrawnR y/\(x=y\/x=numR y)
theorem A8Z:(TitleL.all fun t=>plainL t&&(decide (1<=t.length)&&decide (t.length<=60)))=true:=by decide +kernel
theorem A9A:(SetL.all fun t=>isSetL t&&decide (t.length<1000000))=true:=by decide +kernel
theorem AnE{x:Sc}(h:DrawnS x):SceneOk x:=by
 have:=List.all_eq_true.1 A9A x.set h.set;simp only[Bool.and_eq_true,decide_eq_true_eq]at this;exact⟨this.1,this.2,by have:=h.len; omega,h.run⟩
theorem A1P:∀ (l:List Sc),(∀ y∈l,y.paras.length<=60)->paraSum l<=60*l.length
 | [],_=>by simp[paraSum]
 | x::r,h=>by
  have h1:=h x (by simp);have h2:=A1P r (fun y hy=>h y (by simp[hy]));simp only[paraSum,List.map_cons,List.sum_cons,List.length_cons]at h2 |-;omega
theorem A9B:∀ (i:Nat)(l:List Sc),paraSum (numL i l)=paraSum l
 | _,[]=>rfl
 | i,x::r=>by
  have:=A9B (i+1) r;simp only[paraSum,numL,List.map_cons,List.sum_cons,nm]at this |-;omega
theorem A1Q:∀ (l:List Sc)(acc:List (List UInt8))(first:Bool),(∀ y∈l,DrawnS y)->(first=true->∀ y,l.head? = some y->y.time≠5)->AmV acc first l
 | [],_,_,_,_=>trivial
 | x::r,acc,first,h,h5=>by
  have hx:=h x (by simp);exact⟨.inl hx.no,hx.place,hx.time,fun hf=>h5 hf x rfl,AnE hx,A1Q r _ false (fun y hy=>h y (by simp[hy])) (by simp)⟩
def accN(i:Nat):List (List UInt8):=(List.range i).map fun j=>AcN (j+1)
theorem AyP:∀ i,i<5->AcN (i+1) ∉ accN i/\numberL (AcN (i+1))=true/\(AcN (i+1)).length<1000000:=by
 have h:∀ i:Fin 5,AcN (i.1+1) ∉ accN i.1/\numberL (AcN (i.1+1))=true/\(AcN (i.1+1)).length<1000000:=by decide +kernel
 exact fun i hi=>h ⟨i,hi⟩
theorem BgE:∀ (l:List Sc)(i:Nat),i+l.length<=5->(∀ y∈l,DrawnS y)->(i=0->∀ y,l.head? = some y->y.time≠5)->AmV (accN i) (decide (i=0)) (numL i l)
 | [],_,_,_,_=>trivial
 | x::r,i,hl,h,h5=>by
  have hx:=h x (by simp);simp only[List.length_cons]at hl;have ha:=AyP i (by omega);have hn:(nm i x).no=AcN (i+1):=AsQ i (by omega);have hd:dd (accN i) (nm i x).no=accN (i+1):=by
   rw[hn,dd,if_neg ha.1]
   simp[accN,List.range_succ]
  refine⟨.inr ?_,hx.place,hx.time,fun hf=>h5 (by simpa using hf) x rfl,?_,?_⟩
  .rw [hn]; exact⟨ha.2.1,ha.2.2,ha.1⟩
  .have:=AnE hx
   exact⟨this.set,this.len,this.many,this.run⟩
  .rw [hd]
   have:=BgE r (i+1) (by omega) (fun y hy=>h y (by simp[hy])) (by simp)
   simpa using this
theorem BdT{x:Sr}(h:BlT x):ScriptOk x:=by
 obtain⟨y,hy,hx⟩:=h;have ht:=List.all_eq_true.1 A8Z y.title hy.title;simp only[Bool.and_eq_true,decide_eq_true_eq]at ht;have hl:=hy.len;have hs:=A1P y.scenes (fun z hz=>(hy.all z hz).len)
 rcases hx with rfl|rfl
 .exact ⟨ht.2,ht.1,by omega,by omega,A1Q _ _ _ hy.all (fun _=>hy.first)⟩
 .refine ⟨ht.2,ht.1,by simp only[numR,numL_len]; omega,by simp only[numR,A9B]; omega,?_⟩
  exact BgE y.scenes 0 (by omega) hy.all (fun _=>hy.first)
def noS(w:List UInt8):Prop:=∀ b∈w,b≠32
def nbL(l:List UInt8):Prop:=l≠[]/\l.head?≠some 32
theorem BgF{w:List UInt8}(h:noS w)(h0:w≠[]):nbL w:=by
 cases w with
 | nil=>exact(h0 rfl).elim
 | cons a r=>exact⟨by simp,by simpa using h a (by simp)⟩
theorem A9C{c:UInt8}(hc:c≠32):∀ {ws:List (List UInt8)},(∀ w∈ws,noS w)->∀ w∈consW c ws,noS w
 | [],_,w,hw=>by
  have:w=[c]:=by simpa[consW]using hw
  subst this;intro b hb;have:b=c:=by simpa using hb
  rw[this]; exact hc
 | a::r,h,w,hw=>by
  rcases(by simpa[consW]using hw:w=c::a\/w∈r)with rfl|hw
  .intro b hb
   rcases List.mem_cons.1 hb with rfl|hb
   .exact hc
   .exact h a (by simp) b hb
  .exact h w (by simp[hw])
theorem AnF:∀ q:List UInt8,∀ w∈splitW q,noS w
 | [],w,hw=>by
  have:w=[]:=by simpa[splitW]using hw
  rw[this]; intro b hb; simp at hb
 | c::r,w,hw=>by
  simp only[splitW]at hw
  split at hw
  .rcases List.mem_cons.1 hw with rfl|hw
   .intro b hb; simp at hb
   .exact AnF r w hw
  .rename_i hc
   exact A9C (by simpa using hc) (AnF r) w hw
theorem A1R(W:Nat)(hW:0<W):∀ (n:Nat)(w:List UInt8),w.length<=n->noS w->(∀ l∈(chop W w).1,nbL l)/\noS (chop W w).2
 | 0,w,h,hn=>by rw[AdR (by omega)]; exact⟨by simp,hn⟩
 | n+1,w,h,hn=>by
  by_cases hc:W<w.length/\0<W
  .rw [AeK hc.1 hc.2]
   obtain⟨i1,i2⟩:=A1R W hW n (w.drop W) (by simp; omega) (fun b hb=>hn b (List.mem_of_mem_drop hb));refine⟨fun l hl=>?_,i2⟩
   rcases List.mem_cons.1 hl with rfl|hl
   .refine BgF (fun b hb=>hn b (List.mem_of_mem_take hb)) fun e=>?_
    have:=congrArg List.length e;rw[List.length_take,List.length_nil]at this; omega
   .exact i1 l hl
  .rw [chop,dif_neg hc]
   exact⟨by simp,hn⟩
def wInv(s:List (List UInt8)×List UInt8):Prop:=(∀ l∈s.1,nbL l)/\(s.2≠[]->nbL s.2)
theorem A9D{W:Nat}(hW:0<W){s:List (List UInt8)×List UInt8}{w:List UInt8}(h:wInv s)(hw:noS w):wInv (wrapS W s w):=by
 unfold wrapS
 split
 .exact h
 .rename_i hw0
  split
  .rename_i hc
   simp only[Bool.and_eq_true,bne_iff_ne,ne_eq]at hc;refine⟨h.1,fun _=>?_⟩;obtain⟨h1,h2⟩:=h.2 hc.1;simp only at h2 |-
   cases hq:s.2 with
   | nil=>exact(hc.1 hq).elim
   | cons a r=>rw[hq]at h2; exact⟨by simp,by simpa using h2⟩
  .obtain ⟨i1,i2⟩:=A1R W hW w.length w (Nat.le_refl _) hw
   refine⟨fun l hl=>?_,fun h0=>BgF i2 h0⟩;simp only at hl
   rcases List.mem_append.1 hl with hl|hl
   .split at hl
    .rename_i h0
     rcases List.mem_append.1 hl with hl|hl
     .exact h.1 l hl
     .rw [List.mem_singleton.1 hl]
      exact h.2 (by simpa using h0)
    .exact h.1 l hl
   .exact i1 l hl
theorem AiN{α β:Type}{f:α->β->α}{P:α->Prop}{Q:β->Prop}(hf:∀ s x,P s->Q x->P (f s x)):∀ (l:List β)(s:α),P s->(∀ x∈l,Q x)->P (l.foldl f s)
 | [],s,h,_=>h
 | x::r,s,h,hq=>AiN hf r (f s x) (hf s x h (hq x (by simp))) (fun y hy=>hq y (by simp[hy]))
theorem AnG{W:Nat}(hW:0<W)(t:List UInt8):∀ l∈AbE W t,nbL l:=by
 have h:wInv (wrapF W t):=AiN (P:=wInv) (Q:=noS) (fun s x h1 h2=>A9D hW h1 h2) _ _ ⟨by simp,by simp⟩ (AnF t);intro l hl;unfold AbE at hl
 split at hl
 .rename_i h0
  rcases List.mem_append.1 hl with hl|hl
  .exact h.1 l hl
  .rw [List.mem_singleton.1 hl]
   exact h.2 (by simpa using h0)
 .exact h.1 l hl
theorem AvN{n:Nat}(hn:n<20){l:List UInt8}(h:nbL l):OwnLn (indent n l):=by
 have hp:Lib.hasPrefix (indent n l) AdA=false:=by
  cases hq:Lib.hasPrefix (indent n l) AdA with
  | false=>rfl
  | true =>
   exfalso
   obtain⟨t,ht⟩:=List.isPrefixOf_iff_prefix.1 hq;have hb:AdA=Lib.repeatL [32] n++Lib.repeatL [32] (20-n):=by
    have:∀ k:Fin 20,AdA=Lib.repeatL [32] k.1++Lib.repeatL [32] (20-k.1):=by decide +kernel
    exact this ⟨n,hn⟩
   rw[hb,indent,List.append_assoc]at ht;have ht:=List.append_cancel_left ht;have h0:Lib.repeatL [32] (20-n)=32::(Lib.repeatL [32] (20-n)).tail:=by
    have:∀ k:Fin 20,Lib.repeatL [32] (20-k.1)=32::(Lib.repeatL [32] (20-k.1)).tail:=by decide +kernel
    exact this ⟨n,hn⟩
   rw[h0]at ht;rw[<- ht]at h;exact h.2 rfl
 refine⟨fun e=>?_,by rw[hp,Bool.and_false]⟩;rw[e]at hp
 revert hp
 decide +kernel
theorem A9E{l:List UInt8}(h:nbL l):OwnLn l:=by
 have:=AvN (n:=0) (by omega) h;have e:indent 0 l=l:=rfl
 rwa [e]at this
def ownLnB(l:List UInt8):Bool:=l != AcG&&!(Lib.hasSuffix l AiL&&Lib.hasPrefix l AdA)
theorem AvO{l:List UInt8}(h:ownLnB l=true):OwnLn l:=by
 simp only[ownLnB,Bool.and_eq_true,bne_iff_ne,ne_eq,Bool.not_eq_true']at h;exact⟨h.1,h.2⟩
theorem BjF:(NameL.all fun t=>ownLnB (indent 20 t))=true:=by decide +kernel
theorem BdU:(TurnL.all fun t=>ownLnB (turnLine t))=true:=by decide +kernel
structure BlOk(b:Bl):Prop where
 own:∀ l∈b.lines,OwnLn l
 kinds:b.kind=3->b.kinds.length=b.lines.length
theorem A9F{b:Bl}(h:BlOk b)(kd:Int){n:Nat}(hn:n<20){ls:List (List UInt8)}(hl:∀ l∈ls,nbL l):BlOk (addB b kd n ls):=by
 refine⟨fun l hq=>?_,fun hk=>?_⟩
 .simp only [addB]at hq
  rcases List.mem_append.1 hq with hq|hq
  .exact h.own l hq
  .obtain ⟨m,hm,rfl⟩:=List.mem_map.1 hq
   exact AvN hn (hl m hm)
 .simp only [addB,List.length_append,List.length_replicate,List.length_map]at hk |-
  rw[h.kinds hk]
def A9G(p:Pa):Prop:=p.kind=5->p.text∈TurnL
theorem BjG{p:Pa}(h2:p.kind=2->p.text∈NameL)(h5:A9G p)(hj:joins p=false)(hk:1<=p.kind/\p.kind<=5):BlOk (newB p):=by
 unfold newB
 split
 .exact ⟨fun l hl=>A9E (AnG (by omega) _ l hl),fun e=>by simp at e⟩
 .rename_i h1
  split
  .rename_i h5'
   refine⟨fun l hl=>?_,fun e=>by simp at e⟩;rw[List.mem_singleton.1 hl];exact AvO (List.all_eq_true.1 BdU _ (h5 (by simpa using h5')))
  .rename_i h5'
   refine⟨fun l hl=>?_,fun _=>rfl⟩;rw[List.mem_singleton.1 hl];have hk2:p.kind=2:=by
    simp only[joins,Bool.or_eq_false_iff,beq_eq_false_iff_ne]at hj
    simp at h1 h5'
    omega
   exact AvO (List.all_eq_true.1 BjF _ (h2 hk2))
theorem BdV{b:Bl}(h:BlOk b)(p:Pa):BlOk (moreB b p):=by
 unfold moreB
 split
 .exact A9F h 1 (by omega) (AnG (by omega) _)
 .exact A9F h 2 (by omega) (AnG (by omega) _)
def bInv(s:List Bl×Bl):Prop:=(∀ b∈s.1,BlOk b)/\BlOk s.2
theorem A9H{x:Sc}(h:∀ p∈x.paras,(p.kind=2->p.text∈NameL)/\A9G p/\1<=p.kind/\p.kind<=5):∀ b∈blocksL x,BlOk b:=by
 have h0:BlOk ⟨0,AbE 60 (headL x),[],[]⟩:=⟨fun l hl=>A9E (AnG (by omega) _ l hl),fun e=>by simp at e⟩;have hi:bInv (blocksS x):=AiN (P:=bInv) (Q:=fun p=>(p.kind=2->p.text∈NameL)/\A9G p/\1<=p.kind/\p.kind<=5) (fun s p h1 h2=>by
  unfold bstep
  split
  .exact ⟨h1.1,BdV h1.2 p⟩
  .rename_i hj
   refine⟨fun b hb=>?_,BjG h2.1 h2.2.1 (by simpa using hj) h2.2.2⟩
   rcases List.mem_append.1 hb with hb|hb
   .exact h1.1 b hb
   .rw [List.mem_singleton.1 hb]; exact h1.2) _ _ ⟨by simp,h0⟩ h
 intro b hb;unfold blocksL at hb
 rcases List.mem_append.1 hb with hb|hb
 .exact hi.1 b hb
 .rw [List.mem_singleton.1 hb]; exact hi.2
theorem A4C(x:Sc):(linesL x).filter keepL=((blocksL x).flatMap fun b=>b.lines).filter keepL:=by
 unfold linesL;generalize blocksL x=bs
 induction bs with
 | nil=>rfl
 | cons b r ih =>
  have hg:(List.replicate (gapN b) ([]:List UInt8)).filter keepL=[]:=by
   rw[List.filter_eq_nil_iff];intro l hl;rw[List.eq_of_mem_replicate hl]; decide
  simp only[List.map_cons,List.flatten_cons,List.flatMap_cons,List.filter_append,ih,blockLines,hg,List.nil_append]
structure BlFit(b:Bl):Prop where
 kinds:b.kind=3->b.kinds.length=b.lines.length
 len:b.lines.length<=50000000
 name:b.name.length<=500000
theorem AvP(b:Bl):∀ (n k j:Nat),AgZ b n k=some j->j<k+n
 | 0,_,_,h=>by cases h
 | n+1,k,j,h=>by
  simp only[AgZ]at h
  split at h
  .simp at h; omega
  .have:=AvP b n (k+1) j h; omega
theorem AiO(b:Bl):AhA b<=b.lines.length+2:=by
 unfold AhA
 split
 .omega
 .split
  .split
   .rename_i k hk
    have:=AvP b _ _ _ hk;omega
   .omega
  .omega
theorem A1S(b:Bl)(hb:BlFit b):Pc prog 162 [blA b] (· = .int .i64 ((AhA b:Nat):Int)):=by
 have hn:=hb.len;have hbr:=fun k h1 h2=>AvK b 0 k h1 (fun h=>by rw[hb.kinds h]; exact h2) (by omega) (by omega) (by omega)
 unfold AhA;simp only[blA]at hbr |-
 cases k1:b.kind==1&&decide ((b.lines.length:Int)>3)with
 | true =>
  simp only[Bool.and_eq_true]at k1;obtain⟨k1,d1⟩:=k1;refine zpIN func162 rfl fun h ρ w=>?_
  simp only[go_sem,k1,d1,List.length_map];exact zt [2]
 | false =>
  simp only[Bool.false_eq_true,if_false];have step1:∀ (Q:Prop),((b.kind==1)=false->Q)->((b.kind==1)=true->decide ((b.lines.length:Int)>3)=false->Q)->Q:=fun Q h1 h2=>by
   cases q:b.kind==1 with
   | false=>exact h1 q
   | true=>rw[q,Bool.true_and]at k1; exact h2 q k1
  cases k3:b.kind==3&&decide ((b.lines.length:Int)>4)with
  | false =>
   simp only[Bool.false_eq_true,if_false];refine step1 _ (fun q1=>?_) (fun q1 q2=>?_)
   .cases q3:b.kind==3 with
    | false =>
     refine zpIN func162 rfl fun h ρ w=>?_
     simp only[go_sem,q1,q3,List.length_map];exact zt [2]
    | true =>
     rw[q3,Bool.true_and]at k3;refine zpIN func162 rfl fun h ρ w=>?_
     simp only[go_sem,q1,q3,k3,List.length_map];exact zt [2]
   .have q3:(b.kind==3)=false:=by
     have:b.kind=1:=by simpa using q1
     rw[this]; rfl
    refine zpIN func162 rfl fun h ρ w=>?_
    simp only[go_sem,q1,q2,q3,List.length_map];exact zt [2]
  | true =>
   simp only[if_true];simp only[Bool.and_eq_true]at k3;obtain⟨k3,d4⟩:=k3;have q1:(b.kind==1)=false:=by
    have:b.kind=3:=by simpa using k3
    rw[this]; rfl
   have hlen:4<b.lines.length:=by
    have:=of_decide_eq_true d4;omega
   generalize hX:AgZ b (b.lines.length-1) 1=X;refine zpIN func162 rfl fun h ρ w=>?_
   simp only[go_sem,q1,k3,d4,List.length_map];refine AaL (ι:=Nat) (fun k=>b.lines.length-k) (fun k=>[(4,.int .i64 k),(3,.int .i64 b.lines.length),(1,.ptr 0 1 0 0)])
    (fun _=>[.arr 4 [.agg [.int .i64 b.kind,.fz 1 (b.lines.map .str),.fz 1 (b.kinds.map (.int .i64)),.str b.name]]]) (fun k=>1<=k/\k<=b.lines.length/\AgZ b (b.lines.length-k) k=X) 1 ⟨by omega,by omega,hX⟩ ?_ ?_
   .refine Shift.weak ?_
    simp only[go_sem]
    first|done|simp
   .rintro k ⟨g1,g2,g3⟩ J hJ
    by_cases gk:k<b.lines.length
    .have dk:decide ((k:Int)<(b.lines.length:Int))=true:=by simp; omega
     rw[show b.lines.length-k=(b.lines.length-(k+1))+1 by omega]at g3;simp only[AgZ]at g3;refine zgN ?_;simp only[go_sem,dk];refine zpN (hbr k g1 (by omega)) ?_
     cases hq:breaksL b 0 k with
     | true =>
      rw[hq]at g3;simp only[if_true]at g3;subst g3;simp only[go_sem]
      repeat refine aqa ?_
      exact aret [2] rfl ⟨by simp[resV,Av.get],rfl⟩
     | false =>
      rw[hq]at g3;simp only[Bool.false_eq_true,if_false]at g3;simp only[go_sem]
      repeat refine aqa ?_
      rw[ic k];refine ainv (hJ (k+1) ⟨by omega,by omega,g3⟩ (by omega)) (Shift.weak ?_);simp only[go_sem]
    .have dk:decide ((k:Int)<(b.lines.length:Int))=false:=by simp; omega
     rw[show b.lines.length-k=0 by omega]at g3;simp only[AgZ]at g3;subst g3;refine zgN ?_;simp only[go_sem,dk];exact zt [2]
theorem BjH(bs:List Bl)(i:Nat)(hi:i<bs.length)(hb:∀ b∈bs,BlFit b)(hl:bs.length<=100000000):Pc prog 122 [.fz 4 (bs.map blA),.int .i64 (i:Int)] (· = .int .i64 ((AgR bs i bs[i]:Nat):Int)):=by
 have hg:List.getD (bs.map blA) i .any=.agg [.int .i64 bs[i].kind,.fz 1 (bs[i].lines.map .str),.fz 1 (bs[i].kinds.map (.int .i64)),.str bs[i].name]:=by simp[List.getD,hi,blA]
 have h1:=A1S bs[i] (hb _ (List.getElem_mem hi));have hle:=AiO bs[i];have hfi:=(hb _ (List.getElem_mem hi)).len;simp only[blA]at h1;have e1:(i:Int)+1=((i+1:Nat):Int):=by omega
 unfold AgR
 cases k0:bs[i].kind==0 with
 | false =>
  simp only[Bool.false_eq_true,if_false,Nat.add_zero];refine zpIN func122 rfl fun h ρ w=>?_
  simp only[go_sem,hg,List.length_map]
  repeat refine aqa ?_
  refine zpN (h1) ?_;simp only[go_sem,hg,k0,List.length_map]
  repeat refine aqa ?_
  exact zt [4]
 | true =>
  simp only[if_true]
  by_cases h2:i+1<bs.length
  .have d2:decide (((i+1:Nat):Int)<(bs.length:Int))=true:=by simp; omega
   have hg2:List.getD (bs.map blA) (i+1) .any=.agg [.int .i64 bs[i+1].kind,.fz 1 (bs[i+1].lines.map .str),.fz 1 (bs[i+1].kinds.map (.int .i64)),.str bs[i+1].name]:=by simp[List.getD,h2,blA]
   have h3:=A1S bs[i+1] (hb _ (List.getElem_mem h2));have hle2:=AiO bs[i+1];have hfi2:=(hb _ (List.getElem_mem h2)).len;simp only[blA]at h3;simp only[List.getElem?_eq_getElem h2]
   cases k2:bs[i+1].kind==0 with
   | true =>
    have k2':(bs[i+1].kind != 0)=false:=by simpa using k2
    simp only[if_true,Nat.add_zero];refine zpIN func122 rfl fun h ρ w=>?_
    simp only[go_sem,hg,List.length_map]
    repeat refine aqa ?_
    refine zpN (h1) ?_;simp only[go_sem,hg,k0,e1,d2,hg2,k2',List.length_map]
    repeat refine aqa ?_
    exact zt [4]
   | false =>
    have k2':(bs[i+1].kind != 0)=true:=by simpa using k2
    simp only[Bool.false_eq_true,if_false];refine zpIN func122 rfl fun h ρ w=>?_
    simp only[go_sem,hg,List.length_map]
    repeat refine aqa ?_
    refine zpN (h1) ?_;simp only[go_sem,hg,k0,e1,d2,hg2,k2',List.length_map]
    repeat refine aqa ?_
    refine zpN (h3) ?_;simp only[go_sem]
    repeat refine aqa ?_
    exact aret [4] rfl ⟨by simp[resV,Av.get],rfl⟩
  .have d2:decide (((i+1:Nat):Int)<(bs.length:Int))=false:=by simp; omega
   simp only[List.getElem?_eq_none (by omega:bs.length<=i+1),Nat.add_zero];refine zpIN func122 rfl fun h ρ w=>?_
   simp only[go_sem,hg,List.length_map]
   repeat refine aqa ?_
   refine zpN (h1) ?_;simp only[go_sem,hg,k0,e1,d2,List.length_map]
   repeat refine aqa ?_
   exact zt [4]
theorem BjI(b:Bl)(hb:BlFit b)(fr room:Nat)(hf:fr<=b.lines.length)(hr:AhB b fr room)(hr2:room<=100):Pc prog 123 [blA b,.int .i64 (fr:Int),.int .i64 (room:Int)] (· = .int .i64 ((stopL b fr room:Nat):Int)):=by
 have hn:=hb.len;have hbr:=fun k h1 h2=>AvK b fr k h1 (fun h=>by rw[hb.kinds h]; exact h2) (by omega) (by omega) (by omega)
 unfold stopL;simp only[blA]at hbr |-
 by_cases h0:b.lines.length-fr<=room
 .have d0:decide ((b.lines.length:Int)-fr<=(room:Int))=true:=by simp; omega
  rw[if_pos h0];refine zpIN func123 rfl fun h ρ w=>?_
  simp only[go_sem,d0,List.length_map]
  repeat refine aqa ?_
  exact zt [6]
 .have d0:decide ((b.lines.length:Int)-fr<=(room:Int))=false:=by simp; omega
  rw[if_neg h0]
  cases k3:b.kind==3 with
  | true =>
   have hg:grp b=1:=by unfold grp; rw[k3]; rfl
   have hr1:2<=room:=by
    rcases hr with hr|hr
    .omega
    .rw [hg]at hr; omega
   rw[hg];have hK:(fr:Int)+room-1=((fr+room-1:Nat):Int):=by omega
   have hN:(b.lines.length:Int)-1=((b.lines.length-1:Nat):Int):=by omega
   generalize hKK:fr+room-1=K at hK |-;have hmin:(if((b.lines.length-1:Nat):Int)<(K:Int) then((b.lines.length-1:Nat):Int) else(K:Int))=((min K (b.lines.length-1):Nat):Int):=by split <;> omega
   generalize hM:min K (b.lines.length-1)=M at hmin |-;have hmax:(if(M:Int)<(fr:Int)+1 then(fr:Int)+1 else(M:Int))=((max M (fr+1):Nat):Int):=by split <;> omega
   generalize hX:AfR b fr M=X;refine zpIN func123 rfl fun h ρ w=>?_
   simp only[go_sem,d0,k3,hK,hN,hmin,List.length_map]
   repeat refine aqa ?_
   refine AaL (ι:=Nat) (fun j=>j) (fun j=>[(9,.int .i64 j),(8,.int .i64 K),(7,.int .i64 b.lines.length),(1,.int .i64 fr),(3,.ptr 0 1 0 0)])
    (fun _=>[.arr 4 [.agg [.int .i64 b.kind,.fz 1 (b.lines.map .str),.fz 1 (b.kinds.map (.int .i64)),.str b.name]]]) (fun j=>j<=b.lines.length-1/\AfR b fr j=X) M ⟨by omega,hX⟩ ?_ ?_
   .refine Shift.weak ?_
    simp only[go_sem]
   .rintro j ⟨g2,g3⟩ J hJ
    by_cases gj:fr<j
    .have dj:decide ((j:Int)>(fr:Int))=true:=by simp; omega
     rw[show j=(j-1)+1 by omega]at g3;simp only[AfR]at g3;rw[if_pos (by omega),show j-1+1=j by omega]at g3;refine zgN ?_;simp only[go_sem,dj];refine zpN (hbr j (by omega) (by omega)) ?_
     cases hq:breaksL b fr j with
     | true =>
      rw[hq,if_pos rfl]at g3;subst g3;simp only[go_sem];exact zt [6]
     | false =>
      rw[hq,if_neg (by simp)]at g3;simp only[go_sem]
      repeat refine aqa ?_
      rw[show(j:Int)-1=((j-1:Nat):Int) by omega];refine ainv (hJ (j-1) ⟨by omega,g3⟩ (by omega)) (Shift.weak ?_);simp only[go_sem]
    .have dj:decide ((j:Int)>(fr:Int))=false:=by simp; omega
     have hnone:X=none:=by
      rw[<- g3]
      cases j with
      | zero=>rfl
      | succ j=>simp only[AfR]; rw[if_neg gj]
     subst hnone;refine zgN ?_;simp only[go_sem,dj,hN,hmin,hmax]
     repeat refine aqa ?_
     exact zt [6]
  | false =>
   have hg:grp b=0:=by unfold grp; rw[k3]; rfl
   have hr1:1<=room:=by
    rcases hr with hr|hr
    .omega
    .rw [hg]at hr; omega
   rw[hg];have hK:(fr:Int)+room=((fr+room-0:Nat):Int):=by omega
   have hN:(b.lines.length:Int)-1=((b.lines.length-1:Nat):Int):=by omega
   generalize hKK:fr+room-0=K at hK |-;have hmin:(if((b.lines.length-1:Nat):Int)<(K:Int) then((b.lines.length-1:Nat):Int) else(K:Int))=((min K (b.lines.length-1):Nat):Int):=by split <;> omega
   generalize hM:min K (b.lines.length-1)=M at hmin |-;have hmax:(if(M:Int)<(fr:Int)+1 then(fr:Int)+1 else(M:Int))=((max M (fr+1):Nat):Int):=by split <;> omega
   generalize hX:AfR b fr M=X;refine zpIN func123 rfl fun h ρ w=>?_
   simp only[go_sem,d0,k3,hK,hN,hmin,List.length_map]
   repeat refine aqa ?_
   refine AaL (ι:=Nat) (fun j=>j) (fun j=>[(9,.int .i64 j),(8,.int .i64 K),(7,.int .i64 b.lines.length),(1,.int .i64 fr),(3,.ptr 0 1 0 0)])
    (fun _=>[.arr 4 [.agg [.int .i64 b.kind,.fz 1 (b.lines.map .str),.fz 1 (b.kinds.map (.int .i64)),.str b.name]]]) (fun j=>j<=b.lines.length-1/\AfR b fr j=X) M ⟨by omega,hX⟩ ?_ ?_
   .refine Shift.weak ?_
    simp only[go_sem]
   .rintro j ⟨g2,g3⟩ J hJ
    by_cases gj:fr<j
    .have dj:decide ((j:Int)>(fr:Int))=true:=by simp; omega
     rw[show j=(j-1)+1 by omega]at g3;simp only[AfR]at g3;rw[if_pos (by omega),show j-1+1=j by omega]at g3;refine zgN ?_;simp only[go_sem,dj];refine zpN (hbr j (by omega) (by omega)) ?_
     cases hq:breaksL b fr j with
     | true =>
      rw[hq,if_pos rfl]at g3;subst g3;simp only[go_sem];exact zt [6]
     | false =>
      rw[hq,if_neg (by simp)]at g3;simp only[go_sem]
      repeat refine aqa ?_
      rw[show(j:Int)-1=((j-1:Nat):Int) by omega];refine ainv (hJ (j-1) ⟨by omega,g3⟩ (by omega)) (Shift.weak ?_);simp only[go_sem]
    .have dj:decide ((j:Int)>(fr:Int))=false:=by simp; omega
     have hnone:X=none:=by
      rw[<- g3]
      cases j with
      | zero=>rfl
      | succ j=>simp only[AfR]; rw[if_neg gj]
     subst hnone;refine zgN ?_;simp only[go_sem,dj,hN,hmin,hmax]
     repeat refine aqa ?_
     exact zt [6]
def pgA(p:List Ln):AV:=.fz 1 (p.map .str)
def layT(s:LS)(pg:AV)(b7:Blk)(J:List Blk):List Blk :=
 .arr 3 [.agg [.raw (.slice none 0 0),.raw (.slice none 0 0),.raw (.slice none 0 0)]]::.arr 3 [.agg [.sl 4 0 s.pages.length s.pages.length,.sl 5 0 s.firsts.length s.firsts.length,.sl 6 0 s.starts.length s.starts.length]]::.arr 1 [pg]::.arr 1 [.int .i64 s.first] ::
  .arr 1 (s.pages.map pgA)::.arr 1 (s.firsts.map (.int .i64))::.arr 1 (s.starts.map (.int .i64))::b7::J
def layS(s:LS)(J:List Blk):List Blk:=layT s (.sl 7 0 s.page.length s.page.length) (.arr 1 (s.page.map .str)) J
theorem AgN(l:List Ln):(flat (l.map AV.str)).all Av.frozen=true:=by
 induction l with
 | nil=>rfl
 | cons y l ih=>simpa[flat,cellsOf,Av.frozen]using ih
theorem AnH{α:Type}{id es:Nat}{l:List AV}{f:α->AV}(h:∀ x,frzC id es l (f x)=f x)(xs:List α):(xs.map f).map (frzC id es l)=xs.map f:=by
 rw[List.map_map]; exact List.map_congr_left fun x _=>h x
theorem AyQ{α:Type}{σ:List Nat}{f:α->AV}(h:∀ x,renC σ (f x)=f x)(xs:List α):(xs.map f).map (renC σ)=xs.map f:=by
 rw[List.map_map]; exact List.map_congr_left fun x _=>h x
theorem BdW(s:LS)(J:List Blk)(hJ:∀ l,J.map (frzB 7 1 l)=J):((layS s J).set 7 .dead).map (frzB 7 1 (s.page.map .str))=layT s (pgA s.page) .dead J:=by
 have h2:List.take s.page.length (List.map AV.str s.page)=List.map AV.str s.page:=List.take_of_length_le (by simp);simp only[layS,layT,List.set_cons_succ,List.set_cons_zero,List.map_cons,frzB,hJ,List.map_nil];rw[AnH (fun _=>rfl),AnH (fun _=>rfl),AnH (fun _=>rfl)];simp only[frzC,frz,frz1,List.map_cons,List.map_nil,List.length_map,Nat.zero_add,List.drop_zero,h2,pgA]
 simp
theorem AsS(s:LS)(J:List Blk)(hJ:∀ l,J.map (frzB 7 1 l)=J)(h1:s.pages.length<=2000000000000)(h2:s.firsts.length<=2000000000000) :
  Ct prog 120 [.ptr 1 1 0 0,.ptr 2 1 0 0,.ptr 3 1 0 0] (layS s J) (fun r st=>r=.tup []/\st=layT (flushS s) (.raw (.slice none 0 0)) .dead J):=by
 refine AaU func120 rfl ntmps120 hB120 (by simp) fun h ρ w=>?_
 refine AWp.shift (Shift.frz 7 (es:=1) (l:=s.page.map .str) rfl (AgN _)) ?_;rw[BdW s J hJ];simp only[args0,frzE,frzC,frz,frz1,layT];refine zgF ?_;simp only[go_sem,List.length_map,pgA]
 repeat refine And.intro (by first|omega|exact .inl trivial|exact .inl (.inl trivial)|rfl|(simp; done)|(simp; omega)) ?_
 exact aret [] rfl ⟨rfl,by simp[layT,flushS,pgA]⟩
