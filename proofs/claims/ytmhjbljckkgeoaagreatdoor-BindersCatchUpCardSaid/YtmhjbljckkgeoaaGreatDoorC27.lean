/- Draws: a story; any right script. -/
import Derived.Test.YtmhjbljckkgeoaaGreatDoorC26
set_option maxRecDepth 100000
set_option maxHeartbeats 2000000
set_option linter.all false
namespace Go.Proofs.YtmhjbljckkgeoaaGreatDoor
open Av RowKit Proofs.Tryz
def blkS(L:List Int)(k:Int):Blk:=.arr 2 [str L k]
def blkZ:Blk:=.arr 2 [.agg [.str [],.raw (.slice none 0 0)]]
theorem AxN{S:Std}(hS:LibOk S)(L:List Int)(k:Int)(ti:LU)(x:Sc)(xs:List Sc)(hl:xs.length<=1000) :
  CtH prog S 102 [srA ⟨ti,x::xs⟩] [blkS L k,blkZ] (fun r s=>r=.agg [.str ti,.sl 4 0 (xs.length+1) (xs.length+1)] /\
   s=[blkS L k,blkZ,.arr 2 [srA ⟨ti,x::xs⟩],.arr 2 [.agg [.str ti,.sl 4 0 (xs.length+1) (xs.length+1)]],.arr 5 ((numL 0 (x::xs)).map scA),.arr 2 [.agg [.str ti,.sl 4 0 (xs.length+1) (xs.length+1)]]]):=by
 simp only[srA];refine zdIN func102 rfl fun h ρ w hg=>?_
 simp only[go_sem];refine AWp.shift (Lr 5) ?_;refine AfW [4] 4 [] AaF (by decide) rfl rfl 100 ?_;simp only[go_sem];have hfro:(flat ((x::xs).map scA)).all Av.frozen=true:=AaG (x::xs);refine AnD (AmC x xs (by omega)) (by simp) (by simp) rfl hfro rfl ?_;simp only[go_sem];apply zgN;simp only[go_sem];refine⟨by simp,?_⟩;have hnum:∃ out,numL 0 (x::xs)=out:=⟨_,rfl⟩;obtain⟨out,hout⟩:=hnum;rw[hout];refine AaC (ι:=List Sc×List Sc) (fun y=>y.2.length)
  (fun y=>[(14,.int .i64 y.1.length),(13,.int .i64 ↑(xs.length+1)),(3,.ptr 5 1 0 0),(2,.ptr 3 1 0 0)])
  (fun y=>[blkS L k,blkZ,.arr 2 [.agg [.str ti,.fz 5 (scA x::List.map scA xs)]],.arr 2 [.agg [.str [],.raw (.slice none 0 0)]],.arr 5 (List.map scA (y.1++y.2)),.arr 2 [.agg [.str ti,.sl 4 0 (xs.length+1) (xs.length+1)]]])
  (fun y=>y.1.length+y.2.length=xs.length+1/\y.1++numL y.1.length y.2=out) ([],x::xs) ⟨by simp,hout⟩ ?_ ?_
 .refine Ls ?_
  simp only[go_sem]
 .rintro ⟨dn,rest⟩ ⟨g1,g2⟩ J hJ
  simp only at g1 g2 hJ |-
  cases rest with
  | cons y r =>
   have di:decide ((dn.length:Int)<((xs.length+1:Nat):Int))=true:=by simp at g1 |-; omega
   apply zgN;simp only[go_sem,di];refine zr [.str (Lib.itoa ((dn.length:Int)+1))] AaF ?_;have hx:List.getD (List.map scA (dn++y::r)) dn.length .any=.agg [.str y.no,.int .i64 y.place,.str y.set,.int .i64 y.time,.fz 2 (y.Ld.map paA)]:=by simp[List.getD,scA]
   simp only[go_sem,hx];refine⟨by omega,by omega,(AeN hS _ (by omega) (by omega)).at hg,rfl,by simp at g1 |-; omega,by omega,by simp at g1 |-; omega,by omega,by simp,?_⟩;have hset:(List.map scA (dn++y::r)).set dn.length (.agg [.str (Lib.itoa ((dn.length:Int)+1)),.int .i64 y.place,.str y.set,.int .i64 y.time,.fz 2 (y.Ld.map paA)])=List.map scA ((dn++[nm dn.length y])++r):=by
    simp[nm,scA]
   rw[hset];apply zgN;simp only[go_sem];refine⟨by omega,by omega,?_⟩;rw[show(dn.length:Int)+1=((dn++[nm dn.length y]).length:Int) by simp];refine ainv (hJ (dn++[nm dn.length y],r) ⟨by simp at g1 |-; omega,by rw[<- g2]; simp[numL]⟩ (by simp)) (Ls ?_);simp only[go_sem]
  | nil =>
   simp only[lbp,numL]at g2 |-;subst g2;have hn:dn.length=xs.length+1:=by simpa using g1
   have di:decide ((dn.length:Int)<((xs.length+1:Nat):Int))=false:=by simp; omega
   apply zgN;simp only[go_sem,di];exact AbF [.cell 2 30] rfl [_] ⟨by simp only[go_sem,sideIs],trivial⟩ ⟨rfl,rfl⟩
theorem AtO(i:Nat)(hi:i<5):Lib.itoa ((i:Int)+1)=AcX (i+1):=by
 rw[itoa_dig3 (by omega) (by omega)];exact(AkH i hi).2.2.2.2.2.2.2.2.symm
theorem numL_len:∀ (i:Nat)(xs:List Sc),(numL i xs).length=xs.length
 | _,[]=>rfl
 | i,x::r=>by simp[numL,numL_len (i+1) r]
theorem AtP:∀ (xs:List Sc)(i j:Nat)(h:j<xs.length),(numL i xs)[j]? = some (nm (i+j) xs[j])
 | [],i,j,h=>by simp at h
 | x::r,i,0,h=>by simp[numL]
 | x::r,i,j+1,h=>by
  simp only[numL,List.getElem?_cons_succ,List.getElem_cons_succ];rw[AtP r (i+1) j (by simpa using h)]
  congr 2
  omega
theorem set_same{α:Type}{l:List α}{i:Nat}{a:α}(h:l[i]? = some a):l.set i a=l:=by
 apply lbo;intro j;rw[List.getElem?_set]
 split
 .rename_i hj
  subst hj
  split
  .exact h.symm
  .rename_i hn
   rw[List.getElem?_eq_none (by omega)]at h
   cases h
 .rfl
theorem BdO{S:Std}(hS:LibOk S)(L:List Int)(k:Int)(h3:0<=k)(h4:k<=500000) :
  McH prog S 60 2 (str L k) [] (fun r s=>∃ (x:Sr) (k':Int),r=srA (numR x)/\DrawnR x/\s=str L k'/\k<=k'/\k'<=k+40000):=by
 refine zdIF func60 rfl fun h ρ w hg=>?_
 simp only[go_sem];refine zm 0 (BbR L k (by omega) (by omega)) ?_;rintro _ _ ⟨⟨ti,xs⟩,k',rfl,hx,rfl,t1,t2⟩;have hlen:xs.length<=5:=hx.len
 cases xs with
 | nil =>
  apply zgF;simp only[go_sem];refine zqN hg (AwJ hS ⟨ti,[]⟩ (by simp)) ?_;have e0:srA (numR ⟨ti,[]⟩)=.agg [.str ti,.fz 5 []]:=rfl;rw[e0];simp only[go_sem];refine zm 0 (AcW L k' 3 (by omega) (by omega) (by omega) (by omega)) ?_;rintro _ _ ⟨⟨b,rfl⟩,rfl⟩
  cases b with
  | true =>
   apply zgF;simp only[go_sem];refine AcE (around (zgN ?_));simp only[go_sem];exact AbF [.cell 2 30] rfl [_] ⟨by simp only[go_sem,sideIs,numR,numL],trivial⟩ ⟨_,_,rfl,⟨⟨ti,[]⟩,k'+1,rfl,hx,rfl,by omega,by omega⟩,rfl,rfl⟩
  | false =>
   apply zgF;simp only[go_sem];exact AbF [.cell 2 30] rfl [_] ⟨by simp only[go_sem,sideIs,numR,numL],trivial⟩ ⟨_,_,rfl,⟨⟨ti,[]⟩,k'+1,rfl,hx,rfl,by omega,by omega⟩,rfl,rfl⟩
 | cons x xs =>
  apply zgF;simp only[go_sem];refine zaH hg (AxN hS L k' ti x xs (by simp at hlen; omega)) ?_;rintro _ _ ⟨rfl,rfl⟩;apply zgF;simp only[go_sem,blkS,blkZ];refine zm 0 (AcW L k' 3 (by omega) (by omega) (by omega) (by omega)) ?_;rintro _ _ ⟨⟨b,rfl⟩,rfl⟩;have htake:List.take (xs.length+1) (List.map scA (numL 0 (x::xs)))=List.map scA (numL 0 (x::xs)):=lae (by simp[numL_len]);have hl5:xs.length+1<=5:=by simpa using hlen
  cases b with
  | false =>
   refine AWp.shift (Shift.frz 4 rfl (AaG _)) ?_;simp only[go_sem,srA,↓AfN,↓AhY,frzE,frz,frz1,frzC,frzB,laa,numL_len,lab];simp only[htake];apply zgF;simp only[go_sem];exact AbF [.cell 2 30] rfl [_] ⟨by simp only[go_sem,sideIs,numR],trivial⟩ ⟨_,_,rfl,⟨⟨ti,x::xs⟩,k'+1,rfl,hx,rfl,by omega,by omega⟩,rfl,rfl⟩
  | true =>
   apply zgF;simp only[go_sem];refine⟨by simp[numL_len],?_⟩;refine AaC (ι:=Nat×Int) (fun y=>5-y.1)
    (fun y=>[(14,.int .i64 y.1),(13,.int .i64 ↑(xs.length+1)),(4,.str (AcX y.1)),(3,.ptr 6 1 0 0),(2,.ptr 1 1 0 0),(0,.ptr 0 1 0 0)])
    (fun y=>[.arr 2 [str L y.2],.arr 2 [.agg [.str [],.raw (.slice none 0 0)]],.arr 2 [srA ⟨ti,x::xs⟩],.arr 2 [.agg [.str ti,.sl 4 0 (xs.length+1) (xs.length+1)]],.arr 5 (List.map scA (numL 0 (x::xs))),.arr 2 [.agg [.str ti,.sl 4 0 (xs.length+1) (xs.length+1)]],.arr 2 [.agg [.str ti,.sl 4 0 (xs.length+1) (xs.length+1)]]])
    (fun y=>y.1<=xs.length+1/\k<=y.2/\y.2<=k+30001+y.1) (0,k'+1) ⟨by simp,by simp only; omega,by simp only; omega⟩ ?_ ?_
   .refine Ls ?_
    simp only[go_sem,AcX]
   .rintro ⟨i,k2⟩ ⟨g1,g2,g3⟩ J hJ
    simp only at g1 g2 g3 hJ |-
    by_cases gi:i<xs.length+1
    .have di:decide ((i:Int)<((xs.length+1:Nat):Int))=true:=by simp; omega
     have hlast:(AcX (i+1)==[])=false:=by
      have:=AkH i (by omega);rw[this.2.2.2.2.2.2.2.2]; exact this.2.2.2.2.2.2.2.1
     apply zgF;simp only[go_sem,di];refine zm 0 (AlF L k2 [[],[],[57]] (by decide) (by decide) (by omega) (by omega)) ?_;rintro _ _ ⟨⟨z,hz,rfl⟩,rfl⟩;have hzz:z=[]\/z=[57]:=by simpa using hz
     apply zgF;simp only[go_sem];refine zqF hg (AsZ hS i (by omega) z hzz) ?_;have hi:i<(x::xs).length:=by simpa using gi
     have hget:(List.map scA (numL 0 (x::xs)))[i]? = some (.agg [.str (AcX (i+1)),.int .i64 (x::xs)[i].place,.str (x::xs)[i].set,.int .i64 (x::xs)[i].time,.fz 2 ((x::xs)[i].Ld.map paA)]):=by
      rw[lbw,AtP _ _ _ hi];simp only[Option.map_some,nm,scA,lay,AtO i (by omega)]
     have hgd:List.getD (List.map scA (numL 0 (x::xs))) i .any=.agg [.str (AcX (i+1)),.int .i64 (x::xs)[i].place,.str (x::xs)[i].set,.int .i64 (x::xs)[i].time,.fz 2 ((x::xs)[i].Ld.map paA)]:=by
      rw[lcf,hget]; rfl
     simp only[go_sem,hlast,hgd];have hset:=set_same hget;refine⟨by simp[numL_len],by omega,by omega,lab _,by simp[numL_len]; omega,by omega,by omega,?_⟩;rw[hset,show(i:Int)+1=((i+1:Nat):Int) by omega];refine ainv (hJ (i+1,k2+1) ⟨by simp only; omega,by simp only; omega,by simp only; omega⟩ (by simp only; omega)) (Ls ?_);simp only[go_sem]
    .have di:decide ((i:Int)<((xs.length+1:Nat):Int))=false:=by simp; omega
     refine AWp.shift (Shift.frz 4 rfl (AaG _)) ?_;simp only[go_sem,srA,↓AfN,↓AhY,frzE,frz,frz1,frzC,frzB,laa,numL_len,lab];simp only[htake];apply zgF;simp only[go_sem,di];exact AbF [.cell 2 30] rfl [_] ⟨by simp only[go_sem,sideIs,numR],trivial⟩ ⟨_,_,rfl,⟨⟨ti,x::xs⟩,k2,rfl,hx,rfl,by omega,by omega⟩,rfl,rfl⟩
def BwJ(x:Sr):Prop:=∃ y,DrawnR y/\(x=y\/x=numR y)
theorem BdP:(TitleL.all fun t=>plainL t&&(decide (1<=t.length)&&decide (t.length<=60)))=true:=by decide +kernel
theorem BdQ:(SetL.all fun t=>isSetL t&&decide (t.length<1000000))=true:=by decide +kernel
theorem AoA{x:Sc}(h:DrawnS x):SceneOk x:=by
 have:=List.all_eq_true.1 BdQ x.set h.set
 simp at this
 exact⟨this.1,this.2,by have:=h.len; omega,h.run⟩
theorem A5E:∀ (l:List Sc),(∀ y∈l,y.Ld.length<=60)->paraSum l<=60*l.length
 | [],_=>by simp[paraSum]
 | x::r,h=>by
  have h1:=h x (by simp);have h2:=A5E r (fun y hy=>h y (by simp[hy]));simp only[paraSum,lak,List.sum_cons,lal]at h2 |-;omega
theorem BdR:∀ (i:Nat)(l:List Sc),paraSum (numL i l)=paraSum l
 | _,[]=>rfl
 | i,x::r=>by
  have:=BdR (i+1) r;simp only[paraSum,numL,lak,List.sum_cons,nm]at this |-;omega
theorem A5F:∀ (l:List Sc)(acc:List LU)(first:Bool),(∀ y∈l,DrawnS y)->(first=true->∀ y,l.head? = some y->y.time≠5)->AqR acc first l
 | [],_,_,_,_=>trivial
 | x::r,acc,first,h,h5=>by
  have hx:=h x (by simp);exact⟨.inl hx.no,hx.place,hx.time,fun hf=>h5 hf x rfl,AoA hx,A5F r _ false (fun y hy=>h y (by simp[hy])) (by simp)⟩
def accN(i:Nat):List LU:=(List.range i).map fun j=>AcX (j+1)
theorem A1O:∀ i,i<5->AcX (i+1) ∉ accN i/\numberL (AcX (i+1))=true/\(AcX (i+1)).length<1000000:=by
 have h:∀ i:Fin 5,AcX (i.1+1) ∉ accN i.1/\numberL (AcX (i.1+1))=true/\(AcX (i.1+1)).length<1000000:=by decide +kernel
 exact fun i hi=>h ⟨i,hi⟩
theorem BpG:∀ (l:List Sc)(i:Nat),i+l.length<=5->(∀ y∈l,DrawnS y)->(i=0->∀ y,l.head? = some y->y.time≠5)->AqR (accN i) (decide (i=0)) (numL i l)
 | [],_,_,_,_=>trivial
 | x::r,i,hl,h,h5=>by
  have hx:=h x (by simp)
  simp at hl
  have ha:=A1O i (by omega);have hn:(nm i x).no=AcX (i+1):=AtO i (by omega);have hd:dd (accN i) (nm i x).no=accN (i+1):=by
   rw[hn,dd,if_neg ha.1]
   simp[accN,List.range_succ]
  refine⟨.inr ?_,hx.place,hx.time,fun hf=>h5 (by simpa using hf) x rfl,?_,?_⟩
  .rw [hn]; exact⟨ha.2.1,ha.2.2,ha.1⟩
  .have:=AoA hx
   exact⟨this.set,this.len,this.many,this.run⟩
  .rw [hd]
   have:=BpG r (i+1) (by omega) (fun y hy=>h y (by simp[hy])) (by simp)
   simpa using this
theorem BlJ{x:Sr}(h:BwJ x):ScriptOk x:=by
 obtain⟨y,hy,hx⟩:=h;have ht:=List.all_eq_true.1 BdP y.Lk hy.Lk
 simp at ht
 have hl:=hy.len;have hs:=A5E y.Lc (fun z hz=>(hy.all z hz).len)
 rcases hx with rfl|rfl
 .exact ⟨ht.2,ht.1,by omega,by omega,A5F _ _ _ hy.all (fun _=>hy.first)⟩
 .refine ⟨ht.2,ht.1,by grind[numR,numL_len],by grind[numR,BdR],?_⟩
  exact BpG y.Lc 0 (by omega) hy.all (fun _=>hy.first)
def noS(w:LU):Prop:=∀ b∈w,b≠32
def nbL(l:LU):Prop:=l≠[]/\l.head?≠some 32
theorem BpH{w:LU}(h:noS w)(h0:w≠[]):nbL w:=by
 cases w with
 | nil=>grind
 | cons a r=>exact⟨by simp,by simpa using h a (by simp)⟩
theorem BdT{c:UInt8}(hc:c≠32):∀ {ws:List LU},(∀ w∈ws,noS w)->∀ w∈consW c ws,noS w
 | [],_,w,hw=>by
  have:w=[c]:=by grind[consW]
  intro b hb
  grind
 | a::r,h,w,hw=>by
  rcases(by grind[consW]:w=c::a\/w∈r)with rfl|hw
  .intro b hb
   rcases List.mem_cons.1 hb with rfl|hb
   .omega
   .exact h a (by simp) b hb
  grind
theorem AoB:∀ q:LU,∀ w∈splitW q,noS w
 | [],w,hw=>by
  have:w=[]:=by grind[splitW]
  intro b hb; grind
 | c::r,w,hw=>by
  simp only[splitW]at hw
  split at hw
  .rcases List.mem_cons.1 hw with rfl|hw
   .intro b hb; simp at hb
   .exact AoB r w hw
  .rename_i hc
   exact BdT (by simpa using hc) (AoB r) w hw
theorem A5G(W:Nat)(hW:0<W):∀ (n:Nat)(w:LU),w.length<=n->noS w->(∀ l∈(chop W w).1,nbL l)/\noS (chop W w).2
 | 0,w,h,hn=>by grind[chop_end]
 | n+1,w,h,hn=>by
  by_cases hc:W<w.length/\0<W
  .rw [AdG hc.1 hc.2]
   obtain⟨i1,i2⟩:=A5G W hW n (w.drop W) (by simp; omega) (fun b hb=>hn b (lav hb));refine⟨fun l hl=>?_,i2⟩
   rcases List.mem_cons.1 hl with rfl|hl
   .refine BpH (fun b hb=>hn b (lat hb)) fun e=>?_
    have:=congrArg List.length e;rw[List.length_take,laq]at this; omega
   .exact i1 l hl
  grind[chop]
def wInv(s:List LU×LU):Prop:=(∀ l∈s.1,nbL l)/\(s.2≠[]->nbL s.2)
theorem BdU{W:Nat}(hW:0<W){s:List LU×LU}{w:LU}(h:wInv s)(hw:noS w):wInv (wrapS W s w):=by
 unfold wrapS
 split
 .exact h
 .split
  .rename_i hc
   simp at hc
   refine⟨h.1,fun _=>?_⟩;obtain⟨h1,h2⟩:=h.2 hc.1
   cases hq:s.2 with
   | nil=>grind
   | cons a r=>exact⟨by simp,by grind⟩
  .obtain ⟨i1,i2⟩:=A5G W hW w.length w (lab _) hw
   refine⟨fun l hl=>?_,fun h0=>BpH i2 h0⟩
   rcases List.mem_append.1 hl with hl|hl
   .split at hl
    .rcases List.mem_append.1 hl with hl|hl
     .exact h.1 l hl
     .rw [List.mem_singleton.1 hl]
      exact h.2 (by grind)
    .exact h.1 l hl
   grind
theorem AjC{α β:Type}{f:α->β->α}{P:α->Prop}{Q:β->Prop}(hf:∀ s x,P s->Q x->P (f s x)):∀ (l:List β)(s:α),P s->(∀ x∈l,Q x)->P (l.foldl f s)
 | [],s,h,_=>h
 | x::r,s,h,hq=>AjC hf r (f s x) (hf s x h (hq x (by simp))) (fun y hy=>hq y (by grind))
theorem AoC{W:Nat}(hW:0<W)(t:LU):∀ l∈wrapL W t,nbL l:=by
 have h:wInv (wrapF W t):=AjC (Q:=noS) (fun s x h1 h2=>BdU hW h1 h2) _ _ ⟨by simp,by simp⟩ (AoB t);intro l hl;unfold wrapL at hl
 split at hl
 .rcases List.mem_append.1 hl with hl|hl
  .exact h.1 l hl
  .rw [List.mem_singleton.1 hl]
   exact h.2 (by grind)
 .exact h.1 l hl
theorem AxO{n:Nat}(hn:n<20){l:LU}(h:nbL l):OwnLn (indent n l):=by
 have hp:Lib.hasPrefix (indent n l) AdP=false:=by
  cases hq:Lib.hasPrefix (indent n l) AdP with
  | false=>rfl
  | true =>
   exfalso
   obtain⟨t,ht⟩:=List.isPrefixOf_iff_prefix.1 hq;have hb:AdP=Lib.repeatL [32] n++Lib.repeatL [32] (20-n):=by
    have:∀ k:Fin 20,AdP=Lib.repeatL [32] k.1++Lib.repeatL [32] (20-k.1):=by decide +kernel
    exact this ⟨n,hn⟩
   rw[hb,indent,lca]at ht;have ht:=List.append_cancel_left ht;have h0:Lib.repeatL [32] (20-n)=32::(Lib.repeatL [32] (20-n)).tail:=by
    have:∀ k:Fin 20,Lib.repeatL [32] (20-k.1)=32::(Lib.repeatL [32] (20-k.1)).tail:=by decide +kernel
    exact this ⟨n,hn⟩
   rw[h0]at ht;rw[<- ht]at h;exact h.2 rfl
 refine⟨fun e=>?_,by grind⟩;rw[e]at hp
 revert hp
 decide +kernel
theorem BdV{l:LU}(h:nbL l):OwnLn l:=by
 have:=AxO (n:=0) (by omega) h;have e:indent 0 l=l:=rfl
 grind
def ownLnB(l:LU):Bool:=l != AbH&&!(Lib.hasSuffix l A1N&&Lib.hasPrefix l AdP)
theorem ownLnB_ok{l:LU}(h:ownLnB l=true):OwnLn l:=by
 simp only[ownLnB,lag,bne_iff_ne,ne_eq,lcb]at h;exact⟨h.1,h.2⟩
theorem BsJ:(NameL.all fun t=>ownLnB (indent 20 t))=true:=by decide +kernel
theorem BlK:(TurnL.all fun t=>ownLnB (turnLine t))=true:=by decide +kernel
structure BlOk(b:Bl):Prop where
 own:∀ l∈b.Lb,OwnLn l
 kinds:b.kind=3->b.kinds.length=b.Lb.length
theorem BdW{b:Bl}(h:BlOk b)(kd:Int){n:Nat}(hn:n<20){ls:List LU}(hl:∀ l∈ls,nbL l):BlOk (addB b kd n ls):=by
 refine⟨fun l hq=>?_,fun hk=>?_⟩
 .rcases List.mem_append.1 hq with hq|hq
  .exact h.own l hq
  grind[AxO]
 .simp only [addB,lah,lbx,laa]at hk |-
  rw[h.kinds hk]
def BpI(p:Pa):Prop:=p.kind=5->p.text∈TurnL
theorem BsK{p:Pa}(h2:p.kind=2->p.text∈NameL)(h5:BpI p)(hj:joins p=false)(hk:1<=p.kind/\p.kind<=5):BlOk (newB p):=by
 unfold newB
 split
 .exact ⟨fun l hl=>BdV (AoC (by omega) _ l hl),fun e=>by grind⟩
 .split
  .refine ⟨fun l hl=>?_,fun e=>by grind⟩
   rw[List.mem_singleton.1 hl];exact ownLnB_ok (List.all_eq_true.1 BlK _ (h5 (by grind)))
  .refine ⟨fun l hl=>?_,fun _=>rfl⟩<;>grind[joins,ownLnB_ok,BsJ]
theorem BlL{b:Bl}(h:BlOk b)(p:Pa):BlOk (moreB b p):=by
 unfold moreB
 split
 .exact BdW h 1 (by omega) (AoC (by omega) _)
 .exact BdW h 2 (by omega) (AoC (by omega) _)
def bInv(s:List Bl×Bl):Prop:=(∀ b∈s.1,BlOk b)/\BlOk s.2
theorem BdX{x:Sc}(h:∀ p∈x.Ld,(p.kind=2->p.text∈NameL)/\BpI p/\1<=p.kind/\p.kind<=5):∀ b∈blocksL x,BlOk b:=by
 have h0:BlOk ⟨0,wrapL 60 (headL x),[],[]⟩:=⟨fun l hl=>BdV (AoC (by omega) _ l hl),fun e=>by grind⟩;have hi:bInv (AfR x):=AjC (fun s p h1 h2=>by
  unfold bstep
  split
  .exact ⟨h1.1,BlL h1.2 p⟩
  .refine ⟨fun b hb=>?_,BsK h2.1 h2.2.1 (by grind) h2.2.2⟩
   rcases List.mem_append.1 hb with hb|hb
   .exact h1.1 b hb
   .rw [List.mem_singleton.1 hb]; exact h1.2) _ _ ⟨by simp,h0⟩ h
 intro b hb
 rcases List.mem_append.1 hb with hb|hb
 .exact hi.1 b hb
 .rw [List.mem_singleton.1 hb]; exact hi.2
structure BlFit(b:Bl):Prop where
 kinds:b.kind=3->b.kinds.length=b.Lb.length
 len:b.Lb.length<=50000000
 name:b.name.length<=500000
theorem AgC(b:Bl):∀ (n k j:Nat),firstB b n k=some j->j<k+n
 | 0,_,_,h=>by cases h
 | n+1,k,j,h=>by
  simp only[firstB]at h
  split at h
  .simp at h; omega
  .have:=AgC b n (k+1) j h; omega
theorem least_le(b:Bl):AaN b<=b.Lb.length+2:=by
 unfold AaN
 split
 .omega
 .split
  .split
   .rename_i k hk
    have:=AgC b _ _ _ hk;omega
   .omega
  .omega
theorem A5H(b:Bl)(hb:BlFit b):Pc prog 243 [blA b] (· = .int .i64 ((AaN b:Nat):Int)):=by
 have hn:=hb.len;have hbr:=fun k h1 h2=>AxM b 0 k h1 (fun h=>by rw[hb.kinds h]; exact h2) (by omega) (by omega) (by omega)
 unfold AaN;simp only[blA]at hbr |-
 cases k1:b.kind==1&&decide ((b.Lb.length:Int)>3)with
 | true =>
  simp only[lag]at k1;obtain⟨k1,d1⟩:=k1;refine zpIN func243 rfl fun h ρ w=>?_
  simp only[go_sem,k1,d1,laa];exact zt [2]
 | false =>
  simp only[lan,if_false];have step1:∀ (Q:Prop),((b.kind==1)=false->Q)->((b.kind==1)=true->decide ((b.Lb.length:Int)>3)=false->Q)->Q:=fun Q h1 h2=>by
   cases q:b.kind==1 with
   | false=>exact h1 q
   | true=>rw[q,laz]at k1; exact h2 q k1
  cases k3:b.kind==3&&decide ((b.Lb.length:Int)>4)with
  | false =>
   simp only[lan,if_false];refine step1 _ (fun q1=>?_) (fun q1 q2=>?_)
   .cases q3:b.kind==3 with
    | false =>
     refine zpIN func243 rfl fun h ρ w=>?_
     simp only[go_sem,q1,q3,laa];exact zt [2]
    | true =>
     rw[q3,laz]at k3;refine zpIN func243 rfl fun h ρ w=>?_
     simp only[go_sem,q1,q3,k3,laa];exact zt [2]
   .have q3:(b.kind==3)=false:=by
     have:b.kind=1:=by simpa using q1
     rw[this]; rfl
    refine zpIN func243 rfl fun h ρ w=>?_
    simp only[go_sem,q1,q2,q3,laa];exact zt [2]
  | true =>
   simp only[if_true];simp only[lag]at k3;obtain⟨k3,d4⟩:=k3;have q1:(b.kind==1)=false:=by
    have:b.kind=3:=by simpa using k3
    rw[this]; rfl
   have hlen:4<b.Lb.length:=by
    have:=of_decide_eq_true d4;omega
   generalize hX:firstB b (b.Lb.length-1) 1=X;refine zpIN func243 rfl fun h ρ w=>?_
   simp only[go_sem,q1,k3,d4,laa];refine AaC (ι:=Nat) (fun k=>b.Lb.length-k) (fun k=>[(4,.int .i64 k),(3,.int .i64 b.Lb.length),(1,.ptr 0 1 0 0)])
    (fun _=>[.arr 4 [.agg [.int .i64 b.kind,.fz 1 (b.Lb.map .str),.fz 1 (b.kinds.map (.int .i64)),.str b.name]]]) (fun k=>1<=k/\k<=b.Lb.length/\firstB b (b.Lb.length-k) k=X) 1 ⟨by omega,by omega,hX⟩ ?_ ?_
   .refine Ls ?_
    simp only[go_sem]
    first|done|simp
   .rintro k ⟨g1,g2,g3⟩ J hJ
    by_cases gk:k<b.Lb.length
    .have dk:decide ((k:Int)<(b.Lb.length:Int))=true:=by simp; omega
     rw[show b.Lb.length-k=(b.Lb.length-(k+1))+1 by omega]at g3;simp only[firstB]at g3;apply zgN;simp only[go_sem,dk];refine zpN (hbr k g1 (by omega)) ?_
     cases hq:breaksL b 0 k with
     | true =>
      rw[hq]at g3;simp only[if_true]at g3;subst g3;simp only[go_sem]
      repeat refine aqb ?_
      exact aret [2] rfl ⟨by simp[resV,Av.get],rfl⟩
     | false =>
      rw[hq]at g3;simp only[lan,if_false]at g3;simp only[go_sem]
      repeat refine aqb ?_
      rw[ic k];refine ainv (hJ (k+1) ⟨by omega,by omega,g3⟩ (by omega)) (Ls ?_);simp only[go_sem]
    .have dk:decide ((k:Int)<(b.Lb.length:Int))=false:=by simp; omega
     rw[show b.Lb.length-k=0 by omega]at g3;simp only[firstB]at g3;subst g3;apply zgN;simp only[go_sem,dk];exact zt [2]
theorem BsL(bs:List Bl)(i:Nat)(hi:i<bs.length)(hb:∀ b∈bs,BlFit b)(hl:bs.length<=100000000):Pc prog 178 [.fz 4 (bs.map blA),.int .i64 (i:Int)] (· = .int .i64 ((AbU bs i bs[i]:Nat):Int)):=by
 have hg:List.getD (bs.map blA) i .any=.agg [.int .i64 bs[i].kind,.fz 1 (bs[i].Lb.map .str),.fz 1 (bs[i].kinds.map (.int .i64)),.str bs[i].name]:=by simp[List.getD,hi,blA]
 have h1:=A5H bs[i] (hb _ (lac hi));have hle:=least_le bs[i];have hfi:=(hb _ (lac hi)).len;simp only[blA]at h1;have e1:(i:Int)+1=((i+1:Nat):Int):=by omega
 unfold AbU
 cases k0:bs[i].kind==0 with
 | false =>
  simp only[lan,if_false,Nat.add_zero];refine zpIN func178 rfl fun h ρ w=>?_
  simp only[go_sem,hg,laa]
  repeat refine aqb ?_
  refine zpN (h1) ?_;simp only[go_sem,hg,k0,laa]
  repeat refine aqb ?_
  exact zt [4]
 | true =>
  simp only[if_true]
  by_cases h2:i+1<bs.length
  .have d2:decide (((i+1:Nat):Int)<(bs.length:Int))=true:=by simp; omega
   have hg2:List.getD (bs.map blA) (i+1) .any=.agg [.int .i64 bs[i+1].kind,.fz 1 (bs[i+1].Lb.map .str),.fz 1 (bs[i+1].kinds.map (.int .i64)),.str bs[i+1].name]:=by simp[List.getD,h2,blA]
   have h3:=A5H bs[i+1] (hb _ (lac h2));have hle2:=least_le bs[i+1];have hfi2:=(hb _ (lac h2)).len;simp only[blA]at h3;simp only[lam h2]
   cases k2:bs[i+1].kind==0 with
   | true =>
    have k2':(bs[i+1].kind != 0)=false:=by simpa using k2
    simp only[if_true,Nat.add_zero];refine zpIN func178 rfl fun h ρ w=>?_
    simp only[go_sem,hg,laa]
    repeat refine aqb ?_
    refine zpN (h1) ?_;simp only[go_sem,hg,k0,e1,d2,hg2,k2',laa]
    repeat refine aqb ?_
    exact zt [4]
   | false =>
    have k2':(bs[i+1].kind != 0)=true:=by simpa using k2
    simp only[lan,if_false];refine zpIN func178 rfl fun h ρ w=>?_
    simp only[go_sem,hg,laa]
    repeat refine aqb ?_
    refine zpN (h1) ?_;simp only[go_sem,hg,k0,e1,d2,hg2,k2',laa]
    repeat refine aqb ?_
    refine zpN (h3) ?_;simp only[go_sem]
    repeat refine aqb ?_
    exact aret [4] rfl ⟨by simp[resV,Av.get],rfl⟩
  .have d2:decide (((i+1:Nat):Int)<(bs.length:Int))=false:=by simp; omega
   simp only[List.getElem?_eq_none (by omega:bs.length<=i+1),Nat.add_zero];refine zpIN func178 rfl fun h ρ w=>?_
   simp only[go_sem,hg,laa]
   repeat refine aqb ?_
   refine zpN (h1) ?_;simp only[go_sem,hg,k0,e1,d2,laa]
   repeat refine aqb ?_
   exact zt [4]
theorem BsM(b:Bl)(hb:BlFit b)(fr room:Nat)(hf:fr<=b.Lb.length)(hr:AhN b fr room)(hr2:room<=100):Pc prog 179 [blA b,.int .i64 (fr:Int),.int .i64 (room:Int)] (· = .int .i64 ((stopL b fr room:Nat):Int)):=by
 have hn:=hb.len;have hbr:=fun k h1 h2=>AxM b fr k h1 (fun h=>by rw[hb.kinds h]; exact h2) (by omega) (by omega) (by omega)
 unfold stopL;simp only[blA]at hbr |-
 by_cases h0:b.Lb.length-fr<=room
 .have d0:decide ((b.Lb.length:Int)-fr<=(room:Int))=true:=by simp; omega
  rw[if_pos h0];refine zpIN func179 rfl fun h ρ w=>?_
  simp only[go_sem,d0,laa]
  repeat refine aqb ?_
  exact zt [6]
 .have d0:decide ((b.Lb.length:Int)-fr<=(room:Int))=false:=by simp; omega
  rw[if_neg h0]
  cases k3:b.kind==3 with
  | true =>
   have hg:grp b=1:=by unfold grp; rw[k3]; rfl
   have hr1:2<=room:=by
    rcases hr with hr|hr
    .omega
    .rw [hg]at hr; omega
   rw[hg];have hK:(fr:Int)+room-1=((fr+room-1:Nat):Int):=by omega
   have hN:(b.Lb.length:Int)-1=((b.Lb.length-1:Nat):Int):=by omega
   generalize hKK:fr+room-1=K at hK |-;have hmin:(if((b.Lb.length-1:Nat):Int)<(K:Int) then((b.Lb.length-1:Nat):Int) else(K:Int))=((min K (b.Lb.length-1):Nat):Int):=by split <;> omega
   generalize hM:min K (b.Lb.length-1)=M at hmin |-;have hmax:(if(M:Int)<(fr:Int)+1 then(fr:Int)+1 else(M:Int))=((max M (fr+1):Nat):Int):=by split <;> omega
   generalize hX:AcN b fr M=X;refine zpIN func179 rfl fun h ρ w=>?_
   simp only[go_sem,d0,k3,hK,hN,hmin,laa]
   repeat refine aqb ?_
   refine AaC (ι:=Nat) (fun j=>j) (fun j=>[(9,.int .i64 j),(8,.int .i64 K),(7,.int .i64 b.Lb.length),(1,.int .i64 fr),(3,.ptr 0 1 0 0)])
    (fun _=>[.arr 4 [.agg [.int .i64 b.kind,.fz 1 (b.Lb.map .str),.fz 1 (b.kinds.map (.int .i64)),.str b.name]]]) (fun j=>j<=b.Lb.length-1/\AcN b fr j=X) M ⟨by omega,hX⟩ ?_ ?_
   .refine Ls ?_
    simp only[go_sem]
   .rintro j ⟨g2,g3⟩ J hJ
    by_cases gj:fr<j
    .have dj:decide ((j:Int)>(fr:Int))=true:=by simp; omega
     rw[show j=(j-1)+1 by omega]at g3;simp only[AcN]at g3;rw[if_pos (by omega),show j-1+1=j by omega]at g3;apply zgN;simp only[go_sem,dj];refine zpN (hbr j (by omega) (by omega)) ?_
     cases hq:breaksL b fr j with
     | true =>
      rw[hq,if_pos rfl]at g3;subst g3;simp only[go_sem];exact zt [6]
     | false =>
      rw[hq,if_neg (by simp)]at g3;simp only[go_sem]
      repeat refine aqb ?_
      rw[show(j:Int)-1=((j-1:Nat):Int) by omega];refine ainv (hJ (j-1) ⟨by omega,g3⟩ (by omega)) (Ls ?_);simp only[go_sem]
    .have dj:decide ((j:Int)>(fr:Int))=false:=by simp; omega
     have hnone:X=none:=by
      rw[<- g3]
      cases j with
      | zero=>rfl
      | succ j=>simp only[AcN]; rw[if_neg gj]
     subst hnone;apply zgN;simp only[go_sem,dj,hN,hmin,hmax]
     repeat refine aqb ?_
     exact zt [6]
  | false =>
   have hg:grp b=0:=by unfold grp; rw[k3]; rfl
   have hr1:1<=room:=by
    rcases hr with hr|hr
    .omega
    .rw [hg]at hr; omega
   rw[hg];have hK:(fr:Int)+room=((fr+room-0:Nat):Int):=by omega
   have hN:(b.Lb.length:Int)-1=((b.Lb.length-1:Nat):Int):=by omega
   generalize hKK:fr+room-0=K at hK |-;have hmin:(if((b.Lb.length-1:Nat):Int)<(K:Int) then((b.Lb.length-1:Nat):Int) else(K:Int))=((min K (b.Lb.length-1):Nat):Int):=by split <;> omega
   generalize hM:min K (b.Lb.length-1)=M at hmin |-;have hmax:(if(M:Int)<(fr:Int)+1 then(fr:Int)+1 else(M:Int))=((max M (fr+1):Nat):Int):=by split <;> omega
   generalize hX:AcN b fr M=X;refine zpIN func179 rfl fun h ρ w=>?_
   simp only[go_sem,d0,k3,hK,hN,hmin,laa]
   repeat refine aqb ?_
   refine AaC (ι:=Nat) (fun j=>j) (fun j=>[(9,.int .i64 j),(8,.int .i64 K),(7,.int .i64 b.Lb.length),(1,.int .i64 fr),(3,.ptr 0 1 0 0)])
    (fun _=>[.arr 4 [.agg [.int .i64 b.kind,.fz 1 (b.Lb.map .str),.fz 1 (b.kinds.map (.int .i64)),.str b.name]]]) (fun j=>j<=b.Lb.length-1/\AcN b fr j=X) M ⟨by omega,hX⟩ ?_ ?_
   .refine Ls ?_
    simp only[go_sem]
   .rintro j ⟨g2,g3⟩ J hJ
    by_cases gj:fr<j
    .have dj:decide ((j:Int)>(fr:Int))=true:=by simp; omega
     rw[show j=(j-1)+1 by omega]at g3;simp only[AcN]at g3;rw[if_pos (by omega),show j-1+1=j by omega]at g3;apply zgN;simp only[go_sem,dj];refine zpN (hbr j (by omega) (by omega)) ?_
     cases hq:breaksL b fr j with
     | true =>
      rw[hq,if_pos rfl]at g3;subst g3;simp only[go_sem];exact zt [6]
     | false =>
      rw[hq,if_neg (by simp)]at g3;simp only[go_sem]
      repeat refine aqb ?_
      rw[show(j:Int)-1=((j-1:Nat):Int) by omega];refine ainv (hJ (j-1) ⟨by omega,g3⟩ (by omega)) (Ls ?_);simp only[go_sem]
    .have dj:decide ((j:Int)>(fr:Int))=false:=by simp; omega
     have hnone:X=none:=by
      rw[<- g3]
      cases j with
      | zero=>rfl
      | succ j=>simp only[AcN]; rw[if_neg gj]
     subst hnone;apply zgN;simp only[go_sem,dj,hN,hmin,hmax]
     repeat refine aqb ?_
     exact zt [6]
end Go.Proofs.YtmhjbljckkgeoaaGreatDoor
namespace Go.Av
open RowKit
variable [Tr]
theorem acut{c:Cx}{x:It}{B:Code}{k:List It}{e:Env}{s:LB}{ι:Type}(E:ι->Env)(S:ι->LB)(H:ι->Prop)
  (h1:∀ J:Act->World->Prop,(∀ y,H y->∀ a w,Sim c (E y) (S y) a w->J a w)->AWp c (x::.inv J::k) e s)
  (h2:∀ y,H y->AWp c (.code B::k) (E y) (S y)):AWp c (x::.code B::k) e s:=by
 intro a w hs;have h:=h1 (fun a w=>B.wp c.P (WQ c k) a w) (fun y hy a w hs=>h2 y hy a w hs) a w hs;have e1:WQ c (.inv (fun a w=>B.wp c.P (WQ c k) a w)::k)=WQ c (.code B::k):=by
  funext en a w
  cases en <;> rfl
 have e2:WQ c (x::.inv (fun a w=>B.wp c.P (WQ c k) a w)::k)=WQ c (x::.code B::k):=by
  funext en a w
  cases en <;> simp only[WQ,e1]
 rw[e2]at h;exact h
end Go.Av
namespace Go.Proofs.YtmhjbljckkgeoaaGreatDoor
open Av RowKit Proofs.Tryz
def pgA(p:List Ln):AV:=.fz 1 (p.map .str)
def layT(s:LS)(pg:AV)(b7:Blk)(J:LB):LB :=
 .arr 3 [.agg [.raw (.slice none 0 0),.raw (.slice none 0 0),.raw (.slice none 0 0)]]::.arr 3 [.agg [.sl 4 0 s.Lh.length s.Lh.length,.sl 5 0 s.Lg.length s.Lg.length,.sl 6 0 s.Ll.length s.Ll.length]]::.arr 1 [pg]::.arr 1 [.int .i64 s.first] ::
  .arr 1 (s.Lh.map pgA)::.arr 1 (s.Lg.map (.int .i64))::.arr 1 (s.Ll.map (.int .i64))::b7::J
def layS(s:LS)(J:LB):LB:=layT s (.sl 7 0 s.Li.length s.Li.length) (.arr 1 (s.Li.map .str)) J
theorem AdR(l:List Ln):(flat (l.map AV.str)).all Av.frozen=true:=by
 induction l with
 | nil=>rfl
 | cons y l ih=>simpa[flat,cellsOf,Av.frozen]using ih
theorem AcZ{α:Type}{id es:Nat}{l:LY}{f:α->AV}(h:∀ x,frzC id es l (f x)=f x)(xs:List α):(xs.map f).map (frzC id es l)=xs.map f:=by
 rw[lbb]; exact lbe fun x _=>h x
theorem AgD{α:Type}{σ:List Nat}{f:α->AV}(h:∀ x,renC σ (f x)=f x)(xs:List α):(xs.map f).map (renC σ)=xs.map f:=by
 rw[lbb]; exact lbe fun x _=>h x
theorem BlM(s:LS)(J:LB)(hJ:∀ l,J.map (frzB 7 1 l)=J):((layS s J).set 7 .dead).map (frzB 7 1 (s.Li.map .str))=layT s (pgA s.Li) .dead J:=by
 have h2:List.take s.Li.length (List.map AV.str s.Li)=List.map AV.str s.Li:=lae (by simp);simp only[layS,layT,List.set_cons_succ,lby,lak,frzB,hJ,lao];rw[AcZ (fun _=>rfl),AcZ (fun _=>rfl),AcZ (fun _=>rfl)];simp only[frzC,frz,frz1,lak,lao,laa,lay,lbu,h2,pgA]
 simp
theorem AtQ(s:LS)(J:LB)(hJ:∀ l,J.map (frzB 7 1 l)=J)(h1:s.Lh.length<=2000000000000)(h2:s.Lg.length<=2000000000000) :
  Ct prog 176 [.ptr 1 1 0 0,.ptr 2 1 0 0,.ptr 3 1 0 0] (layS s J) (fun r st=>r=.tup []/\st=layT (flushS s) (.raw (.slice none 0 0)) .dead J):=by
 refine AaI func176 rfl ntmps176 hB176 (by simp) fun h ρ w=>?_
 refine AWp.shift (Shift.frz 7 (es:=1) (l:=s.Li.map .str) rfl (AdR _)) ?_;rw[BlM s J hJ];simp only[args0,frzE,frzC,frz,frz1,layT];apply zgF;simp only[go_sem,laa,pgA]
 repeat refine And.intro (by first|omega|exact .inl trivial|exact .inl (.inl trivial)|rfl|(simp; done)|(simp; omega)) ?_
 exact aret [] rfl ⟨rfl,by simp[layT,flushS,pgA]⟩
theorem BlN(s:LS)(b:Bl)(h0:s.Li=[]):renS [0,1,2,3,4,5,6,9,8] (List.set (layT s (.raw (.slice none 0 0)) .dead [.arr 4 [blA b]]++[Blk.arr 1 []]) 2 (.arr 1 [.sl 9 0 0 0]))=layS s [.arr 4 [blA b]]:=by
 have h:renS [0,1,2,3,4,5,6,9,8] (List.set (layT s (.raw (.slice none 0 0)) .dead [.arr 4 [blA b]]++[Blk.arr 1 []]) 2 (.arr 1 [.sl 9 0 0 0])) =
   .arr 3 [.agg [.raw (.slice none 0 0),.raw (.slice none 0 0),.raw (.slice none 0 0)]]::.arr 3 [.agg [.sl 4 0 s.Lh.length s.Lh.length,.sl 5 0 s.Lg.length s.Lg.length,.sl 6 0 s.Ll.length s.Ll.length]]::.arr 1 [.sl 7 0 0 0]::.arr 1 [.int .i64 s.first] ::
   .arr 1 ((s.Lh.map pgA).map (renC [0,1,2,3,4,5,6,9,8]))::.arr 1 ((s.Lg.map (.int .i64)).map (renC [0,1,2,3,4,5,6,9,8]))::.arr 1 ((s.Ll.map (.int .i64)).map (renC [0,1,2,3,4,5,6,9,8]))::.arr 1 []::[.arr 4 [blA b]]:=rfl
 rw[h,AgD (fun _=>rfl),AgD (fun _=>rfl),AgD (fun _=>rfl)]
 grind[layS,layT]
theorem AlN{c:Cx}{e e':Env}(hc:c.sto.length=0)(s:LS)(b:Bl)(h0:s.Li=[])(hw:wk (renE [0,1,2,3,4,5,6,9,8] e) e'):Shift c e (layT s (.raw (.slice none 0 0)) .dead [.arr 4 [blA b]]) e' (layS s [.arr 4 [blA b]]):=by
 refine Shift.trans (Shift.cells 2 1 [.sl 9 0 0 0] rfl rfl (by simp[cellsOf]) ⟨.sl,trivial⟩) ?_;refine Shift.trans (Shift.ren [0,1,2,3,4,5,6,9,8] (by rw[hc]; rfl)) ?_<;>grind[Lu,BlN]
theorem BlO(s:LS):(layS s []).all (lowB 8)=true:=by
 have h1:(flat (s.Lh.map pgA)).all Av.frozen=true:=by
  generalize s.Lh=l
  induction l<;>grind[flat,cellsOf,pgA,Av.frozen]
 have h2:∀ l:List Int,(flat (l.map (AV.int .i64))).all Av.frozen=true:=fun l=>by
  induction l<;>grind[flat,cellsOf,Av.frozen]
 simp only[layS,layT,las,lba,lau];simp only[lowB,AaH h1,AaH (h2 _),AaH (AdR _),lau,laz]
 simp[flat,cellsOf,lowC,Av.frozen]
theorem A8A{c:Cx}{e e':Env}(hc:c.sto.length=0)(s:LS)(b:Blk)(hw:wkl 8 e e'):Shift c e (layS s [b]) e' (layS s []):=by
 have h:=Shift.low (c:=c) (s:=layS s [b]) 8 (by omega) (by simp[layS,layT]) (BlO s) hw;exact h
theorem BlP{bs:List Bl}{i:Nat}{b:Bl}{M:Nat}(h:∀ d∈bs,d.Lb.length<=M):AbU bs i b<=b.Lb.length+M+5:=by
 grind[least_le,AbU]
theorem BlQ{bs:List Bl}{i:Nat}{b:Bl}{s:LS}{w:List Ln}(h:PInv s w):PInv (turnS bs i b s) w/\((turnS bs i b s).Li=[]\/(turnS bs i b s).Li.length+gapN b+AbU bs i b<=54):=by
 have hn:∀ s:LS,addS s []=s:=fun s=>by simp[addS]
 unfold turnS
 split
 .have k:=AgB h (.inl rfl) (by grind) (by simpa using h.len)
  rw[hn]at k;exact⟨k,.inl rfl⟩
 grind
theorem turn_many(bs:List Bl)(i:Nat)(b:Bl)(s:LS):(turnS bs i b s).Lh.length<=s.Lh.length+1/\((turnS bs i b s).Lg.length=(turnS bs i b s).Lh.length ↔ s.Lg.length=s.Lh.length)/\(turnS bs i b s).Ll=s.Ll:=by
 grind[turnS,flushS]
theorem ArB{b:Bl}(ho:∀ x∈b.Lb,OwnLn x){fr:Nat}{s:LS}{w:List Ln}(h:PInv s w)(hfr:fr<=b.Lb.length)(hr:AhN b fr (54-s.Li.length))(hne:stopL b fr (54-s.Li.length)≠b.Lb.length) :
  fr<stopL b fr (54-s.Li.length)/\stopL b fr (54-s.Li.length)<b.Lb.length/\(∃ w',PInv (breakS b (addS s (partL' b fr (stopL b fr (54-s.Li.length))))) w')/\AhN b (stopL b fr (54-s.Li.length)) (54-(breakS b (addS s (partL' b fr (stopL b fr (54-s.Li.length))))).Li.length):=by
 rcases AnY hr hfr with⟨h1,h2⟩|⟨h1,h2,h3⟩
 .omega
 .generalize hto:stopL b fr (54-s.Li.length)=tz at h1 h2 h3 |-
  have hpl:=AhC b (fr:=fr) (Nat.le_of_lt h2);have ho':∀ x∈partL' b fr tz,OwnLn x:=fun x hx=>ho x (lat (lav hx))
  have k1:=AtM h ho' (by grind);have k2:=AxK (b:=b) k1 (by grind[addS]) (by grind[addS]);refine⟨h1,h2,⟨_,k2⟩,?_⟩
  right
  grind[break_page,grp]
def costTo(bs:List Bl)(i:Nat):Nat:=((bs.take i).map fun b=>b.Lb.length+1).sum
theorem AiF{bs:List Bl}{i:Nat}(h:i<bs.length):costTo bs (i+1)=costTo bs i+(bs[i].Lb.length+1):=by
 grind[costTo,lad]
theorem AiG(bs:List Bl){i:Nat}(h:i<=bs.length):costTo bs i<=costTo bs bs.length:=by
 grind[costTo,lbd]
