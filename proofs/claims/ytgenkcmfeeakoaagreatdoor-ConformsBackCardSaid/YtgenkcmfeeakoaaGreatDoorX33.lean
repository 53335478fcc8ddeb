/- Blocks on pages: plain law. -/
import Derived.Test.YtgenkcmfeeakoaaGreatDoorX32
set_option maxRecDepth 100000
set_option linter.all false
namespace Go.Proofs.YtgenkcmfeeakoaaGreatDoor
open Av RowKit Proofs.Tryz
abbrev Ln:=LU
def AdR:Ln:=[32,32,32,32,32,32,32,32,32,32,32,32,32,32,32,32,32,32,32,32]
theorem A3S:Lib.repeatL [32] 20=AdR:=by decide +kernel
def AcT:Ln:=indent 20 [40,77,79,82,69,41]
def A3T:Ln:=[32,40,67,79,78,84,39,68,41]
def BhL:Ln:=[32,79,77,73,84,84,69,68]
def goesLn(b:Bl):Ln:=indent 20 b.name++A3T
def breaksL(b:Bl)(fr k:Nat):Bool :=
 if b.kind==1 then decide ((k:Int)-fr>=2)&&decide ((b.Lb.length:Int)-k>=2)
 else if b.kind==3 then b.kinds.getD (k-1) 0==2&&(decide ((k:Int)-fr-(if fr=0 then 1 else 0)>=2)&&decide ((b.Lb.length:Int)-k>=2))
 else false
def grp(b:Bl):Nat:=if b.kind==3 then 1 else 0
def firstB(b:Bl):Nat->Nat->Option Nat
 | 0,_=>none
 | n+1,k=>if breaksL b 0 k then some k else firstB b n (k+1)
def AaY(b:Bl):Nat :=
 if b.kind==1&&decide ((b.Lb.length:Int)>3) then 2
 else if b.kind==3&&decide ((b.Lb.length:Int)>4) then
  match firstB b (b.Lb.length-1) 1 with
  | some k=>k+1
  | none=>b.Lb.length
 else b.Lb.length
def AeO(b:Bl)(fr:Nat):Nat->Option Nat
 | 0=>none
 | j+1=>if fr<j+1 then(if breaksL b fr (j+1) then some (j+1) else AeO b fr j) else none
def stopL(b:Bl)(fr room:Nat):Nat :=
 if b.Lb.length-fr<=room then b.Lb.length
 else match AeO b fr (min (fr+room-grp b) (b.Lb.length-1))with
  | some j=>j
  | none=>max (min (fr+room-grp b) (b.Lb.length-1)) (fr+1)
def AdJ(bs:List Bl)(i:Nat)(b:Bl):Nat :=
 AaY b+(if b.kind==0 then(match bs[i+1]? with
  | some d=>if d.kind==0 then 0 else 1+AaY d
  | none=>0) else 0)
structure LS where
 Lh:List (List Ln)
 Lg:List Int
 Ll:List Int
 Li:List Ln
 first:Int
def flushS(s:LS):LS:=⟨s.Lh++[s.Li],s.Lg++[s.first],s.Ll,[],-1⟩
def addS(s:LS)(l:List Ln):LS:={ s with Li:=s.Li++l }
def breakS(b:Bl)(s:LS):LS:=addS (flushS (addS s (if b.kind==3 then[AcT] else[]))) (if b.kind==3 then[goesLn b] else[])
def partL'(b:Bl)(fr tz:Nat):List Ln:=(b.Lb.take tz).drop fr
def placeB(b:Bl):Nat->Nat->LS->LS
 | 0,_,s=>s
 | f+1,fr,s =>
  if stopL b fr (54-s.Li.length)=b.Lb.length then addS s (partL' b fr (stopL b fr (54-s.Li.length)))
  else placeB b f (stopL b fr (54-s.Li.length)) (breakS b (addS s (partL' b fr (stopL b fr (54-s.Li.length)))))
def turnS(bs:List Bl)(i:Nat)(b:Bl)(s:LS):LS:=if s.Li≠[]/\s.Li.length+gapN b+AdJ bs i b>54 then flushS s else s
def firstS(i:Nat)(s:LS):LS:=if s.Li=[] then{ s with first:=i } else s
def gapS(b:Bl)(s:LS):LS:={ s with Li:=s.Li++List.replicate (gapN b*min s.Li.length 1) [],Ll:=s.Ll++[(s.Lh.length:Int)] }
def openS(bs:List Bl)(i:Nat)(b:Bl)(s:LS):LS:=gapS b (firstS i (turnS bs i b s))
def layTo(bs:List Bl):Nat->LS
 | 0=>⟨[],[],[],[],-1⟩
 | i+1=>match bs[i]? with
  | some b=>placeB b (b.Lb.length+1) 0 (openS bs i b (layTo bs i))
  | none=>layTo bs i
def layL(bs:List Bl):LS:=if(layTo bs bs.length).Li≠[] then flushS (layTo bs bs.length) else layTo bs bs.length
def addedL(l:Ln)(i n:Nat):Bool:=(l==AcT&&i+1==n)||(i==0&&(Lib.hasSuffix l A3T&&Lib.hasPrefix l AdR))
def AqY(l:Ln):Bool:=l != []&&!Lib.hasSuffix l BhL
def saidGo(n:Nat):Nat->List Ln->List Ln
 | _,[]=>[]
 | i,l::r=>if l != []&&(!addedL l i n&&!Lib.hasSuffix l BhL) then l::saidGo n (i+1) r else saidGo n (i+1) r
def BpX(p:List Ln):List Ln:=saidGo p.length 0 p
structure OwnLn(l:Ln):Prop where
 more:l≠AcT
 cont:(Lib.hasSuffix l A3T&&Lib.hasPrefix l AdR)=false
theorem A7X(n:Nat)(post:List Ln):∀ (body:List Ln)(i:Nat),(∀ l∈body,OwnLn l)->saidGo n i (body++post)=body.filter AqY++saidGo n (i+body.length) post
 | [],i,_=>rfl
 | l::r,i,h=>by
  have hl:=h l (by simp);have h1:(l==AcT)=false:=by simpa using hl.more
  have ih:=A7X n post r (i+1) (fun x hx=>h x (by grind));have ha:addedL l i n=false:=by simp[addedL,h1,hl.cont]
  grind[saidGo,AqY]
theorem BhM(i:Nat):saidGo (i+1) i [AcT]=[]:=by grind[saidGo,addedL]
theorem goes_suf(b:Bl):Lib.hasSuffix (goesLn b) A3T=true:=by
 grind[Lib.hasSuffix,goesLn]
theorem BpY(b:Bl):Lib.hasPrefix (goesLn b) AdR=true:=by
 grind[Lib.hasPrefix,goesLn,indent,A3S]
theorem BhN(n:Nat)(b:Bl)(r:List Ln):saidGo n 0 (goesLn b::r)=saidGo n 1 r:=by
 grind[saidGo,addedL,goes_suf,BpY]
theorem BhO(pre body post:List Ln)(h1:pre=[]\/∃ b,pre=[goesLn b])(h2:∀ l∈body,OwnLn l)(h3:post=[]\/post=[AcT]):BpX (pre++body++post)=body.filter AqY:=by
 unfold BpX;have key:∀ i,i+body.length+post.length=(pre++body++post).length->saidGo (pre++body++post).length i (body++post)=body.filter AqY:=fun i hi=>by
  rw[A7X _ _ _ _ h2]
  rcases h3 with rfl|rfl
  .simp [saidGo]
  .rw [<- hi]
   show _++saidGo (i+body.length+1) (i+body.length) [AcT]=_
   grind[BhM]
 grind[BhN]
theorem ApM(b:Bl):∀ (n k j:Nat),firstB b n k=some j->k<=j
 | 0,_,_,h=>by cases h
 | n+1,k,j,h=>by
  simp only[firstB]at h
  split at h
  .grind
  .have:=ApM b n (k+1) j h; omega
theorem AmY(b:Bl)(fr:Nat):∀ (n j:Nat),AeO b fr n=some j->fr<j/\j<=n
 | 0,_,h=>by cases h
 | n+1,j,h=>by
  simp only[AeO]at h
  split at h
  .split at h
   .grind
   .have:=AmY b fr n j h; omega
  grind
def AmD(b:Bl)(fr room:Nat):Prop:=b.Lb.length-fr<=room\/1+grp b<=room
theorem BaU{b:Bl}{room:Nat}(h:AaY b<=room):AmD b 0 room:=by
 unfold AaY at h;unfold AmD grp
 split at h
 .grind
 .split at h
  .split at h
   .rename_i k hk
    have:=ApM b _ _ _ hk
    grind
   omega
  omega
theorem AzD{b:Bl}{fr room:Nat}(h:AmD b fr room)(hf:fr<=b.Lb.length) :
  (stopL b fr room=b.Lb.length/\b.Lb.length-fr<=room)\/(fr<stopL b fr room/\stopL b fr room<b.Lb.length/\stopL b fr room+grp b<=fr+room):=by
 unfold stopL
 by_cases hr:b.Lb.length-fr<=room
 .grind
 .rw [if_neg hr]
  have h2:=h.resolve_left hr
  split
  .rename_i j hj
   have:=AmY b fr _ _ hj;omega
  omega
structure PInv(s:LS)(w:List Ln):Prop where
 Lh:∀ p∈s.Lh,1<=p.length/\p.length<=54
 len:s.Li.length<=54
 ex:∃ pre body,s.Li=pre++body/\(pre=[]\/∃ b,pre=[goesLn b])/\(∀ l∈body,OwnLn l)/\s.Lh.flatMap BpX++body.filter AqY=w.filter AqY
theorem AkE{s:LS}{w post:List Ln}(h:PInv s w)(hp:post=[]\/post=[AcT])(h0:1<=(s.Li++post).length)(h1:(s.Li++post).length<=54):PInv (flushS (addS s post)) w:=by
 obtain⟨pre,body,e1,e2,e3,e4⟩:=h.ex;refine⟨fun p hq=>?_,by simp[flushS],[],[],rfl,.inl rfl,by simp,?_⟩
 .simp only [flushS,addS,lcb,List.mem_singleton]at hq
  rcases hq with hq|rfl
  .exact h.Lh p hq
  omega
 .simp only [flushS,addS,List.flatMap_append,List.flatMap_cons,List.flatMap_nil,lca,List.filter_nil]
  grind[BhO]
theorem AvP{s:LS}{w l:List Ln}(h:PInv s w)(ho:∀ x∈l,OwnLn x)(hl:(s.Li++l).length<=54):PInv (addS s l) (w++l):=by
 obtain⟨pre,body,e1,e2,e3,e4⟩:=h.ex;refine⟨h.Lh,hl,pre,body++l,by simp[addS,e1],e2,fun x hx=>?_,?_⟩<;>grind[addS]
theorem BpZ{s:LS}{w:List Ln}(h:PInv s w)(h0:s.Li=[])(b:Bl):PInv (addS s [goesLn b]) w:=by
 obtain⟨pre,body,e1,e2,e3,e4⟩:=h.ex;have hb:pre=[]/\body=[]:=by grind
 refine⟨h.Lh,by simp[addS,h0],[goesLn b],[],by simp[addS,h0],.inr ⟨b,rfl⟩,by simp,?_⟩<;>grind[addS]
theorem AlP(b:Bl){fr tz:Nat}(h:tz<=b.Lb.length):(partL' b fr tz).length=tz-fr:=by
 grind[partL']
theorem break_page(b:Bl)(s:LS):(breakS b s).Li=if b.kind==3 then[goesLn b] else[]:=by
 grind[breakS,addS,flushS]
theorem AzE{b:Bl}{s:LS}{w:List Ln}(h:PInv s w)(h0:1<=s.Li.length)(h1:s.Li.length+grp b<=54):PInv (breakS b s) w:=by
 unfold breakS grp at *
 by_cases hk:(b.kind==3)=true
 .simp only [hk,if_true]at h1 |-
  exact BpZ (AkE h (.inr rfl) (by simp) (by grind)) rfl b
 .have h2:=AkE h (.inl rfl) (by grind) (by grind)
  simp_all[addS]
theorem AzF{b:Bl}(ho:∀ x∈b.Lb,OwnLn x):∀ (f fr:Nat)(s:LS)(w:List Ln),PInv s w->b.Lb.length-fr<f->fr<=b.Lb.length->AmD b fr (54-s.Li.length)->PInv (placeB b f fr s) (w++b.Lb.drop fr)
 | 0,fr,s,w,_,h,_,_=>by omega
 | f+1,fr,s,w,h,hf,hfr,hr=>by
  have hl:=h.len;have ho':∀ tz,∀ x∈partL' b fr tz,OwnLn x:=fun tz x hx=>ho x (lau (lba hx))
  unfold placeB
  rcases AzD hr hfr with⟨h1,h2⟩|⟨h1,h2,h3⟩
  .grind[partL',AvP]
  .generalize hto:stopL b fr (54-s.Li.length)=tz at h1 h2 h3 |-
   have hpl:=AlP b (fr:=fr) (Nat.le_of_lt h2);have k1:=AvP h (ho' tz) (by grind);have k2:=AzE (b:=b) k1 (by grind[addS]) (by grind[addS]);have k3:=AzF ho f tz _ _ k2 (by omega) (by omega) (by
    right
    grind[break_page,grp])
   grind[partL',lbs]
theorem BxF:OwnLn []:=⟨by decide,by decide⟩
theorem A7Y{bs:List Bl}{i:Nat}{b:Bl}{s:LS}{w:List Ln}(h:PInv s w):∃ g:List Ln,(∀ x∈g,x=[])/\PInv (openS bs i b s) (w++g)/\AmD b 0 (54-(openS bs i b s).Li.length):=by
 have hh:AaY b<=AdJ bs i b:=by grind[AdJ]
 unfold openS;generalize hs1:turnS bs i b s=s1;have h1:PInv s1 w/\(s1.Li=[]\/s1.Li.length+gapN b+AdJ bs i b<=54):=by
  subst hs1;unfold turnS;have hn:∀ s:LS,addS s []=s:=fun s=>by simp[addS]
  split
  .have k:=AkE h (.inl rfl) (by grind) (by simpa using h.len)
   rw[hn]at k;exact⟨k,.inl rfl⟩
  grind
 obtain⟨h1,h2⟩:=h1;generalize hs2:firstS i s1=s2;have hp:s2.Li=s1.Li/\s2.Lh=s1.Lh:=by grind[firstS]
 have k2:PInv s2 w:=⟨by rw[hp.2]; exact h1.Lh,by grind,by rw[hp.1,hp.2]; exact h1.ex⟩;refine⟨List.replicate (gapN b*min s2.Li.length 1) [],fun x hx=>List.eq_of_mem_replicate hx,?_,?_⟩
 .have hlen:(s2.Li++List.replicate (gapN b*min s2.Li.length 1) ([])).length<=54:=by
   grind[gapN]
  have k3:=AvP k2 (fun x hx=>by grind[BxF]) hlen;exact⟨k3.Lh,k3.len,k3.ex⟩
 .simp only [gapS,lah,List.length_replicate]
  .by_cases h0:s1.Li=[]
   .right
    grind[grp]
   .have:min s2.Li.length 1=1:=by
     have:1<=s1.Li.length:=by
      grind
     grind
    grind[BaU]
def bodyTo(bs:List Bl)(i:Nat):List Ln:=(bs.take i).flatMap fun b=>b.Lb
theorem AvQ{bs:List Bl}(ho:∀ b∈bs,∀ x∈b.Lb,OwnLn x):∀ i,i<=bs.length->∃ w,PInv (layTo bs i) w/\w.filter AqY=(bodyTo bs i).filter AqY
 | 0,_=>⟨[],⟨by simp[layTo],by simp[layTo],[],[],rfl,.inl rfl,by simp,rfl⟩,rfl⟩
 | i+1,h=>by
  obtain⟨w,h1,h2⟩:=AvQ ho i (by omega);have hi:i<bs.length:=by omega
  simp only[layTo,lab hi];obtain⟨g,g1,g2,g3⟩:=A7Y (bs:=bs) (i:=i) h1;have k:=AzF (ho _ (lac hi)) (bs[i].Lb.length+1) 0 _ _ g2 (by omega) (by omega) g3;have hg:g.filter AqY=[]:=by
   rw[List.filter_eq_nil_iff];intro x hx;rw[g1 x hx]; decide
  grind[bodyTo,laf]
theorem BhP{bs:List Bl}(ho:∀ b∈bs,∀ x∈b.Lb,OwnLn x) :
  (∀ p∈(layL bs).Lh,1<=p.length/\p.length<=54)/\(layL bs).Lh.flatMap BpX=(bs.flatMap fun b=>b.Lb).filter AqY:=by
 obtain⟨w,h1,h2⟩:=AvQ ho bs.length (lad _);have hb:bodyTo bs bs.length=bs.flatMap fun b=>b.Lb:=by simp[bodyTo]
 unfold layL
 by_cases h0:(layTo bs bs.length).Li≠[]
 .rw [if_pos h0]
  have hn:∀ s:LS,addS s []=s:=fun s=>by simp[addS]
  have k:=AkE h1 (.inl rfl) (by grind) (by simpa using h1.len);rw[hn]at k;obtain⟨pre,body,e1,e2,e3,e4⟩:=k.ex;have hbo:pre=[]/\body=[]:=by simp_all[flushS]
  exact⟨k.Lh,by grind⟩
 .rw [if_neg h0]
  have h0':(layTo bs bs.length).Li=[]:=by grind
  obtain⟨pre,body,e1,e2,e3,e4⟩:=h1.ex;exact⟨h1.Lh,by grind⟩
def noS(w:LU):Prop:=∀ b∈w,b≠32
def nbL(l:LU):Prop:=l≠[]/\l.head?≠some 32
theorem BtM{w:LU}(h:noS w)(h0:w≠[]):nbL w:=by
 cases w with
 | nil=>grind
 | cons a r=>exact⟨by simp,by simpa using h a (by simp)⟩
theorem BhQ{c:UInt8}(hc:c≠32):∀ {ws:List LU},(∀ w∈ws,noS w)->∀ w∈consW c ws,noS w
 | [],_,w,hw=>by
  have:w=[c]:=by grind[consW]
  intro b hb
  grind
 | a::r,h,w,hw=>by
  rcases(by grind[consW]:w=c::a\/w∈r)with rfl|hw
  .intro b hb
   rcases List.mem_cons.1 hb with rfl|hb
   .omega
   .exact h a (by simp) b hb
  grind
theorem ApN:∀ q:LU,∀ w∈splitW q,noS w
 | [],w,hw=>by
  have:w=[]:=by grind[splitW]
  intro b hb; grind
 | c::r,w,hw=>by
  simp only[splitW]at hw
  split at hw
  .rcases List.mem_cons.1 hw with rfl|hw
   .intro b hb; simp at hb
   .exact ApN r w hw
  .rename_i hc
   exact BhQ (by simpa using hc) (ApN r) w hw
theorem A7Z(W:Nat)(hW:0<W):∀ (n:Nat)(w:LU),w.length<=n->noS w->(∀ l∈(chop W w).1,nbL l)/\noS (chop W w).2
 | 0,w,h,hn=>by grind[chop_end]
 | n+1,w,h,hn=>by
  by_cases hc:W<w.length/\0<W
  .rw [AfR hc.1 hc.2]
   obtain⟨i1,i2⟩:=A7Z W hW n (w.drop W) (by simp; omega) (fun b hb=>hn b (lba hb));refine⟨fun l hl=>?_,i2⟩
   rcases List.mem_cons.1 hl with rfl|hl
   .refine BtM (fun b hb=>hn b (lau hb)) fun e=>?_
    have:=congrArg List.length e;rw[lci,lap]at this; omega
   .exact i1 l hl
  grind[chop]
def wInv(s:List LU×LU):Prop:=(∀ l∈s.1,nbL l)/\(s.2≠[]->nbL s.2)
theorem BhR{W:Nat}(hW:0<W){s:List LU×LU}{w:LU}(h:wInv s)(hw:noS w):wInv (AcF W s w):=by
 unfold AcF
 split
 .exact h
 .split
  .rename_i hc
   simp at hc
   refine⟨h.1,fun _=>?_⟩;obtain⟨h1,h2⟩:=h.2 hc.1
   cases hq:s.2 with
   | nil=>grind
   | cons a r=>exact⟨by simp,by grind⟩
  .obtain ⟨i1,i2⟩:=A7Z W hW w.length w (lad _) hw
   refine⟨fun l hl=>?_,fun h0=>BtM i2 h0⟩
   rcases List.mem_append.1 hl with hl|hl
   .split at hl
    .rcases List.mem_append.1 hl with hl|hl
     .exact h.1 l hl
     .rw [List.mem_singleton.1 hl]
      exact h.2 (by grind)
    .exact h.1 l hl
   grind
theorem AkF{α β:Type}{f:α->β->α}{P:α->Prop}{Q:β->Prop}(hf:∀ s x,P s->Q x->P (f s x)):∀ (l:List β)(s:α),P s->(∀ x∈l,Q x)->P (l.foldl f s)
 | [],s,h,_=>h
 | x::r,s,h,hq=>AkF hf r (f s x) (hf s x h (hq x (by simp))) (fun y hy=>hq y (by grind))
theorem ApO{W:Nat}(hW:0<W)(t:LU):∀ l∈wrapL W t,nbL l:=by
 have h:wInv (wrapF W t):=AkF (Q:=noS) (fun s x h1 h2=>BhR hW h1 h2) _ _ ⟨by simp,by simp⟩ (ApN t);intro l hl;unfold wrapL at hl
 split at hl
 .rcases List.mem_append.1 hl with hl|hl
  .exact h.1 l hl
  .rw [List.mem_singleton.1 hl]
   exact h.2 (by grind)
 .exact h.1 l hl
theorem AzG{n:Nat}(hn:n<20){l:LU}(h:nbL l):OwnLn (indent n l):=by
 have hp:Lib.hasPrefix (indent n l) AdR=false:=by
  cases hq:Lib.hasPrefix (indent n l) AdR with
  | false=>rfl
  | true =>
   exfalso
   obtain⟨t,ht⟩:=List.isPrefixOf_iff_prefix.1 hq;have hb:AdR=Lib.repeatL [32] n++Lib.repeatL [32] (20-n):=by
    have:∀ k:Fin 20,AdR=Lib.repeatL [32] k.1++Lib.repeatL [32] (20-k.1):=by decide +kernel
    exact this ⟨n,hn⟩
   rw[hb,indent,lbu]at ht;have ht:=List.append_cancel_left ht;have h0:Lib.repeatL [32] (20-n)=32::(Lib.repeatL [32] (20-n)).tail:=by
    have:∀ k:Fin 20,Lib.repeatL [32] (20-k.1)=32::(Lib.repeatL [32] (20-k.1)).tail:=by decide +kernel
    exact this ⟨n,hn⟩
   rw[h0]at ht;rw[<- ht]at h;exact h.2 rfl
 refine⟨fun e=>?_,by grind⟩;rw[e]at hp
 revert hp
 decide +kernel
theorem BhS{l:LU}(h:nbL l):OwnLn l:=by
 have:=AzG (n:=0) (by omega) h;have e:indent 0 l=l:=rfl
 grind
def ownLnB(l:LU):Bool:=l != AcT&&!(Lib.hasSuffix l A3T&&Lib.hasPrefix l AdR)
theorem ownLnB_ok{l:LU}(h:ownLnB l=true):OwnLn l:=by
 simp only[ownLnB,lae,bne_iff_ne,ne_eq,lbv]at h;exact⟨h.1,h.2⟩
theorem BxG:(NameL.all fun t=>ownLnB (indent 20 t))=true:=by decide +kernel
theorem BqA:(TurnL.all fun t=>ownLnB (turnLine t))=true:=by decide +kernel
structure BlOk(b:Bl):Prop where
 own:∀ l∈b.Lb,OwnLn l
 kinds:b.kind=3->b.kinds.length=b.Lb.length
theorem BhT{b:Bl}(h:BlOk b)(kd:Int){n:Nat}(hn:n<20){ls:List LU}(hl:∀ l∈ls,nbL l):BlOk (addB b kd n ls):=by
 refine⟨fun l hq=>?_,fun hk=>?_⟩
 .rcases List.mem_append.1 hq with hq|hq
  .exact h.own l hq
  grind[AzG]
 .simp only [addB,lah,List.length_replicate,laa]at hk |-
  rw[h.kinds hk]
def BtN(p:Pa):Prop:=p.kind=5->p.text∈TurnL
theorem BxH{p:Pa}(h2:p.kind=2->p.text∈NameL)(h5:BtN p)(hj:joins p=false)(hk:1<=p.kind/\p.kind<=5):BlOk (newB p):=by
 unfold newB
 split
 .exact ⟨fun l hl=>BhS (ApO (by omega) _ l hl),fun e=>by grind⟩
 .split
  .refine ⟨fun l hl=>?_,fun e=>by grind⟩
   rw[List.mem_singleton.1 hl];exact ownLnB_ok (List.all_eq_true.1 BqA _ (h5 (by grind)))
  .refine ⟨fun l hl=>?_,fun _=>rfl⟩<;>grind[joins,ownLnB_ok,BxG]
theorem BqB{b:Bl}(h:BlOk b)(p:Pa):BlOk (moreB b p):=by
 unfold moreB
 split
 .exact BhT h 1 (by omega) (ApO (by omega) _)
 .exact BhT h 2 (by omega) (ApO (by omega) _)
def bInv(s:List Bl×Bl):Prop:=(∀ b∈s.1,BlOk b)/\BlOk s.2
theorem BhU{x:Sc}(h:∀ p∈x.Ld,(p.kind=2->p.text∈NameL)/\BtN p/\1<=p.kind/\p.kind<=5):∀ b∈blocksL x,BlOk b:=by
 have h0:BlOk ⟨0,wrapL 60 (headL x),[],[]⟩:=⟨fun l hl=>BhS (ApO (by omega) _ l hl),fun e=>by grind⟩;have hi:bInv (AhF x):=AkF (fun s p h1 h2=>by
  unfold bstep
  split
  .exact ⟨h1.1,BqB h1.2 p⟩
  .refine ⟨fun b hb=>?_,BxH h2.1 h2.2.1 (by grind) h2.2.2⟩
   rcases List.mem_append.1 hb with hb|hb
   .exact h1.1 b hb
   .rw [List.mem_singleton.1 hb]; exact h1.2) _ _ ⟨by simp,h0⟩ h
 intro b hb
 rcases List.mem_append.1 hb with hb|hb
 .exact hi.1 b hb
 .rw [List.mem_singleton.1 hb]; exact hi.2
structure BlFit(b:Bl):Prop where
 kinds:b.kind=3->b.kinds.length=b.Lb.length
 len:b.Lb.length<=50000000
 name:b.name.length<=500000
theorem AkG(b:Bl):∀ (n k j:Nat),firstB b n k=some j->j<k+n
 | 0,_,_,h=>by cases h
 | n+1,k,j,h=>by
  simp only[firstB]at h
  split at h
  .simp at h; omega
  .have:=AkG b n (k+1) j h; omega
def pgA(p:List Ln):AV:=.fz 1 (p.map .str)
theorem AiD(l:List Ln):(flat (l.map AV.str)).all Av.frozen=true:=by
 induction l with
 | nil=>rfl
 | cons y l ih=>simpa[flat,cellsOf,Av.frozen]using ih
theorem BxI{α:Type}{id es:Nat}{l:LA}{f:α->AV}(h:∀ x,frzC id es l (f x)=f x)(xs:List α):(xs.map f).map (frzC id es l)=xs.map f:=by
 rw[lbi]; exact lbg fun x _=>h x
theorem ApP{α:Type}{σ:List Nat}{f:α->AV}(h:∀ x,renC σ (f x)=f x)(xs:List α):(xs.map f).map (renC σ)=xs.map f:=by
 rw[lbi]; exact lbg fun x _=>h x
theorem turn_many(bs:List Bl)(i:Nat)(b:Bl)(s:LS):(turnS bs i b s).Lh.length<=s.Lh.length+1/\((turnS bs i b s).Lg.length=(turnS bs i b s).Lh.length ↔ s.Lg.length=s.Lh.length)/\(turnS bs i b s).Ll=s.Ll:=by
 grind[turnS,flushS]
theorem BaV{b:Bl}(ho:∀ x∈b.Lb,OwnLn x){fr:Nat}{s:LS}{w:List Ln}(h:PInv s w)(hfr:fr<=b.Lb.length)(hr:AmD b fr (54-s.Li.length))(hne:stopL b fr (54-s.Li.length)≠b.Lb.length) :
  fr<stopL b fr (54-s.Li.length)/\stopL b fr (54-s.Li.length)<b.Lb.length/\(∃ w',PInv (breakS b (addS s (partL' b fr (stopL b fr (54-s.Li.length))))) w')/\AmD b (stopL b fr (54-s.Li.length)) (54-(breakS b (addS s (partL' b fr (stopL b fr (54-s.Li.length))))).Li.length):=by
 rcases AzD hr hfr with⟨h1,h2⟩|⟨h1,h2,h3⟩
 .omega
 .generalize hto:stopL b fr (54-s.Li.length)=tz at h1 h2 h3 |-
  have hpl:=AlP b (fr:=fr) (Nat.le_of_lt h2);have ho':∀ x∈partL' b fr tz,OwnLn x:=fun x hx=>ho x (lau (lba hx))
  have k1:=AvP h ho' (by grind);have k2:=AzE (b:=b) k1 (by grind[addS]) (by grind[addS]);refine⟨h1,h2,⟨_,k2⟩,?_⟩
  right
  grind[break_page,grp]
def costTo(bs:List Bl)(i:Nat):Nat:=((bs.take i).map fun b=>b.Lb.length+1).sum
theorem ApQ{bs:List Bl}{i:Nat}(h:i<bs.length):costTo bs (i+1)=costTo bs i+(bs[i].Lb.length+1):=by
 grind[costTo,laf]
theorem AlQ(l:List (List Ln)):(flat (l.map pgA)).all Av.frozen=true:=by
 induction l<;>grind[flat,cellsOf,pgA,Av.frozen]
def sizB(b:Bl):Prop:=b.name.length<=2000/\∀ l∈b.Lb,l.length<=3000000
theorem indent_len(n:Nat)(l:LU):(indent n l).length=n+l.length:=by
 grind[indent,AfS]
theorem BqC{p:Pa}(h:p.text.length<=2000):sizB (newB p):=by
 unfold newB
 split
 .exact ⟨by simp,fun l hl=>by grind[wrapL_le]⟩
 .split
  .refine ⟨by simp,fun l hl=>?_⟩<;>grind[turnLine,AfS]
  .refine ⟨h,fun l hl=>?_⟩<;>grind[indent_len]
theorem moreB_siz{b:Bl}{p:Pa}(hb:sizB b)(h:p.text.length<=2000):sizB (moreB b p):=by
 grind[sizB,addB,indent_len,moreB,wrapL_le,asideT]
theorem BaW{x:Sc}(h:LineOk x):∀ b∈blocksL x,sizB b:=by
 obtain⟨e,hr,_,_⟩:=h.sc.run;have ht:=fun p hp=>AvM (A3Q _ _ _ hr p hp)
 have hh:=h.head;have h0:sizB ⟨0,wrapL 60 (headL x),[],[]⟩:=⟨by simp,fun l hl=>by grind[wrapL_le]⟩;have hi:(∀ b∈(AhF x).1,sizB b)/\sizB (AhF x).2:=AkF (P:=fun(s:List Bl×Bl)=>(∀ b∈s.1,sizB b)/\sizB s.2) (fun s p h1 h2=>by
  grind[bstep,moreB_siz,BqC]) _ _ ⟨by simp,h0⟩ ht
 grind[blocksL]
theorem BhV{bs:List Bl}(h:∀ b∈bs,b.Lb.length<=11000000):∀ i,i<=bs.length->costTo bs i<=11000001*i
 | 0,_=>by simp[costTo]
 | i+1,hi=>by
  have ih:=BhV h i (by omega);have h2:=h _ (lac (show i<bs.length by omega));rw[ApQ (by omega)];omega
theorem place_many{b:Bl}(ho:∀ x∈b.Lb,OwnLn x):∀ (f fr:Nat)(s:LS)(w:List Ln),PInv s w->b.Lb.length-fr<f->fr<=b.Lb.length->AmD b fr (54-s.Li.length)->(placeB b f fr s).Lh.length<=s.Lh.length+(b.Lb.length-fr)
 | 0,fr,s,w,_,h,_,_=>by omega
 | f+1,fr,s,w,h,hf,hfr,hr=>by
  unfold placeB
  by_cases hne:stopL b fr (54-s.Li.length)=b.Lb.length
  .rw [if_pos hne]
   simp only[addS]; omega
  .rw [if_neg hne]
   obtain⟨h1,h2,⟨w',h3⟩,h4⟩:=BaV ho h hfr hr hne;generalize stopL b fr (54-s.Li.length)=tz at h1 h2 h3 h4 |-;have:=place_many ho f tz _ _ h3 (by omega) (by omega) h4;have e:(breakS b (addS s (partL' b fr tz))).Lh.length=s.Lh.length+1:=by simp[breakS,addS,flushS]
   omega
theorem lay_many_to{bs:List Bl}(ho:∀ b∈bs,∀ x∈b.Lb,OwnLn x):∀ i,i<=bs.length->(layTo bs i).Lh.length<=costTo bs i
 | 0,_=>by simp[layTo]
 | i+1,hi=>by
  have ih:=lay_many_to ho i (by omega);obtain⟨w,h1,_⟩:=AvQ ho i (by omega);obtain⟨g,_,h2,h3⟩:=A7Y (bs:=bs) (i:=i) (b:=bs[i]) h1
  grind[place_many,turn_many,layTo,openS,gapS,firstS,ApQ]
theorem BqD(bs:List Bl)(ho:∀ b∈bs,∀ x∈b.Lb,OwnLn x):(layL bs).Lh.length<=costTo bs bs.length+1:=by
 grind[lay_many_to,layL,flushS]
theorem bfold_count:∀ (ps:List Pa)(s:List Bl×Bl),(ps.foldl bstep s).1.length<=s.1.length+ps.length
 | [],s=>by simp
 | p::r,s=>by
  have ih:=bfold_count r (bstep s p);have:(bstep s p).1.length<=s.1.length+1:=by
   unfold bstep
   split
   .simp
   .simp
  simp
  omega
theorem BhW(x:Sc):(blocksL x).length<=x.Ld.length+1:=by
 grind[bfold_count,blocksL,AhF]
def qL(l:Ln):Prop:=l.length<=3000100
def qS(s:LS):Prop:=(∀ p∈s.Lh,∀ l∈p,qL l)/\∀ l∈s.Li,qL l
theorem q_flush{s:LS}(h:qS s):qS (flushS s):=by
 refine⟨fun p hp=>?_,by simp[flushS]⟩;simp only[flushS,lcb,List.mem_singleton]at hp
 rcases hp with hp|rfl
 .exact h.1 p hp
 .exact h.2
theorem q_add{s:LS}(h:qS s){l:List Ln}(hl:∀ x∈l,qL x):qS (addS s l):=by
 refine⟨h.1,fun x hx=>?_⟩;simp only[addS,lcb]at hx
 rcases hx with hx|hx
 .exact h.2 x hx
 grind
theorem q_more:qL AcT:=by unfold qL; decide
theorem B0W{b:Bl}(h:b.name.length<=2000):qL (goesLn b):=by
 unfold qL goesLn;rw[lah,indent_len]
 simp[A3T]; omega
theorem BxJ{b:Bl}(hn:b.name.length<=2000){s:LS}(h:qS s):qS (breakS b s):=by
 grind[breakS,q_add,q_flush,q_more,B0W]
theorem BhX{b:Bl}(hb:sizB b):∀ (f fr:Nat)(s:LS),qS s->qS (placeB b f fr s)
 | 0,_,s,h=>h
 | f+1,fr,s,h=>by
  have hp:∀ tz,∀ x∈partL' b fr tz,qL x:=fun tz x hx=>by
   have:=hb.2 x (lau (lba hx));unfold qL; omega
  unfold placeB
  split
  .exact q_add h (hp _)
  .exact BhX hb f _ _ (BxJ hb.1 (q_add h (hp _)))
theorem B0X{bs:List Bl}{i:Nat}{b:Bl}{s:LS}(h:qS s):qS (openS bs i b s):=by
 grind[qS,turnS,q_flush,firstS,openS,gapS,qL]
theorem B0Y{bs:List Bl}(hb:∀ b∈bs,sizB b):∀ i,i<=bs.length->qS (layTo bs i)
 | 0,_=>⟨by simp[layTo],by simp[layTo]⟩
 | i+1,hi=>by
  have hl:i<bs.length:=by omega
  simp only[layTo,lab hl];exact BhX (hb _ (lac hl)) _ _ _ (B0X (B0Y hb i (by omega)))
structure SceneD(x:Sc):Prop where
 no:x.no=[]\/numberL x.no=true
 place:1<=x.place/\x.place<=3
 set:x.set∈SetL
 time:1<=x.time/\x.time<=5
 run:∃ e,runL 0 x.Ld=some e/\e≠2/\e≠3
 len:x.Ld.length<=60
 all:∀ p∈x.Ld,DrawnP p
 wt:wtL x.Ld<=143
theorem AhG{a:LU}(h:a=[]\/numberL a=true):a.length<1000:=by
 rcases h with rfl|h
 all_goals simp_all[AaN]
theorem SceneD.sc{x:Sc}(h:SceneD x):SceneOk x:=by
 have:=List.all_eq_true.1 BfK x.set h.set
 simp at this
 exact⟨this.1,this.2,by have:=h.len; omega,h.run⟩
theorem SceneD.line{x:Sc}(h:SceneD x):LineOk x:=⟨h.sc,h.place,h.time,by have:=AhG h.no; omega,by have:=h.len; omega⟩
theorem SceneD.bl{x:Sc}(h:SceneD x):∀ b∈blocksL x,BlOk b:=BhU fun p hp=>by
 have:=h.all p hp;exact⟨this.name,this.turn,this.kind.1,this.kind.2⟩
def goneT(no:LU):LU:=no++BhL
def goneB(no:LU):Bl:=⟨0,wrapL 60 (goneT no),[],[]⟩
def atNo(xs:List Sc)(no:LU):Option Sc:=xs.find? fun x=>x.no==no
def entB(xs:List Sc)(no:LU):List Bl:=match atNo xs no with
 | some x=>blocksL x
 | none=>[goneB no]
def entsB(xs:List Sc)(nos:List LU):List Bl:=nos.flatMap (entB xs)
def AiK(xs:List Sc)(nos:List LU)(k:Int):LU:=match(List.range nos.length).find? (fun j=>((entsB xs (nos.take j)).length:Int)==k)with
 | some j=>nos.getD j []
 | none=>[]
def firstsI(xs:List Sc)(nos:List LU):List LU:=(layL (entsB xs nos)).Lg.map (AiK xs nos)
structure MdOk(xs:List Sc)(nos:List LU):Prop where
 sc:∀ x∈xs,SceneD x
 nod:(nosL xs).Nodup
 few:xs.length<=300
 fewN:nos.length<=300
 num:∀ n∈nos,numberL n=true
theorem AgM{xs:List Sc}{no:LU}{x:Sc}(h:atNo xs no=some x):x∈xs/\x.no=no:=⟨lcr h,by simpa using List.find?_some h⟩
theorem goneT_len{no:LU}(h:numberL no=true):(goneT no).length<2000:=by
 have:=(AaN h).2.1
 simp[goneT,BhL]; omega
theorem A8A(no:LU):BlOk (goneB no):=⟨fun l hl=>BhS (ApO (by omega) _ l hl),fun e=>by grind[goneB]⟩
theorem BhY{no:LU}(h:numberL no=true):(goneB no).Lb.length<=2002:=by
 grind[goneT_len,wrapL_le,goneB]
theorem AeW{xs:List Sc}{no:LU}(hx:∀ x∈xs,SceneD x)(hn:numberL no=true):(∀ b∈entB xs no,BlOk b/\BlFit b/\b.Lb.length<=11000000/\sizB b)/\1<=(entB xs no).length/\(entB xs no).length<=61:=by
 unfold entB
 cases h:atNo xs no with
 | some x =>
  obtain⟨h1,h2⟩:=AgM h;have hd:=hx x h1;refine⟨fun b hb=>?_,by simp[blocksL],show(blocksL x).length<=61 by have:=BhW x; have:=hd.len; omega⟩;have hl:=hd.line;have hs:=BaW hl b hb;exact⟨hd.bl b hb,⟨(hd.bl b hb).kinds,by have:=hl.bound.1 b hb; omega,by have:=hs.1; omega⟩,hl.bound.1 b hb,hs⟩
 | none =>
  refine⟨fun b hb=>?_,by simp,by simp⟩;rw[List.mem_singleton.1 hb];have h1:=BhY hn;have h2:=(wrapL_le 60 (goneT no)).2;have h3:=goneT_len hn;refine⟨A8A no,⟨(A8A no).kinds,by omega,by simp[goneB]⟩,by omega,⟨by simp[goneB],fun l hl=>?_⟩⟩<;>grind[goneB]
theorem AsV{xs:List Sc}{nos:List LU}{i:Nat}(h:i<nos.length):entsB xs (nos.take (i+1))=entsB xs (nos.take i)++entB xs nos[i]:=by
 grind[entsB,laf]
theorem AzH{xs:List Sc}{nos:List LU}(h:MdOk xs nos):∀ i,i<=nos.length->(entsB xs (nos.take i)).length<=61*i
 | 0,_=>by simp[entsB]
 | i+1,hi=>by
  have ih:=AzH h i (by omega);have h2:=(AeW h.sc (h.num _ (lac (show i<nos.length by omega)))).2.2;rw[AsV (by omega),lah];omega
theorem AsW{xs:List Sc}{nos:List LU}(h:MdOk xs nos){i j:Nat}(hij:i<j)(hj:j<=nos.length):(entsB xs (nos.take i)).length<(entsB xs (nos.take j)).length:=by
 induction j with
 | zero=>omega
 | succ j ih =>
  have h2:=(AeW h.sc (h.num _ (lac (show j<nos.length by omega)))).2.1
  grind[AsV]
theorem AeX{b:Bl}:∀ (f fr:Nat)(s:LS),s.Lg.length=s.Lh.length->(placeB b f fr s).Lg.length=(placeB b f fr s).Lh.length
 | 0,_,s,h=>h
 | f+1,fr,s,h=>by
  unfold placeB
  split
  .exact h
  .refine AeX f _ _ ?_
   simp[breakS,addS,flushS,h]
theorem firsts_pages_to(bs:List Bl):∀ i,(layTo bs i).Lg.length=(layTo bs i).Lh.length
 | 0=>rfl
 | i+1=>by
  have ih:=firsts_pages_to bs i;simp only[layTo]
  split
  .refine AeX _ _ _ ?_
   unfold openS gapS firstS turnS
   split <;> split <;> simp[flushS,ih]
  .exact ih
theorem firsts_pages(bs:List Bl):(layL bs).Lg.length=(layL bs).Lh.length:=by
 grind[firsts_pages_to,layL,flushS]
theorem BaX{xs:List Sc}{nos:List LU}(hm:MdOk xs nos):(layL (entsB xs nos)).Lg.length<=1000000000000:=by
 have hfewN:=hm.fewN;have hlen:=AzH hm nos.length (lad _);have hbl:∀ b∈entsB xs nos,BlOk b/\BlFit b/\b.Lb.length<=11000000/\sizB b:=fun b hb=>by
  obtain⟨n,hn,hb⟩:=List.mem_flatMap.1 hb;exact(AeW hm.sc (hm.num n hn)).1 b hb
 have hcost:=BhV (fun b hb=>(hbl b hb).2.2.1) _ (lad _);have:=BqD (entsB xs nos) (fun b hb=>(hbl b hb).1.own)
 grind[firsts_pages]
def idxP{α:Type}(p:α->Bool)(l:List α):Int:=match l.findIdx? p with|some i=>(i:Int)|none=>-1
theorem BhZ{α:Type}{p:α->Bool}{l:List α}:(idxP p l=-1/\l.find? p=none)\/∃ i,∃ h:i<l.length,idxP p l=(i:Int)/\l.find? p=some l[i]:=by
 grind[idxP,List.findIdx?_eq_some_iff_getElem,List.find?_eq_some_iff_getElem]
theorem BqE(l:List LU)(x:LU)(hl:l.length<1000000):Pc prog 134 [.fz 1 (l.map .str),.str x] (· = .int .i64 (idxP (fun y=>x==y) l)):=by
 refine zpIB func134 rfl fun h ρ w=>?_
 simp only[go_sem];refine AaE (ι:=Nat) (fun i=>l.length-i) (fun i=>[(8,.int .i64 i),(7,.int .i64 l.length),(1,.str x),(0,.fz 1 (l.map .str))]) (fun _=>[]) (fun i=>i<=l.length/\∀ j<i,∀ h:j<l.length,(x==l[j])=false) 0 ⟨by simp,fun j h=>absurd h (by omega)⟩ ?_ ?_
 .refine Lr ?_
  simp only[go_sem,laa]
 rintro i ⟨g1,g2⟩ J hJ
 by_cases gi:i<l.length
 .have di:decide ((i:Int)<(l.length:Int))=true:=by simp; omega
  have hx:=AmX gi;apply zgB
  cases he:x==l[i]with
  | true =>
   have hidx:idxP (fun y=>x==y) l=(i:Int):=by
    unfold idxP;rw[List.findIdx?_eq_some_iff_getElem.2 ⟨gi,he,fun j hj=>by simp[g2 j hj (by omega)]⟩]
   simp only[go_sem,di,hx,he,laa]
   repeat refine aqb ?_
   exact aret [4] rfl ⟨by simp[resV,Av.get,Av.put,hidx],rfl⟩
  | false =>
   have hfin:=hJ (i+1) ⟨by omega,fun j hj h=>by
    rcases Nat.lt_or_ge j i with hh|hh
    .exact g2 j hh h
    .have:j=i:=by omega
     subst this; exact he⟩ (by omega)
   simp only[go_sem,di,hx,he,laa]
   repeat refine aqb ?_
   rw[ic i];refine ainv hfin (Lr ?_);simp only[go_sem]
 .have di:decide ((i:Int)<(l.length:Int))=false:=by simp; omega
  have hidx:idxP (fun y=>x==y) l=-1:=by
   unfold idxP;rw[List.findIdx?_eq_none_iff.2 fun y hy=>by
    obtain⟨j,hj,rfl⟩:=List.getElem_of_mem hy;exact g2 j (by omega) hj]
  apply zgB;simp only[go_sem,di];exact aret [4] rfl ⟨by rw[hidx]; rfl,rfl⟩
theorem ApR(l:List LU)(x:LU)(hl:l.length<1000000):Pc prog 71 [.fz 1 (l.map .str),.str x] (· = .bool (decide (x∈l))):=by
 have hi:=BqE l x hl;have hb:decide (idxP (fun y=>x==y) l>=0)=decide (x∈l):=by
  rcases BhZ (p:=fun y=>x==y) (l:=l)with⟨h1,h2⟩|⟨i,hi,h1,h2⟩
  .rw [h1]
   have:x ∉ l:=fun hm=>by
    rw[List.find?_eq_none]at h2;have:=h2 x hm
    simp at this
   simp[this]
  .rw [h1]
   have h3:=List.find?_some h2;simp only[lbr]at h3;have:x∈l:=by rw[h3]; exact lac hi
   simp[this]
 rw[<- hb];refine zpIB func71 rfl fun h ρ w=>?_
 simp only[go_sem];refine zpB (hi) ?_;simp only[go_sem];exact zt [4]
def endsL(s:LU):LU×LU:=((Lib.cut s [45]).1,if(Lib.cut s [45]).2.2 then(Lib.cut s [45]).2.1 else(Lib.cut s [45]).1)
def runStep(rs:List (Nat×Nat))(i:Nat)(f:Le'):List (Nat×Nat) :=
 if f.first≠[] then rs++[(i,i+1)] else if rs=[] then[] else rs.set (rs.length-1) ((rs.getD (rs.length-1) (0,0)).1,i+1)
def runsTo(l:List Le'):Nat->List (Nat×Nat)
 | 0=>[]
 | i+1=>match l[i]? with
  | some f=>runStep (runsTo l i) i f
  | none=>runsTo l i
def AaC(l:List Le'):List (Nat×Nat):=runsTo l l.length
theorem AcU(l:List Le'):∀ i,(runsTo l i).length<=i
 | 0=>by simp[runsTo]
 | i+1=>by
  have ih:=AcU l i;simp only[runsTo]
  split
  .unfold runStep
   split
   .simp; omega
   .split
    .simp
    .simp; omega
  .omega
theorem AgN{l:List Le'}{i:Nat}(h:i<l.length):List.getD (l.map leA) i .any=.agg [.str l[i].name,.int .i64 l[i].Lj,.str l[i].first,.fz 1 (l[i].Lb.map .str)]:=by grind[leA]
theorem compareN_le{a b:LU}:compareN a b<=0 ↔ ¬ nLt b a:=by
 rw[<- ApC]; omega
structure NumsOk(d:Dr):Prop where
 all:∀ x∈d.Lc,x.no≠[]
 rise:(nosL d.Lc).Pairwise nLt
 riseG:d.Lp.Pairwise nLt
 apart:∀ n∈d.Lp,n ∉ nosL d.Lc
 few:d.Lc.length+d.Lp.length<=300
def leafNameL(s:LU):Bool:=numberL (Lib.cut s [45]).1&&(!(Lib.cut s [45]).2.2||(numberL (Lib.cut s [45]).2.1&&decide (compareN (Lib.cut s [45]).1 (Lib.cut s [45]).2.1<0)))
theorem cut_len(s p:LU):(Lib.cut s p).1.length<=s.length/\(Lib.cut s p).2.1.length<=s.length:=by
 grind[Lib.cut]
theorem ends_num{s:LU}(h:leafNameL s=true):numberL (endsL s).1=true/\numberL (endsL s).2=true/\((endsL s).1=(endsL s).2\/nLt (endsL s).1 (endsL s).2):=by
 grind[leafNameL,endsL,compareN_lt]
def plainC(c:UInt8):Bool:=!(decide ((c.toNat:Int)<32)||decide ((c.toNat:Int)>126))
structure LineFit(s:LU):Prop where
 len:s.length<=80
 suf:Lib.hasSuffix s [32]=false
 plain:s.all plainC=true
structure LinesOk(ls:List LU):Prop where
 few:ls.length<=54
 some:ls≠[]
 all:∀ s∈ls,LineFit s
structure LeafOk(f:Le'):Prop where
 name:leafNameL f.name=true
 Lj:1<=f.Lj/\f.Lj<=30
 first:f.first=[]\/numberL f.first=true
 Lb:LinesOk f.Lb
structure BinderOk(l:List Le'):Prop where
 few:l.length<=1500
 all:∀ f∈l,LeafOk f
 rise:∀ i,(h:i+1<l.length)->nLt (endsL l[i].name).2 (endsL l[i+1].name).1
theorem plainC_val{c:UInt8}:plainC c=true ↔ decide ((c.toNat:Int)<32)=false/\decide ((c.toNat:Int)>126)=false:=by
 grind[plainC]
def le0:Le':=⟨[],0,[],[]⟩
def lastE(l:List Le')(i:Nat):LU:=if i=0 then[] else(endsL (l.getD (i-1) le0).name).2
