/- Blocks of lines: headings, actions, turns, what is added to a group. -/
import Derived.Test.YtccfklnmolggiaaGreatDoorZ23
import Derived.Test.YtccfklnmolggiaaGreatDoorZ17
set_option maxRecDepth 100000
set_option maxHeartbeats 2000000
set_option linter.all false
namespace Go.Proofs.YtccfklnmolggiaaGreatDoor
open Av RowKit Proofs.Tryz
theorem AbP(n:Nat):(Lib.repeatL [32] n).length=n:=by
 grind[Lib.repeatL_length]
theorem A6F(W:Nat):∀ (n:Nat)(w:LU),w.length<=n->∀ l∈(chop W w).1,l.length<=w.length
 | 0,w,h,l,hl=>by grind[chop_end]
 | n+1,w,h,l,hl=>by
  by_cases hc:W<w.length/\0<W
  .rw [AcR hc.1 hc.2]at hl
   rcases List.mem_cons.1 hl with rfl|hl
   .grind
   .have:=A6F W n (w.drop W) (by grind) l hl
    grind
  grind[chop]
theorem AtD(W:Nat)(t:LU):∀ j,j<=(splitW t).length->∀ l∈(wrapTo W t j).1,l.length<=sumTo t j
 | 0,_,l,hl=>by grind[wrapTo]
 | j+1,hj,l,hl=>by
  have hjl:j<(splitW t).length:=by omega
  have h:=lad hjl;have ih:=AtD W t j (by omega);have hb:=AeI W t j (by omega);rw[wrapTo_step h]at hl;rw[AiJ h];unfold wrapS at hl
  split at hl
  .grind
  .split at hl
   .grind
   .rcases List.mem_append.1 hl with hl|hl
    .grind
    .have:=A6F W _ _ (lab _) l hl; omega
theorem wrapL_le(W:Nat)(t:LU):(wrapL W t).length<=t.length+2/\∀ l∈wrapL W t,l.length<=t.length+1:=by
 have htot:wrapTo W t (splitW t).length=wrapF W t:=by grind[wrapTo,wrapF]
 have hb:=AeI W t _ (lab _);have hb2:=AjT t _ (lab _);have hb3:=AtD W t _ (lab _)
 grind[wrapL]
structure Bl where
 kind:Int
 La:List LU
 kinds:List Int
 name:LU
def blA(b:Bl):AV:=.agg [.int .i64 b.kind,.fz 1 (b.La.map .str),.fz 1 (b.kinds.map (.int .i64)),.str b.name]
theorem BjS(b:Bl):Pc prog 99 [blA b] (· = .int .i64 (if b.kind==0 then 2 else 1)):=by
 simp only[blA]
 cases hb:b.kind==0 with
 | true =>
  refine zpIN func99 rfl fun h ρ w=>?_
  simp only[go_sem,hb];exact aret [2] rfl ⟨by simp[resV,Av.get],rfl⟩
 | false =>
  refine zpIN func99 rfl fun h ρ w=>?_
  simp only[go_sem,hb];exact aret [2] rfl ⟨by simp[resV,Av.get],rfl⟩
theorem AmZ{St:Std}(hS:LibOk St)(t:LU)(hl:t.length<10000000):PcH prog St 91 [.str t] (· = blA ⟨0,wrapL 60 t,[],[]⟩):=by
 have hw:=AjU hS t 60 (by omega) (by omega) (by omega);simp only[blA];refine zqIF func91 rfl fun h ρ w hg=>?_
 simp only[go_sem];refine zqF hg (hw) ?_;simp only[go_sem];exact ARet.shift (Shift.cells 0 1 [.agg [.int .i64 0,.fz 1 ((wrapL 60 t).map .str),.fz 1 [],.str []]] rfl rfl (by simp[cellsOf]) ⟨.refl,.refl,.fz,.refl,trivial⟩) (AbU [.cell 2 143] rfl [_] ⟨by simp only[go_sem,sideIs],trivial⟩ ⟨rfl,rfl⟩)
theorem AqC{St:Std}(hS:LibOk St)(t:LU)(hl:t.length<10000000):PcH prog St 93 [.str t] (· = blA ⟨1,wrapL 60 t,[],[]⟩):=by
 have hw:=AjU hS t 60 (by omega) (by omega) (by omega);simp only[blA];refine zqIF func93 rfl fun h ρ w hg=>?_
 simp only[go_sem];refine zqF hg (hw) ?_;simp only[go_sem];exact ARet.shift (Shift.cells 0 1 [.agg [.int .i64 1,.fz 1 ((wrapL 60 t).map .str),.fz 1 [],.str []]] rfl rfl (by simp[cellsOf]) ⟨.refl,.refl,.fz,.refl,trivial⟩) (AbU [.cell 2 143] rfl [_] ⟨by simp only[go_sem,sideIs],trivial⟩ ⟨rfl,rfl⟩)
def turnLine(t:LU):LU:=Lib.repeatL [32] (60-(t.length+1))++(t++[58])
theorem A1N(t:LU)(hl:t.length<10000000):Pc prog 94 [.str t] (· = blA ⟨2,[turnLine t],[],[]⟩):=by
 have hr:=AdJ [32] (60-(t.length+1)) (by simp; omega) (by omega);simp only[blA];have hmx:(if 60-((t.length+1:Nat):Int)<0 then 0 else 60-((t.length+1:Nat):Int))=((60-(t.length+1):Nat):Int):=by split <;> omega
 refine zpIF func94 rfl fun h ρ w=>?_
 simp only[go_sem];rw[hmx];refine⟨by omega,by omega,by omega,?_⟩;refine zpF (hr) ?_;simp only[go_sem];refine⟨by rw[AbP]; omega,?_⟩;exact ARet.shift (Shift.cells 0 1 [.agg [.int .i64 2,.fz 1 [.str (turnLine t)],.fz 1 [],.str []]] rfl rfl (by simp[cellsOf]) ⟨.refl,.refl,.fz,.refl,trivial⟩) (AbU [.cell 2 143] rfl [_] ⟨by simp only[go_sem,sideIs],trivial⟩ ⟨rfl,rfl⟩)
def indent(n:Nat)(l:LU):LU:=Lib.repeatL [32] n++l
structure Grp(S:AV->LY->LY->LB)(M:AV->LY)(ib il ik n i:Nat):Prop where
 hi:i<n
 hb:∀ g L K,(S g L K).getD ib .dead=.arr 4 (M g)
 hM:∀ g,(M g).length=n
 hMi:∀ g,List.getD (M g) i .any=g
 hMs:∀ g g',(M g).set i g'=M g'
 hbs:∀ g g' L K,(S g L K).set ib (.arr 4 (M g'))=S g' L K
 hL:∀ g L K,(S g L K).getD il .dead=.arr 1 L
 hLs:∀ g L L' K,(S g L K).set il (.arr 1 L')=S g L' K
 hK:∀ g L K,(S g L K).getD ik .dead=.arr 1 K
 hKs:∀ g L K K',(S g L K).set ik (.arr 1 K')=S g L K'
def grpA(il ik:Nat)(kd:Int)(a b:Nat)(nm:LU):AV:=.agg [.int .i64 kd,.sl il 0 a a,.sl ik 0 b b,.str nm]
def grpS(S:AV->LY->LY->LB)(il ik:Nat)(b:Bl):LB:=S (grpA il ik b.kind b.La.length b.kinds.length b.name) (b.La.map .str) (b.kinds.map (.int .i64))
def addB(b:Bl)(kd:Int)(at':Nat)(ls:List LU):Bl:={ b with La:=b.La++ls.map (indent at'),kinds:=b.kinds++List.replicate ls.length kd }
theorem AgR{S:AV->LY->LY->LB}{M:AV->LY}{ib il ik n i:Nat}(G:Grp S M ib il ik n i)(b:Bl)(kd':Int)(at':Nat)(hat:at'<=1000)(ls:List LU)(hsm:b.La.length+ls.length<1000000000)(hsk:b.kinds.length+ls.length<1000000000)(hll:∀ l∈ls,l.length<1000000) :
  Ct prog 141 [.ptr ib n i 0,.int .i64 kd',.int .i64 (at':Int),.fz 1 (ls.map .str)] (grpS S il ik b) (fun r s=>r=.tup []/\s=grpS S il ik (addB b kd' at' ls)):=by
 obtain⟨hi,hb,hM,hMi,hMs,hbs,hL,hLs,hK,hKs⟩:=G;obtain⟨kd,L0,K0,nm⟩:=b;simp only[grpS,grpA,addB,lak,laa,lbz]at hsm hsk |-;have hr:=AdJ [32] at' (by simp; omega) (by omega);refine zcIF func141 rfl fun h ρ w=>?_
 simp only[go_sem,laa];refine AaI (ι:=Nat) (fun j=>ls.length-j) (fun j=>[(12,.int .i64 j),(11,.int .i64 ls.length),(10,.fz 1 (ls.map .str)),(0,.ptr ib n i 0),(1,.int .i64 kd'),(2,.int .i64 (at':Int))])
  (fun j=>S (.agg [.int .i64 kd,.sl il 0 (L0.length+j) (L0.length+j),.sl ik 0 (K0.length+j) (K0.length+j),.str nm]) ((L0++(ls.take j).map (indent at')).map .str) ((K0++List.replicate j kd').map (.int .i64))) (fun j=>j<=ls.length) 0 (by simp) ?_ ?_
 .refine Lp ?_ ?_
  .simp only [go_sem]
  .simp
 .intro j g1 J hJ
  by_cases gj:j<ls.length
  .have dj:decide ((j:Int)<(ls.length:Int))=true:=by simp; omega
   have hg':List.getD (List.map AV.str ls) j .any=.str ls[j]:=by simp[List.getD,gj]
   have hlt:(List.take j ls).length=j:=by simp; omega
   have hlj:=hll ls[j] (lai gj);have hbl:=AbP at';apply zgF;simp only[go_sem,dj,hg',laa]
   repeat refine aqb ?_
   refine zr [.str (Lib.repeatL [32] at')] AaJ ?_;simp only[go_sem,hb,hM,hMi,hMs,hbs,hL,hLs,hK,hKs,hlt,laa,lbz]
   repeat refine And.intro (by first|omega|exact hr.at|exact .inl trivial|rfl|(simp; done)|(simp; omega)) ?_
   apply zgF;simp only[go_sem,hb,hM,hMi,hMs,hbs,hL,hLs,hK,hKs,hlt,laa,lbz]
   repeat refine aqb ?_
   have e1:List.map AV.str (L0++List.map (indent at') (List.take j ls))++[AV.str (Lib.repeatL [32] at'++ls[j])]=List.map AV.str (L0++List.map (indent at') (List.take (j+1) ls)):=by
    rw[lal gj]; simp only[lap,lae,lah,laq]; rfl
   have e2:List.map (AV.int .i64) (K0++List.replicate j kd')++[AV.int .i64 kd']=List.map (AV.int .i64) (K0++List.replicate (j+1) kd'):=by
    rw[List.replicate_succ']; simp
   rw[e1,e2,show(j:Int)+1=((j+1:Nat):Int) by omega];refine ainv (hJ (j+1) (by omega) (by omega)) (Lo ?_);simp only[go_sem]
  .have dj:decide ((j:Int)<(ls.length:Int))=false:=by simp; omega
   have hj:j=ls.length:=by omega
   subst hj;apply zgF;simp only[go_sem,dj];exact aret [] rfl ⟨rfl,by simp⟩
theorem AtE{St:Std}(hS:LibOk St){S:AV->LY->LY->LB}{M:AV->LY}{ib il ik n i:Nat}(G:Grp S M ib il ik n i)(b:Bl)(t:LU)(hl:t.length<10000)(hsm:b.La.length<100000000)(hsk:b.kinds.length<100000000) :
  CtH prog St 96 [.ptr ib n i 0,.str t] (grpS S il ik b) (fun r s=>r=.tup []/\s=grpS S il ik (addB b 1 15 (wrapL 30 (40::(t++[41]))))):=by
 have hw:=AjU hS (40::(t++[41])) 30 (by simp; omega) (by omega) (by omega);have hle:=wrapL_le 30 (40::(t++[41]));simp only[laf,lak,lar]at hle;refine zdIF func96 rfl fun h ρ w hg=>?_
 simp only[go_sem]
 repeat refine aqc ?_
 refine zqF hg (hw) ?_;simp only[go_sem];refine za (AgR G b 1 15 (by omega) _ (by omega) (by omega) (fun l h=>by have:=hle.2 l h; omega)) ?_;rintro _ _ ⟨rfl,rfl⟩;apply zgF;simp only[go_sem];exact zt []
theorem AqD{St:Std}(hS:LibOk St){S:AV->LY->LY->LB}{M:AV->LY}{ib il ik n i:Nat}(G:Grp S M ib il ik n i)(b:Bl)(t:LU)(hl:t.length<10000)(hsm:b.La.length<100000000)(hsk:b.kinds.length<100000000) :
  CtH prog St 97 [.ptr ib n i 0,.str t] (grpS S il ik b) (fun r s=>r=.tup []/\s=grpS S il ik (addB b 2 10 (wrapL 35 t))):=by
 have hw:=AjU hS t 35 (by omega) (by omega) (by omega);have hle:=wrapL_le 35 t;refine zdIF func97 rfl fun h ρ w hg=>?_
 simp only[go_sem];refine zqF hg (hw) ?_;simp only[go_sem];refine za (AgR G b 2 10 (by omega) _ (by omega) (by omega) (fun l h=>by have:=hle.2 l h; omega)) ?_;rintro _ _ ⟨rfl,rfl⟩;apply zgF;simp only[go_sem];exact zt []
theorem AwK(b0 b1 b4:Blk)(nm:LU)(hl:nm.length<10000) :
  Ct prog 95 [.str nm] [b0,b1,.arr 1 [],.arr 1 [],b4] (fun r s=>r=grpA 2 3 3 1 1 nm/\∃ b5 b6,s=[b0,b1,.arr 1 [.str (indent 20 nm)],.arr 1 [.int .i64 0],b4,b5,b6]):=by
 refine AaZ func95 rfl ntmps95 hB95 (by simp) fun h ρ w=>goF rfl 16 ?_
 simp only[go_sem]
 repeat refine aqd ?_
 refine AWp.shift (Shift.cellsAt 6 2 [.agg [.int .i64 3,.sl 2 0 0 0,.raw (.slice none 0 0),.str nm]] rfl rfl rfl (by simp[cellsOf]) ⟨.refl,.sl,.refl,.refl,trivial⟩) ?_;refine AWp.shift (Shift.cellsAt 6 3 [.agg [.int .i64 3,.sl 2 0 0 0,.sl 3 0 0 0,.str nm]] rfl rfl rfl (by simp[cellsOf]) ⟨.refl,.refl,.sl,.refl,trivial⟩) ?_;apply zgF;simp only[go_sem];have G:Grp (fun g L K=>[b0,b1,.arr 1 L,.arr 1 K,b4,.arr 4 [.agg [.int .i64 0,.raw (.slice none 0 0),.raw (.slice none 0 0),.str []]],.arr 4 [g]]) (fun g=>[g]) 6 2 3 1 0 :=
  ⟨by omega,fun _ _ _=>rfl,fun _=>rfl,fun _=>rfl,fun _ _=>rfl,fun _ _ _ _=>rfl,fun _ _ _=>rfl,fun _ _ _ _=>rfl,fun _ _ _=>rfl,fun _ _ _ _=>rfl⟩
 have hadd:=AgR G ⟨3,[],[],nm⟩ 0 20 (by omega) [nm] (by simp) (by simp) (by simp; omega);simp only[grpS,grpA,addB,lar,laq,lah,laf,lbm,List.replicate]at hadd;refine za (hadd) ?_;rintro _ _ ⟨rfl,rfl⟩;apply zgF;simp only[go_sem];exact AbU [.cell 2 143] rfl [_] ⟨by simp only[go_sem,sideIs],trivial⟩ ⟨rfl,_,_,rfl⟩
def AgK(p:Int):LU:=[[],[73,78,84,46],[69,88,84,46],[73,78,84,46,47,69,88,84,46]].getD p.toNat []
def AtF(p:Int):LU:=[[],[68,65,89],[78,73,71,72,84],[68,65,87,78],[68,85,83,75],[76,65,84,69,82]].getD p.toNat []
def headLine(x:Sc):LU:=AgK x.place++[32]++x.set++[32,45,32]++AtF x.time
def headL(x:Sc):LU:=if x.no != [] then x.no++[32]++headLine x else headLine x
theorem AzG(p:Int)(h:1<=p/\p<=3):List.getD placeW p.toNat .any=.str (AgK p):=by
 obtain⟨n,rfl⟩:=Int.eq_ofNat_of_zero_le (by omega:0<=p);have:n=1\/n=2\/n=3:=by omega
 rcases this with rfl|rfl|rfl <;> rfl
theorem A6G(p:Int)(h:1<=p/\p<=5):List.getD AhF p.toNat .any=.str (AtF p):=by
 obtain⟨n,rfl⟩:=Int.eq_ofNat_of_zero_le (by omega:0<=p);have:n=1\/n=2\/n=3\/n=4\/n=5:=by omega
 rcases this with rfl|rfl|rfl|rfl|rfl <;> rfl
theorem AeJ(p:Int):(AgK p).length<=9:=by
 unfold AgK
 match p.toNat with
 | 0|1|2|3=>decide
 | n+4=>grind
theorem AfH(p:Int):(AtF p).length<=5:=by
 unfold AtF
 match p.toNat with
 | 0|1|2|3|4|5=>decide
 | n+6=>grind
theorem AnA(x:Sc)(hp:1<=x.place/\x.place<=3)(ht:1<=x.time/\x.time<=5)(hl:x.no.length<1000001)(hl2:x.set.length<10000):Pc prog 92 [scA x] (· = .str (headL x)):=by
 have h1:=AzG x.place hp;have h2:=A6G x.time ht;have l1:=AeJ x.place;have l2:=AfH x.time;simp only[scA];refine zpIF func92 rfl fun h ρ w=>?_
 simp only[go_sem];refine zr [.fz 1 placeW,.fz 1 AhF] AaJ ?_;simp only[go_sem,h1,h2]
 repeat refine And.intro (by first|omega|exact place_pc.at|exact time_pc.at|rfl|(simp[placeW,AhF]; done)|(simp[placeW,AhF]; omega)) ?_
 cases hn:x.no != []with
 | true =>
  apply zgF;simp only[go_sem,hn]
  repeat refine aqc ?_
  exact aret [2] rfl ⟨by simp[resV,Av.get,headL,hn,headLine],rfl⟩
 | false =>
  apply zgF;simp only[go_sem,hn];exact aret [2] rfl ⟨by simp[resV,Av.get,headL,hn,headLine],rfl⟩
theorem AlL:∀ (ps:List Pa)(l e:Int),runL l ps=some e->∀ p∈ps,paraOk p=true
 | [],_,_,_,p,hp=>by grind
 | a::r,l,e,h,p,hp=>by
  simp only[runL]at h
  split at h
  .rename_i hc
   simp at hc
   rcases List.mem_cons.1 hp with rfl|hp
   .exact hc.1
   .exact AlL r _ _ h p hp
  .cases h
theorem AqE{ps:List Pa}{e:Int}(h:runL 0 ps=some e):∀ p,ps.head? = some p->joins p=false:=by
 cases ps<;>grind[runL,followsL,joins]
theorem AgC{p:Pa}(h:paraOk p=true):p.text.length<=2000:=by
 grind[paraOk]
theorem BhC:∀ (l:List Sc)(acc:List LU)(f:Bool),AlH acc f l->∀ x∈l,SceneOk x
 | [],_,_,_,x,hx=>by simp at hx
 | a::r,acc,f,h,x,hx=>by
  rcases List.mem_cons.1 hx with rfl|hx
  .exact h.2.2.2.2.1
  .exact BhC r _ _ h.2.2.2.2.2 x hx
theorem A6H:∀ (l:List Sc)(x:Sc),x∈l->x.Lc.length<=paraSum l
 | [],x,h=>by simp at h
 | a::r,x,h=>by
  simp only[paraSum,lah,List.sum_cons]
  rcases List.mem_cons.1 h with rfl|h
  .omega
  .have:=A6H r x h
   simp only[paraSum]at this;omega
def x0:Sc:=⟨[],0,[],0,[]⟩
def chunksFrom(cur:List Pa):List Pa->List (List Pa)
 | []=>[cur]
 | p::r=>if joins p then chunksFrom (cur++[p]) r else cur::chunksFrom [p] r
def AnT:List Pa->List (List Pa)
 | []=>[]
 | p::r=>chunksFrom [p] r
theorem BhD{ps:List Pa}{i:Nat}(h:i<ps.length):cutP ps (i,i+1)=[ps[i]]:=by
 grind[cutP,lal]
theorem BbZ{ps:List Pa}{a i:Nat}(ha:a<=i)(h:i<ps.length):cutP ps (a,i+1)=cutP ps (a,i)++[ps[i]]:=by
 grind[cutP,lal]
theorem AlM(ps:List Pa):∀ (rest:List Pa)(i a:Nat)(init:List (Nat×Nat)),a<=i->ps.drop i=rest ->
  (gfold (init++[(a,i)]) i rest).map (cutP ps)=init.map (cutP ps)++chunksFrom (cutP ps (a,i)) rest
 | [],i,a,init,ha,hr=>by grind[gfold,chunksFrom]
 | p::r,i,a,init,ha,hr=>by
  have hi:i<ps.length:=by
   grind[List.drop_of_length_le]
  have hd:=lbc hi;rw[hr]at hd;simp only[List.cons.injEq]at hd;obtain⟨hp,hr'⟩:=hd
  cases hj:joins p with
  | true =>
   have hg:gstep (init++[(a,i)]) i p=init++[(a,i+1)]:=by
    simp[gstep,hj,List.set_append,List.getD]
   rw[gfold,hg,AlM ps r (i+1) a init (by omega) hr'.symm,chunksFrom,if_pos hj,BbZ ha hi,hp]
  | false =>
   have hg:gstep (init++[(a,i)]) i p=(init++[(a,i)])++[(i,i+1)]:=by simp[gstep,hj]
   rw[gfold,hg,AlM ps r (i+1) i (init++[(a,i)]) (by omega) hr'.symm,chunksFrom,hj,BhD hi,hp]
   simp
theorem A1O(ps:List Pa)(h0:∀ p,ps.head? = some p->joins p=false):(groupsL ps).map (cutP ps)=AnT ps:=by
 cases ps with
 | nil=>rfl
 | cons p r =>
  have hg:gstep [] 0 p=[]++[(0,1)]:=by grind[gstep]
  rw[groupsL,gfold,hg,AlM (p::r) r 1 0 [] (by omega) rfl];rfl
def hdP(c:List Pa):Pa:=c.head?.getD pNo
def ownC(name:LU)(ws:List LU)(c:List Pa)(nxt:Option (List Pa)):Bool :=
 A6C (hdP c) name||(((hdP c).kind==2&&(match nxt with|some d=>A6C (hdP d) name|none=>false)) ||
  ((hdP c).kind != 2&&(decide (0<ws.length)&&decide (0<(foundL (wordsL (hdP c).text) ws).length))))
def partC(name:LU)(ws:List LU):List (List Pa)->List Pa
 | []=>[]
 | c::r=>(if ownC name ws c r.head? then c else[])++partC name ws r
theorem hd_cut{ps:List Pa}{g:Nat×Nat}(h:g.1<g.2/\g.2<=ps.length):hdP (cutP ps g)=ps.getD g.1 pNo:=by
 grind[hdP,cutP,List.head?_drop]
theorem BhE{ps:List Pa}{gs:List (Nat×Nat)}(hgo:∀ g∈gs,g.1<g.2/\g.2<=ps.length)(name:LU)(ws:List LU){k:Nat}(hk:k<gs.length) :
  ownB ps name ws gs k=ownC name ws (cutP ps gs[k]) ((gs.map (cutP ps)).drop (k+1)).head?:=by
 grind[headP,hd_cut,ownB,ownC,List.head?_drop]
theorem AtG{ps:List Pa}{gs:List (Nat×Nat)}(hgo:∀ g∈gs,g.1<g.2/\g.2<=ps.length)(name:LU)(ws:List LU):∀ (d k:Nat),k+d=gs.length ->
  partTo ps name ws gs gs.length=partTo ps name ws gs k++partC name ws ((gs.map (cutP ps)).drop k)
 | 0,k,h=>by
  grind[List.drop_of_length_le,partC]
 | d+1,k,h=>by
  have hk:k<gs.length:=by omega
  have hk':k<(gs.map (cutP ps)).length:=by grind
  rw[AtG hgo name ws d (k+1) (by omega),lbc hk',partC,partTo,BhE hgo name ws hk]
  grind
theorem AwL(ps:List Pa)(name:LU)(h0:∀ p,ps.head? = some p->joins p=false):partL ps name=partC name (wordsL name) (AnT ps):=by
 rw[partL,AtG (AtA ps) name (wordsL name) (groupsL ps).length 0 (by omega),A1O ps h0]
 simp[partTo]
def keepC(name:LU)(ws:List LU):List (List Pa)->List (List Pa)
 | []=>[]
 | c::r=>if ownC name ws c r.head? then c::keepC name ws r else keepC name ws r
theorem AnU(name:LU)(ws:List LU):∀ cs,partC name ws cs=(keepC name ws cs).flatten
 | []=>rfl
 | c::r=>by
  rw[partC,keepC,AnU name ws r]
  split <;> simp
def WfC:List Pa->Prop
 | []=>False
 | p::r=>joins p=false/\∀ q∈r,joins q=true
theorem AeT:∀ (ps cur:List Pa),WfC cur->∀ c∈chunksFrom cur ps,WfC c
 | [],cur,h,c,hc=>by
  grind[chunksFrom]
 | p::r,cur,h,c,hc=>by
  rw[chunksFrom]at hc
  split at hc
  .rename_i hj
   refine AeT r (cur++[p]) ?_ c hc
   cases cur with
   | nil=>exact h.elim
   | cons a t=>exact⟨h.1,fun q hq=>by
     rcases List.mem_append.1 hq with hq|hq
     .exact h.2 q hq
     .rw [List.mem_singleton.1 hq]; exact hj⟩
  .rename_i hj
   rcases List.mem_cons.1 hc with rfl|hc
   .exact h
   .exact AeT r [p] ⟨by simpa using hj,by simp⟩ c hc
theorem A6I(ps:List Pa)(h0:∀ p,ps.head? = some p->joins p=false):∀ c∈AnT ps,WfC c:=by
 cases ps with
 | nil=>grind[AnT]
 | cons p r=>exact AeT r [p] ⟨h0 p rfl,by simp⟩
theorem AqF(name:LU)(ws:List LU):∀ cs,∀ c∈keepC name ws cs,c∈cs
 | [],c,h=>by grind[keepC]
 | d::r,c,h=>by
  rw[keepC]at h
  split at h
  .rcases List.mem_cons.1 h with rfl|h
   .simp
   .exact lcg _ (AqF name ws r c h)
  .exact lcg _ (AqF name ws r c h)
theorem AnV:∀ (a b:List Pa)(l e:Int),runL l (a++b)=some e->∃ m,runL l a=some m/\runL m b=some e
 | [],b,l,e,h=>⟨l,rfl,h⟩
 | p::a,b,l,e,h=>by
  simp only[las,runL]at h
  split at h
  .rename_i hc
   obtain⟨m,h1,h2⟩:=AnV a b _ e h;exact⟨m,by simp only[runL,if_pos hc]; exact h1,h2⟩
  .cases h
def Free(c:List Pa):Prop:=∀ l,l≠2->l≠3->∃ e,runL l c=some e/\e≠2/\e≠3
theorem join_no{q:Pa}(h:joins q=false):q.kind≠3/\q.kind≠4:=by
 grind[joins]
theorem A6J{q:Pa}{m:Int}(h:joins q=false)(hf:followsL q.kind m=true):m≠2/\m≠3:=by
 grind[join_no,followsL]
theorem BhF{c:List Pa}(hw:WfC c){l m:Int}(h:runL l c=some m)(h2:m≠2)(h3:m≠3):Free c:=by
 cases c with
 | nil=>exact hw.elim
 | cons p t =>
  intro l' a b;simp only[runL]at h |-
  split at h
  .rename_i hc
   obtain⟨k3,k4⟩:=join_no hw.1
   grind[AfG]
  grind
theorem AzH:∀ (cs:List (List Pa))(l e:Int),(∀ c∈cs,WfC c)->runL l cs.flatten=some e->e≠2->e≠3->∀ c∈cs,Free c
 | [],_,_,_,_,_,_,c,hc=>by grind
 | d::r,l,e,hw,h,h2,h3,c,hc=>by
  obtain⟨m,h4,h5⟩:=AnV _ _ _ _ h;have hm:m≠2/\m≠3:=by
   cases r with
   | nil =>
    simp only[List.flatten_nil,runL,lam]at h5;subst h5; exact⟨h2,h3⟩
   | cons f r =>
    have hf:=hw f (by simp)
    cases f with
    | nil=>exact hf.elim
    | cons q t =>
     rw[List.flatten_cons,las]at h5;simp only[runL]at h5
     split at h5
     .rename_i hc
      simp at hc
      exact A6J hf.1 hc.2
     .cases h5
  rcases List.mem_cons.1 hc with rfl|hc
  .exact BhF (hw c (by simp)) h4 hm.1 hm.2
  .exact AzH r m e (fun x hx=>hw x (by simp[hx])) h5 h2 h3 c hc
theorem free_run:∀ (cs:List (List Pa))(l:Int),(∀ c∈cs,Free c)->l≠2->l≠3->∃ e,runL l cs.flatten=some e/\e≠2/\e≠3
 | [],l,_,a,b=>⟨l,rfl,a,b⟩
 | c::r,l,h,a,b=>by
  obtain⟨m,h1,h2,h3⟩:=h c (by simp) l a b
  simp_all[free_run,runL_append]
theorem AdX:∀ (ps cur:List Pa),(chunksFrom cur ps).flatten=cur++ps
 | [],cur=>by simp[chunksFrom]
 | p::r,cur=>by
  rw[chunksFrom]
  split
  .rw [AdX r (cur++[p])]; simp
  .rw [List.flatten_cons,AdX r [p]]; simp
theorem A1P(ps:List Pa):(AnT ps).flatten=ps:=by
 cases ps with
 | nil=>rfl
 | cons p r=>exact AdX r [p]
theorem part_run{ps:List Pa}{e:Int}(name:LU)(h:runL 0 ps=some e)(h2:e≠2)(h3:e≠3):∃ e',runL 0 (partL ps name)=some e'/\e'≠2/\e'≠3:=by
 have h0:=AqE h;have hw:=A6I ps h0;have hf:=AzH (AnT ps) 0 e hw (by grind[A1P]) h2 h3;rw[AwL ps name h0,AnU];exact free_run _ 0 (fun c hc=>hf c (AqF name _ _ c hc)) (by decide) (by decide)
