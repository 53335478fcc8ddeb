/- Who speaks in a scene; times of scenes. -/
import Derived.Test.YtlldmgboedknfaaGreatDoorC26
set_option maxRecDepth 100000
set_option maxHeartbeats 2000000
set_option linter.unusedSimpArgs false
set_option linter.unusedVariables false
namespace Go.Proofs.YtlldmgboedknfaaGreatDoor
open Go Go.Av Go.RowKit _root_.Go.Proofs.Tryz
theorem AoN(l:List Int):(flat (l.map (AV.int .i64))).all Av.frozen=true:=by
 induction l with
 | nil=>rfl
 | cons y l ih=>simpa[flat,cellsOf,Av.frozen]using ih
def placeW:List AV:=[.str [],.str [73,78,84,46],.str [69,88,84,46],.str [73,78,84,46,47,69,88,84,46]]
def AqW:List AV:=[.str [],.str [68,65,89],.str [78,73,71,72,84],.str [68,65,87,78],.str [68,85,83,75],.str [76,65,84,69,82]]
theorem place_pc:Pc prog 158 [] (· = .fz 1 placeW):=by
 refine AbM (AaV func158 rfl ntmps158 hB158 (by simp) fun h ρ w=>goF rfl 200 ?_);simp only[go_sem];exact aret [0] rfl ⟨by simp[resV,Av.get,placeW],rfl⟩
theorem time_pc:Pc prog 159 [] (· = .fz 1 AqW):=by
 refine AbM (AaV func159 rfl ntmps159 hB159 (by simp) fun h ρ w=>goF rfl 200 ?_);simp only[go_sem];exact aret [0] rfl ⟨by simp[resV,Av.get,AqW],rfl⟩
def BjH:AV:=.agg [.int .i64 1,.str [82,97,105,110,46]]
def sceneA:AV:=.agg [.str [],.int .i64 1,.str [72,65,76,76],.int .i64 1,.fz 2 [.agg [.int .i64 1,.str [82,97,105,110,46]]]]
theorem A7V:Pc prog 113 [sceneA] (· = .str [73,78,84,46,32,72,65,76,76,32,45,32,68,65,89]):=by
 refine AbM (AaV func113 rfl ntmps113 hB113 (by simp) fun h ρ w=>go rfl 200 ?_);simp only[go_sem,sceneA];refine zr [.fz 1 placeW,.fz 1 AqW] mixed ?_;simp only[go_sem,sceneA,placeW,AqW];refine⟨place_pc.at,time_pc.at,?_⟩;refine go rfl 200 ?_;simp only[go_sem,sceneA];exact aret [2] rfl ⟨by simp[resV,Av.get],rfl⟩
theorem A7W(c:UInt8)(s o:List UInt8)(hs:s.length<1000000)(hn:Lib.indexByte o c<0):Pc prog 197 [.str (c::s),.str o] (· = .str (c::s)):=by
 refine AbM (AaV func197 rfl ntmps197 hB197 (by simp) fun h ρ w=>go rfl 200 ?_);simp only[go_sem];refine⟨by omega,?_⟩;refine zpN (AlN o (c.toNat:Int)) ?_;have h0:decide (0<=Lib.indexByte o c.toNat.toUInt8)=false:=by simp; omega
 simp only[go_sem,h0];exact aret [4] rfl ⟨by simp[resV,Av.get],rfl⟩
theorem BpP:Pc prog 144 [BjH] (· = .str [82,97,105,110,46]):=by
 refine AbM (AaV func144 rfl ntmps144 hB144 (by simp) fun h ρ w=>go rfl 200 ?_);simp only[go_sem,BjH];refine zpN (A7W 82 [97,105,110,46] [64,62,35,92] (by decide) (by decide)) ?_;simp only[go_sem];exact aret [2] rfl ⟨by simp[resV,Av.get],rfl⟩
theorem A1R:Pc prog 110 [.int .i64 1,.int .i64 0] (· = .bool true):=by
 refine AbM (AaV func110 rfl ntmps110 hB110 (by simp) fun h ρ w=>go rfl 200 ?_);simp only[go_sem];exact aret [4] rfl ⟨by simp[resV,Av.get],rfl⟩
theorem BdD{S:Std}(hS:LibOk S):PcH prog S 109 [BjH] (· = .int .i64 0):=by
 refine AcF (AcN func109 rfl ntmps109 hB109 (by simp) fun h ρ w hg=>go rfl 200 ?_);simp only[go_sem,BjH];refine zqN hg (AcO hS [82,97,105,110,46] (by decide)) ?_;have hp:plainL [82,97,105,110,46]=true:=by decide
 simp only[go_sem,hp];exact aret [2] rfl ⟨by simp[resV,Av.get],rfl⟩
theorem BdE{S:Std}(hS:LibOk S):PcH prog S 54 [sceneA] (· = .int .i64 0):=by
 refine AcF (AcN func54 rfl ntmps54 hB54 (by simp) fun h ρ w hg=>go rfl 200 ?_);simp only[go_sem,sceneA];refine zqN hg (AnW hS [72,65,76,76] (by decide)) ?_;have hp:isSetL [72,65,76,76]=true:=by decide
 simp only[go_sem,hp];refine AcT (around (zgN ?_));simp only[go_sem];refine zqN hg (BdD hS) ?_;simp only[go_sem];refine AcS A1R rfl rfl rfl (zgN ?_);simp only[go_sem];refine AdZ (around (zgN ?_));simp only[go_sem];exact aret [2] rfl ⟨by simp[resV,Av.get],rfl⟩
theorem blanks_len(n:Nat):(Lib.repeatL [32] n).length=n:=by
 rw[Lib.repeatL_length]; simp
theorem BdF(W:Nat):∀ (n:Nat)(w:List UInt8),w.length<=n->∀ l∈(chop W w).1,l.length<=w.length
 | 0,w,h,l,hl=>by rw[AdO (by omega)]at hl; simp at hl
 | n+1,w,h,l,hl=>by
  by_cases hc:W<w.length/\0<W
  .rw [AeC hc.1 hc.2]at hl
   rcases List.mem_cons.1 hl with rfl|hl
   .simp; omega
   .have:=BdF W n (w.drop W) (by simp; omega) l hl
    simp at this; omega
  .rw [chop,dif_neg hc]at hl; simp at hl
theorem AxQ(W:Nat)(t:List UInt8):∀ j,j<=(splitW t).length->∀ l∈(wrapTo W t j).1,l.length<=sumTo t j
 | 0,_,l,hl=>by simp[wrapTo]at hl
 | j+1,hj,l,hl=>by
  have hjl:j<(splitW t).length:=by omega
  have h:=List.getElem?_eq_getElem hjl;have ih:=AxQ W t j (by omega);have hb:=AfG W t j (by omega);rw[AiM h]at hl;rw[AkW h];unfold wrapS at hl
  split at hl
  .have:=ih l hl; omega
  .split at hl
   .have:=ih l hl; omega
   .simp only at hl
    rcases List.mem_append.1 hl with hl|hl
    .split at hl
     .rcases List.mem_append.1 hl with hl|hl
      .have:=ih l hl; omega
      .rw [List.mem_singleton.1 hl]; omega
     .have:=ih l hl; omega
    .have:=BdF W _ _ (Nat.le_refl _) l hl; omega
theorem AcC(W:Nat)(t:List UInt8):(AbH W t).length<=t.length+2/\∀ l∈AbH W t,l.length<=t.length+1:=by
 have htot:wrapTo W t (splitW t).length=wrapF W t:=by simp[wrapTo,wrapF]
 have hb:=AfG W t _ (Nat.le_refl _);have hb2:=AmP t _ (Nat.le_refl _);have hb3:=AxQ W t _ (Nat.le_refl _);rw[htot]at hb hb3;unfold AbH
 split
 .refine ⟨by simp; omega,fun l hl=>?_⟩
  rcases List.mem_append.1 hl with hl|hl
  .have:=hb3 l hl; omega
  .rw [List.mem_singleton.1 hl]; omega
 .exact ⟨by omega,fun l hl=>by have:=hb3 l hl; omega⟩
structure Bl where
 kind:Int
 lines:List (List UInt8)
 kinds:List Int
 name:List UInt8
def blA(b:Bl):AV:=.agg [.int .i64 b.kind,.fz 1 (b.lines.map .str),.fz 1 (b.kinds.map (.int .i64)),.str b.name]
theorem BtB(b:Bl):Pc prog 121 [blA b] (· = .int .i64 (if b.kind==0 then 2 else 1)):=by
 simp only[blA]
 cases hb:b.kind==0 with
 | true =>
  refine zpIN func121 rfl fun h ρ w=>?_
  simp only[go_sem,hb];exact aret [2] rfl ⟨by simp[resV,Av.get],rfl⟩
 | false =>
  refine zpIN func121 rfl fun h ρ w=>?_
  simp only[go_sem,hb];exact aret [2] rfl ⟨by simp[resV,Av.get],rfl⟩
theorem AhV{St:Std}(hS:LibOk St)(t:List UInt8)(hl:t.length<10000000):PcH prog St 58 [.str t] (· = blA ⟨0,AbH 60 t,[],[]⟩):=by
 have hw:=AmQ hS t 60 (by omega) (by omega) (by omega);simp only[blA];refine zqIF func58 rfl fun h ρ w hg=>?_
 simp only[go_sem];refine zqF hg (hw) ?_;simp only[go_sem];exact ARet.shift (Shift.cells 0 1 [.agg [.int .i64 0,.fz 1 ((AbH 60 t).map .str),.fz 1 [],.str []]] rfl rfl (by simp[cellsOf]) ⟨.refl,.refl,.fz,.refl,trivial⟩) (AbB [.cell 2 107] rfl [_] ⟨by simp only[go_sem,sideIs],trivial⟩ ⟨rfl,rfl⟩)
theorem AuD{St:Std}(hS:LibOk St)(t:List UInt8)(hl:t.length<10000000):PcH prog St 114 [.str t] (· = blA ⟨1,AbH 60 t,[],[]⟩):=by
 have hw:=AmQ hS t 60 (by omega) (by omega) (by omega);simp only[blA];refine zqIF func114 rfl fun h ρ w hg=>?_
 simp only[go_sem];refine zqF hg (hw) ?_;simp only[go_sem];exact ARet.shift (Shift.cells 0 1 [.agg [.int .i64 1,.fz 1 ((AbH 60 t).map .str),.fz 1 [],.str []]] rfl rfl (by simp[cellsOf]) ⟨.refl,.refl,.fz,.refl,trivial⟩) (AbB [.cell 2 107] rfl [_] ⟨by simp only[go_sem,sideIs],trivial⟩ ⟨rfl,rfl⟩)
def turnLine(t:List UInt8):List UInt8:=Lib.repeatL [32] (60-(t.length+1))++(t++[58])
theorem A7X(t:List UInt8)(hl:t.length<10000000):Pc prog 115 [.str t] (· = blA ⟨2,[turnLine t],[],[]⟩):=by
 have hr:=AgD [32] (60-(t.length+1)) (by simp; omega) (by omega);simp only[blA];have hmx:(if 60-((t.length+1:Nat):Int)<0 then 0 else 60-((t.length+1:Nat):Int))=((60-(t.length+1):Nat):Int):=by split <;> omega
 refine zpIF func115 rfl fun h ρ w=>?_
 simp only[go_sem];rw[hmx];refine⟨by omega,by omega,by omega,?_⟩;refine zpF (hr) ?_;simp only[go_sem];refine⟨by rw[blanks_len]; omega,?_⟩;exact ARet.shift (Shift.cells 0 1 [.agg [.int .i64 2,.fz 1 [.str (turnLine t)],.fz 1 [],.str []]] rfl rfl (by simp[cellsOf]) ⟨.refl,.refl,.fz,.refl,trivial⟩) (AbB [.cell 2 107] rfl [_] ⟨by simp only[go_sem,sideIs],trivial⟩ ⟨rfl,rfl⟩)
def indent(n:Nat)(l:List UInt8):List UInt8:=Lib.repeatL [32] n++l
structure Grp(S:AV->List AV->List AV->List Blk)(M:AV->List AV)(ib il ik n i:Nat):Prop where
 hi:i<n
 hb:∀ g L K,(S g L K).getD ib .dead=.arr 4 (M g)
 hM:∀ g,(M g).length=n
 hMi:∀ g,List.getD (M g) i .any=g
 hMs:∀ g g',(M g).set i g'=M g'
 hbs:∀ g g' L K,(S g L K).set ib (.arr 4 (M g'))=S g' L K
 hL:∀ g L K,(S g L K).getD il .dead=.arr 1 L
 hLs:∀ g L L' K,(S g L K).set il (.arr 1 L')=S g L' K
 hK:∀ g L K,(S g L K).getD ik .dead=.arr 1 K
 hKs:∀ g L K K',(S g L K).set ik (.arr 1 K')=S g L K'
def grpA(il ik:Nat)(kd:Int)(a b:Nat)(nm:List UInt8):AV:=.agg [.int .i64 kd,.sl il 0 a a,.sl ik 0 b b,.str nm]
def grpS(S:AV->List AV->List AV->List Blk)(il ik:Nat)(b:Bl):List Blk:=S (grpA il ik b.kind b.lines.length b.kinds.length b.name) (b.lines.map .str) (b.kinds.map (.int .i64))
def addB(b:Bl)(kd:Int)(at':Nat)(ls:List (List UInt8)):Bl:={ b with lines:=b.lines++ls.map (indent at'),kinds:=b.kinds++List.replicate ls.length kd }
theorem AiN{S:AV->List AV->List AV->List Blk}{M:AV->List AV}{ib il ik n i:Nat}(G:Grp S M ib il ik n i)(b:Bl)(kd':Int)(at':Nat)(hat:at'<=1000)(ls:List (List UInt8))(hsm:b.lines.length+ls.length<1000000000)(hsk:b.kinds.length+ls.length<1000000000)(hll:∀ l∈ls,l.length<1000000) :
  Ct prog 160 [.ptr ib n i 0,.int .i64 kd',.int .i64 (at':Int),.fz 1 (ls.map .str)] (grpS S il ik b) (fun r s=>r=.tup []/\s=grpS S il ik (addB b kd' at' ls)):=by
 obtain⟨hi,hb,hM,hMi,hMs,hbs,hL,hLs,hK,hKs⟩:=G;obtain⟨kd,L0,K0,nm⟩:=b;simp only[grpS,grpA,addB,List.length_append,List.length_map,List.length_replicate]at hsm hsk |-;have hr:=AgD [32] at' (by simp; omega) (by omega);refine zcIF func160 rfl fun h ρ w=>?_
 simp only[go_sem,List.length_map];refine AaI (ι:=Nat) (fun j=>ls.length-j) (fun j=>[(12,.int .i64 j),(11,.int .i64 ls.length),(10,.fz 1 (ls.map .str)),(0,.ptr ib n i 0),(1,.int .i64 kd'),(2,.int .i64 (at':Int))])
  (fun j=>S (.agg [.int .i64 kd,.sl il 0 (L0.length+j) (L0.length+j),.sl ik 0 (K0.length+j) (K0.length+j),.str nm]) ((L0++(ls.take j).map (indent at')).map .str) ((K0++List.replicate j kd').map (.int .i64))) (fun j=>j<=ls.length) 0 (by simp) ?_ ?_
 .refine Shift.weakS ?_ ?_
  .simp only [go_sem]
  .simp
 .intro j g1 J hJ
  by_cases gj:j<ls.length
  .have dj:decide ((j:Int)<(ls.length:Int))=true:=by simp; omega
   have hg':List.getD (List.map AV.str ls) j .any=.str ls[j]:=by simp[List.getD,gj]
   have hlt:(List.take j ls).length=j:=by simp; omega
   have hlj:=hll ls[j] (List.getElem_mem gj);have hbl:=blanks_len at';refine zgF ?_;simp only[go_sem,dj,hg',List.length_map]
   repeat refine aqa ?_
   refine zr [.str (Lib.repeatL [32] at')] mixed ?_;simp only[go_sem,hb,hM,hMi,hMs,hbs,hL,hLs,hK,hKs,hlt,List.length_map,List.length_replicate]
   repeat refine And.intro (by first|omega|exact hr.at|exact .inl trivial|rfl|(simp; done)|(simp; omega)) ?_
   refine zgF ?_;simp only[go_sem,hb,hM,hMi,hMs,hbs,hL,hLs,hK,hKs,hlt,List.length_map,List.length_replicate]
   repeat refine aqa ?_
   have e1:List.map AV.str (L0++List.map (indent at') (List.take j ls))++[AV.str (Lib.repeatL [32] at'++ls[j])]=List.map AV.str (L0++List.map (indent at') (List.take (j+1) ls)):=by
    rw[List.take_succ_eq_append_getElem gj]; simp only[List.map_append,List.append_assoc,List.map_cons,List.map_nil]; rfl
   have e2:List.map (AV.int .i64) (K0++List.replicate j kd')++[AV.int .i64 kd']=List.map (AV.int .i64) (K0++List.replicate (j+1) kd'):=by
    rw[List.replicate_succ']; simp
   rw[e1,e2,show(j:Int)+1=((j+1:Nat):Int) by omega];refine ainv (hJ (j+1) (by omega) (by omega)) (Shift.weak ?_);simp only[go_sem]
  .have dj:decide ((j:Int)<(ls.length:Int))=false:=by simp; omega
   have hj:j=ls.length:=by omega
   subst hj;refine zgF ?_;simp only[go_sem,dj];exact aret [] rfl ⟨rfl,by simp⟩
theorem AxR{St:Std}(hS:LibOk St){S:AV->List AV->List AV->List Blk}{M:AV->List AV}{ib il ik n i:Nat}(G:Grp S M ib il ik n i)(b:Bl)(t:List UInt8)(hl:t.length<10000)(hsm:b.lines.length<100000000)(hsk:b.kinds.length<100000000) :
  CtH prog St 117 [.ptr ib n i 0,.str t] (grpS S il ik b) (fun r s=>r=.tup []/\s=grpS S il ik (addB b 1 15 (AbH 30 (40::(t++[41]))))):=by
 have hw:=AmQ hS (40::(t++[41])) 30 (by simp; omega) (by omega) (by omega);have hle:=AcC 30 (40::(t++[41]));simp only[List.length_cons,List.length_append,List.length_nil]at hle;refine zdIF func117 rfl fun h ρ w hg=>?_
 simp only[go_sem]
 repeat refine aqb ?_
 refine zqF hg (hw) ?_;simp only[go_sem];refine za (AiN G b 1 15 (by omega) _ (by omega) (by omega) (fun l h=>by have:=hle.2 l h; omega)) ?_;rintro _ _ ⟨rfl,rfl⟩;refine zgF ?_;simp only[go_sem];exact zt []
theorem AuE{St:Std}(hS:LibOk St){S:AV->List AV->List AV->List Blk}{M:AV->List AV}{ib il ik n i:Nat}(G:Grp S M ib il ik n i)(b:Bl)(t:List UInt8)(hl:t.length<10000)(hsm:b.lines.length<100000000)(hsk:b.kinds.length<100000000) :
  CtH prog St 118 [.ptr ib n i 0,.str t] (grpS S il ik b) (fun r s=>r=.tup []/\s=grpS S il ik (addB b 2 10 (AbH 35 t))):=by
 have hw:=AmQ hS t 35 (by omega) (by omega) (by omega);have hle:=AcC 35 t;refine zdIF func118 rfl fun h ρ w hg=>?_
 simp only[go_sem];refine zqF hg (hw) ?_;simp only[go_sem];refine za (AiN G b 2 10 (by omega) _ (by omega) (by omega) (fun l h=>by have:=hle.2 l h; omega)) ?_;rintro _ _ ⟨rfl,rfl⟩;refine zgF ?_;simp only[go_sem];exact zt []
theorem A1S(b0 b1 b4:Blk)(nm:List UInt8)(hl:nm.length<10000) :
  Ct prog 116 [.str nm] [b0,b1,.arr 1 [],.arr 1 [],b4] (fun r s=>r=grpA 2 3 3 1 1 nm/\∃ b5 b6,s=[b0,b1,.arr 1 [.str (indent 20 nm)],.arr 1 [.int .i64 0],b4,b5,b6]):=by
 refine AaV func116 rfl ntmps116 hB116 (by simp) fun h ρ w=>goF rfl 16 ?_
 simp only[go_sem]
 repeat refine aqc ?_
 refine AWp.shift (Shift.cellsAt 6 2 [.agg [.int .i64 3,.sl 2 0 0 0,.raw (.slice none 0 0),.str nm]] rfl rfl rfl (by simp[cellsOf]) ⟨.refl,.sl,.refl,.refl,trivial⟩) ?_;refine AWp.shift (Shift.cellsAt 6 3 [.agg [.int .i64 3,.sl 2 0 0 0,.sl 3 0 0 0,.str nm]] rfl rfl rfl (by simp[cellsOf]) ⟨.refl,.refl,.sl,.refl,trivial⟩) ?_;refine zgF ?_;simp only[go_sem];have G:Grp (fun g L K=>[b0,b1,.arr 1 L,.arr 1 K,b4,.arr 4 [.agg [.int .i64 0,.raw (.slice none 0 0),.raw (.slice none 0 0),.str []]],.arr 4 [g]]) (fun g=>[g]) 6 2 3 1 0 :=
  ⟨by omega,fun _ _ _=>rfl,fun _=>rfl,fun _=>rfl,fun _ _=>rfl,fun _ _ _ _=>rfl,fun _ _ _=>rfl,fun _ _ _ _=>rfl,fun _ _ _=>rfl,fun _ _ _ _=>rfl⟩
 have hadd:=AiN G ⟨3,[],[],nm⟩ 0 20 (by omega) [nm] (by simp) (by simp) (by simp; omega);simp only[grpS,grpA,addB,List.length_nil,List.map_nil,List.map_cons,List.length_cons,List.nil_append,List.replicate]at hadd;refine za (hadd) ?_;rintro _ _ ⟨rfl,rfl⟩;refine zgF ?_;simp only[go_sem];exact AbB [.cell 2 107] rfl [_] ⟨by simp only[go_sem,sideIs],trivial⟩ ⟨rfl,_,_,rfl⟩
def AlT(p:Int):List UInt8:=[[],[73,78,84,46],[69,88,84,46],[73,78,84,46,47,69,88,84,46]].getD p.toNat []
def AxS(p:Int):List UInt8:=[[],[68,65,89],[78,73,71,72,84],[68,65,87,78],[68,85,83,75],[76,65,84,69,82]].getD p.toNat []
def headLine(x:Sc):List UInt8:=AlT x.place++[32]++x.set++[32,45,32]++AxS x.time
def headL(x:Sc):List UInt8:=if x.no != [] then x.no++[32]++headLine x else headLine x
theorem BjI(p:Int)(h:1<=p/\p<=3):List.getD placeW p.toNat .any=.str (AlT p):=by
 obtain⟨n,rfl⟩:=Int.eq_ofNat_of_zero_le (by omega:0<=p);have:n=1\/n=2\/n=3:=by omega
 rcases this with rfl|rfl|rfl <;> rfl
theorem BpQ(p:Int)(h:1<=p/\p<=5):List.getD AqW p.toNat .any=.str (AxS p):=by
 obtain⟨n,rfl⟩:=Int.eq_ofNat_of_zero_le (by omega:0<=p);have:n=1\/n=2\/n=3\/n=4\/n=5:=by omega
 rcases this with rfl|rfl|rfl|rfl|rfl <;> rfl
theorem AkX(p:Int):(AlT p).length<=9:=by
 unfold AlT
 match p.toNat with
 | 0|1|2|3=>decide
 | n+4=>simp[List.getD]
theorem AoO(p:Int):(AxS p).length<=5:=by
 unfold AxS
 match p.toNat with
 | 0|1|2|3|4|5=>decide
 | n+6=>simp[List.getD]
theorem AqX(x:Sc)(hp:1<=x.place/\x.place<=3)(ht:1<=x.time/\x.time<=5)(hl:x.no.length<1000001)(hl2:x.set.length<10000):Pc prog 113 [scA x] (· = .str (headL x)):=by
 have h1:=BjI x.place hp;have h2:=BpQ x.time ht;have l1:=AkX x.place;have l2:=AoO x.time;simp only[scA];refine zpIF func113 rfl fun h ρ w=>?_
 simp only[go_sem];refine zr [.fz 1 placeW,.fz 1 AqW] mixed ?_;simp only[go_sem,h1,h2]
 repeat refine And.intro (by first|omega|exact place_pc.at|exact time_pc.at|rfl|(simp[placeW,AqW]; done)|(simp[placeW,AqW]; omega)) ?_
 cases hn:x.no != []with
 | true =>
  refine zgF ?_;simp only[go_sem,hn]
  repeat refine aqb ?_
  exact aret [2] rfl ⟨by simp[resV,Av.get,headL,hn,headLine],rfl⟩
 | false =>
  refine zgF ?_;simp only[go_sem,hn];exact aret [2] rfl ⟨by simp[resV,Av.get,headL,hn,headLine],rfl⟩
theorem A1T:∀ (ps:List Pa)(l e:Int),runL l ps=some e->∀ p∈ps,paraOk p=true
 | [],_,_,_,p,hp=>by simp at hp
 | a::r,l,e,h,p,hp=>by
  simp only[runL]at h
  split at h
  .rename_i hc
   simp only[Bool.and_eq_true]at hc
   rcases List.mem_cons.1 hp with rfl|hp
   .exact hc.1
   .exact A1T r _ _ h p hp
  .cases h
theorem BjJ{ps:List Pa}{e:Int}(h:runL 0 ps=some e):∀ p,ps.head? = some p->joins p=false:=by
 intro p hp
 cases ps with
 | nil=>simp at hp
 | cons a r =>
  simp only[List.head?_cons,Option.some.injEq]at hp;subst hp;simp only[runL]at h
  split at h
  .rename_i hc
   simp only[Bool.and_eq_true,followsL]at hc;simp only[joins,Bool.or_eq_false_iff];have hc2:=hc.2
   constructor
   .cases q:a.kind==3 with
    | false=>rfl
    | true=>rw[q]at hc2; simp at hc2
   .cases q:a.kind==4 with
    | false=>rfl
    | true =>
     cases q3:a.kind==3 with
     | true=>rw[q3]at hc2; simp at hc2
     | false=>rw[q3,q]at hc2; simp at hc2
  .cases h
theorem AuF{p:Pa}(h:paraOk p=true):p.text.length<=2000:=by
 simp only[paraOk,Bool.and_eq_true,decide_eq_true_eq]at h;exact h.2.2.2.2.1
theorem BmN:∀ (l:List Sc)(x:Sc),x∈l->x.paras.length<=paraSum l
 | [],x,h=>by simp at h
 | a::r,x,h=>by
  simp only[paraSum,List.map_cons,List.sum_cons]
  rcases List.mem_cons.1 h with rfl|h
  .omega
  .have:=BmN r x h
   simp only[paraSum]at this;omega
def x0:Sc:=⟨[],0,[],0,[]⟩
def chunksFrom(cur:List Pa):List Pa->List (List Pa)
 | []=>[cur]
 | p::r=>if joins p then chunksFrom (cur++[p]) r else cur::chunksFrom [p] r
def ArS:List Pa->List (List Pa)
 | []=>[]
 | p::r=>chunksFrom [p] r
theorem BpR{ps:List Pa}{i:Nat}(h:i<ps.length):cutP ps (i,i+1)=[ps[i]]:=by
 rw[cutP,List.take_succ_eq_append_getElem h,List.drop_append_of_le_length (by simp; omega)]
 simp
theorem BjK{ps:List Pa}{a i:Nat}(ha:a<=i)(h:i<ps.length):cutP ps (a,i+1)=cutP ps (a,i)++[ps[i]]:=by
 simp only[cutP];rw[List.take_succ_eq_append_getElem h,List.drop_append_of_le_length (by simp; omega)]
theorem AoP(ps:List Pa):∀ (rest:List Pa)(i a:Nat)(init:List (Nat×Nat)),a<=i->ps.drop i=rest ->
  (gfold (init++[(a,i)]) i rest).map (cutP ps)=init.map (cutP ps)++chunksFrom (cutP ps (a,i)) rest
 | [],i,a,init,ha,hr=>by simp[gfold,chunksFrom]
 | p::r,i,a,init,ha,hr=>by
  have hi:i<ps.length:=by
   rcases Nat.lt_or_ge i ps.length with h|h
   .exact h
   .rw [List.drop_of_length_le h]at hr; cases hr
  have hd:=List.drop_eq_getElem_cons hi;rw[hr]at hd;simp only[List.cons.injEq]at hd;obtain⟨hp,hr'⟩:=hd
  cases hj:joins p with
  | true =>
   have hg:gstep (init++[(a,i)]) i p=init++[(a,i+1)]:=by
    simp[gstep,hj,List.set_append,List.getD]
   rw[gfold,hg,AoP ps r (i+1) a init (by omega) hr'.symm,chunksFrom,if_pos hj,BjK ha hi,hp]
  | false =>
   have hg:gstep (init++[(a,i)]) i p=(init++[(a,i)])++[(i,i+1)]:=by simp[gstep,hj]
   rw[gfold,hg,AoP ps r (i+1) i (init++[(a,i)]) (by omega) hr'.symm,chunksFrom,hj,BpR hi,hp]
   simp
theorem A7Y(ps:List Pa)(h0:∀ p,ps.head? = some p->joins p=false):(groupsL ps).map (cutP ps)=ArS ps:=by
 cases ps with
 | nil=>rfl
 | cons p r =>
  have hj:=h0 p rfl;have hg:gstep [] 0 p=[]++[(0,1)]:=by simp[gstep,hj]
  rw[groupsL,gfold,hg,AoP (p::r) r 1 0 [] (by omega) rfl];rfl
def hdP(c:List Pa):Pa:=c.head?.getD pNo
def ownC(name:List UInt8)(ws:List (List UInt8))(c:List Pa)(nxt:Option (List Pa)):Bool :=
 BjG (hdP c) name||(((hdP c).kind==2&&(match nxt with|some d=>BjG (hdP d) name|none=>false)) ||
  ((hdP c).kind != 2&&(decide (0<ws.length)&&decide (0<(BmM (AxM (hdP c).text) ws).length))))
def partC(name:List UInt8)(ws:List (List UInt8)):List (List Pa)->List Pa
 | []=>[]
 | c::r=>(if ownC name ws c r.head? then c else[])++partC name ws r
theorem BmO{ps:List Pa}{g:Nat×Nat}(h:g.1<g.2/\g.2<=ps.length):hdP (cutP ps g)=ps.getD g.1 pNo:=by
 have h1:g.1<ps.length:=by omega
 simp[hdP,cutP,List.head?_drop,List.getElem?_take,h.1,List.getD]
theorem BpS{ps:List Pa}{gs:List (Nat×Nat)}(hgo:∀ g∈gs,g.1<g.2/\g.2<=ps.length)(name:List UInt8)(ws:List (List UInt8)){k:Nat}(hk:k<gs.length) :
  ownB ps name ws gs k=ownC name ws (cutP ps gs[k]) ((gs.map (cutP ps)).drop (k+1)).head?:=by
 have h1:AuC ps gs k=hdP (cutP ps gs[k]):=by
  rw[BmO (hgo _ (List.getElem_mem hk)),AuC]
  simp[List.getD,hk]
 unfold ownB ownC;rw[h1,List.head?_drop,List.getElem?_map]
 by_cases hk1:k+1<gs.length
 .have h2:AuC ps gs (k+1)=hdP (cutP ps gs[k+1]):=by
   rw[BmO (hgo _ (List.getElem_mem hk1)),AuC]
   simp[List.getD,hk1]
  rw[h2,List.getElem?_eq_getElem hk1]
  simp[hk1]
 .rw [List.getElem?_eq_none (by omega)]
  simp[hk1]
theorem AxT{ps:List Pa}{gs:List (Nat×Nat)}(hgo:∀ g∈gs,g.1<g.2/\g.2<=ps.length)(name:List UInt8)(ws:List (List UInt8)):∀ (d k:Nat),k+d=gs.length ->
  partTo ps name ws gs gs.length=partTo ps name ws gs k++partC name ws ((gs.map (cutP ps)).drop k)
 | 0,k,h=>by
  have:k=gs.length:=by omega
  subst this;rw[List.drop_of_length_le (by simp)]
  simp[partC]
 | d+1,k,h=>by
  have hk:k<gs.length:=by omega
  have hk':k<(gs.map (cutP ps)).length:=by simpa using hk
  rw[AxT hgo name ws d (k+1) (by omega),List.drop_eq_getElem_cons hk',partC,partTo,BpS hgo name ws hk]
  simp[List.getD,hk]
theorem A1U(ps:List Pa)(name:List UInt8)(h0:∀ p,ps.head? = some p->joins p=false):partL ps name=partC name (AxM name) (ArS ps):=by
 rw[partL,AxT (BdC ps) name (AxM name) (groupsL ps).length 0 (by omega),A7Y ps h0]
 simp[partTo]
def keepC(name:List UInt8)(ws:List (List UInt8)):List (List Pa)->List (List Pa)
 | []=>[]
 | c::r=>if ownC name ws c r.head? then c::keepC name ws r else keepC name ws r
theorem ArT(name:List UInt8)(ws:List (List UInt8)):∀ cs,partC name ws cs=(keepC name ws cs).flatten
 | []=>rfl
 | c::r=>by
  rw[partC,keepC,ArT name ws r]
  split <;> simp
def WfC:List Pa->Prop
 | []=>False
 | p::r=>joins p=false/\∀ q∈r,joins q=true
theorem AfS:∀ (ps cur:List Pa),WfC cur->∀ c∈chunksFrom cur ps,WfC c
 | [],cur,h,c,hc=>by
  simp only[chunksFrom,List.mem_singleton]at hc;subst hc; exact h
 | p::r,cur,h,c,hc=>by
  rw[chunksFrom]at hc
  split at hc
  .rename_i hj
   refine AfS r (cur++[p]) ?_ c hc
   cases cur with
   | nil=>exact h.elim
   | cons a t=>exact⟨h.1,fun q hq=>by
     rcases List.mem_append.1 hq with hq|hq
     .exact h.2 q hq
     .rw [List.mem_singleton.1 hq]; exact hj⟩
  .rename_i hj
   rcases List.mem_cons.1 hc with rfl|hc
   .exact h
   .exact AfS r [p] ⟨by simpa using hj,by simp⟩ c hc
theorem BdG(ps:List Pa)(h0:∀ p,ps.head? = some p->joins p=false):∀ c∈ArS ps,WfC c:=by
 cases ps with
 | nil=>intro c hc; simp[ArS]at hc
 | cons p r=>exact AfS r [p] ⟨h0 p rfl,by simp⟩
theorem AuG(name:List UInt8)(ws:List (List UInt8)):∀ cs,∀ c∈keepC name ws cs,c∈cs
 | [],c,h=>by simp[keepC]at h
 | d::r,c,h=>by
  rw[keepC]at h
  split at h
  .rcases List.mem_cons.1 h with rfl|h
   .simp
   .exact List.mem_cons_of_mem _ (AuG name ws r c h)
  .exact List.mem_cons_of_mem _ (AuG name ws r c h)
theorem ArU:∀ (a b:List Pa)(l e:Int),runL l (a++b)=some e->∃ m,runL l a=some m/\runL m b=some e
 | [],b,l,e,h=>⟨l,rfl,h⟩
 | p::a,b,l,e,h=>by
  simp only[List.cons_append,runL]at h
  split at h
  .rename_i hc
   obtain⟨m,h1,h2⟩:=ArU a b _ e h;exact⟨m,by simp only[runL,if_pos hc]; exact h1,h2⟩
  .cases h
def Free(c:List Pa):Prop:=∀ l,l≠2->l≠3->∃ e,runL l c=some e/\e≠2/\e≠3
theorem AuH{q:Pa}(h:joins q=false):q.kind≠3/\q.kind≠4:=by
 simpa[joins]using h
theorem BdH{q:Pa}{m:Int}(h:joins q=false)(hf:followsL q.kind m=true):m≠2/\m≠3:=by
 obtain⟨h3,h4⟩:=AuH h
 simpa[followsL,h3,h4]using hf
theorem BpT{c:List Pa}(hw:WfC c){l m:Int}(h:runL l c=some m)(h2:m≠2)(h3:m≠3):Free c:=by
 cases c with
 | nil=>exact hw.elim
 | cons p t =>
  intro l' a b;simp only[runL]at h |-
  split at h
  .rename_i hc
   simp only[Bool.and_eq_true]at hc;obtain⟨k3,k4⟩:=AuH hw.1;rw[if_pos (by simp[hc.1,AgI k3 k4 a b])];exact⟨m,h,h2,h3⟩
  .cases h
theorem A4W:∀ (cs:List (List Pa))(l e:Int),(∀ c∈cs,WfC c)->runL l cs.flatten=some e->e≠2->e≠3->∀ c∈cs,Free c
 | [],_,_,_,_,_,_,c,hc=>by simp at hc
 | d::r,l,e,hw,h,h2,h3,c,hc=>by
  rw[List.flatten_cons]at h;obtain⟨m,h4,h5⟩:=ArU _ _ _ _ h;have hm:m≠2/\m≠3:=by
   cases r with
   | nil =>
    simp only[List.flatten_nil,runL,Option.some.injEq]at h5;subst h5; exact⟨h2,h3⟩
   | cons f r =>
    have hf:=hw f (by simp)
    cases f with
    | nil=>exact hf.elim
    | cons q t =>
     rw[List.flatten_cons,List.cons_append]at h5;simp only[runL]at h5
     split at h5
     .rename_i hc
      simp only[Bool.and_eq_true]at hc;exact BdH hf.1 hc.2
     .cases h5
  rcases List.mem_cons.1 hc with rfl|hc
  .exact BpT (hw c (by simp)) h4 hm.1 hm.2
  .exact A4W r m e (fun x hx=>hw x (by simp[hx])) h5 h2 h3 c hc
theorem A4X:∀ (cs:List (List Pa))(l:Int),(∀ c∈cs,Free c)->l≠2->l≠3->∃ e,runL l cs.flatten=some e/\e≠2/\e≠3
 | [],l,_,a,b=>⟨l,rfl,a,b⟩
 | c::r,l,h,a,b=>by
  obtain⟨m,h1,h2,h3⟩:=h c (by simp) l a b;obtain⟨e,h4,h5⟩:=A4X r m (fun x hx=>h x (by simp[hx])) h2 h3;exact⟨e,by rw[List.flatten_cons,AfP _ _ _ _ h1]; exact h4,h5⟩
theorem AeR:∀ (ps cur:List Pa),(chunksFrom cur ps).flatten=cur++ps
 | [],cur=>by simp[chunksFrom]
 | p::r,cur=>by
  rw[chunksFrom]
  split
  .rw [AeR r (cur++[p])]; simp
  .rw [List.flatten_cons,AeR r [p]]; simp
theorem A7Z(ps:List Pa):(ArS ps).flatten=ps:=by
 cases ps with
 | nil=>rfl
 | cons p r=>exact AeR r [p]
theorem part_run{ps:List Pa}{e:Int}(name:List UInt8)(h:runL 0 ps=some e)(h2:e≠2)(h3:e≠3):∃ e',runL 0 (partL ps name)=some e'/\e'≠2/\e'≠3:=by
 have h0:=BjJ h;have hw:=BdG ps h0;have hf:=A4W (ArS ps) 0 e hw (by rw[A7Z]; exact h) h2 h3;rw[A1U ps name h0,ArT];exact A4X _ 0 (fun c hc=>hf c (AuG name _ _ c hc)) (by decide) (by decide)
