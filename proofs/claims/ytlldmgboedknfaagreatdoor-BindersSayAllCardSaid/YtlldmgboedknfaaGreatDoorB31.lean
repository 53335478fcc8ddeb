/- Lay: the table after a page is done. -/
import Derived.Test.YtlldmgboedknfaaGreatDoorB30
set_option maxRecDepth 100000
set_option maxHeartbeats 8000000
set_option linter.unusedSimpArgs false
set_option linter.unusedVariables false
namespace Go.Proofs.YtlldmgboedknfaaGreatDoor
open Go Go.Av Go.RowKit _root_.Go.Proofs.Tryz
theorem BdX(s:LS)(b:Bl)(h0:s.page=[]):renS [0,1,2,3,4,5,6,9,8] (List.set (layT s (.raw (.slice none 0 0)) .dead [.arr 4 [blA b]]++[Blk.arr 1 []]) 2 (.arr 1 [.sl 9 0 0 0]))=layS s [.arr 4 [blA b]]:=by
 have h:renS [0,1,2,3,4,5,6,9,8] (List.set (layT s (.raw (.slice none 0 0)) .dead [.arr 4 [blA b]]++[Blk.arr 1 []]) 2 (.arr 1 [.sl 9 0 0 0])) =
   .arr 3 [.agg [.raw (.slice none 0 0),.raw (.slice none 0 0),.raw (.slice none 0 0)]]::.arr 3 [.agg [.sl 4 0 s.pages.length s.pages.length,.sl 5 0 s.firsts.length s.firsts.length,.sl 6 0 s.starts.length s.starts.length]]::.arr 1 [.sl 7 0 0 0]::.arr 1 [.int .i64 s.first] ::
   .arr 1 ((s.pages.map pgA).map (renC [0,1,2,3,4,5,6,9,8]))::.arr 1 ((s.firsts.map (.int .i64)).map (renC [0,1,2,3,4,5,6,9,8]))::.arr 1 ((s.starts.map (.int .i64)).map (renC [0,1,2,3,4,5,6,9,8]))::.arr 1 []::[.arr 4 [blA b]]:=rfl
 rw[h,AyQ (fun _=>rfl),AyQ (fun _=>rfl),AyQ (fun _=>rfl)];simp only[layS,layT,h0,List.length_nil,List.map_nil]
theorem AkI{c:Cx}{e e':Env}(hc:c.sto.length=0)(s:LS)(b:Bl)(h0:s.page=[])(hw:wk (renE [0,1,2,3,4,5,6,9,8] e) e'):Shift c e (layT s (.raw (.slice none 0 0)) .dead [.arr 4 [blA b]]) e' (layS s [.arr 4 [blA b]]):=by
 refine Shift.trans (Shift.cells 2 1 [.sl 9 0 0 0] rfl rfl (by simp[cellsOf]) ⟨.sl,trivial⟩) ?_;refine Shift.trans (Shift.ren [0,1,2,3,4,5,6,9,8] (by rw[hc]; rfl)) ?_;exact Shift.weakS hw (BdX s b h0)
theorem BdY(s:LS):(layS s []).all (lowB 8)=true:=by
 have h1:(flat (s.pages.map pgA)).all Av.frozen=true:=by
  generalize s.pages=l
  induction l with
  | nil=>rfl
  | cons y l ih=>simpa[flat,cellsOf,pgA,Av.frozen]using ih
 have h2:∀ l:List Int,(flat (l.map (AV.int .i64))).all Av.frozen=true:=fun l=>by
  induction l with
  | nil=>rfl
  | cons y l ih=>simpa[flat,cellsOf,Av.frozen]using ih
 simp only[layS,layT,List.all_cons,List.all_nil,Bool.and_true];simp only[lowB,AaX h1,AaX (h2 _),AaX (AgN _),Bool.and_true,Bool.true_and]
 simp[flat,cellsOf,lowC,Av.frozen]
theorem A4D{c:Cx}{e e':Env}(hc:c.sto.length=0)(s:LS)(b:Blk)(hw:wkl 8 e e'):Shift c e (layS s [b]) e' (layS s []):=by
 have h:=Shift.low (c:=c) (e:=e) (e':=e') (s:=layS s [b]) 8 (by omega) (by simp[layS,layT]) (BdY s) hw;exact h
theorem BdZ{bs:List Bl}{i:Nat}{b:Bl}{M:Nat}(h:∀ d∈bs,d.lines.length<=M):AgR bs i b<=b.lines.length+M+5:=by
 have h1:=AiO b;unfold AgR
 by_cases hk:(b.kind==0)=true
 .rw [if_pos hk]
  cases hq:bs[i+1]? with
  | none=>simp only; omega
  | some d =>
   have h2:=AiO d;have h3:=h d (List.mem_of_getElem? hq);simp only
   split <;> omega
 .rw [if_neg hk]; omega
theorem BeA{bs:List Bl}{i:Nat}{b:Bl}{s:LS}{w:List Ln}(h:PInv s w):PInv (turnS bs i b s) w/\((turnS bs i b s).page=[]\/(turnS bs i b s).page.length+gapN b+AgR bs i b<=54):=by
 have hn:∀ s:LS,addS s []=s:=fun s=>by simp[addS]
 unfold turnS
 split
 .rename_i hc
  have:1<=s.page.length:=by
   cases hq:s.page with
   | nil=>exact(hc.1 hq).elim
   | cons a r=>simp
  have k:=AfS h (post:=[]) (.inl rfl) (by simpa using this) (by simpa using h.len);rw[hn]at k;exact⟨k,.inl rfl⟩
 .rename_i hc
  refine⟨h,?_⟩
  by_cases h0:s.page=[]
  .exact .inl h0
  .right
   have:¬ s.page.length+gapN b+AgR bs i b>54:=fun e=>hc ⟨h0,e⟩
   omega
theorem AvQ(bs:List Bl)(i:Nat)(b:Bl)(s:LS):(turnS bs i b s).pages.length<=s.pages.length+1/\((turnS bs i b s).firsts.length=(turnS bs i b s).pages.length ↔ s.firsts.length=s.pages.length)/\(turnS bs i b s).starts=s.starts:=by
 unfold turnS
 split
 .simp [flushS]
 .simp
theorem ApY{b:Bl}(ho:∀ x∈b.lines,OwnLn x){fr:Nat}{s:LS}{w:List Ln}(h:PInv s w)(hfr:fr<=b.lines.length)(hr:AhB b fr (54-s.page.length))(hne:stopL b fr (54-s.page.length)≠b.lines.length) :
  fr<stopL b fr (54-s.page.length)/\stopL b fr (54-s.page.length)<b.lines.length/\(∃ w',PInv (breakS b (addS s (partL' b fr (stopL b fr (54-s.page.length))))) w')/\AhB b (stopL b fr (54-s.page.length)) (54-(breakS b (addS s (partL' b fr (stopL b fr (54-s.page.length))))).page.length):=by
 have hl:=h.len
 rcases AnC hr hfr with⟨h1,h2⟩|⟨h1,h2,h3⟩
 .exact (hne h1).elim
 .generalize hto:stopL b fr (54-s.page.length)=tz at h1 h2 h3 |-
  have hpl:=AgM b (fr:=fr) (Nat.le_of_lt h2);have ho':∀ x∈partL' b fr tz,OwnLn x:=fun x hx=>ho x (List.mem_of_mem_take (List.mem_of_mem_drop hx))
  have k1:=AsL h ho' (by rw[List.length_append,hpl]; unfold grp at h3; split at h3 <;> omega);have k2:=AvI (b:=b) k1 (by simp only[addS,List.length_append,hpl]; omega) (by simp only[addS,List.length_append,hpl]; omega);refine⟨h1,h2,⟨_,k2⟩,?_⟩
  right
  rw[ApX];unfold grp
  split <;> simp
def costTo(bs:List Bl)(i:Nat):Nat:=((bs.take i).map fun b=>b.lines.length+1).sum
theorem AhQ{bs:List Bl}{i:Nat}(h:i<bs.length):costTo bs (i+1)=costTo bs i+(bs[i].lines.length+1):=by
 unfold costTo;rw[List.take_succ_eq_append_getElem h,List.map_append,List.sum_append];simp only[List.map_cons,List.map_nil,List.sum_cons,List.sum_nil,Nat.add_zero]
theorem AhR(bs:List Bl){i:Nat}(h:i<=bs.length):costTo bs i<=costTo bs bs.length:=by
 have:costTo bs bs.length=costTo bs i+((bs.drop i).map fun b=>b.lines.length+1).sum:=by
  simp only[costTo,List.take_length];rw[<- List.sum_append,<- List.map_append,List.take_append_drop]
 omega
def layF(s:LS)(pg:AV)(b7:Blk):List Blk :=
 .arr 3 [.agg [.raw (.slice none 0 0),.raw (.slice none 0 0),.raw (.slice none 0 0)]]::.arr 3 [.agg [.fz 1 (s.pages.map pgA),.fz 1 (s.firsts.map (.int .i64)),.fz 1 (s.starts.map (.int .i64))]]::.arr 1 [pg]::.arr 1 [.int .i64 s.first]::.dead::.dead::.dead::[b7]
def isF(x:AV):Prop:=∀ id l,id<7->frzC id 1 l x=x
theorem BeB(a b c:Nat)(P:List AV)(h:a=P.length):frzC 4 1 P (.agg [.sl 4 0 a a,.sl 5 0 b b,.sl 6 0 c c])=.agg [.fz 1 P,.sl 5 0 b b,.sl 6 0 c c]:=by
 subst h
 simp[frzC,frz,frz1]
theorem BeC(b c:Nat)(A P:List AV)(h:b=P.length):frzC 5 1 P (.agg [.fz 1 A,.sl 5 0 b b,.sl 6 0 c c])=.agg [.fz 1 A,.fz 1 P,.sl 6 0 c c]:=by
 subst h
 simp[frzC,frz,frz1]
theorem BeD(c:Nat)(A B P:List AV)(h:c=P.length):frzC 6 1 P (.agg [.fz 1 A,.fz 1 B,.sl 6 0 c c])=.agg [.fz 1 A,.fz 1 B,.fz 1 P]:=by
 subst h
 simp[frzC,frz,frz1]
theorem A4E(l:List (List Ln)):(flat (l.map pgA)).all Av.frozen=true:=by
 induction l with
 | nil=>rfl
 | cons y l ih=>simpa[flat,cellsOf,pgA,Av.frozen]using ih
theorem AnI(l:List Int):(flat (l.map (AV.int .i64))).all Av.frozen=true:=by
 induction l with
 | nil=>rfl
 | cons y l ih=>simpa[flat,cellsOf,Av.frozen]using ih
theorem AvR{c:Cx}{e e':Env}(s:LS){pg:AV}{b7:Blk}(hp:isF pg)(hb:∀ id l,id<7->frzB id 1 l b7=b7)
  (hw:wk (frzE 6 1 (s.starts.map (.int .i64)) (frzE 5 1 (s.firsts.map (.int .i64)) (frzE 4 1 (s.pages.map pgA) e))) e'):Shift c e (layT s pg b7 []) e' (layF s pg b7):=by
 have hz:∀ id l,frzB id 1 l (.arr 3 [.agg [.raw (.slice none 0 0),.raw (.slice none 0 0),.raw (.slice none 0 0)]])=.arr 3 [.agg [.raw (.slice none 0 0),.raw (.slice none 0 0),.raw (.slice none 0 0)]]:=fun _ _=>rfl
 have hi:∀ id l (n:Int),frzB id 1 l (.arr 1 [.int .i64 n])=.arr 1 [.int .i64 n]:=fun _ _ _=>rfl
 have hg:∀ id l,id<7->frzB id 1 l (.arr 1 [pg])=.arr 1 [pg]:=fun id l h=>by simp only[frzB,List.map_cons,List.map_nil,hp id l h]
 have hn:∀ id l (xs:List Int),frzB id 1 l (.arr 1 (xs.map (.int .i64)))=.arr 1 (xs.map (.int .i64)):=fun id l xs=>by simp only[frzB]; rw[AnH (fun _=>rfl)]
 have hd:∀ id l,frzB id 1 l .dead=.dead:=fun _ _=>rfl
 refine Shift.trans (Shift.frz 4 (es:=1) (l:=s.pages.map pgA) rfl (A4E _)) ?_;have t1:(List.set (layT s pg b7 []) 4 .dead).map (frzB 4 1 (s.pages.map pgA))=.arr 3 [.agg [.raw (.slice none 0 0),.raw (.slice none 0 0),.raw (.slice none 0 0)]]::.arr 3 [.agg [.fz 1 (s.pages.map pgA),.sl 5 0 s.firsts.length s.firsts.length,.sl 6 0 s.starts.length s.starts.length]]::.arr 1 [pg]::.arr 1 [.int .i64 s.first]::.dead::.arr 1 (s.firsts.map (.int .i64))::.arr 1 (s.starts.map (.int .i64))::[b7]:=by
  show frzB 4 1 _ _::frzB 4 1 _ (.arr 3 [_])::frzB 4 1 _ _::frzB 4 1 _ _::frzB 4 1 _ _::frzB 4 1 _ _::frzB 4 1 _ _::[frzB 4 1 _ _]=_
  rw[hz,hg 4 _ (by omega),hi,hd,hn,hn,hb 4 _ (by omega)];simp only[frzB,List.map_cons,List.map_nil];rw[BeB _ _ _ _ (by simp)]
 rw[t1];refine Shift.trans (Shift.frz 5 (es:=1) (l:=s.firsts.map (.int .i64)) rfl (AnI _)) ?_;have t2:(List.set (Blk.arr 3 [.agg [.raw (.slice none 0 0),.raw (.slice none 0 0),.raw (.slice none 0 0)]]::.arr 3 [.agg [.fz 1 (s.pages.map pgA),.sl 5 0 s.firsts.length s.firsts.length,.sl 6 0 s.starts.length s.starts.length]]::.arr 1 [pg]::.arr 1 [.int .i64 s.first]::.dead::.arr 1 (s.firsts.map (.int .i64))::.arr 1 (s.starts.map (.int .i64))::[b7]) 5 .dead).map (frzB 5 1 (s.firsts.map (.int .i64))) =
   .arr 3 [.agg [.raw (.slice none 0 0),.raw (.slice none 0 0),.raw (.slice none 0 0)]]::.arr 3 [.agg [.fz 1 (s.pages.map pgA),.fz 1 (s.firsts.map (.int .i64)),.sl 6 0 s.starts.length s.starts.length]]::.arr 1 [pg]::.arr 1 [.int .i64 s.first]::.dead::.dead::.arr 1 (s.starts.map (.int .i64))::[b7]:=by
  show frzB 5 1 _ _::frzB 5 1 _ (.arr 3 [_])::frzB 5 1 _ _::frzB 5 1 _ _::frzB 5 1 _ _::frzB 5 1 _ _::frzB 5 1 _ _::[frzB 5 1 _ _]=_
  rw[hz,hg 5 _ (by omega),hi,hd,hn,hb 5 _ (by omega)];simp only[frzB,List.map_cons,List.map_nil];rw[BeC _ _ _ _ (by simp)]
 rw[t2];refine Shift.trans (Shift.frz 6 (es:=1) (l:=s.starts.map (.int .i64)) rfl (AnI _)) ?_;have t3:(List.set (Blk.arr 3 [.agg [.raw (.slice none 0 0),.raw (.slice none 0 0),.raw (.slice none 0 0)]]::.arr 3 [.agg [.fz 1 (s.pages.map pgA),.fz 1 (s.firsts.map (.int .i64)),.sl 6 0 s.starts.length s.starts.length]]::.arr 1 [pg]::.arr 1 [.int .i64 s.first]::.dead::.dead::.arr 1 (s.starts.map (.int .i64))::[b7]) 6 .dead).map (frzB 6 1 (s.starts.map (.int .i64)))=layF s pg b7:=by
  show frzB 6 1 _ _::frzB 6 1 _ (.arr 3 [_])::frzB 6 1 _ _::frzB 6 1 _ _::frzB 6 1 _ _::frzB 6 1 _ _::frzB 6 1 _ _::[frzB 6 1 _ _]=_
  rw[hz,hg 6 _ (by omega),hi,hd,hb 6 _ (by omega)];simp only[frzB,List.map_cons,List.map_nil];rw[BeD _ _ _ _ (by simp)];rfl
 rw[t3];exact Shift.weak hw
theorem BlU(bs:List Bl)(hb:∀ b∈bs,BlFit b)(hk:∀ b∈bs,BlOk b)(hc:costTo bs bs.length<=1000000000000)(hl:bs.length<=1000000) :
  Pc prog 59 [.fz 4 (bs.map blA)] (· = .agg [.fz 1 ((layL bs).pages.map pgA),.fz 1 ((layL bs).firsts.map (.int .i64)),.fz 1 ((layL bs).starts.map (.int .i64))]):=by
 have hlay:=AsN (bs:=bs) (fun b h=>(hk b h).own);refine zpIF func59 rfl fun h ρ w=>?_
 simp only[go_sem,List.length_map];refine AaL (ι:=Nat) (fun i=>bs.length-i)
  (fun i=>[(15,.int .i64 i),(14,.int .i64 bs.length),(13,.fz 4 (bs.map blA)),(6,.fn (.func 120) [.ptr 1 1 0 0,.ptr 2 1 0 0,.ptr 3 1 0 0]),(5,.ptr 3 1 0 0),(4,.ptr 2 1 0 0),(3,.ptr 1 1 0 0),(2,.ptr 0 1 0 0),(0,.fz 4 (bs.map blA))])
  (fun i=>layS (layTo bs i) []) (fun i=>i<=bs.length/\(layTo bs i).pages.length<=costTo bs i/\(layTo bs i).firsts.length=(layTo bs i).pages.length/\(layTo bs i).starts.length=i) 0 ⟨by omega,by simp[layTo],rfl,rfl⟩ ?_ ?_
 .refine Shift.trans (Shift.cells 1 1 [.agg [.sl 4 0 0 0,.raw (.slice none 0 0),.raw (.slice none 0 0)]] rfl rfl (by simp[cellsOf]) ⟨.sl,.refl,.refl,trivial⟩) ?_
  refine Shift.trans (Shift.cells 1 1 [.agg [.sl 4 0 0 0,.sl 5 0 0 0,.raw (.slice none 0 0)]] rfl rfl (by simp[cellsOf]) ⟨.refl,.sl,.refl,trivial⟩) ?_;refine Shift.trans (Shift.cells 1 1 [.agg [.sl 4 0 0 0,.sl 5 0 0 0,.sl 6 0 0 0]] rfl rfl (by simp[cellsOf]) ⟨.refl,.refl,.sl,trivial⟩) ?_;refine Shift.trans (Shift.cells 2 1 [.sl 7 0 0 0] rfl rfl (by simp[cellsOf]) ⟨.sl,trivial⟩) ?_;refine Shift.weakS ?_ rfl;simp only[go_sem]
 .rintro i ⟨g1,g2,g3,g4⟩ J hJ
  obtain⟨w0,hP,_⟩:=hlay i g1
  by_cases gi:i<bs.length
  .have di:decide ((i:Int)<(bs.length:Int))=true:=by simp; omega
   have hg':List.getD (List.map blA bs) i .any=.agg [.int .i64 bs[i].kind,.fz 1 (bs[i].lines.map .str),.fz 1 (bs[i].kinds.map (.int .i64)),.str bs[i].name]:=by simp[List.getD,gi,blA]
   have hbi:=hb _ (List.getElem_mem gi);have hgap:=BgB bs[i];have hhead:=BjH bs i gi hb (by omega);simp only[blA]at hgap;have hgn:(if bs[i].kind==0 then(2:Int) else 1)=((gapN bs[i]:Nat):Int):=by unfold gapN; split <;> rfl
   rw[hgn]at hgap;have hcm:=AhR bs g1;have hpl:=hP.len;generalize hs:layTo bs i=s at g2 g3 g4 hP hpl |-;simp only[layS,layT];refine zgF ?_;simp only[go_sem,di,hg',List.length_map]
   repeat refine aqa ?_
   refine AcK (hgap) rfl rfl rfl (goF rfl 4 ?_);simp only[go_sem];have hbA:Blk.arr 4 [AV.agg [.int .i64 bs[i].kind,.fz 1 (bs[i].lines.map .str),.fz 1 (bs[i].kinds.map (.int .i64)),.str bs[i].name]]=.arr 4 [blA bs[i]]:=rfl;refine acut (ι:=Unit)
    (fun _=>[(9,.int .i64 (gapN bs[i]:Nat)),(7,.int .i64 i),(8,.ptr 8 1 0 0),(15,.int .i64 i),(14,.int .i64 bs.length),(13,.fz 4 (bs.map blA)),(6,.fn (.func 120) [.ptr 1 1 0 0,.ptr 2 1 0 0,.ptr 3 1 0 0]),(5,.ptr 3 1 0 0),(4,.ptr 2 1 0 0),(3,.ptr 1 1 0 0),(2,.ptr 0 1 0 0),(0,.fz 4 (bs.map blA))])
    (fun _=>layS (turnS bs i bs[i] s) [.arr 4 [blA bs[i]]]) (fun _=>True) ?_ ?_
   .intro Jc hJc
    have fc:=hJc () trivial
    by_cases p0:s.page=[]
    .have dp:decide ((s.page.length:Int)>0)=false:=by rw[p0]; rfl
     have ht:turnS bs i bs[i] s=s:=by unfold turnS; rw[if_neg (fun h=>h.1 p0)]
     rw[ht]at fc;refine zgF ?_;simp only[go_sem];refine zr [] mixed ?_;simp only[go_sem,dp]
     repeat refine aqa ?_
     refine zgF ?_;simp only[go_sem];refine ainv fc (Shift.weakS ?_ rfl);simp only[go_sem]
    .have hp1:0<s.page.length:=by
      cases hq:s.page with
      | nil=>exact(p0 hq).elim
      | cons a r=>simp
     have dp:decide ((s.page.length:Int)>0)=true:=by simp; omega
     have hle:AhA bs[i]<=bs[i].lines.length+2:=AiO _;have hfit:=hbi.len;have hhd:=BdZ (bs:=bs) (i:=i) (b:=bs[i]) (M:=50000000) (fun d hd=>(hb d hd).len);have hgl:gapN bs[i]<=2:=by unfold gapN; split <;> omega
     by_cases hov:s.page.length+gapN bs[i]+AgR bs i bs[i]>54
     .have dov:decide ((s.page.length:Int)+(gapN bs[i]:Nat)+(AgR bs i bs[i]:Nat)>54)=true:=by simp; omega
      have ht:turnS bs i bs[i] s=flushS s:=by unfold turnS; rw[if_pos ⟨p0,hov⟩]
      rw[ht]at fc;refine zgF ?_;simp only[go_sem];refine zr [.int .i64 ((AgR bs i bs[i]:Nat):Int)] mixed ?_;simp only[go_sem,dp]
      repeat refine And.intro (by first|omega|exact hhead.at|exact .inl trivial|rfl|(simp; done)|(simp; omega)) ?_
      refine zgF ?_;simp only[go_sem,dov];refine za (AsS s [.arr 4 [blA bs[i]]] (fun _=>rfl) (by omega) (by omega)) ?_;rintro _ _ ⟨rfl,rfl⟩;refine zgF ?_;simp only[go_sem];refine ainv fc (AkI rfl (flushS s) bs[i] rfl ?_);simp only[wk,renE,renV,ren1,idx,go_sem]
     .have dov:decide ((s.page.length:Int)+(gapN bs[i]:Nat)+(AgR bs i bs[i]:Nat)>54)=false:=by simp; omega
      have ht:turnS bs i bs[i] s=s:=by unfold turnS; rw[if_neg (fun h=>hov h.2)]
      rw[ht]at fc;refine zgF ?_;simp only[go_sem];refine zr [.int .i64 ((AgR bs i bs[i]:Nat):Int)] mixed ?_;simp only[go_sem,dp]
      repeat refine And.intro (by first|omega|exact hhead.at|exact .inl trivial|rfl|(simp; done)|(simp; omega)) ?_
      refine zgF ?_;simp only[go_sem,dov];refine ainv fc (Shift.weakS ?_ rfl);simp only[go_sem]
   .rintro ⟨⟩ _
    obtain⟨hP1,hfit1⟩:=BeA (bs:=bs) (i:=i) (b:=bs[i]) hP;obtain⟨hm1,hm2,hm3⟩:=AvQ bs i bs[i] s;have hm2:=hm2.2 g3;have htarget:layTo bs (i+1)=AbS bs[i] (bs[i].lines.length+1) 0 (gapS bs[i] (firstS i (turnS bs i bs[i] s))):=by
     simp only[layTo,List.getElem?_eq_getElem gi,hs,openS]
    obtain⟨g0,_,hPo,hRo⟩:=AsM (bs:=bs) (i:=i) (b:=bs[i]) hP;rw[openS]at hPo hRo;generalize turnS bs i bs[i] s=s1 at hP1 hfit1 hm1 hm2 hm3 htarget hPo hRo |-;have hgl:gapN bs[i]<=2:=by unfold gapN; split <;> omega
    simp only[layS,layT];refine goF rfl 1 ?_;simp only[go_sem];refine acut (ι:=Unit)
     (fun _=>[(9,.int .i64 (gapN bs[i]:Nat)),(7,.int .i64 i),(8,.ptr 8 1 0 0),(15,.int .i64 i),(14,.int .i64 bs.length),(13,.fz 4 (bs.map blA)),(6,.fn (.func 120) [.ptr 1 1 0 0,.ptr 2 1 0 0,.ptr 3 1 0 0]),(5,.ptr 3 1 0 0),(4,.ptr 2 1 0 0),(3,.ptr 1 1 0 0),(2,.ptr 0 1 0 0),(0,.fz 4 (bs.map blA))])
     (fun _=>layS (firstS i s1) [.arr 4 [blA bs[i]]]) (fun _=>True) ?_ ?_
    .intro Jc hJc
     have fc:=hJc () trivial
     by_cases p1:s1.page=[]
     .have hf1:firstS i s1=⟨s1.pages,s1.firsts,s1.starts,s1.page,i⟩:=by unfold firstS; rw[if_pos p1]
      have dp:((s1.page.length:Int)==0)=true:=by rw[p1]; rfl
      rw[hf1]at fc;refine zgF ?_;simp only[go_sem,dp]
      repeat refine aqa ?_
      refine ainv fc (Shift.weakS ?_ rfl);simp only[go_sem]
     .have hf1:firstS i s1=s1:=by unfold firstS; rw[if_neg p1]
      have dp:((s1.page.length:Int)==0)=false:=by
       rw[beq_eq_false_iff_ne];intro e;exact p1 (List.eq_nil_of_length_eq_zero (by omega))
      rw[hf1]at fc;refine zgF ?_;simp only[go_sem,dp]
      repeat refine aqa ?_
      refine ainv fc (Shift.weakS ?_ rfl);simp only[go_sem]
    .rintro ⟨⟩ _
     have hfp:(firstS i s1).page=s1.page/\(firstS i s1).pages=s1.pages/\(firstS i s1).firsts=s1.firsts/\(firstS i s1).starts=s1.starts:=by unfold firstS; split <;> exact⟨rfl,rfl,rfl,rfl⟩
     have hl1:=hP1.len;generalize firstS i s1=s2 at hfp htarget hPo hRo |-;have q1:s2.page.length<=54:=by rw[hfp.1]; exact hl1
     have q2:s2.pages.length<=costTo bs i+1:=by rw[hfp.2.1]; omega
     have q3:s2.firsts.length=s2.pages.length:=by rw[hfp.2.1,hfp.2.2.1]; exact hm2
     have q4:s2.starts.length=i:=by rw[hfp.2.2.2,hm3]; exact g4
     have hmul:(gapN bs[i]:Int)*(if(1:Int)<(s2.page.length:Int) then 1 else(s2.page.length:Int))=((gapN bs[i]*min s2.page.length 1:Nat):Int):=by
      rw[Int.natCast_mul]
      congr 1
      split <;> omega
     generalize hGG:gapN bs[i]*min s2.page.length 1=G at hmul;have hG2:G<=2:=by
      rw[<- hGG];have:min s2.page.length 1<=1:=Nat.min_le_right _ _
      calc gapN bs[i]*min s2.page.length 1<=gapN bs[i]*1:=Nat.mul_le_mul_left _ this
       _<=2:=by omega
     simp only[layS,layT];refine zgF ?_;simp only[go_sem,hmul]
     repeat refine aqa ?_
     refine AaL (ι:=Nat) (fun j=>G-j) (fun j=>[(47,.int .i64 j),(46,.int .i64 G),(7,.int .i64 i),(8,.ptr 8 1 0 0),(15,.int .i64 i),(14,.int .i64 bs.length),(13,.fz 4 (bs.map blA)),(6,.fn (.func 120) [.ptr 1 1 0 0,.ptr 2 1 0 0,.ptr 3 1 0 0]),(5,.ptr 3 1 0 0),(4,.ptr 2 1 0 0),(3,.ptr 1 1 0 0),(2,.ptr 0 1 0 0),(0,.fz 4 (bs.map blA))])
      (fun j=>layT s2 (.sl 7 0 (s2.page.length+j) (s2.page.length+j)) (.arr 1 ((s2.page++List.replicate j []).map .str)) [.arr 4 [blA bs[i]]]) (fun j=>j<=G) 0 (by omega) ?_ ?_
     .refine Shift.weakS ?_ (by simp[layT])
      simp only[go_sem]
     .intro j gj1 J2 hJ2
      by_cases gj:j<G
      .have dj:decide ((j:Int)<(G:Int))=true:=by simp; omega
       simp only[layT];refine zgF ?_;simp only[go_sem,dj,List.length_map,List.length_append,List.length_replicate]
       repeat refine aqa ?_
       first|done|rw[ic j]|trace_state
       refine ainv (hJ2 (j+1) (by omega) (by omega)) ?_;refine Shift.weakS ?_ (by simp[layT,List.replicate_succ',Nat.add_assoc]);simp only[go_sem]
      .have dj:decide ((j:Int)<(G:Int))=false:=by simp; omega
       have hj:j=G:=by omega
       subst hj;have hcs:=AhQ gi;have hcm2:=AhR bs (show i+1<=bs.length from gi);simp only[layT];refine zgF ?_;simp only[go_sem,dj,List.length_map,List.length_append,List.length_replicate]
       repeat refine aqa ?_
       refine AaL (ι:=Nat×LS) (fun y=>bs[i].lines.length-y.1) (fun y=>[(10,.int .i64 y.1),(7,.int .i64 i),(8,.ptr 8 1 0 0),(15,.int .i64 i),(14,.int .i64 bs.length),(13,.fz 4 (bs.map blA)),(6,.fn (.func 120) [.ptr 1 1 0 0,.ptr 2 1 0 0,.ptr 3 1 0 0]),(5,.ptr 3 1 0 0),(4,.ptr 2 1 0 0),(3,.ptr 1 1 0 0),(2,.ptr 0 1 0 0),(0,.fz 4 (bs.map blA))])
        (fun y=>layS y.2 [.arr 4 [blA bs[i]]])
        (fun y=>y.1<=bs[i].lines.length/\(∃ w,PInv y.2 w)/\AhB bs[i] y.1 (54-y.2.page.length)/\y.2.firsts.length=y.2.pages.length/\y.2.starts.length=i+1/\y.2.pages.length+(bs[i].lines.length-y.1)<=costTo bs i+1+bs[i].lines.length/\∃ f,bs[i].lines.length-y.1<f/\AbS bs[i] f y.1 y.2=layTo bs (i+1))
        (0,gapS bs[i] s2) ⟨by simp only; omega,⟨_,hPo⟩,hRo,q3,by simp only[gapS,List.length_append,List.length_cons,List.length_nil,q4],by simp only[gapS]; omega,_,by simp only; omega,htarget.symm⟩ ?_ ?_
       .refine Shift.weakS ?_ (by simp[layS,layT,gapS,hGG])
        simp only[go_sem]
       .rintro ⟨fr,st⟩ ⟨r1,⟨wst,r2⟩,r3,r4,r5,r6,f,r7,r8⟩ J3 hJ3
        simp only at r1 r2 r3 r4 r5 r6 r7 r8 hJ3 |-;have rl:=r2.len;have hroom:(54:Int)-(st.page.length:Int)=((54-st.page.length:Nat):Int):=by omega
        have hstop:=BjI bs[i] hbi fr (54-st.page.length) r1 r3 (by omega);have hspec:=AnC r3 r1;have hps:=ApY (hk _ (List.getElem_mem gi)).own r2 r1 r3;have hnl:=hbi.len
        cases f with
        | zero=>omega
        | succ f =>
         simp only[AbS]at r8;generalize hz:stopL bs[i] fr (54-st.page.length)=tz at hstop hspec hps r8;have hzl:fr<=tz/\tz<=bs[i].lines.length:=by omega
         have hpart:List.drop fr (List.take tz (bs[i].lines.map AV.str))=(partL' bs[i] fr tz).map AV.str:=by
          rw[partL',List.map_drop,List.map_take]
         have hpln:(partL' bs[i] fr tz).length=tz-fr:=AgM _ hzl.2;simp only[blA]at hstop;simp only[layS,layT,blA];refine zgF ?_;simp only[go_sem,hroom,List.length_map]
         repeat refine aqa ?_
         refine zpF (hstop) ?_;simp only[go_sem,List.length_map];refine zr [] mixed ?_;simp only[go_sem,hpart,hpln,List.length_map,List.length_append]
         repeat refine aqa ?_
         have el:(st.page++partL' bs[i] fr tz).length=st.page.length+(tz-fr):=by rw[List.length_append,hpln]
         rw[<- el,<- List.map_append];refine AWp.shift (e':=[(11,.int .i64 tz),(10,.int .i64 fr),(7,.int .i64 i),(8,.ptr 8 1 0 0),(15,.int .i64 i),(14,.int .i64 bs.length),(13,.fz 4 (bs.map blA)),(6,.fn (.func 120) [.ptr 1 1 0 0,.ptr 2 1 0 0,.ptr 3 1 0 0]),(5,.ptr 3 1 0 0),(4,.ptr 2 1 0 0),(3,.ptr 1 1 0 0),(2,.ptr 0 1 0 0),(0,.fz 4 (bs.map blA))]) (s':=layS (addS st (partL' bs[i] fr tz)) [.arr 4 [blA bs[i]]]) (Shift.weakS ?_ rfl) ?_
         .simp only [go_sem]
         have hsp:(addS st (partL' bs[i] fr tz)).pages=st.pages/\(addS st (partL' bs[i] fr tz)).firsts=st.firsts/\(addS st (partL' bs[i] fr tz)).starts=st.starts/\(addS st (partL' bs[i] fr tz)).page.length<=54+bs[i].lines.length:=⟨rfl,rfl,rfl,by simp only[addS]; rw[el]; omega⟩;generalize addS st (partL' bs[i] fr tz)=st1 at r8 hps hsp |-
         by_cases hzn:tz=bs[i].lines.length
         .have dz:((tz:Int)==(bs[i].lines.length:Int))=true:=by rw[hzn]; simp
          rw[if_pos hzn]at r8;have fin:=hJ (i+1) ⟨gi,by rw[<- r8,hsp.1]; omega,by rw[<- r8,hsp.1,hsp.2.1]; exact r4,by rw[<- r8,hsp.2.2.1]; exact r5⟩ (by omega);rw[<- r8]at fin;simp only[layS,layT,blA]at fin |-;refine zgF ?_;simp only[go_sem,dz,List.length_map]
          repeat refine aqa ?_
          rw[ic i];refine ainv fin ?_;refine A4D rfl st1 (.arr 4 [blA bs[i]]) ?_;simp only[go_sem]
          first|done|trace_state
         .have dz:((tz:Int)==(bs[i].lines.length:Int))=false:=by rw[beq_eq_false_iff_ne]; omega
          rw[if_neg hzn]at r8;obtain⟨z1,z2,z3,z4⟩:=hps hzn;simp only[layS,layT,blA];refine goF rfl 18 ?_;simp only[go_sem,dz,List.length_map]
          repeat refine aqa ?_
          have hgo:=A8V bs[i] (by have:=hbi.name; omega);simp only[blA]at hgo;refine acut (ι:=Unit) (fun _=>[(11,.int .i64 tz),(10,.int .i64 fr),(7,.int .i64 i),(8,.ptr 8 1 0 0),(15,.int .i64 i),(14,.int .i64 bs.length),(13,.fz 4 (bs.map blA)),(6,.fn (.func 120) [.ptr 1 1 0 0,.ptr 2 1 0 0,.ptr 3 1 0 0]),(5,.ptr 3 1 0 0),(4,.ptr 2 1 0 0),(3,.ptr 1 1 0 0),(2,.ptr 0 1 0 0),(0,.fz 4 (bs.map blA))])
           (fun _=>layS (addS st1 (if bs[i].kind==3 then[AcG] else[])) [.arr 4 [blA bs[i]]]) (fun _=>True) ?_ ?_
          .intro Jc hJc
           have fc:=hJc () trivial
           cases k3:bs[i].kind==3 with
           | true =>
            simp only[k3,if_true]at fc;refine zgF ?_;simp only[go_sem,k3];refine zr [.str AcG] mixed ?_;simp only[go_sem]
            repeat refine And.intro (by first|omega|exact more_pc.at|exact .inl trivial|rfl|(simp; done)|(simp; omega)) ?_
            refine zgF ?_;simp only[go_sem];refine ainv fc ?_;refine Shift.weakS ?_ (by simp[layS,layT,addS,blA]);simp only[go_sem]
           | false =>
            have hn:addS st1 []=st1:=by simp[addS]
            simp only[k3,Bool.false_eq_true,if_false,hn]at fc;refine zgF ?_;simp only[go_sem,k3];refine ainv fc (Shift.weakS ?_ rfl);simp only[go_sem]
          .rintro ⟨⟩ _
           have hJ4:=hJ3 (tz,breakS bs[i] st1);have hbr:breakS bs[i] st1=addS (flushS (addS st1 (if bs[i].kind==3 then[AcG] else[]))) (if bs[i].kind==3 then[goesLn bs[i]] else[]):=rfl;have hst2:(addS st1 (if bs[i].kind==3 then[AcG] else[])).pages=st1.pages/\(addS st1 (if bs[i].kind==3 then[AcG] else[])).firsts=st1.firsts/\(addS st1 (if bs[i].kind==3 then[AcG] else[])).starts=st1.starts:=⟨rfl,rfl,rfl⟩;generalize addS st1 (if bs[i].kind==3 then[AcG] else[])=st2 at hbr hst2 |-;have fin:=hJ4 ⟨by simp only; omega,z3,z4,by rw[hbr]; simp only[addS,flushS,List.length_append,List.length_cons,List.length_nil,hst2.1,hst2.2.1,hsp.1,hsp.2.1,r4],by rw[hbr]; simp only[addS,flushS,hst2.2.2,hsp.2.2.1,r5],by rw[hbr]; simp only[addS,flushS,List.length_append,List.length_cons,List.length_nil,hst2.1,hsp.1]; omega,f,by simp only; omega,r8⟩ (by simp only; omega);rw[hbr]at fin;simp only[layS,layT];refine zgF ?_;simp only[go_sem];refine za (AsS st2 [.arr 4 [blA bs[i]]] (fun _=>rfl) (by rw[hst2.1,hsp.1]; omega) (by rw[hst2.2.1,hsp.2.1]; omega)) ?_;rintro _ _ ⟨rfl,rfl⟩;refine AWp.shift (AkI rfl (flushS st2) bs[i] rfl (e':=[(11,.int .i64 tz),(10,.int .i64 fr),(7,.int .i64 i),(8,.ptr 8 1 0 0),(15,.int .i64 i),(14,.int .i64 bs.length),(13,.fz 4 (bs.map blA)),(6,.fn (.func 120) [.ptr 1 1 0 0,.ptr 2 1 0 0,.ptr 3 1 0 0]),(5,.ptr 3 1 0 0),(4,.ptr 2 1 0 0),(3,.ptr 1 1 0 0),(2,.ptr 0 1 0 0),(0,.fz 4 (bs.map blA))]) ?_) ?_
           .simp only [wk,renE,renV,ren1,idx,go_sem]
           cases k3:bs[i].kind==3 with
           | true =>
            simp only[k3,if_true]at fin;simp only[layS,layT,blA];refine zgF ?_;simp only[go_sem,k3];have hfz:(flushS st2).page=[]:=rfl;refine zr [.str (goesLn bs[i])] mixed ?_;simp only[go_sem,hfz,List.map_nil,List.length_nil]
            repeat refine And.intro (by first|omega|exact hgo.at|exact .inl trivial|rfl|(simp; done)|(simp; omega)) ?_
            refine zgF ?_;simp only[go_sem];refine ainv fin ?_;refine Shift.weakS ?_ (by simp[layS,layT,addS,blA,hfz]);simp only[go_sem]
           | false =>
            have hn:∀ s:LS,addS s []=s:=fun s=>by simp[addS]
            simp only[k3,Bool.false_eq_true,if_false,hn]at fin;simp only[layS,layT,blA];refine zgF ?_;simp only[go_sem,k3];refine ainv fin (Shift.weakS ?_ rfl);simp only[go_sem]
  .have di:decide ((i:Int)<(bs.length:Int))=false:=by simp; omega
   have hi:i=bs.length:=by omega
   subst hi;have hLL:layL bs=(if(layTo bs bs.length).page≠[] then flushS (layTo bs bs.length) else layTo bs bs.length):=rfl;have hcm:=AhR bs (Nat.le_refl bs.length);rw[hLL];generalize layTo bs bs.length=s at g2 g3 g4 |-
   by_cases p0:s.page=[]
   .have dp:decide ((s.page.length:Int)>0)=false:=by rw[p0]; rfl
    rw[if_neg (by simpa using p0)];unfold layS;refine AWp.shift (AvR s (e':=[(15,.int .i64 (bs.length:Nat)),(14,.int .i64 bs.length),(13,.fz 4 (bs.map blA)),(6,.fn (.func 120) [.ptr 1 1 0 0,.ptr 2 1 0 0,.ptr 3 1 0 0]),(5,.ptr 3 1 0 0),(4,.ptr 2 1 0 0),(3,.ptr 1 1 0 0),(2,.ptr 0 1 0 0)]) (fun id l h=>?_) (fun id l h=>?_) ?_) ?_
    .have:(7==id)=false:=by rw[beq_eq_false_iff_ne]; omega
     simp[frzC,frz,frz1,this]
    .simp only [frzB]
     rw[AnH (fun _=>rfl)]
    .simp only [wk,frzE,frzC,frz,frz1,go_sem]
    simp only[layF];refine zgF ?_;simp only[go_sem,di,dp,List.length_map]
    repeat refine aqa ?_
    exact AbG [.cell 2 110] rfl [_] ⟨by simp only[go_sem,sideIs],trivial⟩ ⟨rfl,rfl⟩
   .have hp1:0<s.page.length:=by
     cases hq:s.page with
     | nil=>exact(p0 hq).elim
     | cons a r=>simp
    have dp:decide ((s.page.length:Int)>0)=true:=by simp; omega
    rw[if_pos (by simpa using p0)];simp only[layS,layT];refine zgF ?_;simp only[go_sem,di,dp,List.length_map]
    repeat refine aqa ?_
    refine za (AsS s [] (fun _=>rfl) (by omega) (by omega)) ?_;rintro _ _ ⟨rfl,rfl⟩;refine AWp.shift (AvR (flushS s) (e':=[(15,.int .i64 (bs.length:Nat)),(14,.int .i64 bs.length),(13,.fz 4 (bs.map blA)),(6,.fn (.func 120) [.ptr 1 1 0 0,.ptr 2 1 0 0,.ptr 3 1 0 0]),(5,.ptr 3 1 0 0),(4,.ptr 2 1 0 0),(3,.ptr 1 1 0 0),(2,.ptr 0 1 0 0)]) (fun id l h=>rfl) (fun id l h=>rfl) ?_) ?_
    .simp only [wk,frzE,frzC,frz,frz1,go_sem]
    simp only[layF];refine zgF ?_;simp only[go_sem]
    repeat refine aqa ?_
    exact AbG [.cell 2 110] rfl [_] ⟨by simp only[go_sem,sideIs],trivial⟩ ⟨rfl,rfl⟩
