/- Lay, whose pages are memory of one's own. -/
import Derived.Test.YtccfklnmolggiaaGreatDoorZ27
set_option maxRecDepth 100000
set_option maxHeartbeats 8000000
set_option linter.all false
namespace Go.Proofs.YtccfklnmolggiaaGreatDoor
open Av RowKit Proofs.Tryz
theorem sg0(k:Nat):idx (sgR k) 0 0=some 0:=rfl
theorem sg1(k:Nat):idx (sgR k) 1 0=some 1:=rfl
theorem sg2(k:Nat):idx (sgR k) 2 0=some 2:=rfl
theorem sg3(k:Nat):idx (sgR k) 3 0=some 3:=rfl
theorem sb0(k:Nat):idx (sgB k) 0 0=some 0:=rfl
theorem sb1(k:Nat):idx (sgB k) 1 0=some 1:=rfl
theorem sb2(k:Nat):idx (sgB k) 2 0=some 2:=rfl
theorem sb3(k:Nat):idx (sgB k) 3 0=some 3:=rfl
def xB(bs:List Bl):Nat->Blk
 | 0=>.arr 4 []
 | i+1=>match bs[i]? with
  | some b=>.arr 4 [blA b]
  | none=>.arr 4 []
theorem BhM{bs:List Bl}{i:Nat}(h:i<bs.length):xB bs (i+1)=.arr 4 [blA bs[i]]:=by
 simp only[xB,lad h]
theorem BjY(bs:List Bl)(i:Nat):mpOk (xB bs i)=true/\(∀ σ,renB σ (xB bs i)=xB bs i)/\(∀ id l,frzB id 1 l (xB bs i)=xB bs i)/\∀ n,lowB n (xB bs i)=true:=by
 cases i with
 | zero=>exact⟨rfl,fun _=>rfl,fun _ _=>rfl,fun _=>rfl⟩
 | succ i =>
  simp only[xB]
  cases bs[i]? with
  | none=>exact⟨rfl,fun _=>rfl,fun _ _=>rfl,fun _=>rfl⟩
  | some b=>exact⟨rfl,fun _=>rfl,fun _ _=>rfl,fun _=>rfl⟩
theorem A7G{id:Nat}{l:LY}(h:id<9):∀ (ps:List (List Ln))(k:Nat),9<=k->(pgsW k ps).map (frzC id 1 l)=pgsW k ps
 | [],_,_=>rfl
 | p::r,k,hk=>by
  have ih:=A7G (l:=l) h r (k+1) (by omega);have e:(k==id)=false:=by simp; omega
  simp only[pgsW,lah,ih]
  simp[pgW,frzC,frz,frz1,e]
theorem frz_pgB{id:Nat}{l:LY}(ps:List (List Ln)):(ps.map pgB).map (frzB id 1 l)=ps.map pgB:=by
 rw[List.map_map];refine lcc fun p _=>?_
 simp only[Function.comp,pgB,frzB];rw[AqN (fun _=>rfl)]
def layE(s:LS)(pg:AV)(b7 X:Blk):LB :=
 .arr 3 [.agg [.raw (.slice none 0 0),.raw (.slice none 0 0),.raw (.slice none 0 0)]]::.arr 3 [.agg [.sl 4 0 s.Lg.length s.Lg.length,.fz 1 (s.Ld.map (.int .i64)),.fz 1 (s.Lk.map (.int .i64))]]::.arr 1 [pg]::.arr 1 [.int .i64 s.first] ::
  .arr 1 (pgsW 9 s.Lg)::.dead::.dead::b7::X::s.Lg.map pgB
theorem finO{c:Cx}{e e':Env}(s:LS){pg:AV}{b7 X:Blk}(hp:∀ id l,id<7->frzC id 1 l pg=pg)(hb:∀ id l,id<7->frzB id 1 l b7=b7)(hX:∀ id l,frzB id 1 l X=X)
  (hw:wk (frzE 6 1 (s.Lk.map (.int .i64)) (frzE 5 1 (s.Ld.map (.int .i64)) e)) e'):Shift c e (layTO s pg b7 X) e' (layE s pg b7 X):=by
 have hz:∀ id l,frzB id 1 l (.arr 3 [.agg [.raw (.slice none 0 0),.raw (.slice none 0 0),.raw (.slice none 0 0)]])=.arr 3 [.agg [.raw (.slice none 0 0),.raw (.slice none 0 0),.raw (.slice none 0 0)]]:=fun _ _=>rfl
 have hi:∀ id l (n:Int),frzB id 1 l (.arr 1 [.int .i64 n])=.arr 1 [.int .i64 n]:=fun _ _ _=>rfl
 have hg:∀ id l,id<7->frzB id 1 l (.arr 1 [pg])=.arr 1 [pg]:=fun id l h=>by simp only[frzB,lah,laq,hp id l h]
 have hn:∀ id l (xs:List Int),frzB id 1 l (.arr 1 (xs.map (.int .i64)))=.arr 1 (xs.map (.int .i64)):=fun id l xs=>by simp only[frzB]; rw[AqN (fun _=>rfl)]
 have hd:∀ id l,frzB id 1 l .dead=.dead:=fun _ _=>rfl
 have hr:∀ id l,id<9->frzB id 1 l (.arr 1 (pgsW 9 s.Lg))=.arr 1 (pgsW 9 s.Lg):=fun id l h=>by simp only[frzB,A7G h _ 9 (lab _)]
 refine Shift.trans (Shift.frz 5 (es:=1) (l:=s.Ld.map (.int .i64)) rfl (AcL _)) ?_;have t2:(List.set (layTO s pg b7 X) 5 .dead).map (frzB 5 1 (s.Ld.map (.int .i64)))=.arr 3 [.agg [.raw (.slice none 0 0),.raw (.slice none 0 0),.raw (.slice none 0 0)]]::.arr 3 [.agg [.sl 4 0 s.Lg.length s.Lg.length,.fz 1 (s.Ld.map (.int .i64)),.sl 6 0 s.Lk.length s.Lk.length]]::.arr 1 [pg]::.arr 1 [.int .i64 s.first] ::
  .arr 1 (pgsW 9 s.Lg)::.dead::.arr 1 (s.Lk.map (.int .i64))::b7::X::s.Lg.map pgB:=by
  show frzB 5 1 _ _::frzB 5 1 _ (.arr 3 [_])::frzB 5 1 _ _::frzB 5 1 _ _::frzB 5 1 _ _::frzB 5 1 _ _::frzB 5 1 _ _::frzB 5 1 _ _::frzB 5 1 _ _::List.map _ _=_
  rw[hz,hg 5 _ (by omega),hi,hd,hn,hb 5 _ (by omega),hX,frz_pgB,hr 5 _ (by omega)];simp only[frzB,lah,laq];have:frzC 5 1 (s.Ld.map (AV.int .i64)) (.agg [.sl 4 0 s.Lg.length s.Lg.length,.sl 5 0 s.Ld.length s.Ld.length,.sl 6 0 s.Lk.length s.Lk.length])=.agg [.sl 4 0 s.Lg.length s.Lg.length,.fz 1 (s.Ld.map (.int .i64)),.sl 6 0 s.Lk.length s.Lk.length]:=by
   simp[frzC,frz,frz1]
   exact lag (by simp)
  rw[this]
 rw[t2];refine Shift.trans (Shift.frz 6 (es:=1) (l:=s.Lk.map (.int .i64)) rfl (AcL _)) (Lp hw ?_)
 show frzB 6 1 _ _::frzB 6 1 _ (.arr 3 [_])::frzB 6 1 _ _::frzB 6 1 _ _::frzB 6 1 _ _::frzB 6 1 _ _::frzB 6 1 _ _::frzB 6 1 _ _::frzB 6 1 _ _::List.map _ _=_
 rw[hz,hg 6 _ (by omega),hi,hd,hb 6 _ (by omega),hX,frz_pgB,hr 6 _ (by omega)];simp only[frzB,lah,laq,layE];have:frzC 6 1 (s.Lk.map (AV.int .i64)) (.agg [.sl 4 0 s.Lg.length s.Lg.length,.fz 1 (s.Ld.map (.int .i64)),.sl 6 0 s.Lk.length s.Lk.length])=.agg [.sl 4 0 s.Lg.length s.Lg.length,.fz 1 (s.Ld.map (.int .i64)),.fz 1 (s.Lk.map (.int .i64))]:=by
  simp[frzC,frz,frz1]
  exact lag (by simp)
 rw[this]
def A7H(s:LS)(r:AV)(st:LB):Prop:=r=.agg [.sl 4 0 s.Lg.length s.Lg.length,.fz 1 (s.Ld.map (.int .i64)),.fz 1 (s.Lk.map (.int .i64))] /\
 st.all mpOk=true/\∃ b0 b1 b2 b3 b5 b6 b7 b8,st=b0::b1::b2::b3::.arr 1 (pgsW 9 s.Lg)::b5::b6::b7::b8::s.Lg.map pgB
theorem AtP(s:LS)(pg:AV)(b7 X:Blk)(h7:mpOk b7=true)(hX:mpOk X=true):A7H s (.agg [.sl 4 0 s.Lg.length s.Lg.length,.fz 1 (s.Ld.map (.int .i64)),.fz 1 (s.Lk.map (.int .i64))]) (List.set (layE s pg b7 X) 0 (.arr 3 [.agg [.sl 4 0 s.Lg.length s.Lg.length,.fz 1 (s.Ld.map (.int .i64)),.fz 1 (s.Lk.map (.int .i64))]])):=by
 refine⟨rfl,?_,_,_,_,_,_,_,_,_,rfl⟩;have:=List.all_eq_true.2 (A7E s.Lg);simp only[layE,lbs,laz,h7,hX,this,lbw]
 try rfl
theorem A7I{n:Nat}:∀ (ps:List (List Ln))(k:Nat),k+ps.length<=n->(flat (pgsW k ps)).all (lowC n)=true
 | [],_,_=>rfl
 | p::r,k,h=>by
  simp only[laf]at h;have ih:=A7I (n:=n) r (k+1) (by omega);simp only[pgsW,pgW,flat,cellsOf,las,lbm,laz,lowC,ih,lbw,lao];omega
theorem AlX(s:LS)(X:Blk)(hX:∀ n,lowB n X=true)(h1:s.Lg.length<=2000000000000)(h2:s.Ld.length<=2000000000000) :
  Ct prog 98 [.ptr 1 1 0 0,.ptr 2 1 0 0,.ptr 3 1 0 0] (layW s X) (fun r st=>r=.tup []/\st=layO (pgsW 9 s.Lg++[pgW 7 s.Lh]) (s.Lg.length+1) (s.Ld++[s.first]) s.Lk (-1) (.raw (.slice none 0 0)) (.arr 1 (s.Lh.map .str)) X (s.Lg.map pgB)):=by
 have hl:=pgsW_len s.Lg 9;refine AaZ func98 rfl ntmps98 hB98 (by simp) fun h ρ w=>?_
 simp only[args0,layW,layTO,layO];obtain⟨D,hD⟩:∃ D,s.Lg.map pgB=D:=⟨_,rfl⟩;have hDl:s.Lg.length=D.length:=by rw[<- hD,laa]
 rw[hD];apply zgN;simp only[go_sem,laa,hl,gt_at,gt_at0,st_at,st_at0,gd_end,st_end,lae]
 repeat refine And.intro (by first|omega|exact .inl trivial|exact .inl (.inl trivial)|rfl|(simp; done)|(simp; omega)) ?_
 have key:∀ (b0 b1 b2 b3 b4 b5 b6 b7 b8:Blk) (E:LB),List.take (D.length+9) (b0::b1::b2::b3::b4::b5::b6::b7::b8::(D++E))=b0::b1::b2::b3::b4::b5::b6::b7::b8::D:=fun _ _ _ _ _ _ _ _ _ E=>by
  simp
 refine ARet.shift (Shift.low (D.length+9) (e':=[]) (by simp) (by simp) ?_ ?_) ?_
 .rw [key]
  have e1:=A7I (n:=D.length+9) s.Lg 9 (by omega);have e2:=AaD (n:=D.length+9) (AcL (s.Ld++[s.first]));have e3:=AaD (n:=D.length+9) (AcL s.Lk);have e4:=AaD (n:=D.length+9) (AdE s.Lh);have e5:D.all (lowB (D.length+9))=true:=by
   rw[<- hD,List.all_map,lbv];exact fun p _=>AaD (AdE p)
  simp only[lap,lah,laq]at e2;simp only[laz,hX,e5,lbw];simp only[lowB,flat_append,List.all_append,e1,e3,e4,lbw];simp only[flat_append,List.all_append]at e2;simp only[e2,lbn,lbw]
  simp[flat,cellsOf,lowC,Av.frozen]
 .simp only [wkl]
  try trivial
 rw[key];exact aret [] rfl ⟨rfl,by simp[pgW]⟩
theorem BhN(bs:List Bl)(hb:∀ b∈bs,BlFit b)(hk:∀ b∈bs,BlOk b)(hc:costTo bs bs.length<=1000000000000)(hl:bs.length<=1000000) :
  Ct prog 53 [.fz 4 (bs.map blA)] [] (A7H (layL bs)):=by
 have hlay:=AqJ (bs:=bs) (fun b h=>(hk b h).own);refine zcIF func53 rfl fun h ρ w=>?_
 simp only[go_sem,laa];refine AaI (ι:=Nat) (fun i=>bs.length-i)
  (fun i=>[(15,.int .i64 i),(14,.int .i64 bs.length),(13,.fz 4 (bs.map blA)),(6,.fn (.func 98) [.ptr 1 1 0 0,.ptr 2 1 0 0,.ptr 3 1 0 0]),(5,.ptr 3 1 0 0),(4,.ptr 2 1 0 0),(3,.ptr 1 1 0 0),(2,.ptr 0 1 0 0),(0,.fz 4 (bs.map blA))])
  (fun i=>layW (layTo bs i) (xB bs i)) (fun i=>i<=bs.length/\(layTo bs i).Lg.length<=costTo bs i/\(layTo bs i).Ld.length=(layTo bs i).Lg.length/\(layTo bs i).Lk.length=i) 0 ⟨by omega,by simp[layTo],rfl,rfl⟩ ?_ ?_
 .refine Shift.trans (Shift.cells 1 1 [.agg [.sl 4 0 0 0,.raw (.slice none 0 0),.raw (.slice none 0 0)]] rfl rfl (by simp[cellsOf]) ⟨.sl,.refl,.refl,trivial⟩) ?_
  refine Shift.trans (Shift.cells 1 1 [.agg [.sl 4 0 0 0,.sl 5 0 0 0,.raw (.slice none 0 0)]] rfl rfl (by simp[cellsOf]) ⟨.refl,.sl,.refl,trivial⟩) ?_;refine Shift.trans (Shift.cells 1 1 [.agg [.sl 4 0 0 0,.sl 5 0 0 0,.sl 6 0 0 0]] rfl rfl (by simp[cellsOf]) ⟨.refl,.refl,.sl,trivial⟩) ?_;refine Shift.trans (Shift.cells 2 1 [.sl 7 0 0 0] rfl rfl (by simp[cellsOf]) ⟨.sl,trivial⟩) ?_;refine Shift.trans (Lr 4) ?_;refine Lp ?_ rfl;simp only[go_sem]
 .rintro i ⟨g1,g2,g3,g4⟩ J hJ
  obtain⟨w0,hP,_⟩:=hlay i g1
  by_cases gi:i<bs.length
  .have di:decide ((i:Int)<(bs.length:Int))=true:=by simp; omega
   have hg':List.getD (List.map blA bs) i .any=.agg [.int .i64 bs[i].kind,.fz 1 (bs[i].La.map .str),.fz 1 (bs[i].kinds.map (.int .i64)),.str bs[i].name]:=by simp[List.getD,gi,blA]
   have hbi:=hb _ (lai gi);have hgap:=BjS bs[i];have hhead:=BhJ bs i gi hb (by omega);simp only[blA]at hgap;have hgn:(if bs[i].kind==0 then(2:Int) else 1)=((gapN bs[i]:Nat):Int):=by unfold gapN; split <;> rfl
   rw[hgn]at hgap;have hcm:=AgT bs g1;have hpl:=hP.len;generalize hs:layTo bs i=s at g2 g3 g4 hP hpl |-;obtain⟨hX1,_,_,_⟩:=BjY bs i;have fin0:=fun(s':LS) (e:s'=layTo bs (i+1)) (h1:s'.Lg.length<=costTo bs (i+1)) (h2:s'.Ld.length=s'.Lg.length) (h3:s'.Lk.length=i+1)=>(BhM gi)▸e▸hJ (i+1) ⟨gi,e▸h1,e▸h2,e▸h3⟩ (by omega)
   clear hJ;generalize xB bs i=X0 at *;simp only[layW,layTO,layO];obtain⟨D,hD⟩:∃ D,s.Lg.map pgB=D:=⟨_,rfl⟩;rw[hD];apply zgF;simp only[go_sem,di,hg',laa,gd_end,st_end]
   repeat refine aqb ?_
   refine AcH (hgap) rfl rfl rfl (goF rfl 4 ?_);simp only[go_sem];refine AWp.shift (e':=[(9,.int .i64 (gapN bs[i]:Nat)),(7,.int .i64 i),(8,.ptr 8 1 0 0),(15,.int .i64 i),(14,.int .i64 bs.length),(13,.fz 4 (bs.map blA)),(6,.fn (.func 98) [.ptr 1 1 0 0,.ptr 2 1 0 0,.ptr 3 1 0 0]),(5,.ptr 3 1 0 0),(4,.ptr 2 1 0 0),(3,.ptr 1 1 0 0),(2,.ptr 0 1 0 0),(0,.fz 4 (bs.map blA))]) (s':=layW s (.arr 4 [blA bs[i]])) (A7F rfl s (.sl 7 0 s.Lh.length s.Lh.length) (s.Lh.map .str) X0 D hD bs[i] rfl (AcT (fun _=>rfl) _) hX1 ?_) ?_
   .simp only[renE,renV,ren1,sb0,sb1,sb2,sb3,sgB_b,go_sem]
   clear hD;clear D;simp only[layW,layTO,layO];have hbA:Blk.arr 4 [AV.agg [.int .i64 bs[i].kind,.fz 1 (bs[i].La.map .str),.fz 1 (bs[i].kinds.map (.int .i64)),.str bs[i].name]]=.arr 4 [blA bs[i]]:=rfl;refine acut (ι:=Unit)
    (fun _=>[(9,.int .i64 (gapN bs[i]:Nat)),(7,.int .i64 i),(8,.ptr 8 1 0 0),(15,.int .i64 i),(14,.int .i64 bs.length),(13,.fz 4 (bs.map blA)),(6,.fn (.func 98) [.ptr 1 1 0 0,.ptr 2 1 0 0,.ptr 3 1 0 0]),(5,.ptr 3 1 0 0),(4,.ptr 2 1 0 0),(3,.ptr 1 1 0 0),(2,.ptr 0 1 0 0),(0,.fz 4 (bs.map blA))])
    (fun _=>layW (turnS bs i bs[i] s) (.arr 4 [blA bs[i]])) (fun _=>True) ?_ ?_
   .intro Jc hJc
    have fc:=hJc () trivial
    by_cases p0:s.Lh=[]
    .have dp:decide ((s.Lh.length:Int)>0)=false:=by rw[p0]; rfl
     have ht:turnS bs i bs[i] s=s:=by unfold turnS; rw[if_neg (fun h=>h.1 p0)]
     rw[ht]at fc;apply zgF;simp only[go_sem];refine zr [] AaJ ?_;simp only[go_sem,dp]
     repeat refine aqb ?_
     apply zgF;simp only[go_sem];refine ainv fc (Lp ?_ rfl);simp only[go_sem]
    .have hp1:0<s.Lh.length:=by
      cases hq:s.Lh with
      | nil=>exact(p0 hq).elim
      | cons a r=>simp
     have dp:decide ((s.Lh.length:Int)>0)=true:=by simp; omega
     have hle:AaH bs[i]<=bs[i].La.length+2:=least_le _;have hfit:=hbi.len;have hhd:=BcG (bs:=bs) (i:=i) (b:=bs[i]) (M:=50000000) (fun d hd=>(hb d hd).len);have hgl:gapN bs[i]<=2:=by unfold gapN; split <;> omega
     by_cases hov:s.Lh.length+gapN bs[i]+AcK bs i bs[i]>54
     .have dov:decide ((s.Lh.length:Int)+(gapN bs[i]:Nat)+(AcK bs i bs[i]:Nat)>54)=true:=by simp; omega
      have ht:turnS bs i bs[i] s=flushS s:=by unfold turnS; rw[if_pos ⟨p0,hov⟩]
      rw[ht]at fc;apply zgF;simp only[go_sem];refine zr [.int .i64 ((AcK bs i bs[i]:Nat):Int)] AaJ ?_;simp only[go_sem,dp]
      repeat refine And.intro (by first|omega|exact hhead.at|exact .inl trivial|rfl|(simp; done)|(simp; omega)) ?_
      apply zgF;simp only[go_sem,dov];refine za (AlX s (.arr 4 [blA bs[i]]) (fun _=>rfl) (by omega) (by omega)) ?_;rintro _ _ ⟨rfl,rfl⟩;apply zgF;simp only[go_sem];refine ainv fc (AwQ rfl s (.arr 4 [blA bs[i]]) rfl rfl ?_);simp only[renE,renV,ren1,sg0,sg1,sg2,sg3,sgR_8,go_sem]
     .have dov:decide ((s.Lh.length:Int)+(gapN bs[i]:Nat)+(AcK bs i bs[i]:Nat)>54)=false:=by simp; omega
      have ht:turnS bs i bs[i] s=s:=by unfold turnS; rw[if_neg (fun h=>hov h.2)]
      rw[ht]at fc;apply zgF;simp only[go_sem];refine zr [.int .i64 ((AcK bs i bs[i]:Nat):Int)] AaJ ?_;simp only[go_sem,dp]
      repeat refine And.intro (by first|omega|exact hhead.at|exact .inl trivial|rfl|(simp; done)|(simp; omega)) ?_
      apply zgF;simp only[go_sem,dov];refine ainv fc (Lp ?_ rfl);simp only[go_sem]
   .rintro ⟨⟩ _
    obtain⟨hP1,hfit1⟩:=BcH (bs:=bs) (i:=i) (b:=bs[i]) hP;obtain⟨hm1,hm2,hm3⟩:=A6Z bs i bs[i] s;have hm2:=hm2.2 g3;have htarget:layTo bs (i+1)=AbQ bs[i] (bs[i].La.length+1) 0 (gapS bs[i] (firstS i (turnS bs i bs[i] s))):=by
     simp only[layTo,lad gi,hs,openS]
    obtain⟨g0,_,hPo,hRo⟩:=AzK (bs:=bs) (i:=i) (b:=bs[i]) hP;rw[openS]at hPo hRo;generalize turnS bs i bs[i] s=s1 at hP1 hfit1 hm1 hm2 hm3 htarget hPo hRo |-;have hgl:gapN bs[i]<=2:=by unfold gapN; split <;> omega
    simp only[layW,layTO,layO];refine goF rfl 1 ?_;simp only[go_sem];refine acut (ι:=Unit)
     (fun _=>[(9,.int .i64 (gapN bs[i]:Nat)),(7,.int .i64 i),(8,.ptr 8 1 0 0),(15,.int .i64 i),(14,.int .i64 bs.length),(13,.fz 4 (bs.map blA)),(6,.fn (.func 98) [.ptr 1 1 0 0,.ptr 2 1 0 0,.ptr 3 1 0 0]),(5,.ptr 3 1 0 0),(4,.ptr 2 1 0 0),(3,.ptr 1 1 0 0),(2,.ptr 0 1 0 0),(0,.fz 4 (bs.map blA))])
     (fun _=>layW (firstS i s1) (.arr 4 [blA bs[i]])) (fun _=>True) ?_ ?_
    .intro Jc hJc
     have fc:=hJc () trivial
     by_cases p1:s1.Lh=[]
     .have hf1:firstS i s1=⟨s1.Lg,s1.Ld,s1.Lk,s1.Lh,i⟩:=by unfold firstS; rw[if_pos p1]
      have dp:((s1.Lh.length:Int)==0)=true:=by rw[p1]; rfl
      rw[hf1]at fc;apply zgF;simp only[go_sem,dp]
      repeat refine aqb ?_
      refine ainv fc (Lp ?_ rfl);simp only[go_sem]
     .have hf1:firstS i s1=s1:=by unfold firstS; rw[if_neg p1]
      have dp:((s1.Lh.length:Int)==0)=false:=by
       rw[lbd];intro e;exact p1 (lbb (by omega))
      rw[hf1]at fc;apply zgF;simp only[go_sem,dp]
      repeat refine aqb ?_
      refine ainv fc (Lp ?_ rfl);simp only[go_sem]
    .rintro ⟨⟩ _
     have hfp:(firstS i s1).Lh=s1.Lh/\(firstS i s1).Lg=s1.Lg/\(firstS i s1).Ld=s1.Ld/\(firstS i s1).Lk=s1.Lk:=by unfold firstS; split <;> exact⟨rfl,rfl,rfl,rfl⟩
     have hl1:=hP1.len;generalize firstS i s1=s2 at hfp htarget hPo hRo |-;have q1:s2.Lh.length<=54:=by rw[hfp.1]; exact hl1
     have q2:s2.Lg.length<=costTo bs i+1:=by rw[hfp.2.1]; omega
     have q3:s2.Ld.length=s2.Lg.length:=by rw[hfp.2.1,hfp.2.2.1]; exact hm2
     have q4:s2.Lk.length=i:=by rw[hfp.2.2.2,hm3]; exact g4
     have hmul:(gapN bs[i]:Int)*(if(1:Int)<(s2.Lh.length:Int) then 1 else(s2.Lh.length:Int))=((gapN bs[i]*min s2.Lh.length 1:Nat):Int):=by
      rw[Int.natCast_mul]
      congr 1
      split <;> omega
     generalize hGG:gapN bs[i]*min s2.Lh.length 1=G at hmul;have hG2:G<=2:=by
      rw[<- hGG];have:min s2.Lh.length 1<=1:=Nat.min_le_right _ _
      calc gapN bs[i]*min s2.Lh.length 1<=gapN bs[i]*1:=Nat.mul_le_mul_left _ this
       _<=2:=by omega
     simp only[layW,layTO,layO];apply zgF;simp only[go_sem,hmul]
     repeat refine aqb ?_
     refine AaI (ι:=Nat) (fun j=>G-j) (fun j=>[(47,.int .i64 j),(46,.int .i64 G),(7,.int .i64 i),(8,.ptr 8 1 0 0),(15,.int .i64 i),(14,.int .i64 bs.length),(13,.fz 4 (bs.map blA)),(6,.fn (.func 98) [.ptr 1 1 0 0,.ptr 2 1 0 0,.ptr 3 1 0 0]),(5,.ptr 3 1 0 0),(4,.ptr 2 1 0 0),(3,.ptr 1 1 0 0),(2,.ptr 0 1 0 0),(0,.fz 4 (bs.map blA))])
      (fun j=>layTO s2 (.sl 7 0 (s2.Lh.length+j) (s2.Lh.length+j)) (.arr 1 ((s2.Lh++List.replicate j []).map .str)) (.arr 4 [blA bs[i]])) (fun j=>j<=G) 0 (by omega) ?_ ?_
     .refine Lp ?_ (by simp[layTO,layO])
      simp only[go_sem]
     .intro j gj1 J2 hJ2
      by_cases gj:j<G
      .have dj:decide ((j:Int)<(G:Int))=true:=by simp; omega
       simp only[layTO,layO];apply zgF;simp only[go_sem,dj,pgsW_len,laa,lbz]
       repeat refine aqb ?_
       first|done|rw[ic j]|trace_state
       refine ainv (hJ2 (j+1) (by omega) (by omega)) ?_;refine Lp ?_ (by simp[layTO,layO,List.replicate_succ',Nat.add_assoc]);simp only[go_sem]
      .have dj:decide ((j:Int)<(G:Int))=false:=by simp; omega
       have hj:j=G:=by omega
       subst hj;have hcs:=AlV gi;have hcm2:=AgT bs (show i+1<=bs.length from gi);simp only[layTO,layO];apply zgF;simp only[go_sem,dj,pgsW_len,laa,lbz]
       repeat refine aqb ?_
       refine AaI (ι:=Nat×LS) (fun y=>bs[i].La.length-y.1) (fun y=>[(10,.int .i64 y.1),(7,.int .i64 i),(8,.ptr 8 1 0 0),(15,.int .i64 i),(14,.int .i64 bs.length),(13,.fz 4 (bs.map blA)),(6,.fn (.func 98) [.ptr 1 1 0 0,.ptr 2 1 0 0,.ptr 3 1 0 0]),(5,.ptr 3 1 0 0),(4,.ptr 2 1 0 0),(3,.ptr 1 1 0 0),(2,.ptr 0 1 0 0),(0,.fz 4 (bs.map blA))])
        (fun y=>layW y.2 (.arr 4 [blA bs[i]]))
        (fun y=>y.1<=bs[i].La.length/\(∃ w,PInv y.2 w)/\AhI bs[i] y.1 (54-y.2.Lh.length)/\y.2.Ld.length=y.2.Lg.length/\y.2.Lk.length=i+1/\y.2.Lg.length+(bs[i].La.length-y.1)<=costTo bs i+1+bs[i].La.length/\∃ f,bs[i].La.length-y.1<f/\AbQ bs[i] f y.1 y.2=layTo bs (i+1))
        (0,gapS bs[i] s2) ⟨by simp only; omega,⟨_,hPo⟩,hRo,q3,by simp only[gapS,lak,laf,lar,q4],by simp only[gapS]; omega,_,by simp only; omega,htarget.symm⟩ ?_ ?_
       .refine Lp ?_ (by simp[layW,layTO,layO,gapS,hGG])
        simp only[go_sem]
       .rintro ⟨fr,st⟩ ⟨r1,⟨wst,r2⟩,r3,r4,r5,r6,f,r7,r8⟩ J3 hJ3
        simp only at r1 r2 r3 r4 r5 r6 r7 r8 hJ3 |-;have rl:=r2.len;have hroom:(54:Int)-(st.Lh.length:Int)=((54-st.Lh.length:Nat):Int):=by omega
        have hstop:=BhK bs[i] hbi fr (54-st.Lh.length) r1 r3 (by omega);have hspec:=AlR r3 r1;have hps:=A1T (hk _ (lai gi)).own r2 r1 r3;have hnl:=hbi.len
        cases f with
        | zero=>omega
        | succ f =>
         simp only[AbQ]at r8;generalize hz:stopL bs[i] fr (54-st.Lh.length)=tz at hstop hspec hps r8;have hzl:fr<=tz/\tz<=bs[i].La.length:=by omega
         have hpart:List.drop fr (List.take tz (bs[i].La.map AV.str))=(partL' bs[i] fr tz).map AV.str:=by
          rw[partL',List.map_drop,List.map_take]
         have hpln:(partL' bs[i] fr tz).length=tz-fr:=AgD _ hzl.2;simp only[blA]at hstop;simp only[layW,layTO,layO,blA];apply zgF;simp only[go_sem,hroom,laa]
         repeat refine aqb ?_
         refine zpF (hstop) ?_;simp only[go_sem,laa];refine zr [] AaJ ?_;simp only[go_sem,hpart,hpln,laa]
         repeat refine aqb ?_
         have el:(st.Lh++partL' bs[i] fr tz).length=st.Lh.length+(tz-fr):=by rw[lak,hpln]
         rw[<- el,<- lap];refine AWp.shift (e':=[(11,.int .i64 tz),(10,.int .i64 fr),(7,.int .i64 i),(8,.ptr 8 1 0 0),(15,.int .i64 i),(14,.int .i64 bs.length),(13,.fz 4 (bs.map blA)),(6,.fn (.func 98) [.ptr 1 1 0 0,.ptr 2 1 0 0,.ptr 3 1 0 0]),(5,.ptr 3 1 0 0),(4,.ptr 2 1 0 0),(3,.ptr 1 1 0 0),(2,.ptr 0 1 0 0),(0,.fz 4 (bs.map blA))]) (s':=layW (addS st (partL' bs[i] fr tz)) (.arr 4 [blA bs[i]])) (Lp ?_ rfl) ?_
         .simp only [go_sem]
         have hsp:(addS st (partL' bs[i] fr tz)).Lg=st.Lg/\(addS st (partL' bs[i] fr tz)).Ld=st.Ld/\(addS st (partL' bs[i] fr tz)).Lk=st.Lk/\(addS st (partL' bs[i] fr tz)).Lh.length<=54+bs[i].La.length:=⟨rfl,rfl,rfl,by simp only[addS]; rw[el]; omega⟩;generalize addS st (partL' bs[i] fr tz)=st1 at r8 hps hsp |-
         by_cases hzn:tz=bs[i].La.length
         .have dz:((tz:Int)==(bs[i].La.length:Int))=true:=by rw[hzn]; simp
          rw[if_pos hzn]at r8;have fin:=fin0 st1 r8 (by rw[hsp.1]; omega) (by rw[hsp.1,hsp.2.1]; exact r4) (by rw[hsp.2.2.1]; exact r5);simp only[layW,layTO,layO,blA]at fin |-;apply zgF;simp only[go_sem,dz,laa]
          repeat refine aqb ?_
          rw[ic i];refine ainv fin (Lp ?_ rfl);simp only[go_sem]
         .have dz:((tz:Int)==(bs[i].La.length:Int))=false:=by rw[lbd]; omega
          rw[if_neg hzn]at r8;obtain⟨z1,z2,z3,z4⟩:=hps hzn;simp only[layW,layTO,layO,blA];refine goF rfl 18 ?_;simp only[go_sem,dz,laa]
          repeat refine aqb ?_
          have hgo:=A6Q bs[i] (by have:=hbi.name; omega);simp only[blA]at hgo;refine acut (ι:=Unit) (fun _=>[(11,.int .i64 tz),(10,.int .i64 fr),(7,.int .i64 i),(8,.ptr 8 1 0 0),(15,.int .i64 i),(14,.int .i64 bs.length),(13,.fz 4 (bs.map blA)),(6,.fn (.func 98) [.ptr 1 1 0 0,.ptr 2 1 0 0,.ptr 3 1 0 0]),(5,.ptr 3 1 0 0),(4,.ptr 2 1 0 0),(3,.ptr 1 1 0 0),(2,.ptr 0 1 0 0),(0,.fz 4 (bs.map blA))])
           (fun _=>layW (addS st1 (if bs[i].kind==3 then[AbX] else[])) (.arr 4 [blA bs[i]])) (fun _=>True) ?_ ?_
          .intro Jc hJc
           have fc:=hJc () trivial
           cases k3:bs[i].kind==3 with
           | true =>
            simp only[k3,if_true]at fc;apply zgF;simp only[go_sem,k3];refine zr [.str AbX] AaJ ?_;simp only[go_sem]
            repeat refine And.intro (by first|omega|exact more_pc.at|exact .inl trivial|rfl|(simp; done)|(simp; omega)) ?_
            apply zgF;simp only[go_sem];refine ainv fc ?_;refine Lp ?_ (by simp[layW,layTO,layO,addS,blA]);simp only[go_sem]
           | false =>
            have hn:addS st1 []=st1:=by simp[addS]
            simp only[k3,lan,if_false,hn]at fc;apply zgF;simp only[go_sem,k3];refine ainv fc (Lp ?_ rfl);simp only[go_sem]
          .rintro ⟨⟩ _
           have hJ4:=hJ3 (tz,breakS bs[i] st1);have hbr:breakS bs[i] st1=addS (flushS (addS st1 (if bs[i].kind==3 then[AbX] else[]))) (if bs[i].kind==3 then[goesLn bs[i]] else[]):=rfl;have hst2:(addS st1 (if bs[i].kind==3 then[AbX] else[])).Lg=st1.Lg/\(addS st1 (if bs[i].kind==3 then[AbX] else[])).Ld=st1.Ld/\(addS st1 (if bs[i].kind==3 then[AbX] else[])).Lk=st1.Lk:=⟨rfl,rfl,rfl⟩;generalize addS st1 (if bs[i].kind==3 then[AbX] else[])=st2 at hbr hst2 |-;have fin:=hJ4 ⟨by simp only; omega,z3,z4,by rw[hbr]; simp only[addS,flushS,lak,laf,lar,hst2.1,hst2.2.1,hsp.1,hsp.2.1,r4],by rw[hbr]; simp only[addS,flushS,hst2.2.2,hsp.2.2.1,r5],by rw[hbr]; simp only[addS,flushS,lak,laf,lar,hst2.1,hsp.1]; omega,f,by simp only; omega,r8⟩ (by simp only; omega);rw[hbr]at fin;simp only[layW,layTO,layO];apply zgF;simp only[go_sem];refine za (AlX st2 (.arr 4 [blA bs[i]]) (fun _=>rfl) (by rw[hst2.1,hsp.1]; omega) (by rw[hst2.2.1,hsp.2.1]; omega)) ?_;rintro _ _ ⟨rfl,rfl⟩;refine AWp.shift (AwQ rfl st2 (.arr 4 [blA bs[i]]) rfl rfl (e':=[(11,.int .i64 tz),(10,.int .i64 fr),(7,.int .i64 i),(8,.ptr 8 1 0 0),(15,.int .i64 i),(14,.int .i64 bs.length),(13,.fz 4 (bs.map blA)),(6,.fn (.func 98) [.ptr 1 1 0 0,.ptr 2 1 0 0,.ptr 3 1 0 0]),(5,.ptr 3 1 0 0),(4,.ptr 2 1 0 0),(3,.ptr 1 1 0 0),(2,.ptr 0 1 0 0),(0,.fz 4 (bs.map blA))]) ?_) ?_
           .simp only[renE,renV,ren1,sg0,sg1,sg2,sg3,sgR_8,go_sem]
           cases k3:bs[i].kind==3 with
           | true =>
            simp only[k3,if_true]at fin;simp only[layW,layTO,layO,blA];apply zgF;simp only[go_sem,k3];have hfz:(flushS st2).Lh=[]:=rfl;refine zr [.str (goesLn bs[i])] AaJ ?_;simp only[go_sem,hfz]
            repeat refine And.intro (by first|omega|exact hgo.at|exact .inl trivial|rfl|(simp; done)|(simp; omega)) ?_
            apply zgF;simp only[go_sem];refine ainv fin ?_;refine Lp ?_ (by simp[layW,layTO,layO,addS,blA,hfz]);simp only[go_sem]
           | false =>
            have hn:∀ s:LS,addS s []=s:=fun s=>by simp[addS]
            simp only[k3,lan,if_false,hn]at fin;simp only[layW,layTO,layO,blA];apply zgF;simp only[go_sem,k3];refine ainv fin (Lp ?_ rfl);simp only[go_sem]
  .have di:decide ((i:Int)<(bs.length:Int))=false:=by simp; omega
   have hi:i=bs.length:=by omega
   subst hi;have hLL:layL bs=(if(layTo bs bs.length).Lh≠[] then flushS (layTo bs bs.length) else layTo bs bs.length):=rfl;have hcm:=AgT bs (lab bs.length);rw[hLL];obtain⟨hX1,hX2,hX3,hX4⟩:=BjY bs bs.length;generalize xB bs bs.length=X0 at *;clear hJ;generalize layTo bs bs.length=s at g2 g3 g4 |-
   by_cases p0:s.Lh=[]
   .have dp:decide ((s.Lh.length:Int)>0)=false:=by rw[p0]; rfl
    rw[if_neg (by simpa using p0)];unfold layW;have hpo:=AtP s (.sl 7 0 s.Lh.length s.Lh.length) (.arr 1 (s.Lh.map .str)) X0 rfl hX1;refine AWp.shift (finO s (e':=[(15,.int .i64 (bs.length:Nat)),(14,.int .i64 bs.length),(13,.fz 4 (bs.map blA)),(6,.fn (.func 98) [.ptr 1 1 0 0,.ptr 2 1 0 0,.ptr 3 1 0 0]),(5,.ptr 3 1 0 0),(4,.ptr 2 1 0 0),(3,.ptr 1 1 0 0),(2,.ptr 0 1 0 0)]) (fun id l h=>?_) (fun id l h=>?_) hX3 ?_) ?_
    .have:(7==id)=false:=by rw[lbd]; omega
     simp[frzC,frz,frz1,this]
    .simp only [frzB]
     rw[AqN (fun _=>rfl)]
    .simp only[frzE,frzC,frz,frz1,go_sem]
    simp only[layE,lbs]at hpo |-;apply zgF;simp only[go_sem,di,dp,laa]
    repeat refine aqb ?_
    exact AbU [.cell 2 63] rfl [_] ⟨by simp only[go_sem,sideIs],trivial⟩ hpo
   .have hp1:0<s.Lh.length:=by
     cases hq:s.Lh with
     | nil=>exact(p0 hq).elim
     | cons a r=>simp
    have dp:decide ((s.Lh.length:Int)>0)=true:=by simp; omega
    rw[if_pos (by simpa using p0)];simp only[layW,layTO,layO];apply zgF;simp only[go_sem,di,dp,laa]
    repeat refine aqb ?_
    refine za (AlX s X0 hX4 (by omega) (by omega)) ?_;rintro _ _ ⟨rfl,rfl⟩;refine AWp.shift (AwQ rfl s X0 hX1 (hX2 _) (e':=[(15,.int .i64 (bs.length:Nat)),(14,.int .i64 bs.length),(13,.fz 4 (bs.map blA)),(6,.fn (.func 98) [.ptr 1 1 0 0,.ptr 2 1 0 0,.ptr 3 1 0 0]),(5,.ptr 3 1 0 0),(4,.ptr 2 1 0 0),(3,.ptr 1 1 0 0),(2,.ptr 0 1 0 0)]) ?_) ?_
    .simp only[renE,renV,ren1,sg0,sg1,sg2,sg3,sgR_8,go_sem]
    have hpo:=AtP (flushS s) (.sl 7 0 (flushS s).Lh.length (flushS s).Lh.length) (.arr 1 ((flushS s).Lh.map .str)) X0 rfl hX1;refine AWp.shift (finO (flushS s) (e':=[(15,.int .i64 (bs.length:Nat)),(14,.int .i64 bs.length),(13,.fz 4 (bs.map blA)),(6,.fn (.func 98) [.ptr 1 1 0 0,.ptr 2 1 0 0,.ptr 3 1 0 0]),(5,.ptr 3 1 0 0),(4,.ptr 2 1 0 0),(3,.ptr 1 1 0 0),(2,.ptr 0 1 0 0)]) (fun id l h=>?_) (fun id l h=>rfl) hX3 ?_) ?_
    .have:(7==id)=false:=by rw[lbd]; omega
     simp[frzC,frz,frz1,this]
    .simp only[frzE,frzC,frz,frz1,go_sem]
    simp only[layE,lbs]at hpo |-;apply zgF;simp only[go_sem]
    repeat refine aqb ?_
    exact AbU [.cell 2 63] rfl [_] ⟨by simp only[go_sem,sideIs],trivial⟩ hpo
def OwnL(lo hi:Nat)(T:LB)(e:Nat)(v:AV)(l:LY):Prop :=
 (l=[]/\(v=.raw (.slice none 0 0)\/v=.fz e []))\/∃ id,v=.sl id 0 l.length l.length/\lo<=id/\id<hi/\T[id]? = some (.arr e l)
def Out(lo hi:Nat)(T T':LB):Prop:=T.length<=T'.length/\∀ j,j<T.length->(j<lo\/hi<=j)->T'[j]? = T[j]?
theorem Out.refl{lo hi T}:Out lo hi T T:=⟨lab _,fun _ _ _=>rfl⟩
theorem Out.trans{lo hi T T' T''}(h:Out lo hi T T')(h':Out lo hi T' T''):Out lo hi T T'' :=
 ⟨Nat.le_trans h.1 h'.1,fun j hj ho=>by rw[h'.2 j (by have:=h.1; omega) ho,h.2 j hj ho]⟩
theorem Out.app{lo hi T T'}(h:Out lo hi T T')(U:LB):Out lo hi T (T'++U) :=
 ⟨by rw[lak]; have:=h.1; omega,fun j hj ho=>by rw[lat (by have:=h.1; omega),h.2 j hj ho]⟩
theorem Out.set{lo hi T T'}(h:Out lo hi T T'){k:Nat}(h1:lo<=k)(h2:k<hi)(b:Blk):Out lo hi T (T'.set k b) :=
 ⟨by rw[lbp]; exact h.1,fun j hj ho=>by rw[lax (by omega),h.2 j hj ho]⟩
theorem OwnL.app{lo hi T e v l}(h:OwnL lo hi T e v l)(U:LB):OwnL lo hi (T++U) e v l:=by
 rcases h with h|⟨id,h1,h2,h3,h4⟩
 .exact .inl h
 .exact .inr ⟨id,h1,h2,h3,by rw[lat (List.getElem?_eq_some_iff.1 h4).1]; exact h4⟩
theorem OwnL.to{lo hi lo' hi' T T' e v l}(h:OwnL lo hi T e v l)(h1:lo'<=lo)(h2:hi<=hi')(ht:∀ j,lo<=j->j<hi->∀ b,T[j]? = some b->T'[j]? = some b):OwnL lo' hi' T' e v l:=by
 rcases h with h|⟨id,e1,e2,e3,e4⟩
 .exact .inl h
 .exact .inr ⟨id,e1,by omega,by omega,ht id e2 e3 _ e4⟩
def rowW(s:Sc)(w:AV):AV:=.agg [.str s.no,.int .i64 s.place,.str s.set,.int .i64 s.time,w]
def ParS(lo hi:Nat)(T:LB)(w:AV):Prop:=∃ ps:List Pa,OwnL lo hi T 2 w (ps.map paA)/\ps.length<=200000000
def RowS(lo hi:Nat)(T:LB)(r:AV):Prop:=∃ s w,r=rowW s w/\ParS lo hi T w
def ScsS(lo hi:Nat)(T:LB)(u:AV):Prop:=∃ rows,OwnL lo hi T 5 u rows/\rows.length<=100000/\∀ r∈rows,RowS lo hi T r
theorem ParS.app{lo hi T w}(h:ParS lo hi T w)(U:LB):ParS lo hi (T++U) w:=h.imp fun _ h=>⟨h.1.app U,h.2⟩
theorem RowS.app{lo hi T w}(h:RowS lo hi T w)(U:LB):RowS lo hi (T++U) w:=by
 obtain⟨s,w,h1,h2⟩:=h;exact⟨s,w,h1,h2.app U⟩
theorem ScsS.app{lo hi T w}(h:ScsS lo hi T w)(U:LB):ScsS lo hi (T++U) w:=by
 obtain⟨rows,h1,h3,h2⟩:=h;exact⟨rows,h1.app U,h3,fun r hr=>(h2 r hr).app U⟩
theorem ScsS.to{lo hi lo' hi' T T' u}(h:ScsS lo hi T u)(h1:lo'<=lo)(h2:hi<=hi')(ht:∀ j,lo<=j->j<hi->∀ b,T[j]? = some b->T'[j]? = some b):ScsS lo' hi' T' u:=by
 obtain⟨rows,e1,e0,e2⟩:=h;refine⟨rows,e1.to h1 h2 ht,e0,fun r hr=>?_⟩;obtain⟨s,w,e3,ps,e4,e5⟩:=e2 r hr;exact⟨s,w,e3,ps,e4.to h1 h2 ht,e5⟩
theorem ParS.par{lo hi T w}(h:ParS lo hi T w){j:Nat}{a b:List Pa}(hj:T[j]? = some (.arr 2 (a.map paA)))(hb:b.length=a.length):ParS lo hi (T.set j (.arr 2 (b.map paA))) w:=by
 obtain⟨ps,h|⟨id,h1,h2,h3,h4⟩,h5⟩:=h
 .exact ⟨ps,.inl h,h5⟩
 .by_cases e:j=id
  .subst e
   have hl:a.length=ps.length:=by
    rw[h4]at hj;have:=congrArg (fun b=>match b with|some (Blk.arr _ r)=>r.length|_=>0) hj
    simpa using this.symm
   refine⟨b,.inr ⟨j,by rw[h1]; simp[hb,hl],h2,h3,?_⟩,by omega⟩;rw[List.getElem?_set_self (List.getElem?_eq_some_iff.1 h4).1]
  .exact ⟨ps,.inr ⟨id,h1,h2,h3,by rw[lax e]; exact h4⟩,h5⟩
theorem RowS.par{lo hi T w}(h:RowS lo hi T w){j:Nat}{a b:List Pa}(hj:T[j]? = some (.arr 2 (a.map paA)))(hb:b.length=a.length):RowS lo hi (T.set j (.arr 2 (b.map paA))) w:=by
 obtain⟨s,w,h1,h2⟩:=h;exact⟨s,w,h1,h2.par hj hb⟩
theorem ScsS.par{lo hi T u}(h:ScsS lo hi T u){j:Nat}{a b:List Pa}(hj:T[j]? = some (.arr 2 (a.map paA)))(hb:b.length=a.length):ScsS lo hi (T.set j (.arr 2 (b.map paA))) u:=by
 obtain⟨rows,h1,h0,h2⟩:=h;refine⟨rows,?_,h0,fun r hr=>(h2 r hr).par hj hb⟩
 rcases h1 with h1|⟨id,e1,e2,e3,e4⟩
 .exact .inl h1
 .refine .inr ⟨id,e1,e2,e3,?_⟩
  rw[lax ?_]
  .exact e4
  .rintro rfl
   rw[e4]at hj
   simp at hj
theorem ParS.row{lo hi T w}(h:ParS lo hi T w){j:Nat}{a b:LY}(hj:T[j]? = some (.arr 5 a)):ParS lo hi (T.set j (.arr 5 b)) w:=by
 obtain⟨ps,h|⟨id,h1,h2,h3,h4⟩,h5⟩:=h
 .exact ⟨ps,.inl h,h5⟩
 .refine ⟨ps,.inr ⟨id,h1,h2,h3,?_⟩,h5⟩
  rw[lax ?_]
  .exact h4
  .rintro rfl
   rw[h4]at hj
   simp at hj
theorem RowS.row{lo hi T w}(h:RowS lo hi T w){j:Nat}{a b:LY}(hj:T[j]? = some (.arr 5 a)):RowS lo hi (T.set j (.arr 5 b)) w:=by
 obtain⟨s,w,h1,h2⟩:=h;exact⟨s,w,h1,h2.row hj⟩
theorem ScsS.row{lo hi T}{id:Nat}{rows rows':LY}(h:ScsS lo hi T (.sl id 0 rows.length rows.length))(hr:T[id]? = some (.arr 5 rows))(hl:rows'.length=rows.length)(hn:∀ r∈rows',RowS lo hi T r):ScsS lo hi (T.set id (.arr 5 rows')) (.sl id 0 rows.length rows.length):=by
 obtain⟨q,h1,h0,h2⟩:=h
 rcases h1 with⟨_,h1|h1⟩|⟨i,e1,e2,e3,e4⟩
 .cases h1
 .cases h1
 .simp only [AV.sl.injEq]at e1
  obtain⟨rfl,_⟩:=e1;refine⟨rows',.inr ⟨id,by rw[hl],e2,e3,?_⟩,by omega,fun r hrr=>(hn r hrr).row hr⟩;rw[List.getElem?_set_self (List.getElem?_eq_some_iff.1 e4).1]
theorem A7J(ps:List Pa)(hl:ps.length<=100000):Pc prog 50 [.fz 2 (ps.map paA)] (· = .fz 2 (ps.map paA)):=by
 cases ps with
 | nil =>
  refine zpIN func50 rfl fun h ρ w=>?_
  simp only[go_sem];intro b;apply zgN
  cases b with
  | true =>
   simp only[go_sem];exact ARet.shift (Shift.nilfz 2 2 rfl) (aret [2] rfl ⟨rfl,rfl⟩)
  | false =>
   simp only[go_sem];refine⟨.inl trivial,?_⟩;exact ARet.shift (Shift.freeze 2 (id:=0) rfl rfl rfl (lab _) rfl) (aret [2] rfl ⟨rfl,rfl⟩)
 | cons p ps =>
  refine BaW (n:=(p::ps).length) (by simp) (AaG _) ?_;refine zcIN func50 rfl fun h ρ w=>?_
  simp only[go_sem,paA];refine⟨by simp,by simp at hl |-; omega,by simp at hl |-; omega,aret [2] rfl ⟨by simp[resV,Av.get,paA],rfl⟩⟩
theorem AdL{x:Sr}(hx:ScriptOk x):∀ y∈x.Lb,y.Lc.length<=100000:=fun y hy=>by
 have h1:=A6H x.Lb y hy;have h2:=hx.many;omega
end Go.Proofs.YtccfklnmolggiaaGreatDoor
namespace Go.Av
open RowKit
variable [Tr]
theorem Ct.fill{P:Program}{f:FuncId}{args:LY}{n es:Nat}{l:LY}(hc:Ct P f args [] (fun r s=>r=.sl 0 0 n n/\s=[.arr es l]))(hn:0<n)(hlen:l.length=n)(ha:args.all frozen=true)(hf:(flat l).all frozen=true)
  {s:LB} {id:Nat} (hid:s[id]? = some (.arr es [])):Ct P f args s (fun r s'=>r=.sl id 0 n n/\s'=s.set id (.arr es l)):=by
 refine⟨hc.1,fun h ρ w vs m r=>?_⟩;have hs:=hid;have hidl:=(List.getElem?_eq_some_iff.1 hs).1;have hm0:Mine h (fun _=>none) [] w:=⟨m.mem,fun id blk e=>by simp at e,fun _ _=>rfl,fun i j g t t' e=>by simp at e,fun i g t e=>by simp at e⟩;refine(hc.2 h (fun _=>none) w vs hm0 (AfF ha r)).mono ?_;rintro en w' ⟨v,r,s1,h',ρ1,rfl,⟨rfl,rfl⟩,m',lt,rv⟩;have hne:l≠[]:=by intro h; rw[h]at hlen; simp at hlen; omega
 have hgood:∀ i g t,ρ1 i=some (g,t)->w.heap.size<=g:=fun i g t e=>by
  rcases lt.newown i g t e with⟨j,t',hj⟩|h
  .cases hj
  .exact h
 have hblk:∀ k,k<w.heap.size->w'.heap[k]? = w.heap[k]?:=fun k hk=>lt.block k hk (fun i t e=>by cases e)
 have hnew:∀ b o,h b o=none->h' b o≠none->w.heap.size<=b:=fun b o e n=>by
  rcases lt.hnew b o e n with⟨j,t',hj⟩|h
  .cases hj
  .exact h
 have hρ:∀ i,i≠id->upd ρ id (ρ1 0) i=ρ i:=fun i hi=>by simp[upd,hi]
 have hρi:upd ρ id (ρ1 0) id=ρ1 0:=by simp[upd]
 have hkeep:∀ v a,Lf ρ s v a->Lf (upd ρ id (ρ1 0)) (s.set id (.arr es l)) v a:=fun v a x=>⟨x.1,AbK (b':=.arr es l) hs hρ (Or.inr (by
  rw[hlen]; exact hn)) x.2⟩
 have hown:∀ i g t,upd ρ id (ρ1 0) i=some (g,t)->(i≠id/\ρ i=some (g,t)/\g<w.heap.size)\/(i=id/\ρ1 0=some (g,t)/\w.heap.size<=g):=fun i g t e=>by
  by_cases hi:i=id
  .rw [hi,hρi]at e
   exact .inr ⟨hi,e,hgood 0 g t e⟩
  .rw [hρ i hi]at e
   exact .inl ⟨hi,e,m.lt e⟩
 refine⟨v,_,_,h',upd ρ id (ρ1 0),rfl,⟨rfl,rfl⟩,⟨m'.mem,?_,?_,?_,?_⟩,⟨lt.hle,fun b o e n=>.inr (hnew b o e n),hkeep,lt.os,lt.tape,lt.output,lt.size,fun k hk _=>hblk k hk,?_⟩,?_⟩
 .intro i blk e
  by_cases hi:i=id
  .subst hi
   simp[hidl]at e
   subst e
   rcases m'.own 0 (.arr es l) rfl with⟨h1,h2⟩|⟨g,tot,cur,t,h1,h2,h3,h4,h5,h6,h7,h8,h9⟩
   .exact (hne h1).elim
   .exact .inr ⟨g,tot,cur,t,hρi.trans h1,h2,h3,h4,h5,h6,h7,h8,AfF hf h9⟩
  .rw [lax (Ne.symm hi)]at e
   exact(m.own i blk e).mono lt.hle hkeep (hρ i hi) (fun g t hg=>hblk g (m.lt hg))
 .intro i hi
  simp at hi
  rw[hρ i (by omega)];exact m.out i hi
 .intro i j g t t' hi hj
  rcases hown i g t hi with⟨a1,a2,a3⟩|⟨a1,a2,a3⟩ <;> rcases hown j g t' hj with⟨b1,b2,b3⟩|⟨b1,b2,b3⟩
  .exact m.inj i j g t t' a2 b2
  .omega
  .omega
  .omega
 .intro i g t e o
  rcases hown i g t e with⟨a1,a2,a3⟩|⟨a1,a2,a3⟩
  .cases hq:h' g o with
   | none=>rfl
   | some z =>
    have:=hnew g o (m.disj i g t a2 o) (by rw[hq]; simp);omega
  .exact m'.disj 0 g t a2 o
 .intro i g t e
  rcases hown i g t e with⟨a1,a2,a3⟩|⟨a1,a2,a3⟩
  .exact .inl ⟨i,t,a2⟩
  .exact .inr a3
 .have q:=AaY rv
  exact .leaf ⟨q.1,ArY (blk:=.arr es l) rfl (by simp[hidl]) hρi q.2⟩
end Go.Av
namespace Go.Proofs.YtccfklnmolggiaaGreatDoor
open Av RowKit
def cellP(j:Nat)(x:Sc):AV:=bif x.Lc.isEmpty then .fz 2 [] else .sl j 0 x.Lc.length x.Lc.length
def scH(j:Nat)(x:Sc):AV:=.agg [.str x.no,.int .i64 x.place,.str x.set,.int .i64 x.time,cellP j x]
def hsc:Nat->List Sc->LY
 | _,[]=>[]
 | j,x::r=>scH j x::hsc (j+1) r
section
variable {b0 b1 b2 b3 o sc:Blk}{V r:LB}
end
