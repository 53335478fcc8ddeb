/- Where a block of lines may stand on a page: walked. -/
import Derived.Test.YtlldmgboedknfaaGreatDoorC29
set_option maxRecDepth 100000
set_option maxHeartbeats 2000000
set_option linter.unusedSimpArgs false
set_option linter.unusedVariables false
namespace Go.Proofs.YtlldmgboedknfaaGreatDoor
open Go Go.Av Go.RowKit _root_.Go.Proofs.Tryz
structure BlFit(b:Bl):Prop where
 kinds:b.kind=3->b.kinds.length=b.lines.length
 len:b.lines.length<=50000000
 name:b.name.length<=500000
theorem AyF(b:Bl):∀ (n k j:Nat),AhW b n k=some j->j<k+n
 | 0,_,_,h=>by cases h
 | n+1,k,j,h=>by
  simp only[AhW]at h
  split at h
  .simp at h; omega
  .have:=AyF b n (k+1) j h; omega
theorem AjN(b:Bl):AhX b<=b.lines.length+2:=by
 unfold AhX
 split
 .omega
 .split
  .split
   .rename_i k hk
    have:=AyF b _ _ _ hk;omega
   .omega
  .omega
theorem A5F(b:Bl)(hb:BlFit b):Pc prog 162 [blA b] (· = .int .i64 ((AhX b:Nat):Int)):=by
 have hn:=hb.len;have hbr:=fun k h1 h2=>AyA b 0 k h1 (fun h=>by rw[hb.kinds h]; exact h2) (by omega) (by omega) (by omega)
 unfold AhX;simp only[blA]at hbr |-
 cases k1:b.kind==1&&decide ((b.lines.length:Int)>3)with
 | true =>
  simp only[Bool.and_eq_true]at k1;obtain⟨k1,d1⟩:=k1;refine zpIN func162 rfl fun h ρ w=>?_
  simp only[go_sem,k1,d1,List.length_map];exact zt [2]
 | false =>
  simp only[Bool.false_eq_true,if_false];have step1:∀ (Q:Prop),((b.kind==1)=false->Q)->((b.kind==1)=true->decide ((b.lines.length:Int)>3)=false->Q)->Q:=fun Q h1 h2=>by
   cases q:b.kind==1 with
   | false=>exact h1 q
   | true=>rw[q,Bool.true_and]at k1; exact h2 q k1
  cases k3:b.kind==3&&decide ((b.lines.length:Int)>4)with
  | false =>
   simp only[Bool.false_eq_true,if_false];refine step1 _ (fun q1=>?_) (fun q1 q2=>?_)
   .cases q3:b.kind==3 with
    | false =>
     refine zpIN func162 rfl fun h ρ w=>?_
     simp only[go_sem,q1,q3,List.length_map];exact zt [2]
    | true =>
     rw[q3,Bool.true_and]at k3;refine zpIN func162 rfl fun h ρ w=>?_
     simp only[go_sem,q1,q3,k3,List.length_map];exact zt [2]
   .have q3:(b.kind==3)=false:=by
     have:b.kind=1:=by simpa using q1
     rw[this]; rfl
    refine zpIN func162 rfl fun h ρ w=>?_
    simp only[go_sem,q1,q2,q3,List.length_map];exact zt [2]
  | true =>
   simp only[if_true];simp only[Bool.and_eq_true]at k3;obtain⟨k3,d4⟩:=k3;have q1:(b.kind==1)=false:=by
    have:b.kind=3:=by simpa using k3
    rw[this]; rfl
   have hlen:4<b.lines.length:=by
    have:=of_decide_eq_true d4;omega
   generalize hX:AhW b (b.lines.length-1) 1=X;refine zpIN func162 rfl fun h ρ w=>?_
   simp only[go_sem,q1,k3,d4,List.length_map];refine AaI (ι:=Nat) (fun k=>b.lines.length-k) (fun k=>[(4,.int .i64 k),(3,.int .i64 b.lines.length),(1,.ptr 0 1 0 0)])
    (fun _=>[.arr 4 [.agg [.int .i64 b.kind,.fz 1 (b.lines.map .str),.fz 1 (b.kinds.map (.int .i64)),.str b.name]]]) (fun k=>1<=k/\k<=b.lines.length/\AhW b (b.lines.length-k) k=X) 1 ⟨by omega,by omega,hX⟩ ?_ ?_
   .refine Shift.weak ?_
    simp only[go_sem]
    first|done|simp
   .rintro k ⟨g1,g2,g3⟩ J hJ
    by_cases gk:k<b.lines.length
    .have dk:decide ((k:Int)<(b.lines.length:Int))=true:=by simp; omega
     rw[show b.lines.length-k=(b.lines.length-(k+1))+1 by omega]at g3;simp only[AhW]at g3;refine zgN ?_;simp only[go_sem,dk];refine zpN (hbr k g1 (by omega)) ?_
     cases hq:breaksL b 0 k with
     | true =>
      rw[hq]at g3;simp only[if_true]at g3;subst g3;simp only[go_sem]
      repeat refine aqa ?_
      exact aret [2] rfl ⟨by simp[resV,Av.get],rfl⟩
     | false =>
      rw[hq]at g3;simp only[Bool.false_eq_true,if_false]at g3;simp only[go_sem]
      repeat refine aqa ?_
      rw[ic k];refine ainv (hJ (k+1) ⟨by omega,by omega,g3⟩ (by omega)) (Shift.weak ?_);simp only[go_sem]
    .have dk:decide ((k:Int)<(b.lines.length:Int))=false:=by simp; omega
     rw[show b.lines.length-k=0 by omega]at g3;simp only[AhW]at g3;subst g3;refine zgN ?_;simp only[go_sem,dk];exact zt [2]
theorem BpY(bs:List Bl)(i:Nat)(hi:i<bs.length)(hb:∀ b∈bs,BlFit b)(hl:bs.length<=100000000):Pc prog 122 [.fz 4 (bs.map blA),.int .i64 (i:Int)] (· = .int .i64 ((AdQ bs i bs[i]:Nat):Int)):=by
 have hg:List.getD (bs.map blA) i .any=.agg [.int .i64 bs[i].kind,.fz 1 (bs[i].lines.map .str),.fz 1 (bs[i].kinds.map (.int .i64)),.str bs[i].name]:=by simp[List.getD,hi,blA]
 have h1:=A5F bs[i] (hb _ (List.getElem_mem hi));have hle:=AjN bs[i];have hfi:=(hb _ (List.getElem_mem hi)).len;simp only[blA]at h1;have e1:(i:Int)+1=((i+1:Nat):Int):=by omega
 unfold AdQ
 cases k0:bs[i].kind==0 with
 | false =>
  simp only[Bool.false_eq_true,if_false,Nat.add_zero];refine zpIN func122 rfl fun h ρ w=>?_
  simp only[go_sem,hg,List.length_map]
  repeat refine aqa ?_
  refine zpN (h1) ?_;simp only[go_sem,hg,k0,List.length_map]
  repeat refine aqa ?_
  exact zt [4]
 | true =>
  simp only[if_true]
  by_cases h2:i+1<bs.length
  .have d2:decide (((i+1:Nat):Int)<(bs.length:Int))=true:=by simp; omega
   have hg2:List.getD (bs.map blA) (i+1) .any=.agg [.int .i64 bs[i+1].kind,.fz 1 (bs[i+1].lines.map .str),.fz 1 (bs[i+1].kinds.map (.int .i64)),.str bs[i+1].name]:=by simp[List.getD,h2,blA]
   have h3:=A5F bs[i+1] (hb _ (List.getElem_mem h2));have hle2:=AjN bs[i+1];have hfi2:=(hb _ (List.getElem_mem h2)).len;simp only[blA]at h3;simp only[List.getElem?_eq_getElem h2]
   cases k2:bs[i+1].kind==0 with
   | true =>
    have k2':(bs[i+1].kind != 0)=false:=by simpa using k2
    simp only[if_true,Nat.add_zero];refine zpIN func122 rfl fun h ρ w=>?_
    simp only[go_sem,hg,List.length_map]
    repeat refine aqa ?_
    refine zpN (h1) ?_;simp only[go_sem,hg,k0,e1,d2,hg2,k2',List.length_map]
    repeat refine aqa ?_
    exact zt [4]
   | false =>
    have k2':(bs[i+1].kind != 0)=true:=by simpa using k2
    simp only[Bool.false_eq_true,if_false];refine zpIN func122 rfl fun h ρ w=>?_
    simp only[go_sem,hg,List.length_map]
    repeat refine aqa ?_
    refine zpN (h1) ?_;simp only[go_sem,hg,k0,e1,d2,hg2,k2',List.length_map]
    repeat refine aqa ?_
    refine zpN (h3) ?_;simp only[go_sem]
    repeat refine aqa ?_
    exact aret [4] rfl ⟨by simp[resV,Av.get],rfl⟩
  .have d2:decide (((i+1:Nat):Int)<(bs.length:Int))=false:=by simp; omega
   simp only[List.getElem?_eq_none (by omega:bs.length<=i+1),Nat.add_zero];refine zpIN func122 rfl fun h ρ w=>?_
   simp only[go_sem,hg,List.length_map]
   repeat refine aqa ?_
   refine zpN (h1) ?_;simp only[go_sem,hg,k0,e1,d2,List.length_map]
   repeat refine aqa ?_
   exact zt [4]
theorem BpZ(b:Bl)(hb:BlFit b)(fr room:Nat)(hf:fr<=b.lines.length)(hr:AhY b fr room)(hr2:room<=100):Pc prog 123 [blA b,.int .i64 (fr:Int),.int .i64 (room:Int)] (· = .int .i64 ((stopL b fr room:Nat):Int)):=by
 have hn:=hb.len;have hbr:=fun k h1 h2=>AyA b fr k h1 (fun h=>by rw[hb.kinds h]; exact h2) (by omega) (by omega) (by omega)
 unfold stopL;simp only[blA]at hbr |-
 by_cases h0:b.lines.length-fr<=room
 .have d0:decide ((b.lines.length:Int)-fr<=(room:Int))=true:=by simp; omega
  rw[if_pos h0];refine zpIN func123 rfl fun h ρ w=>?_
  simp only[go_sem,d0,List.length_map]
  repeat refine aqa ?_
  exact zt [6]
 .have d0:decide ((b.lines.length:Int)-fr<=(room:Int))=false:=by simp; omega
  rw[if_neg h0]
  cases k3:b.kind==3 with
  | true =>
   have hg:grp b=1:=by unfold grp; rw[k3]; rfl
   have hr1:2<=room:=by
    rcases hr with hr|hr
    .omega
    .rw [hg]at hr; omega
   rw[hg];have hK:(fr:Int)+room-1=((fr+room-1:Nat):Int):=by omega
   have hN:(b.lines.length:Int)-1=((b.lines.length-1:Nat):Int):=by omega
   generalize hKK:fr+room-1=K at hK |-;have hmin:(if((b.lines.length-1:Nat):Int)<(K:Int) then((b.lines.length-1:Nat):Int) else(K:Int))=((min K (b.lines.length-1):Nat):Int):=by split <;> omega
   generalize hM:min K (b.lines.length-1)=M at hmin |-;have hmax:(if(M:Int)<(fr:Int)+1 then(fr:Int)+1 else(M:Int))=((max M (fr+1):Nat):Int):=by split <;> omega
   generalize hX:AgL b fr M=X;refine zpIN func123 rfl fun h ρ w=>?_
   simp only[go_sem,d0,k3,hK,hN,hmin,List.length_map]
   repeat refine aqa ?_
   refine AaI (ι:=Nat) (fun j=>j) (fun j=>[(9,.int .i64 j),(8,.int .i64 K),(7,.int .i64 b.lines.length),(1,.int .i64 fr),(3,.ptr 0 1 0 0)])
    (fun _=>[.arr 4 [.agg [.int .i64 b.kind,.fz 1 (b.lines.map .str),.fz 1 (b.kinds.map (.int .i64)),.str b.name]]]) (fun j=>j<=b.lines.length-1/\AgL b fr j=X) M ⟨by omega,hX⟩ ?_ ?_
   .refine Shift.weak ?_
    simp only[go_sem]
   .rintro j ⟨g2,g3⟩ J hJ
    by_cases gj:fr<j
    .have dj:decide ((j:Int)>(fr:Int))=true:=by simp; omega
     rw[show j=(j-1)+1 by omega]at g3;simp only[AgL]at g3;rw[if_pos (by omega),show j-1+1=j by omega]at g3;refine zgN ?_;simp only[go_sem,dj];refine zpN (hbr j (by omega) (by omega)) ?_
     cases hq:breaksL b fr j with
     | true =>
      rw[hq,if_pos rfl]at g3;subst g3;simp only[go_sem];exact zt [6]
     | false =>
      rw[hq,if_neg (by simp)]at g3;simp only[go_sem]
      repeat refine aqa ?_
      rw[show(j:Int)-1=((j-1:Nat):Int) by omega];refine ainv (hJ (j-1) ⟨by omega,g3⟩ (by omega)) (Shift.weak ?_);simp only[go_sem]
    .have dj:decide ((j:Int)>(fr:Int))=false:=by simp; omega
     have hnone:X=none:=by
      rw[<- g3]
      cases j with
      | zero=>rfl
      | succ j=>simp only[AgL]; rw[if_neg gj]
     subst hnone;refine zgN ?_;simp only[go_sem,dj,hN,hmin,hmax]
     repeat refine aqa ?_
     exact zt [6]
  | false =>
   have hg:grp b=0:=by unfold grp; rw[k3]; rfl
   have hr1:1<=room:=by
    rcases hr with hr|hr
    .omega
    .rw [hg]at hr; omega
   rw[hg];have hK:(fr:Int)+room=((fr+room-0:Nat):Int):=by omega
   have hN:(b.lines.length:Int)-1=((b.lines.length-1:Nat):Int):=by omega
   generalize hKK:fr+room-0=K at hK |-;have hmin:(if((b.lines.length-1:Nat):Int)<(K:Int) then((b.lines.length-1:Nat):Int) else(K:Int))=((min K (b.lines.length-1):Nat):Int):=by split <;> omega
   generalize hM:min K (b.lines.length-1)=M at hmin |-;have hmax:(if(M:Int)<(fr:Int)+1 then(fr:Int)+1 else(M:Int))=((max M (fr+1):Nat):Int):=by split <;> omega
   generalize hX:AgL b fr M=X;refine zpIN func123 rfl fun h ρ w=>?_
   simp only[go_sem,d0,k3,hK,hN,hmin,List.length_map]
   repeat refine aqa ?_
   refine AaI (ι:=Nat) (fun j=>j) (fun j=>[(9,.int .i64 j),(8,.int .i64 K),(7,.int .i64 b.lines.length),(1,.int .i64 fr),(3,.ptr 0 1 0 0)])
    (fun _=>[.arr 4 [.agg [.int .i64 b.kind,.fz 1 (b.lines.map .str),.fz 1 (b.kinds.map (.int .i64)),.str b.name]]]) (fun j=>j<=b.lines.length-1/\AgL b fr j=X) M ⟨by omega,hX⟩ ?_ ?_
   .refine Shift.weak ?_
    simp only[go_sem]
   .rintro j ⟨g2,g3⟩ J hJ
    by_cases gj:fr<j
    .have dj:decide ((j:Int)>(fr:Int))=true:=by simp; omega
     rw[show j=(j-1)+1 by omega]at g3;simp only[AgL]at g3;rw[if_pos (by omega),show j-1+1=j by omega]at g3;refine zgN ?_;simp only[go_sem,dj];refine zpN (hbr j (by omega) (by omega)) ?_
     cases hq:breaksL b fr j with
     | true =>
      rw[hq,if_pos rfl]at g3;subst g3;simp only[go_sem];exact zt [6]
     | false =>
      rw[hq,if_neg (by simp)]at g3;simp only[go_sem]
      repeat refine aqa ?_
      rw[show(j:Int)-1=((j-1:Nat):Int) by omega];refine ainv (hJ (j-1) ⟨by omega,g3⟩ (by omega)) (Shift.weak ?_);simp only[go_sem]
    .have dj:decide ((j:Int)>(fr:Int))=false:=by simp; omega
     have hnone:X=none:=by
      rw[<- g3]
      cases j with
      | zero=>rfl
      | succ j=>simp only[AgL]; rw[if_neg gj]
     subst hnone;refine zgN ?_;simp only[go_sem,dj,hN,hmin,hmax]
     repeat refine aqa ?_
     exact zt [6]
def pgA(p:List Ln):AV:=.fz 1 (p.map .str)
def layT(s:LS)(pg:AV)(b7:Blk)(J:List Blk):List Blk :=
 .arr 3 [.agg [.raw (.slice none 0 0),.raw (.slice none 0 0),.raw (.slice none 0 0)]]::.arr 3 [.agg [.sl 4 0 s.pages.length s.pages.length,.sl 5 0 s.firsts.length s.firsts.length,.sl 6 0 s.starts.length s.starts.length]]::.arr 1 [pg]::.arr 1 [.int .i64 s.first] ::
  .arr 1 (s.pages.map pgA)::.arr 1 (s.firsts.map (.int .i64))::.arr 1 (s.starts.map (.int .i64))::b7::J
def layS(s:LS)(J:List Blk):List Blk:=layT s (.sl 7 0 s.page.length s.page.length) (.arr 1 (s.page.map .str)) J
theorem ArX(l:List Ln):(flat (l.map AV.str)).all Av.frozen=true:=by
 induction l with
 | nil=>rfl
 | cons y l ih=>simpa[flat,cellsOf,Av.frozen]using ih
theorem AoX{α:Type}{id es:Nat}{l:List AV}{f:α->AV}(h:∀ x,frzC id es l (f x)=f x)(xs:List α):(xs.map f).map (frzC id es l)=xs.map f:=by
 rw[List.map_map]; exact List.map_congr_left fun x _=>h x
theorem A1Z{α:Type}{σ:List Nat}{f:α->AV}(h:∀ x,renC σ (f x)=f x)(xs:List α):(xs.map f).map (renC σ)=xs.map f:=by
 rw[List.map_map]; exact List.map_congr_left fun x _=>h x
theorem BjT(s:LS)(J:List Blk)(hJ:∀ l,J.map (frzB 7 1 l)=J):((layS s J).set 7 .dead).map (frzB 7 1 (s.page.map .str))=layT s (pgA s.page) .dead J:=by
 have h2:List.take s.page.length (List.map AV.str s.page)=List.map AV.str s.page:=List.take_of_length_le (by simp);simp only[layS,layT,List.set_cons_succ,List.set_cons_zero,List.map_cons,frzB,hJ,List.map_nil];rw[AoX (fun _=>rfl),AoX (fun _=>rfl),AoX (fun _=>rfl)];simp only[frzC,frz,frz1,List.map_cons,List.map_nil,List.length_map,Nat.zero_add,List.drop_zero,h2,pgA]
 simp
theorem AuQ(s:LS)(J:List Blk)(hJ:∀ l,J.map (frzB 7 1 l)=J)(h1:s.pages.length<=2000000000000)(h2:s.firsts.length<=2000000000000) :
  Ct prog 120 [.ptr 1 1 0 0,.ptr 2 1 0 0,.ptr 3 1 0 0] (layS s J) (fun r st=>r=.tup []/\st=layT (flushS s) (.raw (.slice none 0 0)) .dead J):=by
 refine AaV func120 rfl ntmps120 hB120 (by simp) fun h ρ w=>?_
 refine AWp.shift (Shift.frz 7 (es:=1) (l:=s.page.map .str) rfl (ArX _)) ?_;rw[BjT s J hJ];simp only[args0,frzE,frzC,frz,frz1,layT];refine zgF ?_;simp only[go_sem,List.length_map,pgA]
 repeat refine And.intro (by first|omega|exact .inl trivial|exact .inl (.inl trivial)|rfl|(simp; done)|(simp; omega)) ?_
 exact aret [] rfl ⟨rfl,by simp[layT,flushS,pgA]⟩
theorem BjU(s:LS)(b:Bl)(h0:s.page=[]):renS [0,1,2,3,4,5,6,9,8] (List.set (layT s (.raw (.slice none 0 0)) .dead [.arr 4 [blA b]]++[Blk.arr 1 []]) 2 (.arr 1 [.sl 9 0 0 0]))=layS s [.arr 4 [blA b]]:=by
 have h:renS [0,1,2,3,4,5,6,9,8] (List.set (layT s (.raw (.slice none 0 0)) .dead [.arr 4 [blA b]]++[Blk.arr 1 []]) 2 (.arr 1 [.sl 9 0 0 0])) =
   .arr 3 [.agg [.raw (.slice none 0 0),.raw (.slice none 0 0),.raw (.slice none 0 0)]]::.arr 3 [.agg [.sl 4 0 s.pages.length s.pages.length,.sl 5 0 s.firsts.length s.firsts.length,.sl 6 0 s.starts.length s.starts.length]]::.arr 1 [.sl 7 0 0 0]::.arr 1 [.int .i64 s.first] ::
   .arr 1 ((s.pages.map pgA).map (renC [0,1,2,3,4,5,6,9,8]))::.arr 1 ((s.firsts.map (.int .i64)).map (renC [0,1,2,3,4,5,6,9,8]))::.arr 1 ((s.starts.map (.int .i64)).map (renC [0,1,2,3,4,5,6,9,8]))::.arr 1 []::[.arr 4 [blA b]]:=rfl
 rw[h,A1Z (fun _=>rfl),A1Z (fun _=>rfl),A1Z (fun _=>rfl)];simp only[layS,layT,h0,List.length_nil,List.map_nil]
theorem AlU{c:Cx}{e e':Env}(hc:c.sto.length=0)(s:LS)(b:Bl)(h0:s.page=[])(hw:wk (renE [0,1,2,3,4,5,6,9,8] e) e'):Shift c e (layT s (.raw (.slice none 0 0)) .dead [.arr 4 [blA b]]) e' (layS s [.arr 4 [blA b]]):=by
 refine Shift.trans (Shift.cells 2 1 [.sl 9 0 0 0] rfl rfl (by simp[cellsOf]) ⟨.sl,trivial⟩) ?_;refine Shift.trans (Shift.ren [0,1,2,3,4,5,6,9,8] (by rw[hc]; rfl)) ?_;exact Shift.weakS hw (BjU s b h0)
theorem BjV(s:LS):(layS s []).all (lowB 8)=true:=by
 have h1:(flat (s.pages.map pgA)).all Av.frozen=true:=by
  generalize s.pages=l
  induction l with
  | nil=>rfl
  | cons y l ih=>simpa[flat,cellsOf,pgA,Av.frozen]using ih
 have h2:∀ l:List Int,(flat (l.map (AV.int .i64))).all Av.frozen=true:=fun l=>by
  induction l with
  | nil=>rfl
  | cons y l ih=>simpa[flat,cellsOf,Av.frozen]using ih
 simp only[layS,layT,List.all_cons,List.all_nil,Bool.and_true];simp only[lowB,AbL h1,AbL (h2 _),AbL (ArX _),Bool.and_true,Bool.true_and]
 simp[flat,cellsOf,lowC,Av.frozen]
theorem A8E{c:Cx}{e e':Env}(hc:c.sto.length=0)(s:LS)(b:Blk)(hw:wkl 8 e e'):Shift c e (layS s [b]) e' (layS s []):=by
 have h:=Shift.low (c:=c) (e:=e) (e':=e') (s:=layS s [b]) 8 (by omega) (by simp[layS,layT]) (BjV s) hw;exact h
theorem BjW{bs:List Bl}{i:Nat}{b:Bl}{M:Nat}(h:∀ d∈bs,d.lines.length<=M):AdQ bs i b<=b.lines.length+M+5:=by
 have h1:=AjN b;unfold AdQ
 by_cases hk:(b.kind==0)=true
 .rw [if_pos hk]
  cases hq:bs[i+1]? with
  | none=>simp only; omega
  | some d =>
   have h2:=AjN d;have h3:=h d (List.mem_of_getElem? hq);simp only
   split <;> omega
 .rw [if_neg hk]; omega
theorem BjX{bs:List Bl}{i:Nat}{b:Bl}{s:LS}{w:List Ln}(h:PInv s w):PInv (turnS bs i b s) w/\((turnS bs i b s).page=[]\/(turnS bs i b s).page.length+gapN b+AdQ bs i b<=54):=by
 have hn:∀ s:LS,addS s []=s:=fun s=>by simp[addS]
 unfold turnS
 split
 .rename_i hc
  have:1<=s.page.length:=by
   cases hq:s.page with
   | nil=>exact(hc.1 hq).elim
   | cons a r=>simp
  have k:=AgM h (post:=[]) (.inl rfl) (by simpa using this) (by simpa using h.len);rw[hn]at k;exact⟨k,.inl rfl⟩
 .rename_i hc
  refine⟨h,?_⟩
  by_cases h0:s.page=[]
  .exact .inl h0
  .right
   have:¬ s.page.length+gapN b+AdQ bs i b>54:=fun e=>hc ⟨h0,e⟩
   omega
theorem AyG(bs:List Bl)(i:Nat)(b:Bl)(s:LS):(turnS bs i b s).pages.length<=s.pages.length+1/\((turnS bs i b s).firsts.length=(turnS bs i b s).pages.length ↔ s.firsts.length=s.pages.length)/\(turnS bs i b s).starts=s.starts:=by
 unfold turnS
 split
 .simp [flushS]
 .simp
theorem ArY{b:Bl}(ho:∀ x∈b.lines,OwnLn x){fr:Nat}{s:LS}{w:List Ln}(h:PInv s w)(hfr:fr<=b.lines.length)(hr:AhY b fr (54-s.page.length))(hne:stopL b fr (54-s.page.length)≠b.lines.length) :
  fr<stopL b fr (54-s.page.length)/\stopL b fr (54-s.page.length)<b.lines.length/\(∃ w',PInv (breakS b (addS s (partL' b fr (stopL b fr (54-s.page.length))))) w')/\AhY b (stopL b fr (54-s.page.length)) (54-(breakS b (addS s (partL' b fr (stopL b fr (54-s.page.length))))).page.length):=by
 have hl:=h.len
 rcases AoT hr hfr with⟨h1,h2⟩|⟨h1,h2,h3⟩
 .exact (hne h1).elim
 .generalize hto:stopL b fr (54-s.page.length)=tz at h1 h2 h3 |-
  have hpl:=AhK b (fr:=fr) (Nat.le_of_lt h2);have ho':∀ x∈partL' b fr tz,OwnLn x:=fun x hx=>ho x (List.mem_of_mem_take (List.mem_of_mem_drop hx))
  have k1:=AuJ h ho' (by rw[List.length_append,hpl]; unfold grp at h3; split at h3 <;> omega);have k2:=AxY (b:=b) k1 (by simp only[addS,List.length_append,hpl]; omega) (by simp only[addS,List.length_append,hpl]; omega);refine⟨h1,h2,⟨_,k2⟩,?_⟩
  right
  rw[ArW];unfold grp
  split <;> simp
def costTo(bs:List Bl)(i:Nat):Nat:=((bs.take i).map fun b=>b.lines.length+1).sum
theorem AiO{bs:List Bl}{i:Nat}(h:i<bs.length):costTo bs (i+1)=costTo bs i+(bs[i].lines.length+1):=by
 unfold costTo;rw[List.take_succ_eq_append_getElem h,List.map_append,List.sum_append];simp only[List.map_cons,List.map_nil,List.sum_cons,List.sum_nil,Nat.add_zero]
theorem AiP(bs:List Bl){i:Nat}(h:i<=bs.length):costTo bs i<=costTo bs bs.length:=by
 have:costTo bs bs.length=costTo bs i+((bs.drop i).map fun b=>b.lines.length+1).sum:=by
  simp only[costTo,List.take_length];rw[<- List.sum_append,<- List.map_append,List.take_append_drop]
 omega
def layF(s:LS)(pg:AV)(b7:Blk):List Blk :=
 .arr 3 [.agg [.raw (.slice none 0 0),.raw (.slice none 0 0),.raw (.slice none 0 0)]]::.arr 3 [.agg [.fz 1 (s.pages.map pgA),.fz 1 (s.firsts.map (.int .i64)),.fz 1 (s.starts.map (.int .i64))]]::.arr 1 [pg]::.arr 1 [.int .i64 s.first]::.dead::.dead::.dead::[b7]
def isF(x:AV):Prop:=∀ id l,id<7->frzC id 1 l x=x
theorem BjY(a b c:Nat)(P:List AV)(h:a=P.length):frzC 4 1 P (.agg [.sl 4 0 a a,.sl 5 0 b b,.sl 6 0 c c])=.agg [.fz 1 P,.sl 5 0 b b,.sl 6 0 c c]:=by
 subst h
 simp[frzC,frz,frz1]
theorem BjZ(b c:Nat)(A P:List AV)(h:b=P.length):frzC 5 1 P (.agg [.fz 1 A,.sl 5 0 b b,.sl 6 0 c c])=.agg [.fz 1 A,.fz 1 P,.sl 6 0 c c]:=by
 subst h
 simp[frzC,frz,frz1]
theorem BkA(c:Nat)(A B P:List AV)(h:c=P.length):frzC 6 1 P (.agg [.fz 1 A,.fz 1 B,.sl 6 0 c c])=.agg [.fz 1 A,.fz 1 B,.fz 1 P]:=by
 subst h
 simp[frzC,frz,frz1]
theorem A8F(l:List (List Ln)):(flat (l.map pgA)).all Av.frozen=true:=by
 induction l with
 | nil=>rfl
 | cons y l ih=>simpa[flat,cellsOf,pgA,Av.frozen]using ih
theorem AoY(l:List Int):(flat (l.map (AV.int .i64))).all Av.frozen=true:=by
 induction l with
 | nil=>rfl
 | cons y l ih=>simpa[flat,cellsOf,Av.frozen]using ih
theorem AyH{c:Cx}{e e':Env}(s:LS){pg:AV}{b7:Blk}(hp:isF pg)(hb:∀ id l,id<7->frzB id 1 l b7=b7)
  (hw:wk (frzE 6 1 (s.starts.map (.int .i64)) (frzE 5 1 (s.firsts.map (.int .i64)) (frzE 4 1 (s.pages.map pgA) e))) e'):Shift c e (layT s pg b7 []) e' (layF s pg b7):=by
 have hz:∀ id l,frzB id 1 l (.arr 3 [.agg [.raw (.slice none 0 0),.raw (.slice none 0 0),.raw (.slice none 0 0)]])=.arr 3 [.agg [.raw (.slice none 0 0),.raw (.slice none 0 0),.raw (.slice none 0 0)]]:=fun _ _=>rfl
 have hi:∀ id l (n:Int),frzB id 1 l (.arr 1 [.int .i64 n])=.arr 1 [.int .i64 n]:=fun _ _ _=>rfl
 have hg:∀ id l,id<7->frzB id 1 l (.arr 1 [pg])=.arr 1 [pg]:=fun id l h=>by simp only[frzB,List.map_cons,List.map_nil,hp id l h]
 have hn:∀ id l (xs:List Int),frzB id 1 l (.arr 1 (xs.map (.int .i64)))=.arr 1 (xs.map (.int .i64)):=fun id l xs=>by simp only[frzB]; rw[AoX (fun _=>rfl)]
 have hd:∀ id l,frzB id 1 l .dead=.dead:=fun _ _=>rfl
 refine Shift.trans (Shift.frz 4 (es:=1) (l:=s.pages.map pgA) rfl (A8F _)) ?_;have t1:(List.set (layT s pg b7 []) 4 .dead).map (frzB 4 1 (s.pages.map pgA))=.arr 3 [.agg [.raw (.slice none 0 0),.raw (.slice none 0 0),.raw (.slice none 0 0)]]::.arr 3 [.agg [.fz 1 (s.pages.map pgA),.sl 5 0 s.firsts.length s.firsts.length,.sl 6 0 s.starts.length s.starts.length]]::.arr 1 [pg]::.arr 1 [.int .i64 s.first]::.dead::.arr 1 (s.firsts.map (.int .i64))::.arr 1 (s.starts.map (.int .i64))::[b7]:=by
  show frzB 4 1 _ _::frzB 4 1 _ (.arr 3 [_])::frzB 4 1 _ _::frzB 4 1 _ _::frzB 4 1 _ _::frzB 4 1 _ _::frzB 4 1 _ _::[frzB 4 1 _ _]=_
  rw[hz,hg 4 _ (by omega),hi,hd,hn,hn,hb 4 _ (by omega)];simp only[frzB,List.map_cons,List.map_nil];rw[BjY _ _ _ _ (by simp)]
 rw[t1];refine Shift.trans (Shift.frz 5 (es:=1) (l:=s.firsts.map (.int .i64)) rfl (AoY _)) ?_;have t2:(List.set (Blk.arr 3 [.agg [.raw (.slice none 0 0),.raw (.slice none 0 0),.raw (.slice none 0 0)]]::.arr 3 [.agg [.fz 1 (s.pages.map pgA),.sl 5 0 s.firsts.length s.firsts.length,.sl 6 0 s.starts.length s.starts.length]]::.arr 1 [pg]::.arr 1 [.int .i64 s.first]::.dead::.arr 1 (s.firsts.map (.int .i64))::.arr 1 (s.starts.map (.int .i64))::[b7]) 5 .dead).map (frzB 5 1 (s.firsts.map (.int .i64))) =
   .arr 3 [.agg [.raw (.slice none 0 0),.raw (.slice none 0 0),.raw (.slice none 0 0)]]::.arr 3 [.agg [.fz 1 (s.pages.map pgA),.fz 1 (s.firsts.map (.int .i64)),.sl 6 0 s.starts.length s.starts.length]]::.arr 1 [pg]::.arr 1 [.int .i64 s.first]::.dead::.dead::.arr 1 (s.starts.map (.int .i64))::[b7]:=by
  show frzB 5 1 _ _::frzB 5 1 _ (.arr 3 [_])::frzB 5 1 _ _::frzB 5 1 _ _::frzB 5 1 _ _::frzB 5 1 _ _::frzB 5 1 _ _::[frzB 5 1 _ _]=_
  rw[hz,hg 5 _ (by omega),hi,hd,hn,hb 5 _ (by omega)];simp only[frzB,List.map_cons,List.map_nil];rw[BjZ _ _ _ _ (by simp)]
 rw[t2];refine Shift.trans (Shift.frz 6 (es:=1) (l:=s.starts.map (.int .i64)) rfl (AoY _)) ?_;have t3:(List.set (Blk.arr 3 [.agg [.raw (.slice none 0 0),.raw (.slice none 0 0),.raw (.slice none 0 0)]]::.arr 3 [.agg [.fz 1 (s.pages.map pgA),.fz 1 (s.firsts.map (.int .i64)),.sl 6 0 s.starts.length s.starts.length]]::.arr 1 [pg]::.arr 1 [.int .i64 s.first]::.dead::.dead::.arr 1 (s.starts.map (.int .i64))::[b7]) 6 .dead).map (frzB 6 1 (s.starts.map (.int .i64)))=layF s pg b7:=by
  show frzB 6 1 _ _::frzB 6 1 _ (.arr 3 [_])::frzB 6 1 _ _::frzB 6 1 _ _::frzB 6 1 _ _::frzB 6 1 _ _::frzB 6 1 _ _::[frzB 6 1 _ _]=_
  rw[hz,hg 6 _ (by omega),hi,hd,hb 6 _ (by omega)];simp only[frzB,List.map_cons,List.map_nil];rw[BkA _ _ _ _ (by simp)];rfl
 rw[t3];exact Shift.weak hw
