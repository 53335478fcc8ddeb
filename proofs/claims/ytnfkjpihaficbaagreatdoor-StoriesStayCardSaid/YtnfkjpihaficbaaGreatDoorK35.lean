/- tag.Mentions, exact. -/
import Derived.Test.YtnfkjpihaficbaaGreatDoorK34
set_option maxRecDepth 100000
set_option maxHeartbeats 16000000
set_option linter.unusedSimpArgs false
set_option linter.unusedVariables false
namespace Go.Proofs.YtnfkjpihaficbaaGreatDoor
open Go Go.Av Go.RowKit _root_.Go.Proofs.Tryz
structure Mn where
 rule:Nat
 scene:Nat
 para:Nat
 at':Nat
 n:Nat
 c:Int
def mnA(m:Mn):AV:=.agg [.int .i64 m.rule,.int .i64 m.scene,.int .i64 m.para,.int .i64 m.at',.int .i64 m.n,.int .i64 m.c]
theorem AxJ(rs:List Ru)(i:Nat)(h:i<rs.length):(patsTo rs i).getD i .any=.raw (.slice none 0 0):=by
 unfold patsTo;have hl:((rs.take i).map fun r=>AV.fz 4 ((itemsR r).map itB)).length=i:=by simp; omega
 rw[List.getD_eq_getElem?_getD,List.getElem?_append_right (by omega),hl,Nat.sub_self,List.getElem?_replicate,if_pos (by omega)];rfl
def ru00:Ru:=⟨⟨0,[]⟩,[],none,[]⟩
def sc00:Sc:=⟨[],0,[],0,[]⟩
def pa00:Pa:=⟨0,[]⟩
def mnH(ri si pi:Nat)(n:Nat)(hs:List (Nat×Int)):List Mn:=hs.map fun h=>⟨ri,si,pi,h.1,n,h.2⟩
theorem mnH_snoc(ri si pi n:Nat)(l:List (Nat×Int))(e:Nat×Int):mnH ri si pi n (l++[e])=mnH ri si pi n l++[⟨ri,si,pi,e.1,n,e.2⟩]:=by simp[mnH]
def mnR(r:Ru)(ri si pi:Nat)(set:List UInt8)(kind:Int)(ws:List (List UInt8)):List Mn:=cond (appI r set kind) (mnH ri si pi (itemsR r).length (hitsI (itemsR r) ws 0)) []
def mnRs(rs:List Ru)(si pi:Nat)(set:List UInt8)(kind:Int)(ws:List (List UInt8)):Nat->List Mn
 | 0=>[]
 | i+1=>mnRs rs si pi set kind ws i++mnR (rs.getD i ru00) i si pi set kind ws
def mnP(rs:List Ru)(x:Sc)(si pi:Nat):List Mn:=mnRs rs si pi x.set (x.paras.getD pi pa00).kind (wordsL (x.paras.getD pi pa00).text) rs.length
def mnPs(rs:List Ru)(x:Sc)(si:Nat):Nat->List Mn
 | 0=>[]
 | j+1=>mnPs rs x si j++mnP rs x si j
def mnSs(rs:List Ru)(x:Sr):Nat->List Mn
 | 0=>[]
 | i+1=>mnSs rs x i++mnPs rs (x.scenes.getD i sc00) i (x.scenes.getD i sc00).paras.length
def mnAll(rs:List Ru)(x:Sr):List Mn:=mnSs rs x x.scenes.length
theorem BjE(rs:List Ru)(x:Sc)(si:Nat){j m:Nat}(h:j<=m):(mnPs rs x si j).length<=(mnPs rs x si m).length:=by
 induction h with
 | refl=>exact Nat.le_refl _
 | step _ ih=>rw[mnPs,List.length_append]; omega
theorem BjF(rs:List Ru)(x:Sr){i m:Nat}(h:i<=m):(mnSs rs x i).length<=(mnSs rs x m).length:=by
 induction h with
 | refl=>exact Nat.le_refl _
 | step _ ih=>rw[mnSs,List.length_append]; omega
theorem mn_le(rs:List Ru)(x:Sr){i j:Nat}(hi:i<x.scenes.length)(hj:j<=(x.scenes.getD i sc00).paras.length):(mnSs rs x i++mnPs rs (x.scenes.getD i sc00) i j).length<=(mnAll rs x).length:=by
 have h1:=BjF rs x (show i+1<=x.scenes.length from hi);have h2:=BjE rs (x.scenes.getD i sc00) i hj;rw[mnSs,List.length_append]at h1;rw[List.length_append];unfold mnAll;omega
theorem AgV:∀ l:List Mn,(flat (l.map mnA)).all Av.frozen=true
 | []=>rfl
 | a::l=>by simpa[mnA,flat,cellsOf,Av.frozen]using AgV l
theorem AjD(ps:List It2)(ws:List (List UInt8))(hp:1<=ps.length):∀ (f a:Nat),a<=ws.length->(hitsTo ps ws f a).length+a<=ws.length
 | 0,a,h=>by simpa[hitsTo]using h
 | f+1,a,h=>by
  rw[hitsTo]
  split
  .rename_i ha
   cases hq:hitI ps ws a with
   | none =>
    have:=AjD ps ws hp f (a+1) ha;simp only;omega
   | some c =>
    have:=AjD ps ws hp f (a+ps.length) (A8G hq);simp only[List.length_cons];omega
  .simpa using h
theorem BjG(r:Ru)(ri si pi:Nat)(set:List UInt8)(kind:Int)(ws:List (List UInt8))(hp:1<=(itemsR r).length):(mnR r ri si pi set kind ws).length<=ws.length:=by
 unfold mnR mnH
 cases appI r set kind with
 | false=>simp
 | true =>
  have:=AjD (itemsR r) ws hp (ws.length+1) 0 (Nat.zero_le _);simp only[cond_true,List.length_map];exact this
def mnV(rs:List Ru)(x:Sr):AV:=cond (rusC rs != 0) (.tup [.fz 6 [],.int .i64 (rusC rs)]) (cond (decide ((mnAll rs x).length>20000)) (.tup [.fz 6 [],.int .i64 2]) (.tup [.fz 6 ((mnAll rs x).map mnA),.int .i64 0]))
theorem AuQ{S:Std}(hS:LibOk S)(x:Sr)(hx:StoryOk x)(rs:List Ru)(hr:∀ r∈rs,RuOk r)(hl:rs.length<1000000)(hw:∀ y∈x.scenes,y.paras.length<100000/\∀ p∈y.paras,p.text.length<100000/\(wordsL p.text).length<100000/\∀ w∈wordsL p.text,w.length<1000000):PcH prog S 49 [srA x,.fz 5 (rs.map ruA)] (· = mnV rs x):=by
 have h1:=AdD hS x hx;have h2:=BdW hS rs hr hl;have hxl:=hx.len;unfold mnV;simp only[srA]at h1 |-
 by_cases hc:rusC rs=0
 rotate_left
 .have dc:(rusC rs != 0)=true:=by simpa using hc
  rw[dc,cond_true];refine zqIB func49 rfl fun h ρ w hg=>?_
  simp only[go_sem];refine zqB hg (h1) ?_;simp only[go_sem];refine zqB hg (h2) ?_;simp only[go_sem,dc];refine ARet.shift (Shift.nilfz 4 6 rfl) (aret [4,5] rfl ⟨rfl,rfl⟩)
 have dc:(rusC rs != 0)=false:=by simpa using hc
 rw[dc,cond_false];have hit:=A8T hr hc;have hr2:=(A0N hc).1;rw[hc]at h2;generalize hR:cond (decide ((mnAll rs x).length>20000)) (AV.tup [.fz 6 [],.int .i64 2]) (.tup [.fz 6 ((mnAll rs x).map mnA),.int .i64 0])=R;refine zqIB func49 rfl fun h ρ w hg=>?_
 simp only[go_sem];refine zqB hg (h1) ?_;simp only[go_sem];refine zqB hg (h2) ?_;simp only[go_sem,List.length_map]
 repeat refine ai ?_
 refine AaC (ι:=Nat) (fun i=>rs.length-i) (fun i=>[(36,.int .i64 i),(35,.int .i64 rs.length),(34,.fz 5 (rs.map ruA)),(8,.sl 0 0 rs.length rs.length),(2,.pin 2 [.agg [.str x.title,.fz 5 (x.scenes.map scA)]] 0 0),(1,.fz 5 (rs.map ruA))])
  (fun i=>[.arr 1 (patsTo rs i)]) (fun i=>i<=rs.length) 0 (Nat.zero_le _) ?_ ?_
 .refine Shift.weakS ?_ ?_
  .simp only [go_sem,List.length_map]
   try rfl
  .simp [patsTo,nilA]
 intro i g1 J hJ
 by_cases gi:i<rs.length
 .have di:decide ((i:Int)<(rs.length:Int))=true:=by simp; omega
  have hfin:=hJ (i+1) gi (by omega);have p1:=ArQ rs i gi;have hro:=hr _ (List.getElem_mem gi);have hp:=ArN hS rs[i].pat hro.pat;have hpe:=(hit _ (List.getElem_mem gi)).1;rw[hpe]at hp;rw[<- ApR rs i gi]at hfin;have hpl:=ApQ rs i g1;have pz:=AxJ rs i gi;have hpz:=AaD (n:=1) (by rw[ApR rs i gi]; exact ApS rs (i+1):(flat ((patsTo rs i).set i (.fz 4 ((itemsR rs[i]).map itB)))).all Av.frozen=true);clear hJ;simp only[patA]at hp;generalize itemsR rs[i]=it at *;generalize rs[i]=q at *;generalize patsTo rs i=PT at *;obtain⟨⟨ek,en⟩,pt,inn,st⟩:=q;simp only[ruA]at p1 hp
  cases inn with
  | none =>
   simp only[inO]at p1;refine zgB ?_;simp only[go_sem,di,p1,hpl,List.length_map]
   repeat refine ai ?_
   refine zqB hg (hp) ?_;simp only[go_sem,hpl,pz,List.length_map]
   repeat refine ai ?_
   rw[ic i];refine ainv hfin ?_;refine Shift.trans (Shift.low 1 (by simp) (by simp) (e':=[(36,.int .i64 (i+1:Nat)),(35,.int .i64 rs.length),(34,.fz 5 (rs.map ruA)),(8,.sl 0 0 rs.length rs.length),(2,.pin 2 [.agg [.str x.title,.fz 5 (x.scenes.map scA)]] 0 0),(1,.fz 5 (rs.map ruA))]) (by simp only[List.take_succ_cons,List.take_zero,List.all_cons,List.all_nil,Bool.and_true]; exact hpz) ?_) (Shift.weakS ?_ rfl)
   .simp only [go_sem]
    try simp
   .simp only [go_sem]
  | some l =>
   simp only[inO]at p1;refine zgB ?_;simp only[go_sem,di,p1,hpl,List.length_map]
   repeat refine ai ?_
   refine zqB hg (hp) ?_;simp only[go_sem,hpl,pz,List.length_map]
   repeat refine ai ?_
   rw[ic i];refine ainv hfin ?_;refine Shift.trans (Shift.low 1 (by simp) (by simp) (e':=[(36,.int .i64 (i+1:Nat)),(35,.int .i64 rs.length),(34,.fz 5 (rs.map ruA)),(8,.sl 0 0 rs.length rs.length),(2,.pin 2 [.agg [.str x.title,.fz 5 (x.scenes.map scA)]] 0 0),(1,.fz 5 (rs.map ruA))]) (by simp only[List.take_succ_cons,List.take_zero,List.all_cons,List.all_nil,Bool.and_true]; exact hpz) ?_) (Shift.weakS ?_ rfl)
   .simp only [go_sem]
    try simp
   .simp only [go_sem]
 have di:decide ((i:Int)<(rs.length:Int))=false:=by simp; omega
 have hie:i=rs.length:=by omega
 subst hie;clear hJ;have hpf:=ApS rs rs.length;have hpl:=ApQ rs rs.length (Nat.le_refl _);have hpg:∀ k (hk:k<rs.length),(patsTo rs rs.length).getD k .any=.fz 4 ((itemsR (rs.getD k ru00)).map itB):=fun k hk=>by
  unfold patsTo;rw[Nat.sub_self,List.replicate_zero,List.append_nil,List.take_of_length_le (Nat.le_refl _)]
  simp[List.getD,hk]
 have htk:((patsTo rs rs.length).drop 0).take rs.length=patsTo rs rs.length:=by rw[List.drop_zero,List.take_of_length_le (by omega)]
 refine AWp.shift (Shift.freeze 8 (id:=0) (l:=patsTo rs rs.length) rfl rfl (by omega) (Nat.le_refl _) hpf) ?_;rw[htk];generalize patsTo rs rs.length=PT at *;refine zgB ?_;simp only[go_sem,di,List.length_map];refine AaC (ι:=Nat) (fun i=>x.scenes.length-i) (fun i=>[(54,.int .i64 i),(53,.int .i64 x.scenes.length),(52,.fz 5 (x.scenes.map scA)),(11,.sl 1 0 (mnSs rs x i).length (mnSs rs x i).length),(8,.fz 1 PT),(2,.pin 2 [.agg [.str x.title,.fz 5 (x.scenes.map scA)]] 0 0),(1,.fz 5 (rs.map ruA))])
  (fun i=>[.dead,.arr 6 ((mnSs rs x i).map mnA)]) (fun i=>i<=x.scenes.length/\(mnSs rs x i).length<=20000) 0 ⟨Nat.zero_le _,Nat.zero_le _⟩ ?_ ?_
 .refine Shift.trans (Shift.nilsl 11 6 rfl) (Shift.weakS ?_ rfl)
  simp only[go_sem]
  try rfl
 rintro i ⟨g1,g2⟩ J hJ
 by_cases gi:i<x.scenes.length
 rotate_left
 .have di2:decide ((i:Int)<(x.scenes.length:Int))=false:=by simp; omega
  have hie:i=x.scenes.length:=by omega
  subst hie;clear hJ;have hall:mnSs rs x x.scenes.length=mnAll rs x:=rfl;rw[hall]at g2 |-;have d20:decide ((mnAll rs x).length>20000)=false:=by simp; omega
  rw[d20,cond_false]at hR;subst hR;have hmf:=AgV (mnAll rs x);generalize mnAll rs x=M at *;refine zgB ?_;simp only[go_sem,di2];refine ARet.shift (Shift.freeze 4 (id:=1) (l:=M.map mnA) rfl rfl (by simp) (Nat.le_refl _) hmf) (aret [4,5] rfl ⟨?_,rfl⟩);simp only[resV,Av.get,Av.put,List.map_cons,List.map_nil,beq_self_eq_true,cond_true,List.drop_zero,Nat.reduceBEq,cond_false];rw[List.take_of_length_le (by simp)]
 have di2:decide ((i:Int)<(x.scenes.length:Int))=true:=by simp; omega
 have hfin:=fun h=>hJ (i+1) ⟨gi,h⟩ (by omega)
 obtain⟨hyl,hw2⟩:=hw _ (List.getElem_mem gi);have hys:x.scenes.getD i sc00=x.scenes[i]:=by simp[List.getD,gi]
 have p2:=AdL x.scenes i gi;have hml:=fun j h=>mn_le rs x (i:=i) (j:=j) gi h
 rw[mnSs]at hfin;rw[hys]at hfin hml;clear hJ hys;generalize mnSs rs x i=M at *;generalize x.scenes[i]=y at *;refine zgB ?_;simp only[go_sem,di2,p2,List.length_map]
 repeat refine ai ?_
 refine AaC (ι:=Nat) (fun j=>y.paras.length-j) (fun j=>[(62,.int .i64 j),(61,.int .i64 y.paras.length),(60,.fz 2 (y.paras.map paA)),(12,.int .i64 i),(13,.ptr 2 1 0 0),(54,.int .i64 i),(53,.int .i64 x.scenes.length),(52,.fz 5 (x.scenes.map scA)),(11,.sl 1 0 (M++mnPs rs y i j).length (M++mnPs rs y i j).length),(8,.fz 1 PT),(2,.pin 2 [.agg [.str x.title,.fz 5 (x.scenes.map scA)]] 0 0),(1,.fz 5 (rs.map ruA))])
  (fun j=>[.dead,.arr 6 ((M++mnPs rs y i j).map mnA),.arr 5 [.agg [.str y.no,.int .i64 y.place,.str y.set,.int .i64 y.time,.fz 2 (y.paras.map paA)]]]) (fun j=>j<=y.paras.length/\(M++mnPs rs y i j).length<=20000) 0 ⟨Nat.zero_le _,by simpa[mnPs]using g2⟩ ?_ ?_
 .refine Shift.weakS ?_ ?_
  .simp only [go_sem,mnPs,List.append_nil,List.length_map]
   try rfl
  .simp only [mnPs,List.append_nil]
 rintro j ⟨k1,k2⟩ J2 hJ2
 by_cases gj:j<y.paras.length
 rotate_left
 .have dj:decide ((j:Int)<(y.paras.length:Int))=false:=by simp; omega
  have hje:j=y.paras.length:=by omega
  subst hje;have hfin:=hfin (by simpa using k2);clear hJ2;have hmf:=AgV (M++mnPs rs y i y.paras.length);generalize M++mnPs rs y i y.paras.length=Q at *;refine zgB ?_;simp only[go_sem,dj]
  repeat refine ai ?_
  rw[ic i];refine ainv hfin ?_;refine Shift.trans (Shift.low 2 (by simp) (by simp) (e':=[(54,.int .i64 (i+1:Nat)),(53,.int .i64 x.scenes.length),(52,.fz 5 (x.scenes.map scA)),(11,.sl 1 0 Q.length Q.length),(8,.fz 1 PT),(2,.pin 2 [.agg [.str x.title,.fz 5 (x.scenes.map scA)]] 0 0),(1,.fz 5 (rs.map ruA))]) (by simp only[List.take_succ_cons,List.take_zero,List.all_cons,List.all_nil,Bool.and_true,show lowB 2 (.arr 6 (Q.map mnA))=true from AaD hmf]; rfl) ?_) (Shift.weakS ?_ rfl)
  .simp only [go_sem]
   try simp
  .simp only [go_sem]
 have dj:decide ((j:Int)<(y.paras.length:Int))=true:=by simp; omega
 have hfin2:=fun h=>hJ2 (j+1) ⟨gj,h⟩ (by omega)
 have hml2:=hml (j+1) gj;have hw3:=hw2 _ (List.getElem_mem gj);have hyp:y.paras.getD j pa00=y.paras[j]:=by simp[List.getD,gj]
 have p3:=AwT y.paras j gj;rw[mnPs,<- List.append_assoc]at hfin2 hml2;unfold mnP at hfin2 hml2;rw[hyp]at hfin2 hml2;clear hJ2 hyp hfin hml;generalize M++mnPs rs y i j=Q at *;generalize y.paras[j]=p at *;refine zgB ?_;simp only[go_sem,dj,p3,List.length_map]
 repeat refine ai ?_
 have hwp:=A0H p.text (by omega);obtain⟨w1,w2,w3⟩:=hw3;generalize wordsL p.text=ws at *;refine zpB (hwp) ?_;simp only[go_sem,List.length_map]
 repeat refine ai ?_
 refine AaC (ι:=Nat) (fun k=>rs.length-k) (fun k=>[(72,.int .i64 k),(71,.int .i64 rs.length),(70,.fz 5 (rs.map ruA)),(16,.fz 1 (ws.map .str)),(14,.int .i64 j),(15,.ptr 3 1 0 0),(62,.int .i64 j),(61,.int .i64 y.paras.length),(60,.fz 2 (y.paras.map paA)),(12,.int .i64 i),(13,.ptr 2 1 0 0),(54,.int .i64 i),(53,.int .i64 x.scenes.length),(52,.fz 5 (x.scenes.map scA)),(11,.sl 1 0 (Q++mnRs rs i j y.set p.kind ws k).length (Q++mnRs rs i j y.set p.kind ws k).length),(8,.fz 1 PT),(2,.pin 2 [.agg [.str x.title,.fz 5 (x.scenes.map scA)]] 0 0),(1,.fz 5 (rs.map ruA))])
  (fun k=>[.dead,.arr 6 ((Q++mnRs rs i j y.set p.kind ws k).map mnA),.arr 5 [.agg [.str y.no,.int .i64 y.place,.str y.set,.int .i64 y.time,.fz 2 (y.paras.map paA)]],.arr 2 [.agg [.int .i64 p.kind,.str p.text]]]) (fun k=>k<=rs.length/\(Q++mnRs rs i j y.set p.kind ws k).length<=20000+k*100000) 0 ⟨Nat.zero_le _,by simpa[mnRs]using k2⟩ ?_ ?_
 .refine Shift.weakS ?_ ?_
  .simp only [go_sem,mnRs,List.append_nil,List.length_map]
   try rfl
  .simp only [mnRs,List.append_nil]
 rintro k ⟨m1,m2⟩ J3 hJ3
 by_cases gk:k<rs.length
 rotate_left
 .have dk:decide ((k:Int)<(rs.length:Int))=false:=by simp; omega
  have hke:k=rs.length:=by omega
  subst hke;clear hJ3;have hmf:=AgV (Q++mnRs rs i j y.set p.kind ws rs.length);generalize Q++mnRs rs i j y.set p.kind ws rs.length=V at *
  by_cases hv:V.length>20000
  .have dv:decide ((V.length:Int)>20000)=true:=by simp; omega
   have dall:decide ((mnAll rs x).length>20000)=true:=by simp; omega
   rw[dall,cond_true]at hR;subst hR;refine zgB ?_;simp only[go_sem,dk,dv,List.length_map]
   repeat refine ai ?_
   refine ARet.shift (Shift.nilfz 4 6 rfl) (aret [4,5] rfl ⟨rfl,rfl⟩)
  have dv:decide ((V.length:Int)>20000)=false:=by simp; omega
  have hfin2:=hfin2 (by omega);refine zgB ?_;simp only[go_sem,dk,dv,List.length_map]
  repeat refine ai ?_
  rw[ic j];refine ainv hfin2 ?_;refine Shift.trans (Shift.low 3 (by simp) (by simp) (e':=[(62,.int .i64 (j+1:Nat)),(61,.int .i64 y.paras.length),(60,.fz 2 (y.paras.map paA)),(12,.int .i64 i),(13,.ptr 2 1 0 0),(54,.int .i64 i),(53,.int .i64 x.scenes.length),(52,.fz 5 (x.scenes.map scA)),(11,.sl 1 0 V.length V.length),(8,.fz 1 PT),(2,.pin 2 [.agg [.str x.title,.fz 5 (x.scenes.map scA)]] 0 0),(1,.fz 5 (rs.map ruA))]) (by simp only[List.take_succ_cons,List.take_zero,List.all_cons,List.all_nil,Bool.and_true,show lowB 3 (.arr 6 (V.map mnA))=true from AaD hmf]; rfl) ?_) (Shift.weakS ?_ rfl)
  .simp only [go_sem]
   try simp
  .simp only [go_sem]
 have dk:decide ((k:Int)<(rs.length:Int))=true:=by simp; omega
 have hfin3:=fun h=>hJ3 (k+1) ⟨gk,h⟩ (by omega)
 have hrk:rs.getD k ru00=rs[k]:=by simp[List.getD,gk]
 have p4:=ArQ rs k gk;have hro:=hr _ (List.getElem_mem gk);obtain⟨_,q1,q2,q3⟩:=hit _ (List.getElem_mem gk);have p5:=hpg k gk;have hap:=BjB rs[k] hro y p.kind;have hht:=BdQ (itemsR rs[k]) q3 q1 (by omega) ws w3 (by omega);have hbl:=BjG rs[k] k i j y.set p.kind ws q1;rw[mnRs,<- List.append_assoc]at hfin3;rw[hrk]at hfin3 p5;unfold mnR mnH at hfin3 hbl;clear hJ3 hrk hfin2 hml2;generalize Q++mnRs rs i j y.set p.kind ws k=V at *;generalize hitsI (itemsR rs[k]) ws 0=hs at *;generalize itemsR rs[k]=its at *;generalize appI rs[k] y.set p.kind=ab at *;generalize rs[k]=r at *;obtain⟨⟨ek,en⟩,pt,inn,st⟩:=r;simp only[ruA,scA]at p4 hap
 cases inn with
 | none =>
  simp only[inO]at p4 hap
  cases ab with
  | false =>
   simp only[cond_false,List.append_nil]at hfin3;have hfin3:=hfin3 (Nat.le_trans m2 (Nat.add_le_add_left (Nat.mul_le_mul_right _ (Nat.le_succ k)) _));have hmf:=AgV V;refine zgB ?_;simp only[go_sem,dk,p4,List.length_map]
   repeat refine ai ?_
   refine zpB (hap) ?_;simp only[go_sem]
   repeat refine ai ?_
   rw[ic k];refine ainv hfin3 ?_;refine Shift.trans (Shift.low 4 (by simp) (by simp) (e':=[(72,.int .i64 (k+1:Nat)),(71,.int .i64 rs.length),(70,.fz 5 (rs.map ruA)),(16,.fz 1 (ws.map .str)),(14,.int .i64 j),(15,.ptr 3 1 0 0),(62,.int .i64 j),(61,.int .i64 y.paras.length),(60,.fz 2 (y.paras.map paA)),(12,.int .i64 i),(13,.ptr 2 1 0 0),(54,.int .i64 i),(53,.int .i64 x.scenes.length),(52,.fz 5 (x.scenes.map scA)),(11,.sl 1 0 V.length V.length),(8,.fz 1 PT),(2,.pin 2 [.agg [.str x.title,.fz 5 (x.scenes.map scA)]] 0 0),(1,.fz 5 (rs.map ruA))]) (by simp only[List.take_succ_cons,List.take_zero,List.all_cons,List.all_nil,Bool.and_true,show lowB 4 (.arr 6 (V.map mnA))=true from AaD hmf]; rfl) ?_) (Shift.weakS ?_ rfl)
   .simp only [go_sem]
    try simp
   .simp only [go_sem]
  | true =>
   simp only[cond_true,List.length_map]at hfin3 hbl;refine zgB ?_;simp only[go_sem,dk,p4,List.length_map]
   repeat refine ai ?_
   refine zpB (hap) ?_;simp only[go_sem,p5,List.length_map]
   repeat refine ai ?_
   refine zpB (hht) ?_;simp only[go_sem,List.length_map]
   repeat refine ai ?_
   refine AaC (ι:=Nat) (fun t=>hs.length-t) (fun t=>[(90,.int .i64 t),(89,.int .i64 hs.length),(88,.fz 3 (hs.map (hA its))),(17,.int .i64 k),(72,.int .i64 k),(71,.int .i64 rs.length),(70,.fz 5 (rs.map ruA)),(16,.fz 1 (ws.map .str)),(14,.int .i64 j),(15,.ptr 3 1 0 0),(62,.int .i64 j),(61,.int .i64 y.paras.length),(60,.fz 2 (y.paras.map paA)),(12,.int .i64 i),(13,.ptr 2 1 0 0),(54,.int .i64 i),(53,.int .i64 x.scenes.length),(52,.fz 5 (x.scenes.map scA)),(11,.sl 1 0 (V++mnH k i j its.length (hs.take t)).length (V++mnH k i j its.length (hs.take t)).length),(8,.fz 1 PT),(2,.pin 2 [.agg [.str x.title,.fz 5 (x.scenes.map scA)]] 0 0),(1,.fz 5 (rs.map ruA))])
    (fun t=>[.dead,.arr 6 ((V++mnH k i j its.length (hs.take t)).map mnA),.arr 5 [.agg [.str y.no,.int .i64 y.place,.str y.set,.int .i64 y.time,.fz 2 (y.paras.map paA)]],.arr 2 [.agg [.int .i64 p.kind,.str p.text]],.arr 5 [.agg [.int .i64 ek,.str en,.str pt,.raw (.slice none 0 0),.str st]]]) (fun t=>t<=hs.length) 0 (Nat.zero_le _) ?_ ?_
   .refine Shift.weakS ?_ ?_
    .simp only [go_sem,List.take_zero,mnH,List.map_nil,List.append_nil]
     try rfl
    .simp only [List.take_zero,mnH,List.map_nil,List.append_nil]
   intro t n1 J4 hJ4
   by_cases gt:t<hs.length
   .have dt:decide ((t:Int)<(hs.length:Int))=true:=by simp; omega
    have hfin4:=hJ4 (t+1) gt (by omega);have p6:(hs.map (hA its)).getD t .any=.agg [.int .i64 hs[t].1,.int .i64 its.length,.int .i64 hs[t].2]:=by simp[List.getD,gt,hA]
    have hTl:(V++mnH k i j its.length (hs.take t)).length<=50000000:=by
     simp only[List.length_append,mnH,List.length_map,List.length_take];omega
    have hmf:=AgV (V++mnH k i j its.length (hs.take t)++[⟨k,i,j,hs[t].1,its.length,hs[t].2⟩]);rw[List.take_succ_eq_append_getElem gt,mnH_snoc,<- List.append_assoc]at hfin4;clear hJ4 hfin3;generalize V++mnH k i j its.length (hs.take t)=T at *;generalize hs[t]=e at *;obtain⟨ea,ec⟩:=e;rw[List.map_append]at hmf hfin4;simp only[List.map_cons,List.map_nil,mnA,List.length_append,List.length_cons,List.length_nil,Nat.zero_add]at hmf hfin4 p6;have hTm:(T.map mnA).length=T.length:=by simp
    generalize T.map mnA=TM at *;refine zgB ?_;simp only[go_sem,dt,p6,hTm,List.length_map]
    repeat refine ai ?_
    rw[ic t];refine ainv hfin4 ?_;refine Shift.trans (Shift.low 5 (by simp) (by simp) (e':=[(90,.int .i64 (t+1:Nat)),(89,.int .i64 hs.length),(88,.fz 3 (hs.map (hA its))),(17,.int .i64 k),(72,.int .i64 k),(71,.int .i64 rs.length),(70,.fz 5 (rs.map ruA)),(16,.fz 1 (ws.map .str)),(14,.int .i64 j),(15,.ptr 3 1 0 0),(62,.int .i64 j),(61,.int .i64 y.paras.length),(60,.fz 2 (y.paras.map paA)),(12,.int .i64 i),(13,.ptr 2 1 0 0),(54,.int .i64 i),(53,.int .i64 x.scenes.length),(52,.fz 5 (x.scenes.map scA)),(11,.sl 1 0 (T.length+1) (T.length+1)),(8,.fz 1 PT),(2,.pin 2 [.agg [.str x.title,.fz 5 (x.scenes.map scA)]] 0 0),(1,.fz 5 (rs.map ruA))]) (by simp only[List.take_succ_cons,List.take_zero,List.all_cons,List.all_nil,Bool.and_true,show lowB 5 (.arr 6 (TM++[.agg [.int .i64 k,.int .i64 i,.int .i64 j,.int .i64 ea,.int .i64 its.length,.int .i64 ec]]))=true from AaD hmf]; rfl) ?_) (Shift.weakS ?_ rfl)
    .simp only [go_sem]
     try simp
    .simp only [go_sem]
   .have dt:decide ((t:Int)<(hs.length:Int))=false:=by simp; omega
    have hte:t=hs.length:=by omega
    subst hte;clear hJ4;rw[List.take_of_length_le (Nat.le_refl _)];have hfin3:=hfin3 (by
     simp only[List.length_append,mnH,List.length_map];omega)
    unfold mnH;have hmf:=AgV (V++hs.map fun h=>⟨k,i,j,h.1,its.length,h.2⟩);generalize V++hs.map (fun h=>(⟨k,i,j,h.1,its.length,h.2⟩:Mn))=T at *;refine zgB ?_;simp only[go_sem,dt]
    repeat refine ai ?_
    rw[ic k];refine ainv hfin3 ?_;refine Shift.trans (Shift.low 4 (by simp) (by simp) (e':=[(72,.int .i64 (k+1:Nat)),(71,.int .i64 rs.length),(70,.fz 5 (rs.map ruA)),(16,.fz 1 (ws.map .str)),(14,.int .i64 j),(15,.ptr 3 1 0 0),(62,.int .i64 j),(61,.int .i64 y.paras.length),(60,.fz 2 (y.paras.map paA)),(12,.int .i64 i),(13,.ptr 2 1 0 0),(54,.int .i64 i),(53,.int .i64 x.scenes.length),(52,.fz 5 (x.scenes.map scA)),(11,.sl 1 0 T.length T.length),(8,.fz 1 PT),(2,.pin 2 [.agg [.str x.title,.fz 5 (x.scenes.map scA)]] 0 0),(1,.fz 5 (rs.map ruA))]) (by simp only[List.take_succ_cons,List.take_zero,List.all_cons,List.all_nil,Bool.and_true,show lowB 4 (.arr 6 (T.map mnA))=true from AaD hmf]; rfl) ?_) (Shift.weakS ?_ rfl)
    .simp only [go_sem]
     try simp
    .simp only [go_sem]
 | some il =>
  simp only[inO]at p4 hap
  cases ab with
  | false =>
   simp only[cond_false,List.append_nil]at hfin3;have hfin3:=hfin3 (Nat.le_trans m2 (Nat.add_le_add_left (Nat.mul_le_mul_right _ (Nat.le_succ k)) _));have hmf:=AgV V;refine zgB ?_;simp only[go_sem,dk,p4,List.length_map]
   repeat refine ai ?_
   refine zpB (hap) ?_;simp only[go_sem]
   repeat refine ai ?_
   rw[ic k];refine ainv hfin3 ?_;refine Shift.trans (Shift.low 4 (by simp) (by simp) (e':=[(72,.int .i64 (k+1:Nat)),(71,.int .i64 rs.length),(70,.fz 5 (rs.map ruA)),(16,.fz 1 (ws.map .str)),(14,.int .i64 j),(15,.ptr 3 1 0 0),(62,.int .i64 j),(61,.int .i64 y.paras.length),(60,.fz 2 (y.paras.map paA)),(12,.int .i64 i),(13,.ptr 2 1 0 0),(54,.int .i64 i),(53,.int .i64 x.scenes.length),(52,.fz 5 (x.scenes.map scA)),(11,.sl 1 0 V.length V.length),(8,.fz 1 PT),(2,.pin 2 [.agg [.str x.title,.fz 5 (x.scenes.map scA)]] 0 0),(1,.fz 5 (rs.map ruA))]) (by simp only[List.take_succ_cons,List.take_zero,List.all_cons,List.all_nil,Bool.and_true,show lowB 4 (.arr 6 (V.map mnA))=true from AaD hmf]; rfl) ?_) (Shift.weakS ?_ rfl)
   .simp only [go_sem]
    try simp
   .simp only [go_sem]
  | true =>
   simp only[cond_true,List.length_map]at hfin3 hbl;refine zgB ?_;simp only[go_sem,dk,p4,List.length_map]
   repeat refine ai ?_
   refine zpB (hap) ?_;simp only[go_sem,p5,List.length_map]
   repeat refine ai ?_
   refine zpB (hht) ?_;simp only[go_sem,List.length_map]
   repeat refine ai ?_
   refine AaC (ι:=Nat) (fun t=>hs.length-t) (fun t=>[(90,.int .i64 t),(89,.int .i64 hs.length),(88,.fz 3 (hs.map (hA its))),(17,.int .i64 k),(72,.int .i64 k),(71,.int .i64 rs.length),(70,.fz 5 (rs.map ruA)),(16,.fz 1 (ws.map .str)),(14,.int .i64 j),(15,.ptr 3 1 0 0),(62,.int .i64 j),(61,.int .i64 y.paras.length),(60,.fz 2 (y.paras.map paA)),(12,.int .i64 i),(13,.ptr 2 1 0 0),(54,.int .i64 i),(53,.int .i64 x.scenes.length),(52,.fz 5 (x.scenes.map scA)),(11,.sl 1 0 (V++mnH k i j its.length (hs.take t)).length (V++mnH k i j its.length (hs.take t)).length),(8,.fz 1 PT),(2,.pin 2 [.agg [.str x.title,.fz 5 (x.scenes.map scA)]] 0 0),(1,.fz 5 (rs.map ruA))])
    (fun t=>[.dead,.arr 6 ((V++mnH k i j its.length (hs.take t)).map mnA),.arr 5 [.agg [.str y.no,.int .i64 y.place,.str y.set,.int .i64 y.time,.fz 2 (y.paras.map paA)]],.arr 2 [.agg [.int .i64 p.kind,.str p.text]],.arr 5 [.agg [.int .i64 ek,.str en,.str pt,.fz 1 (il.map (.int .i64)),.str st]]]) (fun t=>t<=hs.length) 0 (Nat.zero_le _) ?_ ?_
   .refine Shift.weakS ?_ ?_
    .simp only [go_sem,List.take_zero,mnH,List.map_nil,List.append_nil]
     try rfl
    .simp only [List.take_zero,mnH,List.map_nil,List.append_nil]
   intro t n1 J4 hJ4
   by_cases gt:t<hs.length
   .have dt:decide ((t:Int)<(hs.length:Int))=true:=by simp; omega
    have hfin4:=hJ4 (t+1) gt (by omega);have p6:(hs.map (hA its)).getD t .any=.agg [.int .i64 hs[t].1,.int .i64 its.length,.int .i64 hs[t].2]:=by simp[List.getD,gt,hA]
    have hTl:(V++mnH k i j its.length (hs.take t)).length<=50000000:=by
     simp only[List.length_append,mnH,List.length_map,List.length_take];omega
    have hmf:=AgV (V++mnH k i j its.length (hs.take t)++[⟨k,i,j,hs[t].1,its.length,hs[t].2⟩]);rw[List.take_succ_eq_append_getElem gt,mnH_snoc,<- List.append_assoc]at hfin4;clear hJ4 hfin3;generalize V++mnH k i j its.length (hs.take t)=T at *;generalize hs[t]=e at *;obtain⟨ea,ec⟩:=e;rw[List.map_append]at hmf hfin4;simp only[List.map_cons,List.map_nil,mnA,List.length_append,List.length_cons,List.length_nil,Nat.zero_add]at hmf hfin4 p6;have hTm:(T.map mnA).length=T.length:=by simp
    generalize T.map mnA=TM at *;refine zgB ?_;simp only[go_sem,dt,p6,hTm,List.length_map]
    repeat refine ai ?_
    rw[ic t];refine ainv hfin4 ?_;refine Shift.trans (Shift.low 5 (by simp) (by simp) (e':=[(90,.int .i64 (t+1:Nat)),(89,.int .i64 hs.length),(88,.fz 3 (hs.map (hA its))),(17,.int .i64 k),(72,.int .i64 k),(71,.int .i64 rs.length),(70,.fz 5 (rs.map ruA)),(16,.fz 1 (ws.map .str)),(14,.int .i64 j),(15,.ptr 3 1 0 0),(62,.int .i64 j),(61,.int .i64 y.paras.length),(60,.fz 2 (y.paras.map paA)),(12,.int .i64 i),(13,.ptr 2 1 0 0),(54,.int .i64 i),(53,.int .i64 x.scenes.length),(52,.fz 5 (x.scenes.map scA)),(11,.sl 1 0 (T.length+1) (T.length+1)),(8,.fz 1 PT),(2,.pin 2 [.agg [.str x.title,.fz 5 (x.scenes.map scA)]] 0 0),(1,.fz 5 (rs.map ruA))]) (by simp only[List.take_succ_cons,List.take_zero,List.all_cons,List.all_nil,Bool.and_true,show lowB 5 (.arr 6 (TM++[.agg [.int .i64 k,.int .i64 i,.int .i64 j,.int .i64 ea,.int .i64 its.length,.int .i64 ec]]))=true from AaD hmf]; rfl) ?_) (Shift.weakS ?_ rfl)
    .simp only [go_sem]
     try simp
    .simp only [go_sem]
   .have dt:decide ((t:Int)<(hs.length:Int))=false:=by simp; omega
    have hte:t=hs.length:=by omega
    subst hte;clear hJ4;rw[List.take_of_length_le (Nat.le_refl _)];have hfin3:=hfin3 (by
     simp only[List.length_append,mnH,List.length_map];omega)
    unfold mnH;have hmf:=AgV (V++hs.map fun h=>⟨k,i,j,h.1,its.length,h.2⟩);generalize V++hs.map (fun h=>(⟨k,i,j,h.1,its.length,h.2⟩:Mn))=T at *;refine zgB ?_;simp only[go_sem,dt]
    repeat refine ai ?_
    rw[ic k];refine ainv hfin3 ?_;refine Shift.trans (Shift.low 4 (by simp) (by simp) (e':=[(72,.int .i64 (k+1:Nat)),(71,.int .i64 rs.length),(70,.fz 5 (rs.map ruA)),(16,.fz 1 (ws.map .str)),(14,.int .i64 j),(15,.ptr 3 1 0 0),(62,.int .i64 j),(61,.int .i64 y.paras.length),(60,.fz 2 (y.paras.map paA)),(12,.int .i64 i),(13,.ptr 2 1 0 0),(54,.int .i64 i),(53,.int .i64 x.scenes.length),(52,.fz 5 (x.scenes.map scA)),(11,.sl 1 0 T.length T.length),(8,.fz 1 PT),(2,.pin 2 [.agg [.str x.title,.fz 5 (x.scenes.map scA)]] 0 0),(1,.fz 5 (rs.map ruA))]) (by simp only[List.take_succ_cons,List.take_zero,List.all_cons,List.all_nil,Bool.and_true,show lowB 4 (.arr 6 (T.map mnA))=true from AaD hmf]; rfl) ?_) (Shift.weakS ?_ rfl)
    .simp only [go_sem]
     try simp
    .simp only [go_sem]
structure Tg where
 scene:List UInt8
 el:El
 n:Int
def tgA(t:Tg):AV:=.agg [.str t.scene,.int .i64 t.el.kind,.str t.el.name,.int .i64 t.n]
theorem A0O:∀ (ps:List Pa)(l e:Int),runL l ps=some e->∀ p∈ps,paraOk p=true
 | [],_,_,_,p,hp=>by cases hp
 | q::r,l,e,h,p,hp=>by
  rw[runL]at h
  split at h
  .rename_i hq
   simp only[Bool.and_eq_true]at hq
   rcases List.mem_cons.1 hp with rfl|hp
   .exact hq.1
   .exact A0O r _ _ h p hp
  .cases h
theorem A3A{p:Pa}(h:paraOk p=true):p.text.length<=2000:=by
 simp only[paraOk,Bool.and_eq_true,decide_eq_true_eq]at h;exact h.2.2.2.2.1
theorem A0P:∀ (t:List UInt8)(s:Wst)(m:Nat),s.word.length<=m->s.out.length<=m->(∀ w∈s.out,w.length<=m)->((t.foldl wstep s).out.length<=m+t.length/\∀ w∈(t.foldl wstep s).out,w.length<=m+t.length)
 | [],s,m,h1,h2,h3=>⟨by simpa using h2,by simpa using h3⟩
 | c::t,s,m,h1,h2,h3=>by
  have key:(wstep s c).word.length<=m+1/\(wstep s c).out.length<=m+1/\∀ w∈(wstep s c).out,w.length<=m+1:=by
   unfold wstep
   split
   .exact ⟨by simp; omega,by simp only; omega,fun w hw=>by have:=h3 w hw; omega⟩
   .split
    .exact ⟨by simp; omega,by simp only; omega,fun w hw=>by have:=h3 w hw; omega⟩
    .refine ⟨by simp,?_,?_⟩
     .simp only
      split
      .simp; omega
      .omega
     .intro w hw
      simp only at hw
      split at hw
      .rcases List.mem_append.1 hw with hw|hw
       .have:=h3 w hw; omega
       .rw [List.mem_singleton.1 hw]; omega
      .have:=h3 w hw; omega
  obtain⟨a,b⟩:=A0P t (wstep s c) (m+1) key.1 key.2.1 key.2.2;rw[List.foldl_cons,List.length_cons];exact⟨by omega,fun w hw=>by have:=b w hw; omega⟩
theorem A8U(s:List UInt8):(wordsL s).length<=s.length+1/\∀ w∈wordsL s,w.length<=s.length+1:=by
 have:=A0P (s++[32]) ⟨false,[],[]⟩ 0 (by simp) (by simp) (by simp)
 simpa[wordsL]using this
theorem AhJ{x:Sr}(hx:StoryOk x):∀ y∈x.scenes,y.paras.length<100000/\∀ p∈y.paras,p.text.length<100000/\(wordsL p.text).length<100000/\∀ w∈wordsL p.text,w.length<1000000:=by
 intro y hy;obtain⟨i,hi,rfl⟩:=List.getElem_of_mem hy;have hd:=hx.all i hi;have hlen:=hd.len;simp only at hlen;refine⟨by omega,fun p hp=>?_⟩;obtain⟨e,he,_⟩:=hd.run;have h1:=A3A (A0O _ _ _ he p hp);obtain⟨h2,h3⟩:=A8U p.text;exact⟨by omega,by omega,fun w hw=>by have:=h3 w hw; omega⟩
theorem BlX(L:List Int)(k:Int):RuOk (ruF L k).1:=by
 have h1:=BlO L k;have h2:=AxG L (elF L k).2;unfold ruF;refine⟨?_,?_,?_,?_⟩
 .simp only
  unfold ruEl
  split
  .split
   .simp only; omega
   .simp [gunsB]
  .simp only; omega
 .simp only
  unfold ruPat;simp only
  split
  .omega
  .split
   .omega
   .simp [gunB]
 .simp only
  unfold ruSet
  split
  .have hs:∀ s∈AuM,s.length<1000:=by decide
   exact hs _ (AaI (by decide))
  .simp
 .intro l hl
  simp only at hl;unfold ruIn at hl
  split at hl
  .simp only [Option.some.injEq]at hl
   subst hl;have hs:∀ s∈InL,s.length<1000:=by decide
   rw[List.getD_eq_getElem?_getD]
   cases hq:InL[(nx L (_+1) 6).toNat]? with
   | none=>simp
   | some v=>exact hs _ (List.mem_of_getElem? hq)
  .cases hl
theorem A0Q(L:List Int)(k:Int):∀ n,∀ r∈(ruRun L k n).1,RuOk r
 | 0,r,h=>by simp[ruRun]at h
 | n+1,r,h=>by
  rw[ruRun]at h
  rcases List.mem_append.1 h with h|h
  .exact A0Q L k n r h
  .rw [List.mem_singleton.1 h]
   exact BlX L _
theorem A8V(L:List Int)(k:Int):(∀ r∈(rulesF L k).1,RuOk r)/\(rulesF L k).1.length<=4/\k<=(rulesF L k).2/\(rulesF L k).2<=k+200:=by
 have hb:=AcV L k 5 (by decide);have hr:=ArP L (k+1) (nx L k 5).toNat;unfold rulesF;refine⟨A0Q L _ _,by omega,by omega,by omega⟩
theorem ArR{S:Std}(hS:LibOk S)(x:Sr)(hx:StoryOk x)(rs:List Ru)(hr:∀ r∈rs,RuOk r)(hl:rs.length<1000000):PcH prog S 49 [srA x,.fz 5 (rs.map ruA)] (· = mnV rs x) :=
 AuQ hS x hx rs hr hl (AhJ hx)
