/- tag.isSet, ruleFault, CheckRules, exact. -/
import Derived.Test.YtnfkjpihaficbaaGreatDoorK33
set_option maxRecDepth 100000
set_option maxHeartbeats 8000000
set_option linter.unusedSimpArgs false
set_option linter.unusedVariables false
namespace Go.Proofs.YtnfkjpihaficbaaGreatDoor
open Go Go.Av Go.RowKit _root_.Go.Proofs.Tryz
def mPlace:List AV:=[.str [],.str [73,78,84,46],.str [69,88,84,46],.str [73,78,84,46,47,69,88,84,46]]
def A8N:List AV:=[.str [],.str [68,65,89],.str [78,73,71,72,84],.str [68,65,87,78],.str [68,85,83,75],.str [76,65,84,69,82]]
theorem mPlace_pc:Pc prog 304 [] (· = .fz 1 mPlace):=by
 refine AcF (AbV func304 rfl ntmps304 hB304 (by simp) fun h ρ w=>goF rfl 200 ?_);simp only[go_sem];exact zt [0]
theorem mTime_pc:Pc prog 305 [] (· = .fz 1 A8N):=by
 refine AcF (AbV func305 rfl ntmps305 hB305 (by simp) fun h ρ w=>goF rfl 200 ?_);simp only[go_sem];exact zt [0]
def scS(s:List UInt8):AV:=.agg [.str [],.int .i64 1,.str s,.int .i64 1,.raw (.slice none 0 0)]
def BiX(s:List UInt8):List UInt8:=[73,78,84,46]++[32]++s++[32,45,32]++[68,65,89]
theorem BdT(s:List UInt8)(hl:s.length<10000):Pc prog 294 [scS s] (· = .str (BiX s)):=by
 simp only[scS];refine zpIF func294 rfl fun h ρ w=>?_
 simp only[go_sem];refine zr [.fz 1 mPlace,.fz 1 A8N] mixed ?_;simp only[go_sem,mPlace,A8N]
 repeat refine And.intro (by first|omega|exact mPlace_pc.at|exact mTime_pc.at|rfl|(simp[mPlace,A8N]; done)|(simp[mPlace,A8N]; omega)) ?_
 refine zgF ?_;simp only[go_sem];exact aret [2] rfl ⟨by simp[resV,Av.get,BiX],rfl⟩
theorem AxI{S:Std}(hS:LibOk S)(s:List UInt8)(hl:s.length<10000):PcH prog S 258 [scS s] (· = .tup [.str (if isSetL s then BiX s else[]),.int .i64 (if isSetL s then 0 else 3)]):=by
 have h1:=AtG hS s (by omega);have h2:=BdT s hl;simp only[scS]at h2 |-
 cases hb:isSetL s with
 | true =>
  rw[hb]at h1;rw[if_pos rfl,if_pos rfl];refine zqIF func258 rfl fun h ρ w hg=>?_
  simp only[go_sem];refine zqF hg (h1) ?_;simp only[go_sem];refine zpF (h2) ?_;simp only[go_sem];exact zt [2,3]
 | false =>
  rw[hb]at h1;rw[if_neg (by simp),if_neg (by simp)];refine zqIF func258 rfl fun h ρ w hg=>?_
  simp only[go_sem];refine zqF hg (h1) ?_;simp only[go_sem];exact zt [2,3]
theorem BdU{S:Std}(hS:LibOk S)(s:List UInt8)(hl:s.length<10000):PcH prog S 206 [.str s] (· = .bool (isSetL s)):=by
 have h1:=AxI hS s hl;simp only[scS]at h1
 cases hb:isSetL s with
 | true =>
  rw[hb,if_pos rfl,if_pos rfl]at h1;refine zqIF func206 rfl fun h ρ w hg=>?_
  simp only[go_sem];refine zqF hg (h1) ?_;simp only[go_sem];exact zt [2]
 | false =>
  rw[hb,if_neg (by simp),if_neg (by simp)]at h1;refine zqIF func206 rfl fun h ρ w hg=>?_
  simp only[go_sem];refine zqF hg (h1) ?_;simp only[go_sem];exact zt [2]
def AkJ(l:List Int)(i:Nat):Int :=
 cond (l.getD i 0 != 1&&(l.getD i 0 != 3&&(l.getD i 0 != 4&&l.getD i 0 != 5))) 4 (cond (decide (0<i)&&decide (l.getD i 0<=l.getD (i-1) 0)) 7 0)
def inC(l:List Int):Int:=((List.range l.length).find? fun i=>AkJ l i != 0).elim 0 (AkJ l)
theorem BlW{l:List Int}{i:Nat}(hi:i<l.length)(h0:∀ j<i,AkJ l j=0)(h1:AkJ l i≠0):inC l=AkJ l i:=by
 unfold inC;have:(List.range l.length).find? (fun i=>AkJ l i != 0)=some i:=by
  rw[List.find?_eq_some_iff_getElem];refine⟨by simpa using h1,i,by simpa using hi,by simp,fun j hj=>?_⟩;have:=h0 j hj
  simp[this]
 rw[this];rfl
theorem BdV{l:List Int}(h0:∀ j<l.length,AkJ l j=0):inC l=0:=by
 unfold inC;have:(List.range l.length).find? (fun i=>AkJ l i != 0)=none:=by
  rw[List.find?_eq_none];intro j hj
  simp[h0 j (by simpa using hj)]
 rw[this];rfl
def inCO:Option (List Int)->Int
 | none=>0
 | some l=>inC l
def ruC(r:Ru):Int :=
 cond (elC r.el != 0) (elC r.el) (cond (r.el.kind==11) 4 (cond (!(patT r.pat).2) 9 (cond (inCO r.inn != 0) (inCO r.inn) (cond (r.set != []&&!isSetL r.set) 5 0))))
theorem AuP(l:List Int)(i:Nat)(h:i<l.length):(l.map (AV.int .i64)).getD i .any=.int .i64 (l.getD i 0):=by simp[List.getD,h]
theorem BiY{S:Std}(hS:LibOk S)(r:Ru)(h1:r.el.name.length<1000)(h2:r.pat.length<900)(h3:r.set.length<1000)(h4:∀ l,r.inn=some l->l.length<1000):PcH prog S 150 [ruA r] (· = .int .i64 (ruC r)):=by
 have c1:=A8M hS r.el (by omega);have c2:=AuO hS r.pat h2;have c3:=BdU hS r.set (by omega);unfold ruC;obtain⟨⟨ek,en⟩,p,inn,st⟩:=r;simp only[elA,ruA]at c1 c2 c3 h4 |-;generalize elC ⟨ek,en⟩=ec at *;generalize (patT p).2=pb at *;generalize isSetL st=sb at *;have de0:((0:Int) != 0)=false:=rfl;generalize hR:cond (ec != 0) ec (cond (ek==11) 4 (cond (!pb) 9 (cond (inCO inn != 0) (inCO inn) (cond (st != []&&!sb) 5 0))))=R;clear h1 h2
 cases inn with
 | none =>
  simp only[inO,inCO]at hR |-
  by_cases he:ec=0
  rotate_left
  .have de:(ec != 0)=true:=by simpa using he
   rw[de,cond_true]at hR;subst hR;refine zqIB func150 rfl fun h ρ w hg=>?_
   simp only[go_sem];refine zqB hg (c1) ?_;simp only[go_sem,de];exact zt [2]
  subst he;rw[de0,cond_false]at hR
  by_cases hk:ek=11
  .have dk:(ek==11)=true:=by simpa using hk
   rw[dk,cond_true]at hR;subst hR;refine zqIB func150 rfl fun h ρ w hg=>?_
   simp only[go_sem];refine zqB hg (c1) ?_;simp only[go_sem,dk];exact zt [2]
  have dk:(ek==11)=false:=by simpa using hk
  rw[dk,cond_false]at hR
  cases pb with
  | false =>
   rw[Bool.not_false,cond_true]at hR;subst hR;rw[if_neg (by simp)]at c2;refine zqIB func150 rfl fun h ρ w hg=>?_
   simp only[go_sem];refine zqB hg (c1) ?_;simp only[go_sem,dk];refine zqB hg (c2) ?_;simp only[go_sem];exact zt [2]
  | true =>
  rw[Bool.not_true,cond_false]at hR;rw[if_pos rfl]at c2
  try rw[de0]at hR
  rw[cond_false]at hR;refine zqIB func150 rfl fun h ρ w hg=>?_
  simp only[go_sem];refine zqB hg (c1) ?_;simp only[go_sem,dk];refine zqB hg (c2) ?_;simp only[go_sem];refine AaC (ι:=Nat) (fun i=>0-i) (fun i=>[(26,.int .i64 0),(25,.int .i64 0),(1,.pin 5 [.agg [.int .i64 ek,.str en,.str p,.raw (.slice none 0 0),.str st]] 0 0)]) (fun _=>[]) (fun _=>True) 0 trivial ?_ ?_
  .refine Shift.weakS ?_ rfl
   simp only[go_sem,List.length_nil]
   try rfl
  intro i g1 J hJ;have di:decide ((0:Int)<0)=false:=by decide
  clear hJ
  by_cases hst:st=[]
  .have ds:(st != [])=false:=by simpa using hst
   rw[ds,Bool.false_and,cond_false]at hR;subst hR;refine zgB ?_;simp only[go_sem,di,ds];exact zt [2]
  have ds:(st != [])=true:=by simpa using hst
  cases sb with
  | true =>
   rw[ds,Bool.true_and,Bool.not_true,cond_false]at hR;subst hR;refine zgB ?_;simp only[go_sem,di,ds];refine zqB hg (c3) ?_;simp only[go_sem];exact zt [2]
  | false =>
   rw[ds,Bool.true_and,Bool.not_false,cond_true]at hR;subst hR;refine zgB ?_;simp only[go_sem,di,ds];refine zqB hg (c3) ?_;simp only[go_sem];exact zt [2]
 | some l =>
  have hll:=h4 l rfl;simp only[inO,inCO]at hR |-
  by_cases he:ec=0
  rotate_left
  .have de:(ec != 0)=true:=by simpa using he
   rw[de,cond_true]at hR;subst hR;refine zqIB func150 rfl fun h ρ w hg=>?_
   simp only[go_sem];refine zqB hg (c1) ?_;simp only[go_sem,de];exact zt [2]
  subst he;rw[de0,cond_false]at hR
  by_cases hk:ek=11
  .have dk:(ek==11)=true:=by simpa using hk
   rw[dk,cond_true]at hR;subst hR;refine zqIB func150 rfl fun h ρ w hg=>?_
   simp only[go_sem];refine zqB hg (c1) ?_;simp only[go_sem,dk];exact zt [2]
  have dk:(ek==11)=false:=by simpa using hk
  rw[dk,cond_false]at hR
  cases pb with
  | false =>
   rw[Bool.not_false,cond_true]at hR;subst hR;rw[if_neg (by simp)]at c2;refine zqIB func150 rfl fun h ρ w hg=>?_
   simp only[go_sem];refine zqB hg (c1) ?_;simp only[go_sem,dk];refine zqB hg (c2) ?_;simp only[go_sem];exact zt [2]
  | true =>
  rw[Bool.not_true,cond_false]at hR;rw[if_pos rfl]at c2;refine zqIB func150 rfl fun h ρ w hg=>?_
  simp only[go_sem];refine zqB hg (c1) ?_;simp only[go_sem,dk];refine zqB hg (c2) ?_;simp only[go_sem];refine AaC (ι:=Nat) (fun i=>l.length-i) (fun i=>[(26,.int .i64 i),(25,.int .i64 l.length),(24,.fz 1 (l.map (.int .i64))),(1,.pin 5 [.agg [.int .i64 ek,.str en,.str p,.fz 1 (l.map (.int .i64)),.str st]] 0 0)]) (fun _=>[]) (fun i=>i<=l.length/\∀ j<i,AkJ l j=0) 0 (by simp) ?_ ?_
  .refine Shift.weakS ?_ rfl
   simp only[go_sem,List.length_map]
   try rfl
  rintro i ⟨g1,g2⟩ J hJ
  by_cases hi:i<l.length
  rotate_left
  .have di:decide ((i:Int)<(l.length:Int))=false:=by simp; omega
   have hz:=BdV (l:=l) fun j hj=>g2 j (by omega)
   clear hJ;rw[hz,de0,cond_false]at hR
   by_cases hst:st=[]
   .have ds:(st != [])=false:=by simpa using hst
    rw[ds,Bool.false_and,cond_false]at hR;subst hR;refine zgB ?_;simp only[go_sem,di,ds];exact zt [2]
   have ds:(st != [])=true:=by simpa using hst
   cases sb with
   | true =>
    rw[ds,Bool.true_and,Bool.not_true,cond_false]at hR;subst hR;refine zgB ?_;simp only[go_sem,di,ds];refine zqB hg (c3) ?_;simp only[go_sem];exact zt [2]
   | false =>
    rw[ds,Bool.true_and,Bool.not_false,cond_true]at hR;subst hR;refine zgB ?_;simp only[go_sem,di,ds];refine zqB hg (c3) ?_;simp only[go_sem];exact zt [2]
  have di:decide ((i:Int)<(l.length:Int))=true:=by simp; omega
  have hfin:=fun(h:AkJ l i=0)=>hJ (i+1) ⟨by omega,fun j hj=>by
   rcases Nat.lt_or_ge j i with h'|h'
   .exact g2 j h'
   .rw [show j=i by omega]; exact h⟩ (by omega)
  have hbad:=fun(h:AkJ l i≠0)=>BlW hi g2 h
  have p1:=AuP l i hi;have p2:0<i->(l.map (AV.int .i64)).getD (i-1) .any=.int .i64 (l.getD (i-1) 0):=fun h=>AuP l (i-1) (by omega)
  have e1:((i:Int)-1).toNat=i-1:=by omega
  unfold AkJ at hfin hbad;generalize inC l=icv at *;clear hJ g2;generalize l.getD i 0=v at *;generalize l.getD (i-1) 0=u at *
  by_cases hv:v≠1/\v≠3/\v≠4/\v≠5
  .have d1:(v != 1)=true:=by simpa using hv.1
   have d3:(v != 3)=true:=by simpa using hv.2.1
   have d4:(v != 4)=true:=by simpa using hv.2.2.1
   have d5:(v != 5)=true:=by simpa using hv.2.2.2
   rw[d1,d3,d4,d5,Bool.true_and,Bool.true_and,Bool.true_and,cond_true]at hbad;have hic:=hbad (by decide);rw[hic,show((4:Int) != 0)=true from rfl,cond_true]at hR;subst hR;refine zgB ?_;simp only[go_sem,di,p1,d1,d3,d4,d5,List.length_map]
   repeat refine ai ?_
   exact zt [2]
  have hvf:(v != 1&&(v != 3&&(v != 4&&v != 5)))=false:=by
   rw[Bool.eq_false_iff];intro h;simp only[Bool.and_eq_true,bne_iff_ne]at h;exact hv h
  rw[hvf,cond_false]at hbad hfin;refine goB rfl 25 ?_;simp only[go_sem,di,p1,List.length_map]
  repeat refine ai ?_
  refine acut (ι:=Unit) (fun _=>[(6,.int .i64 v),(5,.int .i64 i),(26,.int .i64 i),(25,.int .i64 l.length),(24,.fz 1 (l.map (.int .i64))),(1,.pin 5 [.agg [.int .i64 ek,.str en,.str p,.fz 1 (l.map (.int .i64)),.str st]] 0 0)]) (fun _=>[]) (fun _=>True) ?_ ?_
  .intro Jc hJc
   have fc:=hJc () trivial;clear hfin hbad
   by_cases v1:v=1
   .have d1:(v != 1)=false:=by simpa using v1
    refine zgB ?_;simp only[go_sem,d1]
    repeat refine ai ?_
    refine ainv fc (Shift.weakS ?_ rfl);simp only[go_sem]
   have d1:(v != 1)=true:=by simpa using v1
   by_cases v3:v=3
   .have d3:(v != 3)=false:=by simpa using v3
    refine zgB ?_;simp only[go_sem,d1,d3]
    repeat refine ai ?_
    refine ainv fc (Shift.weakS ?_ rfl);simp only[go_sem]
   have d3:(v != 3)=true:=by simpa using v3
   by_cases v4:v=4
   .have d4:(v != 4)=false:=by simpa using v4
    refine zgB ?_;simp only[go_sem,d1,d3,d4]
    repeat refine ai ?_
    refine ainv fc (Shift.weakS ?_ rfl);simp only[go_sem]
   have d4:(v != 4)=true:=by simpa using v4
   have v5:v=5:=Classical.byContradiction fun h=>hv ⟨v1,v3,v4,h⟩
   have d5:(v != 5)=false:=by simpa using v5
   refine zgB ?_;simp only[go_sem,d1,d3,d4,d5]
   repeat refine ai ?_
   refine ainv fc (Shift.weakS ?_ rfl);simp only[go_sem]
  rintro _ _
  by_cases h0:0<i
  rotate_left
  .have dz:decide ((i:Int)>0)=false:=by simp; omega
   have hfin:=hfin (by rw[show decide (0<i)=false by simpa using h0]; rfl);refine zgB ?_;simp only[go_sem,dz]
   repeat refine ai ?_
   rw[ic i];refine ainv hfin (Shift.weakS ?_ rfl);simp only[go_sem]
  have dz:decide ((i:Int)>0)=true:=by simp; omega
  have p2:=p2 h0
  by_cases hu:v<=u
  .have du:decide (v<=u)=true:=by simpa using hu
   rw[du,show decide (0<i)=true by simpa using h0,Bool.true_and,cond_true]at hbad;have hic:=hbad (by decide);rw[hic,show((7:Int) != 0)=true from rfl,cond_true]at hR;subst hR;refine zgB ?_;simp only[go_sem,dz,p2,e1,du,List.length_map]
   repeat refine ai ?_
   exact zt [2]
  have du:decide (v<=u)=false:=by simpa using hu
  have hfin:=hfin (by rw[du,Bool.and_false]; rfl);refine zgB ?_;simp only[go_sem,dz,p2,e1,du,List.length_map]
  repeat refine ai ?_
  rw[ic i];refine ainv hfin (Shift.weakS ?_ rfl);simp only[go_sem]
structure RuOk(r:Ru):Prop where
 name:r.el.name.length<1000
 pat:r.pat.length<900
 set:r.set.length<1000
 inn:∀ l,r.inn=some l->l.length<1000
def rusC(rs:List Ru):Int:=cond (decide (rs.length>200)) 2 ((rs.find? fun r=>ruC r != 0).elim 0 ruC)
theorem BiZ{rs:List Ru}{i:Nat}(hi:i<rs.length)(h0:∀ r∈rs.take i,ruC r=0)(h1:ruC rs[i]≠0):rs.find? (fun r=>ruC r != 0)=some rs[i]:=by
 rw[List.find?_eq_some_iff_getElem];refine⟨by simpa using h1,i,hi,rfl,fun j hj=>?_⟩;have:=h0 rs[j] (List.mem_take_iff_getElem.2 ⟨j,by omega,rfl⟩)
 simp[this]
theorem BjA{rs:List Ru}(h0:∀ r∈rs,ruC r=0):rs.find? (fun r=>ruC r != 0)=none:=by
 rw[List.find?_eq_none];intro r hr
 simp[h0 r hr]
theorem ArQ(rs:List Ru)(i:Nat)(h:i<rs.length):(rs.map ruA).getD i .any=ruA rs[i]:=by simp[List.getD,h]
theorem BdW{S:Std}(hS:LibOk S)(rs:List Ru)(hr:∀ r∈rs,RuOk r)(hl:rs.length<1000000):PcH prog S 103 [.fz 5 (rs.map ruA)] (· = .int .i64 (rusC rs)):=by
 unfold rusC
 by_cases h2:rs.length>200
 .have d2:decide ((rs.length:Int)>200)=true:=by simp; omega
  rw[show decide (rs.length>200)=true by simpa using h2,cond_true];refine zqIB func103 rfl fun h ρ w hg=>?_
  simp only[go_sem,d2,List.length_map];exact zt [2]
 have d2:decide ((rs.length:Int)>200)=false:=by simp; omega
 rw[show decide (rs.length>200)=false by simpa using h2,cond_false];generalize hR:((rs.find? fun r=>ruC r != 0).elim 0 ruC)=R;refine zqIB func103 rfl fun h ρ w hg=>?_
 simp only[go_sem,d2,List.length_map];refine AaC (ι:=Nat) (fun i=>rs.length-i) (fun i=>[(11,.int .i64 i),(10,.int .i64 rs.length),(9,.fz 5 (rs.map ruA))]) (fun _=>[]) (fun i=>i<=rs.length/\∀ r∈rs.take i,ruC r=0) 0 (by simp) ?_ ?_
 .refine Shift.weakS ?_ rfl
  simp only[go_sem,List.length_map]
  try rfl
 rintro i ⟨g1,g2⟩ J hJ
 by_cases hi:i<rs.length
 rotate_left
 .have di:decide ((i:Int)<(rs.length:Int))=false:=by simp; omega
  rw[List.take_of_length_le (by omega)]at g2;rw[BjA g2]at hR;have hR0:R=0:=hR.symm;subst hR0;refine zgB ?_;simp only[go_sem,di];exact zt [2]
 have di:decide ((i:Int)<(rs.length:Int))=true:=by simp; omega
 have p1:=ArQ rs i hi;obtain⟨o1,o2,o3,o4⟩:=hr _ (List.getElem_mem hi);have hc:=BiY hS rs[i] o1 o2 o3 o4;have hfin:=fun(h:ruC rs[i]=0)=>hJ (i+1) ⟨by omega,fun r hr=>by
  rw[List.take_succ_eq_append_getElem hi,List.mem_append,List.mem_singleton]at hr
  rcases hr with hr|rfl
  .exact g2 r hr
  .exact h⟩ (by omega)
 have hbad:=fun(h:ruC rs[i]≠0)=>BiZ hi g2 h
 clear hJ;generalize hq:rs[i]=q at *;have hbad2:=fun(h:ruC q≠0)=>show R=ruC q by rw[<- hR,hbad h]; rfl
 clear hbad hR g2 o1 o2 o3 o4 hq;generalize ruC q=c at *;obtain⟨⟨ek,en⟩,p,inn,st⟩:=q;simp only[ruA]at hc p1
 cases inn with
 | none =>
  simp only[inO]at hc p1
  by_cases hc0:c=0
  .have dc:(c != 0)=false:=by simpa using hc0
   have hfin:=hfin hc0;refine zgB ?_;simp only[go_sem,di,p1,List.length_map]
   repeat refine ai ?_
   refine zqB hg (hc) ?_;simp only[go_sem,dc]
   repeat refine ai ?_
   rw[ic i];refine ainv hfin ?_;refine Shift.trans (Shift.low 0 (by simp) (by simp) (e':=[(11,.int .i64 (i+1:Nat)),(10,.int .i64 rs.length),(9,.fz 5 (rs.map ruA))]) rfl ?_) (Shift.weakS ?_ rfl)
   .simp only [go_sem]
    try simp
   .simp only [go_sem]
  .have dc:(c != 0)=true:=by simpa using hc0
   have hR:=hbad2 hc0;subst hR;refine zgB ?_;simp only[go_sem,di,p1,List.length_map]
   repeat refine ai ?_
   refine zqB hg (hc) ?_;simp only[go_sem,dc];exact zt [2]
 | some l =>
  simp only[inO]at hc p1
  by_cases hc0:c=0
  .have dc:(c != 0)=false:=by simpa using hc0
   have hfin:=hfin hc0;refine zgB ?_;simp only[go_sem,di,p1,List.length_map]
   repeat refine ai ?_
   refine zqB hg (hc) ?_;simp only[go_sem,dc]
   repeat refine ai ?_
   rw[ic i];refine ainv hfin ?_;refine Shift.trans (Shift.low 0 (by simp) (by simp) (e':=[(11,.int .i64 (i+1:Nat)),(10,.int .i64 rs.length),(9,.fz 5 (rs.map ruA))]) rfl ?_) (Shift.weakS ?_ rfl)
   .simp only [go_sem]
    try simp
   .simp only [go_sem]
  .have dc:(c != 0)=true:=by simpa using hc0
   have hR:=hbad2 hc0;subst hR;refine zgB ?_;simp only[go_sem,di,p1,List.length_map]
   repeat refine ai ?_
   refine zqB hg (hc) ?_;simp only[go_sem,dc];exact zt [2]
def idxI(s:Int)(l:List Int):Int:=match l.findIdx? (·==s)with|some i=>i|none=>-1
theorem BdX{s:Int}{l:List Int}{i:Nat}(h:i<l.length)(h1:(l.take i).all (· != s)=true)(h2:l[i]=s):idxI s l=i:=by
 unfold idxI;have:l.findIdx? (·==s)=some i:=by
  rw[List.findIdx?_eq_some_iff_getElem];refine⟨h,by simpa using h2,fun j hj=>?_⟩;have:=List.all_eq_true.1 h1 l[j] (List.mem_take_iff_getElem.2 ⟨j,by omega,rfl⟩)
  simpa using this
 rw[this]
theorem A8O{s:Int}{l:List Int}(h1:l.all (· != s)=true):idxI s l=-1:=by
 unfold idxI;have:l.findIdx? (·==s)=none:=by
  rw[List.findIdx?_eq_none_iff];intro x hx;have:=List.all_eq_true.1 h1 x hx
  simpa using this
 rw[this]
theorem A8P(l:List Int)(s:Int)(hl:l.length<1000000):Pc prog 210 [.fz 1 (l.map (.int .i64)),.int .i64 s] (· = .int .i64 (idxI s l)):=by
 refine zpIB func210 rfl fun h ρ w=>?_
 simp only[go_sem,List.length_map];refine AaC (ι:=Nat) (fun i=>l.length-i) (fun i=>[(8,.int .i64 i),(7,.int .i64 l.length),(1,.int .i64 s),(0,.fz 1 (l.map (.int .i64)))]) (fun _=>[]) (fun i=>i<=l.length/\(l.take i).all (· != s)=true) 0 (by simp) ?_ ?_
 .refine Shift.weak ?_
  simp only[go_sem]
 .rintro i ⟨g1,g2⟩ J hJ
  by_cases gi:i<l.length
  .have di:decide ((i:Int)<(l.length:Int))=true:=by simp; omega
   have hget:List.getD (l.map (AV.int .i64)) i .any=.int .i64 l[i]:=by simp[List.getD,gi]
   have hst:l[i]≠s->(l.take (i+1)).all (· != s)=true:=fun h=>by
    rw[List.take_succ_eq_append_getElem gi,List.all_append,g2]
    simpa using h
   cases e:s==l[i]with
   | true =>
    refine zgB ?_;simp only[go_sem,di,hget,e,List.length_map]
    repeat refine aj ?_
    exact aret [4] rfl ⟨by rw[BdX gi g2 (by simpa using(beq_iff_eq.1 e).symm)]; rfl,rfl⟩
   | false =>
    have hfin:=hJ (i+1) ⟨by omega,hst (fun h=>by rw[h]at e; simp at e)⟩ (by omega);refine zgB ?_;simp only[go_sem,di,hget,e,List.length_map]
    repeat refine aj ?_
    rw[ic i];refine ainv hfin (Shift.weak ?_);simp only[go_sem]
  .have di:decide ((i:Int)<(l.length:Int))=false:=by simp; omega
   rw[List.take_of_length_le (by omega)]at g2;refine zgB ?_;simp only[go_sem,di];exact aret [4] rfl ⟨by rw[A8O g2]; rfl,rfl⟩
def inI(x:Int)(l:List Int):Bool:=decide (idxI x l>=0)
theorem BfQ(l:List Int)(x:Int)(hl:l.length<1000000):Pc prog 156 [.fz 1 (l.map (.int .i64)),.int .i64 x] (· = .bool (inI x l)):=by
 have hi:=A8P l x hl;unfold inI;refine zpIB func156 rfl fun h ρ w=>?_
 simp only[go_sem];refine zpB (hi) ?_;simp only[go_sem];exact zt [4]
def appI(r:Ru)(set:List UInt8)(kind:Int):Bool :=
 cond (r.set != []&&r.set != set) false (cond ((r.inn.getD []).length==0) (kind != 2) (inI kind (r.inn.getD [])))
theorem BjB(r:Ru)(hr:RuOk r)(x:Sc)(kind:Int):Pc prog 106 [ruA r,scA x,.int .i64 kind] (· = .bool (appI r x.set kind)):=by
 have h4:=hr.inn;unfold appI;obtain⟨⟨ek,en⟩,p,inn,st⟩:=r;simp only[ruA,scA]at h4 |-;generalize hR:cond (st != []&&st != x.set) false (cond ((inn.getD []).length==0) (kind != 2) (inI kind (inn.getD [])))=R
 cases inn with
 | none =>
  simp only[inO,Option.getD_none,Option.getD_some]at hR |-
  cases ds:st != []with
  | true =>
   cases dx:st != x.set with
   | true =>
    rw[ds,dx,Bool.and_self,cond_true]at hR;subst hR;refine zpIB func106 rfl fun h ρ w=>?_
    simp only[go_sem,ds,dx];exact zt [6]
   | false =>
    rw[ds,dx,Bool.and_false,cond_false]at hR;rw[show(([]:List Int).length==0)=true from rfl,cond_true]at hR;subst hR;refine zpIB func106 rfl fun h ρ w=>?_
    simp only[go_sem,ds,dx];exact zt [6]
  | false =>
   rw[ds,Bool.false_and,cond_false]at hR;rw[show(([]:List Int).length==0)=true from rfl,cond_true]at hR;subst hR;refine zpIB func106 rfl fun h ρ w=>?_
   simp only[go_sem,ds];exact zt [6]
 | some l =>
  simp only[inO,Option.getD_none,Option.getD_some]at hR |-
  cases ds:st != []with
  | true =>
   cases dx:st != x.set with
   | true =>
    rw[ds,dx,Bool.and_self,cond_true]at hR;subst hR;refine zpIB func106 rfl fun h ρ w=>?_
    simp only[go_sem,ds,dx];exact zt [6]
   | false =>
    rw[ds,dx,Bool.and_false,cond_false]at hR;have hl:=h4 l rfl
    cases hz:l.length==0 with
    | true =>
     rw[hz,cond_true]at hR;subst hR;have dz:((l.length:Int)==0)=true:=by
      have:l.length=0:=by simpa using hz
      rw[this]; rfl
     refine zpIB func106 rfl fun h ρ w=>?_
     simp only[go_sem,ds,dx,dz,List.length_map];exact zt [6]
    | false =>
     rw[hz,cond_false]at hR;subst hR;have dz:((l.length:Int)==0)=false:=by
      have:l.length≠0:=by simpa using hz
      rw[beq_eq_false_iff_ne];omega
     have hi:=BfQ l kind (by omega);refine zpIB func106 rfl fun h ρ w=>?_
     simp only[go_sem,ds,dx,dz,List.length_map];refine zpB (hi) ?_;simp only[go_sem];exact zt [6]
  | false =>
   rw[ds,Bool.false_and,cond_false]at hR;have hl:=h4 l rfl
   cases hz:l.length==0 with
   | true =>
    rw[hz,cond_true]at hR;subst hR;have dz:((l.length:Int)==0)=true:=by
     have:l.length=0:=by simpa using hz
     rw[this]; rfl
    refine zpIB func106 rfl fun h ρ w=>?_
    simp only[go_sem,ds,dz,List.length_map];exact zt [6]
   | false =>
    rw[hz,cond_false]at hR;subst hR;have dz:((l.length:Int)==0)=false:=by
     have:l.length≠0:=by simpa using hz
     rw[beq_eq_false_iff_ne];omega
    have hi:=BfQ l kind (by omega);refine zpIB func106 rfl fun h ρ w=>?_
    simp only[go_sem,ds,dz,List.length_map];refine zpB (hi) ?_;simp only[go_sem];exact zt [6]
theorem A8Q(sep:List UInt8):∀ (k:Nat)(s:List UInt8),Lib.splitK sep 0 k s≠[]
 | 0,s=>by simp[Lib.splitK]
 | k+1,s=>by
  rw[Lib.splitK]
  split <;> simp
theorem A8R(s:List UInt8)(c:UInt8):splitL s [c]≠[]:=by
 rw[AgJ];exact A8Q _ _ _
theorem A8S(q:List UInt8):splitW q≠[]:=by
 rcases AfN q with⟨_,e⟩|⟨i,_,_,e⟩
 .rw [e]; simp
 .rw [e]; simp
theorem BdY{s:List UInt8}(hl:s.length<900)(h:(AeX s).2=true):ItOk (AeX s).1:=by
 unfold AeX at h |-
 split
 .exact ⟨.inl rfl,fun l hl=>by cases hl⟩
 rename_i h1;rw[if_neg h1]at h
 split
 .exact ⟨.inr (.inl rfl),fun l hl=>by cases hl⟩
 rename_i h2;rw[if_neg h2]at h
 split
 .exact ⟨.inr (.inr ⟨_,_,rfl⟩),fun l hl=>by cases hl; simp⟩
 rename_i h3;rw[if_neg h3]at h
 split
 .refine ⟨.inr (.inr ?_),fun l hl2=>?_⟩
  .cases hq:splitL s [124]with
   | nil=>exact absurd hq (A8R s 124)
   | cons a b=>exact⟨a,b,rfl⟩
  .cases hl2
   have:=AjC s 124;omega
 .rename_i h4
  rw[if_neg h4]at h
  cases h
theorem BjC{p:List UInt8}(hl:p.length<900)(h:(patT p).2=true):∃ ps,(patT p).1=some ps/\1<=ps.length/\ps.length<=8/\∀ x∈ps,ItOk x:=by
 obtain⟨_,hle⟩:=AnJ p.length p (Nat.le_refl _);have hne:=A8S p;unfold patT at h |-;generalize splitW p=l at *
 split at h
 .cases h
 rename_i hb;rw[if_neg hb];simp only[Bool.and_eq_true,decide_eq_true_eq]at h;refine⟨AaT l,rfl,?_,by simp[AaT]; omega,?_⟩
 .cases l with
  | nil=>exact absurd rfl hne
  | cons a b=>simp[AaT]
 .intro x hx
  obtain⟨s,hs,rfl⟩:=List.mem_map.1 hx;refine BdY (by have:=hle s hs; omega) ?_;have:AcK l=l.length:=Nat.le_antisymm List.findIdx_le_length (by omega);have h2:=List.findIdx_eq_length.1 (show l.findIdx (fun s=>!(AeX s).2)=l.length from this) s hs
  simpa using h2
def itemsR(r:Ru):List It2:=((patT r.pat).1).getD []
theorem BjD{r:Ru}(hr:RuOk r)(h:ruC r=0):(patT r.pat).2=true:=by
 unfold ruC at h
 cases h1:elC r.el != 0 with
 | true =>
  rw[h1,cond_true]at h;rw[h]at h1
  cases h1
 | false =>
  rw[h1,cond_false]at h
  cases h2:r.el.kind==11 with
  | true=>rw[h2,cond_true]at h; cases h
  | false =>
   rw[h2,cond_false]at h
   cases h3:(patT r.pat).2 with
   | true=>rfl
   | false=>rw[h3,Bool.not_false,cond_true]at h; cases h
theorem A0N{rs:List Ru}(h:rusC rs=0):rs.length<=200/\∀ r∈rs,ruC r=0:=by
 unfold rusC at h
 cases h1:decide (rs.length>200)with
 | true=>rw[h1,cond_true]at h; cases h
 | false =>
  rw[h1,cond_false]at h;refine⟨by have:=of_decide_eq_false h1; omega,fun r hr=>?_⟩
  cases h2:rs.find? (fun r=>ruC r != 0)with
  | none =>
   have:=List.find?_eq_none.1 h2 r hr
   simpa using this
  | some q =>
   rw[h2]at h;have h3:=List.find?_some h2;have h4:ruC q=0:=h
   simp[h4]at h3
theorem A8T{rs:List Ru}(hr:∀ r∈rs,RuOk r)(h:rusC rs=0):∀ r∈rs,(patT r.pat)=(some (itemsR r),true)/\1<=(itemsR r).length/\(itemsR r).length<=8/\∀ x∈itemsR r,ItOk x:=by
 intro r hm;have h2:=BjD (hr r hm) ((A0N h).2 r hm);obtain⟨ps,a,b,c,d⟩:=BjC (hr r hm).pat h2;have e:itemsR r=ps:=by unfold itemsR; rw[a]; rfl
 rw[e];refine⟨?_,b,c,d⟩;rw[<- a,<- h2]
def nilA:AV:=.raw (.slice none 0 0)
def patsTo(rs:List Ru)(i:Nat):List AV:=(rs.take i).map (fun r=>.fz 4 ((itemsR r).map itB))++List.replicate (rs.length-i) nilA
theorem ApQ(rs:List Ru)(i:Nat)(h:i<=rs.length):(patsTo rs i).length=rs.length:=by simp[patsTo]; omega
theorem ApR(rs:List Ru)(i:Nat)(h:i<rs.length):(patsTo rs i).set i (.fz 4 ((itemsR rs[i]).map itB))=patsTo rs (i+1):=by
 unfold patsTo;rw[List.take_succ_eq_append_getElem h,List.map_append,show rs.length-i=(rs.length-(i+1))+1 by omega,List.replicate_succ,List.set_append];have hl:((rs.take i).map fun r=>AV.fz 4 ((itemsR r).map itB)).length=i:=by simp; omega
 rw[if_neg (by omega),hl,Nat.sub_self,List.set_cons_zero]
 simp
theorem ApS(rs:List Ru)(i:Nat):(flat (patsTo rs i)).all Av.frozen=true:=by
 unfold patsTo;rw[flat_append,List.all_append,Bool.and_eq_true]
 constructor
 .induction rs.take i with
  | nil=>rfl
  | cons a l ih=>simpa[flat,cellsOf,Av.frozen]using ih
 .induction rs.length-i with
  | zero=>rfl
  | succ n ih =>
   rw[List.replicate_succ]
   simpa[nilA,flat,cellsOf,Av.frozen]using ih
