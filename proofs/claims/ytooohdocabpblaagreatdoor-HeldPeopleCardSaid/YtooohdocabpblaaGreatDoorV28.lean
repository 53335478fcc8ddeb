/- board.DaysOut. -/
import Derived.Test.YtooohdocabpblaaGreatDoorV27
set_option maxRecDepth 100000
set_option maxHeartbeats 4000000
set_option linter.all false
namespace Go.Proofs.YtooohdocabpblaaGreatDoor
open Av RowKit Proofs.Tryz
def A8Z(p:Plan)(l:List BDay)(rows:List Row):Prop:=rows.length<=10/\∀ x∈rows,∃ h:0<l.length,RowOk l[0].day l[l.length-1].day (evB p l) x
theorem ArD{S:Std}(hS:LibOk S)(p:Plan)(ok:PlanOk p)(l:List BDay)(okb:BoardOk p l) :
  PcH prog S 7 [.agg (planC p),boardA l] (fun r=>∃ rows:List Row,r=.tup [.fz 4 (rows.map rowA),kI 0]/\A8Z p l rows):=by
 have hb:=AsO hS p ok l okb;have hd:=ArC (S:=S) p ok l okb;simp only[planC,boardA]at hb hd |-;refine zqIB func7 rfl fun h ρ w hg=>?_
 simp only[go_sem];refine zaH hg (hb) ?_;rintro _ _ ⟨rfl,hs⟩;rw[hs];apply zgB;simp only[go_sem];refine zaH hg (hd) ?_;rintro _ _ ⟨rows,rfl,hl,hr,V,rfl⟩;apply zgB;simp only[go_sem];exact aret [4,5] rfl ⟨⟨rows,rfl,hl,hr⟩,rfl⟩
theorem A1F(n:Int):Pc prog 84 [kI n] (fun r=>∃ b,r=.bool b/\(b=false->n<1099511627776)):=by
 cases d:decide (n>=1099511627776)with
 | true =>
  refine zpIN func84 rfl fun h ρ w=>?_
  simp only[go_sem,d];exact aret [2] rfl ⟨⟨true,rfl,by simp⟩,rfl⟩
 | false =>
  refine zpIN func84 rfl fun h ρ w=>?_
  simp only[go_sem,d];exact aret [2] rfl ⟨⟨false,rfl,fun _=>by simpa using d⟩,rfl⟩
theorem A6B{x o M:Int}(ho:0<o)(h1:-M<=x)(h2:x<=M):-M<=x.tdiv o/\x.tdiv o<=M:=by
 have h:=Int.natAbs_tdiv x o;have h3:(x.tdiv o).natAbs<=x.natAbs:=by rw[h]; exact Nat.div_le_self _ _
 clear h;generalize x.tdiv o=e at *;omega
theorem A3D{x d A B:Int}(hA:0<=A)(h1:-A<=x)(h2:x<=A)(h3:0<=d)(h4:d<=B):-(A*B)<=x*d/\x*d<=A*B:=by
 have e1:x*d<=A*d:=Int.mul_le_mul_of_nonneg_right h2 h3;have e2:A*d<=A*B:=Int.mul_le_mul_of_nonneg_left h4 hA;have e3:(-A)*d<=x*d:=Int.mul_le_mul_of_nonneg_right h1 h3;rw[Int.neg_mul]at e3;omega
theorem AlB(a b d o:Int)(ho:0<o)(h1:-3000<=a)(h2:a<=3000)(h3:-3000<=b)(h4:b<=3000)(h5:0<=d)(h6:d<=2000)(h7:o<=2000):Pc prog 266 [kI a,kI b,kI d,kI o] (fun r=>∃ n,r=kI n /\ -12100000<=n/\n<=12100000):=by
 have m1:=A3D (x:=b-a) (d:=d) (A:=6000) (B:=2000) (by omega) (by omega) (by omega) h5 h6;generalize hm:(b-a)*d=M at m1;have m2:=A6B (x:=M) (M:=12000000) ho (by omega) (by omega);generalize hq:M.tdiv o=Q at m2;have hne:¬ o=0:=by omega
 have wr:∀ n:Int,-9223372036854775808<=n->n<=9223372036854775807->IntKind.i64.wrap n=n:=fun n h1 h2=>AdC ⟨h1,h2⟩
 have w1:=wr (b-a) (by omega) (by omega);have w2:=wr M (by omega) (by omega);have w3:=wr (Q-1) (by omega) (by omega);have w4:=wr (a+(Q-1)) (by omega) (by omega);have w5:=wr (a+Q) (by omega) (by omega)
 cases dr:decide (M.tmod o<0)with
 | true =>
  refine zpIW func266 rfl fun h ρ w=>?_
  simp only[go_sem,w1,hm,w2,hq,dr,w3,w4]
  repeat refine aqf ?_
  exact aret [8] rfl ⟨⟨_,rfl,by omega,by omega⟩,rfl⟩
 | false =>
  refine zpIW func266 rfl fun h ρ w=>?_
  simp only[go_sem,w1,hm,w2,hq,dr,w5]
  repeat refine aqf ?_
  exact aret [8] rfl ⟨⟨_,rfl,by omega,by omega⟩,rfl⟩
def bd(M n:Int):Prop:=-M<=n/\n<=M
theorem AyG(x:Site)(h:SiteOk x)(day:Int)(hd1:0<=day)(hd2:day<=2000):Pc prog 244 [siteA x,kI day] (fun r=>∃ a b c d,r=.agg [kI a,kI b,kI c,kI d]/\bd 12200000 a/\bd 12200000 b/\bd 12200000 c/\bd 12200000 d):=by
 obtain⟨⟨a1,a2⟩,⟨b1,b2⟩,ha,ho⟩:=h;have p0:=AfN x.suns (show 0<x.suns.length by omega);obtain⟨⟨c1,c2⟩,c3,c4,c5⟩:=ha _ (lae (show 0<x.suns.length by omega));simp only[siteA];refine zpIB func244 rfl fun h ρ w=>?_
 simp only[go_sem,p0,sunA,laa]
 repeat refine aqf ?_
 refine zr [] AaL ?_;simp only[go_sem];apply zgB;simp only[go_sem,laa];refine AbA (ι:=Nat×Int×Int) (κ:=Int×Int) (fun y=>x.suns.length-y.1)
  (fun y=>[(22,kI y.1),(21,kI x.suns.length),(20,.fz 3 (x.suns.map sunA)),(6,kI y.2.1),(7,kI y.2.2),(1,kI day),(2,.pin 3 [.agg [.str x.key,kI x.glow,.fz 3 (x.suns.map sunA)]] 0 0),(4,.ptr 0 1 0 0)])
  (fun _=>[.arr 4 [.agg [kI 0,kI 0,kI 0,kI 0]]]) (fun y=>y.1<=x.suns.length/\bd 12100000 y.2.1/\bd 12100000 y.2.2)
  (fun y=>[(6,kI y.1),(7,kI y.2),(2,.pin 3 [.agg [.str x.key,kI x.glow,.fz 3 (x.suns.map sunA)]] 0 0),(4,.ptr 0 1 0 0)])
  (fun _=>[.arr 4 [.agg [kI 0,kI 0,kI 0,kI 0]]]) (fun y=>bd 12100000 y.1/\bd 12100000 y.2) (0,(x.suns[0]'(by omega)).rise,(x.suns[0]'(by omega)).set) ⟨by simp,⟨by simp only; omega,by simp only; omega⟩,by simp only; omega,by simp only; omega⟩ ?_ ?_ ?_
 .refine AaC [.arr 4 [.agg [kI 0,kI 0,kI 0,kI 0]]] _ rfl (by simp) rfl ?_
  simp only[go_sem]
  try rfl
 .rintro ⟨ri,se⟩ ⟨⟨e1,e2⟩,e3,e4⟩
  simp only at e1 e2 e3 e4 |-;apply zgB;simp only[go_sem]
  repeat refine aqf ?_
  exact AlS [.cell 4 363] rfl [.agg [kI (ri-x.glow),kI ri,kI se,kI (se+x.glow)]] ⟨by simp only[go_sem,sideIs],trivial⟩ ⟨⟨_,_,_,_,rfl,⟨by omega,by omega⟩,⟨by omega,by omega⟩,⟨by omega,by omega⟩,by omega,by omega⟩,rfl⟩
 rintro⟨i,ri,se⟩ ⟨g1,⟨e1,e2⟩,e3,e4⟩ J Q hJ hQ;simp only at g1 e1 e2 e3 e4 hJ hQ |-;have hq:=hQ (ri,se) ⟨⟨e1,e2⟩,e3,e4⟩
 rcases lau i x.suns.length with hi|hi
 case inr =>
  have di:decide ((i:Int)<(x.suns.length:Int))=false:=by simp; omega
  apply zgB;simp only[go_sem,di];refine ainv hq (Lg ?_ rfl);simp only[go_sem]
  try rfl
 have di:decide ((i:Int)<(x.suns.length:Int))=true:=by simp; omega
 have p1:=AfN x.suns hi;obtain⟨⟨q1,q2⟩,q3,q4,q5⟩:=ha _ (lae hi)
 cases dd:decide ((x.suns[i]).day>day)with
 | true =>
  apply zgB;simp only[go_sem,di,p1,sunA,dd,laa]
  repeat refine aqf ?_
  refine ainv hq (AaC [.arr 4 [.agg [kI 0,kI 0,kI 0,kI 0]]] _ rfl (by simp) rfl ?_);simp only[go_sem]
  try rfl
 | false =>
  have dd2:(x.suns[i]).day<=day:=by simpa using dd
  apply zgB;simp only[go_sem,di,p1,sunA,dd,laa]
  repeat refine aqf ?_
  refine zr [] AaL ?_;simp only[go_sem];clear hq;have hold:=hJ (i+1,(x.suns[i]).rise,(x.suns[i]).set) ⟨by simp only; omega,⟨by simp only; omega,by simp only; omega⟩,by simp only; omega,by simp only; omega⟩ (by simp only; omega);simp only at hold
  rcases lau (i+1) x.suns.length with hn|hn
  .have dn:decide ((i:Int)+1<(x.suns.length:Int))=true:=by simp; omega
   have p2:=AfN x.suns hn;have en:(i:Int)+1=((i+1:Nat):Int):=by omega
   obtain⟨⟨r1,r2⟩,r3,r4,r5⟩:=ha _ (lae hn);have hlt:=List.pairwise_iff_getElem.1 ho i (i+1) hi hn (by omega);have dn2:decide (((i+1:Nat):Int)<(x.suns.length:Int))=true:=by simp; omega
   cases dt:decide ((x.suns[i+1]).day>day)with
   | false =>
    apply zgB;simp only[go_sem,en,dn2,p2,sunA,dt,laa]
    repeat refine aqf ?_
    refine ainv hold (AaC [.arr 4 [.agg [kI 0,kI 0,kI 0,kI 0]]] _ rfl (by simp) rfl ?_);simp only[go_sem]
    try rfl
   | true =>
    apply zgB;simp only[go_sem,en,dn2,p2,sunA,dt,laa]
    repeat refine aqf ?_
    refine ze (AlB (x.suns[i]).rise (x.suns[i+1]).rise (day-(x.suns[i]).day) ((x.suns[i+1]).day-(x.suns[i]).day) (by omega) (by omega) (by omega) (by omega) (by omega) (by omega) (by omega) (by omega)) ?_;rintro _ ⟨n1,rfl,n2,n3⟩;apply zgB;simp only[go_sem]
    repeat refine aqf ?_
    refine ze (AlB (x.suns[i]).set (x.suns[i+1]).set (day-(x.suns[i]).day) ((x.suns[i+1]).day-(x.suns[i]).day) (by omega) (by omega) (by omega) (by omega) (by omega) (by omega) (by omega) (by omega)) ?_;rintro _ ⟨m1,rfl,m2,m3⟩;have hnew:=hJ (i+1,n1,m1) ⟨by simp only; omega,⟨by simp only; omega,by simp only; omega⟩,by simp only; omega,by simp only; omega⟩ (by simp only; omega);simp only at hnew;apply zgB;simp only[go_sem,en]
    repeat refine aqf ?_
    refine ainv hnew (AaC [.arr 4 [.agg [kI 0,kI 0,kI 0,kI 0]]] _ rfl (by simp) rfl ?_);simp only[go_sem]
    try rfl
  .have en:(i:Int)+1=((i+1:Nat):Int):=by omega
   have dn:decide (((i+1:Nat):Int)<(x.suns.length:Int))=false:=by simp; omega
   apply zgB;simp only[go_sem,en,dn,laa]
   repeat refine aqf ?_
   refine ainv hold (AaC [.arr 4 [.agg [kI 0,kI 0,kI 0,kI 0]]] _ rfl (by simp) rfl ?_);simp only[go_sem]
   try rfl
def WsOk(l:List (Int×Int)):Prop:=l.length<=2/\∀ w∈l,bd 12200000 w.1/\bd 12200000 w.2
theorem WsOk.one{a b:Int}(h1:bd 12200000 a)(h2:bd 12200000 b):WsOk [(a,b)]:=⟨by simp,fun w hw=>by rw[List.mem_singleton.1 hw]; exact⟨h1,h2⟩⟩
theorem WsOk.two{a b c d:Int}(h1:bd 12200000 a)(h2:bd 12200000 b)(h3:bd 12200000 c)(h4:bd 12200000 d):WsOk [(a,b),(c,d)]:=⟨by simp,fun w hw=>by
 simp only[lbf,List.not_mem_nil,or_false]at hw
 rcases hw with rfl|rfl
 .exact ⟨h1,h2⟩
 .exact ⟨h3,h4⟩⟩
theorem AuM(x:Site)(h:SiteOk x)(day light:Int)(hd1:0<=day)(hd2:day<=2000)(hl:0<=light/\light<=4):Pc prog 203 [siteA x,kI day,kI light] (fun r=>∃ l,r=.fz 2 (l.map spanA)/\WsOk l):=by
 have hli:=AyG x h day hd1 hd2;simp only[siteA]at hli |-;refine zpIB func203 rfl fun h ρ w=>?_
 simp only[go_sem];refine ze (hli) ?_;rintro _ ⟨a,b,c,d,rfl,ba,bb,bc,bD⟩;have cases:light=0\/light=2\/light=3\/light=1\/light=4:=by omega
 rcases cases with rfl|rfl|rfl|rfl|rfl
 case' inl=>obtain⟨L,hL,hok⟩:∃ L:List (Int×Int),[.agg [kI 0,kI 1440]]=L.map spanA/\WsOk L:=⟨[(0,1440)],rfl,.one (by unfold bd; omega) (by unfold bd; omega)⟩
 case' inr.inl=>obtain⟨L,hL,hok⟩:∃ L:List (Int×Int),[.agg [kI 0,kI a],.agg [kI d,kI 1440]]=L.map spanA/\WsOk L:=⟨[(0,a),(d,1440)],rfl,.two (by unfold bd; omega) ba bD (by unfold bd; omega)⟩
 case' inr.inr.inl=>obtain⟨L,hL,hok⟩:∃ L:List (Int×Int),[.agg [kI a,kI b]]=L.map spanA/\WsOk L:=⟨[(a,b)],rfl,.one ba bb⟩
 case' inr.inr.inr.inl=>obtain⟨L,hL,hok⟩:∃ L:List (Int×Int),[.agg [kI b,kI c]]=L.map spanA/\WsOk L:=⟨[(b,c)],rfl,.one bb bc⟩
 case' inr.inr.inr.inr=>obtain⟨L,hL,hok⟩:∃ L:List (Int×Int),[.agg [kI c,kI d]]=L.map spanA/\WsOk L:=⟨[(c,d)],rfl,.one bc bD⟩
 all_goals
  have hlen:=congrArg List.length hL;simp only[lan,lbm,laa,lbc]at hlen;apply zgB;simp only[go_sem];simp only[hL];refine AWp.shift (AaC (e':=[(55,kI 0),(54,kI L.length),(53,.fz 2 (L.map spanA)),(9,.raw (.slice none 0 0))]) [] _ rfl (by simp) rfl (by
   simp only[go_sem,<- hlen]
   try rfl)) ?_
  refine AWp.shift (Shift.nilsl 9 2 rfl) ?_;clear hL hlen hli;refine AbP (ι:=Nat×List (Int×Int)) (fun y=>L.length-y.1) (fun y=>[(55,kI y.1),(54,kI L.length),(53,.fz 2 (L.map spanA)),(9,.sl 0 0 y.2.length y.2.length)]) (fun y=>[.arr 2 (y.2.map spanA)])
   (fun y=>y.1<=L.length/\y.2.length<=y.1/\∀ w∈y.2,w∈L) (0,[]) ⟨by simp,by simp,by simp⟩ ?_ ?_
  .refine Lg ?_ rfl
   simp only[go_sem]
   try rfl
  rintro⟨i,out⟩ ⟨g1,g2,g3⟩ J hJ;simp only at g1 g2 g3 hJ |-;have hL2:=hok.1
  rcases lau i L.length with hi|hi
  case inr =>
   have di:decide ((i:Int)<(L.length:Int))=false:=by simp; omega
   refine AWp.shift (Shift.trans (Shift.frz 0 rfl (AhM out)) (Lg (e':=[(55,kI i),(54,kI L.length),(53,.fz 2 (L.map spanA)),(9,.fz 2 (out.map spanA))]) ?_ rfl)) ?_
   .simp only[frzE,frz,frz1,go_sem,laa,lal,laf (show(out.map spanA).length<=out.length by simp)]
    try rfl
   apply zgB;simp only[go_sem,di];exact aret [6] rfl ⟨⟨out,rfl,by omega,fun w hw=>hok.2 w (g3 w hw)⟩,rfl⟩
  have di:decide ((i:Int)<(L.length:Int))=true:=by simp; omega
  have p1:=AfO L hi;have hno:=hJ (i+1,out) ⟨by simp only; omega,by simp only; omega,g3⟩ (by simp only; omega);have hyes:=hJ (i+1,out++[L[i]]) ⟨by simp only; omega,by simp; omega,fun w hw=>by
   rcases List.mem_append.1 hw with hw|hw
   .exact g3 w hw
   .rw [List.mem_singleton.1 hw]; exact lae hi⟩ (by simp only; omega)
  simp only[lat,lan,lbm,lav,lak,List.map_nil,spanA,lbc]at hno hyes;clear hJ
  cases dd:decide ((L[i]).1<(L[i]).2)with
  | true =>
   apply zgB;simp only[go_sem,di,p1,spanA,dd,laa]
   repeat refine aqi ?_
   have lr:=AbV (n:=1) (AhM (out++[L[i]]));simp only[lav,lak,List.map_nil,spanA]at lr;rw[ic i];refine ainv hyes (AaC [.arr 2 (out.map spanA++[.agg [kI (L[i]).1,kI (L[i]).2]])] _ rfl (by simp) (by
    show(lowB 1 _&&true)=true
    rw[show lowB 1 (.arr 2 (out.map spanA++[.agg [kI (L[i]).1,kI (L[i]).2]]))=true from lr]; rfl) ?_)
   simp only[go_sem]
   try rfl
  | false =>
   apply zgB;simp only[go_sem,di,p1,spanA,dd,laa]
   repeat refine aqf ?_
   rw[ic i];refine ainv hno (AaC [.arr 2 (out.map spanA)] _ rfl (by simp) (by
    show(lowB 1 _&&true)=true
    rw[show lowB 1 (.arr 2 (out.map spanA))=true from AbV (AhM out)]; rfl) ?_)
   simp only[go_sem]
   try rfl
theorem A9A(x:Site)(h:SiteOk x)(light fr mi:Int)(hl:0<=light/\light<=4)(h1:0<=fr)(h2:fr<2881440)(h3:1<=mi)(h4:mi<=1440):Pc prog 149 [siteA x,kI light,kI fr,kI mi] (fun r=>∃ n,r=kI n /\ -1<=n/\n<=30000000):=by
 have hw:=fun day d1 d2=>AuM x h day light d1 d2 hl
 simp only[siteA]at hw |-;refine zpIB func149 rfl fun h ρ w=>?_
 simp only[go_sem]
 repeat refine aqf ?_
 refine AbP (ι:=Int×Int×Int) (fun y=>(2001-y.1).toNat)
  (fun y=>[(11,kI y.1),(9,kI y.2.1),(10,kI y.2.2),(4,.pin 3 [.agg [.str x.key,kI x.glow,.fz 3 (x.suns.map sunA)]] 0 0),(1,kI light),(2,kI fr),(3,kI mi)])
  (fun _=>[]) (fun y=>0<=y.1/\y.1<=2001/\bd 20000000 y.2.1/\bd 20000000 y.2.2) (fr / 1440,-1,-1) ⟨by simp only; omega,by simp only; omega,by unfold bd; simp only; omega,by unfold bd; simp only; omega⟩ ?_ ?_
 .refine Ld ?_
  simp only[go_sem]
  try rfl
 rintro⟨day,be,st⟩ ⟨g1,g2,⟨g3,g4⟩,g5,g6⟩ J hJ;simp only at g1 g2 g3 g4 g5 g6 hJ |-
 cases dd:decide (day<=2000)with
 | false =>
  apply zgB;simp only[go_sem,dd];exact aret [8] rfl ⟨⟨_,rfl,by omega,by omega⟩,rfl⟩
 | true =>
  have hday:day<=2000:=by simpa using dd
  apply zgB;simp only[go_sem,dd];refine ze (hw day g1 hday) ?_;rintro _ ⟨L,rfl,hL2,hL⟩;apply zgB;simp only[go_sem,laa];refine AbA (ι:=Nat×Int×Int) (κ:=Int×Int) (fun y=>L.length-y.1)
   (fun y=>[(28,kI y.1),(27,kI L.length),(26,.fz 2 (L.map spanA)),(11,kI day),(9,kI y.2.1),(10,kI y.2.2),(4,.pin 3 [.agg [.str x.key,kI x.glow,.fz 3 (x.suns.map sunA)]] 0 0),(1,kI light),(2,kI fr),(3,kI mi)])
   (fun _=>[]) (fun y=>y.1<=L.length/\bd 20000000 y.2.1/\bd 20000000 y.2.2)
   (fun y=>[(11,kI day),(9,kI y.1),(10,kI y.2),(4,.pin 3 [.agg [.str x.key,kI x.glow,.fz 3 (x.suns.map sunA)]] 0 0),(1,kI light),(2,kI fr),(3,kI mi)])
   (fun _=>[]) (fun y=>bd 20000000 y.1/\bd 20000000 y.2) (0,be,st) ⟨by simp,⟨g3,g4⟩,g5,g6⟩ ?_ ?_ ?_
  .refine Ld ?_
   simp only[go_sem]
   try rfl
  .rintro ⟨be2,st2⟩ ⟨k1,k2⟩
   have hfin:=hJ (day+1,be2,st2) ⟨by simp only; omega,by simp only; omega,k1,k2⟩ (by simp only; omega);simp only at hfin |-;apply zgB;simp only[go_sem]
   repeat refine aqf ?_
   refine ainv hfin (Ld ?_);simp only[go_sem]
   try rfl
  clear hJ g3 g4 g5 g6;rintro⟨i,be,st⟩ ⟨q1,⟨g3,g4⟩,g5,g6⟩ J2 Q2 hJ hQ;simp only at q1 g3 g4 g5 g6 hJ hQ |-
  rcases lau i L.length with hi|hi
  case inr =>
   have di:decide ((i:Int)<(L.length:Int))=false:=by simp; omega
   have hfin:=hQ (be,st) ⟨⟨g3,g4⟩,g5,g6⟩;apply zgB;simp only[go_sem,di];refine ainv hfin (Ld ?_);simp only[go_sem]
   try rfl
  have di:decide ((i:Int)<(L.length:Int))=true:=by simp; omega
  have p1:=AfO L hi;obtain⟨⟨w1,w2⟩,w3,w4⟩:=hL _ (lae hi);have hnx:=fun be' (hb:bd 20000000 be')=>hJ (i+1,be',day*1440+(L[i]).2) ⟨by simp only; omega,hb,by unfold bd; simp only; omega⟩ (by simp only; omega)
  simp only at hnx;clear hJ hQ;apply zgB;simp only[go_sem,di,p1,spanA,laa]
  repeat refine aqf ?_
  refine zr [] AaL ?_;simp only[go_sem]
  repeat refine aqf ?_
  generalize (L[i]).1=u1 at *;generalize (L[i]).2=u2 at *;apply zgB;simp only[go_sem];refine⟨fun c=>?_,fun c=>?_⟩
  .obtain ⟨mx,hmx,m1,m2⟩:∃ mx,mx=(if day*1440+u1<fr then fr else day*1440+u1)/\fr<=mx/\mx<=20000000:=⟨_,rfl,by split <;> omega,by split <;> omega⟩
   rw[<- hmx];have hf:=hnx (day*1440+u1) ⟨by omega,by omega⟩;refine⟨by omega,by omega,fun _=>?_,fun _=>?_⟩
   .exact aret [8] rfl ⟨⟨_,rfl,by omega,by omega⟩,rfl⟩
   .repeat refine aqf ?_
    rw[ic i];refine ainv hf (AbG (hc:=rfl) _ ?_);simp only[go_sem]
    try rfl
  .obtain ⟨mx,hmx,m1,m2⟩:∃ mx,mx=(if be<fr then fr else be)/\fr<=mx/\mx<=20000000:=⟨_,rfl,by split <;> omega,by split <;> omega⟩
   rw[<- hmx];have hf:=hnx (be) ⟨by omega,by omega⟩;refine⟨by omega,by omega,fun _=>?_,fun _=>?_⟩
   .exact aret [8] rfl ⟨⟨_,rfl,by omega,by omega⟩,rfl⟩
   .repeat refine aqf ?_
    rw[ic i];refine ainv hf (AbG (hc:=rfl) _ ?_);simp only[go_sem]
    try rfl
theorem AsQ(x:Site)(h:SiteOk x)(light fr mi:Int)(hl:0<=light/\light<=4)(h1:0<=fr)(h3:1<=mi)(h4:mi<=1440):Pc prog 85 [siteA x,kI light,kI fr,kI mi] (fun r=>∃ n,r=kI n /\ -1<=n/\n<=30000000):=by
 cases d:decide (fr>=2881440)with
 | true =>
  simp only[siteA];refine zpIB func85 rfl fun h ρ w=>?_
  simp only[go_sem,d];exact aret [8] rfl ⟨⟨_,rfl,by omega,by omega⟩,rfl⟩
 | false =>
  have hf:=A9A x h light fr mi hl h1 (by simp at d; omega) h3 h4;simp only[siteA]at hf |-;refine zpIB func85 rfl fun h ρ w=>?_
  simp only[go_sem,d];refine ze (hf) ?_;rintro _ ⟨n,rfl,n1,n2⟩;apply zgB;simp only[go_sem];exact aret [8] rfl ⟨⟨_,rfl,n1,n2⟩,rfl⟩
def farN:Int:=1099511627776
def lenM(l:List (LU×Int)):List (AV×AV):=l.map fun x=>(.str x.1,kI x.2)
theorem ApE(k:LU):∀ (n:Nat)(l:List (LU×Int)),k ∉ l.map (·.1)->mfind .string (.str k) (lenM l) n=some none
 | _,[],_=>rfl
 | n,x::l,h=>by
  simp only[lak,lbf,not_or]at h;have h1:(k==x.1)=false:=by simpa using h.1
  simp only[lenM,lak,mfind,keyEq,h1];exact ApE k (n+1) l h.2
theorem AcB(k:LU):∀ (n:Nat)(l:List (LU×Int)),k∈l.map (·.1)->∃ j v,mfind .string (.str k) (lenM l) n=some (some (n+j,kI v))/\l[j]? = some (k,v)
 | _,[],h=>by simp at h
 | n,x::l,h=>by
  by_cases h1:k=x.1
  .subst h1
   exact⟨0,x.2,by simp[lenM,mfind,keyEq],by simp⟩
  .obtain ⟨j,v,hj,h2⟩:=AcB k (n+1) l (by simpa[h1]using h)
   have h4:(k==x.1)=false:=by simpa using h1
   refine⟨j+1,v,?_,by simpa using h2⟩;simp only[lenM,lak,mfind,keyEq,h4];rw[show n+(j+1)=n+1+j by omega];exact hj
theorem AfX(l:List (LU×Int))(j:Nat)(k:LU)(v:Int):(lenM l).set j (.str k,kI v)=lenM (l.set j (k,v)):=by simp[lenM,List.map_set]
theorem ApF(l:List (LU×Int))(k:LU)(v:Int):lenM (l++[(k,v)])=lenM l++[(.str k,kI v)]:=by simp[lenM]
theorem AmV(n:Nat)(l:List (LU×Int)):lowB n (.mp (lenM l))=true:=by simp[lowB,lenM,lowV,lowC,Av.frozen]
structure LenOk(ks:List LU)(l:List (LU×Int)):Prop where
 keys:l.map (·.1)=ks
 vals:∀ x∈l,0<=x.2/\x.2<=farN
theorem LenOk.put{ks:List LU}{l:List (LU×Int)}(h:LenOk ks l){j:Nat}{k:LU}{v w:Int}(hj:l[j]? = some (k,v))(hw:0<=w/\w<=farN):LenOk ks (l.set j (k,w)):=by
 obtain⟨hlt,he⟩:=List.getElem?_eq_some_iff.1 hj;refine⟨?_,fun x hx=>?_⟩
 .rw [List.map_set,<- h.keys]
  refine List.ext_getElem (by simp) fun n h2 h3=>?_
  rw[List.getElem_set]
  split
  .rename_i e; subst e; simp[he]
  .rfl
 .rcases List.mem_or_eq_of_mem_set hx with hx|rfl
  .exact h.vals x hx
  .exact hw
theorem AuN(c:Crew)(ok:CrewOk c)(tk:LU)(hto:tk∈c.sites.map (·.key)):Ct prog 202 [.agg (crewC c),.str tk] [] (fun r s=>r=.mp 0/\∃ l,s=[.mp (lenM l)]/\LenOk (c.sites.map (·.key)) l):=by
 obtain⟨-,-,⟨s1,s2,s3,s4⟩,r1,r2,r3⟩:=ok;obtain⟨ns,ks⟩:=AcA s3 (by decide);simp only[crewC];refine zcIB func202 rfl fun h ρ w=>?_
 simp only[go_sem,laa];refine AbA (ι:=Nat) (κ:=Unit) (fun i=>c.sites.length-i)
  (fun i=>[(16,kI i),(15,kI c.sites.length),(14,.fz 3 (c.sites.map siteA)),(5,.mp 0),(1,.str tk),(2,.pin 4 [.agg [.fz 5 (c.minors.map minorA),.fz 9 (c.people.map persA),.fz 3 (c.sites.map siteA),.fz 3 (c.roads.map roadA)]] 0 0)])
  (fun i=>[.mp (lenM ((c.sites.take i).map fun x=>(x.key,farN)))]) (fun i=>i<=c.sites.length)
  (fun i=>[(5,.mp 0),(1,.str tk),(2,.pin 4 [.agg [.fz 5 (c.minors.map minorA),.fz 9 (c.people.map persA),.fz 3 (c.sites.map siteA),.fz 3 (c.roads.map roadA)]] 0 0)])
  (fun _=>[.mp (lenM (c.sites.map fun x=>(x.key,farN)))]) (fun _=>True) 0 (by simp) ?_ ?_ ?_
 .refine Lg ?_ rfl
  simp only[go_sem]
  try rfl
 .rintro ⟨⟩ -
  have h0:LenOk (c.sites.map (·.key)) (c.sites.map fun x=>(x.key,farN)):=⟨by simp,fun x hx=>by
   obtain⟨y,-,rfl⟩:=List.mem_map.1 hx
   simp[farN]⟩
  generalize (c.sites.map fun x=>(x.key,farN))=l0 at h0 |-;obtain⟨j0,v0,f0,e0⟩:=AcB tk 0 l0 (by rw[h0.keys]; exact hto);have h1:=h0.put e0 (w:=0) (by simp[farN]);have hs0:=AfX l0 j0 tk 0;rw[lbc]at f0;apply zgB;simp only[go_sem,f0,hs0,laa];generalize l0.set j0 (tk,0)=l1 at h1 |-;clear h0 f0 hs0 e0 l0;refine AbP (ι:=Nat×List (LU×Int)) (fun y=>c.sites.length-y.1) (fun y=>[(29,kI y.1),(28,kI c.sites.length),(5,.mp 0),(2,.pin 4 [.agg [.fz 5 (c.minors.map minorA),.fz 9 (c.people.map persA),.fz 3 (c.sites.map siteA),.fz 3 (c.roads.map roadA)]] 0 0)]) (fun y=>[.mp (lenM y.2)])
   (fun y=>y.1<=c.sites.length/\LenOk (c.sites.map (·.key)) y.2) (0,l1) ⟨by simp,h1⟩ ?_ ?_
  .refine Lg ?_ rfl
   simp only[go_sem]
   try rfl
  rintro⟨i,l⟩ ⟨g1,g2⟩ J hJ;simp only at g1 g2 hJ |-
  rcases lau i c.sites.length with hi|hi
  case inr =>
   have di:decide ((i:Int)<(c.sites.length:Int))=false:=by simp; omega
   apply zgB;simp only[go_sem,di];exact aret [4] rfl ⟨rfl,l,rfl,g2⟩
  have di:decide ((i:Int)<(c.sites.length:Int))=true:=by simp; omega
  apply zgB;simp only[go_sem,di,laa];refine AbA (ι:=Nat×List (LU×Int)) (κ:=List (LU×Int)) (fun y=>c.roads.length-y.1)
   (fun y=>[(34,kI y.1),(33,kI c.roads.length),(32,.fz 3 (c.roads.map roadA)),(29,kI i),(28,kI c.sites.length),(5,.mp 0),(2,.pin 4 [.agg [.fz 5 (c.minors.map minorA),.fz 9 (c.people.map persA),.fz 3 (c.sites.map siteA),.fz 3 (c.roads.map roadA)]] 0 0)]) (fun y=>[.mp (lenM y.2)])
   (fun y=>y.1<=c.roads.length/\LenOk (c.sites.map (·.key)) y.2) (fun _=>[(29,kI i),(28,kI c.sites.length),(5,.mp 0),(2,.pin 4 [.agg [.fz 5 (c.minors.map minorA),.fz 9 (c.people.map persA),.fz 3 (c.sites.map siteA),.fz 3 (c.roads.map roadA)]] 0 0)]) (fun y=>[.mp (lenM y)]) (fun y=>LenOk (c.sites.map (·.key)) y) (0,l) ⟨by simp,g2⟩ ?_ ?_ ?_
  .refine Lg ?_ rfl
   simp only[go_sem]
   try rfl
  .rintro l2 h2
   have hf:=hJ (i+1,l2) ⟨by simp only; omega,h2⟩ (by simp only; omega);simp only at hf;apply zgB;simp only[go_sem]
   repeat refine aqf ?_
   refine ainv hf (Lg ?_ rfl);simp only[go_sem]
   try rfl
  clear hJ g2;rintro⟨q,l⟩ ⟨g1,g2⟩ J Q hJ hQ;simp only at g1 g2 hJ hQ |-
  rcases lau q c.roads.length with hq|hq
  case inr =>
   have dq:decide ((q:Int)<(c.roads.length:Int))=false:=by simp; omega
   have hf:=hQ l g2;apply zgB;simp only[go_sem,dq];refine ainv hf (Lg ?_ rfl);simp only[go_sem]
   try rfl
  have dq:decide ((q:Int)<(c.roads.length:Int))=true:=by simp; omega
  have p1:=AoE c.roads hq;obtain⟨ra,rb,rl,rm1,rm2⟩:=r2 _ (lae hq);obtain⟨ja,va,fa,ea⟩:=AcB _ 0 l (by rw[g2.keys]; exact ra);obtain⟨jb,vb,fb,eb⟩:=AcB _ 0 l (by rw[g2.keys]; exact rb);rw[lbc]at fa fb;have ha:=g2.vals _ (laj ea);have hb:=g2.vals _ (laj eb);simp only[farN]at ha hb;apply zgB;simp only[go_sem,dq,p1,roadA,laa]
  repeat refine aqf ?_
  refine zr [] AaL ?_;simp only[go_sem,fa,fb];refine AxA [18,19] [] 2 0 [[0,1,2,3,4,5,6,7,8,9,10,11,12,13,14,15,16,17,18,19],[0,1,2,3,4,5,6,7,8,9,10,11,12,13,14,15,16,17,19,18]]
   (fun _=>.any) (fun _ s=>(.any,s)) AaL (AiZ [18,19] (by decide +kernel)) (by decide +kernel) (by decide +kernel) rfl rfl 100 ?_
  simp only[lbf,List.not_mem_nil,or_false,forall_eq_or_imp,forall_eq];refine⟨?_,?_⟩
  .have h1:=g2.put ea (w:=(if vb+(c.roads[q]).m<va then vb+(c.roads[q]).m else va)) (by unfold farN; split <;> omega)
   obtain⟨j2,v2,f2,e2⟩:=AcB (c.roads[q]).b 0 (l.set ja ((c.roads[q]).a,(if vb+(c.roads[q]).m<va then vb+(c.roads[q]).m else va))) (by rw[h1.keys]; assumption);rw[lbc]at f2;have h2:=h1.put e2 (w:=(if va+(c.roads[q]).m<vb then va+(c.roads[q]).m else vb)) (by unfold farN; split <;> omega);have t1:=AfX l ja (c.roads[q]).a (if vb+(c.roads[q]).m<va then vb+(c.roads[q]).m else va);have t2:=AfX (l.set ja ((c.roads[q]).a,(if vb+(c.roads[q]).m<va then vb+(c.roads[q]).m else va))) j2 (c.roads[q]).b (if va+(c.roads[q]).m<vb then va+(c.roads[q]).m else vb);have hf:=hJ (q+1,_) ⟨by simp only; omega,h2⟩ (by simp only; omega);simp only at hf;clear hJ hQ;simp only[go_sem,Go.Av.dxy,Go.Av.dxyc,Go.Av.pix,Go.Av.gOnB,↓Go.Av.AcP,↓Go.Av.AbX,Go.Av.dbry,List.filterMap_cons,List.filterMap_nil,fa,t1,f2,t2]
   repeat refine And.intro (by first|omega|rfl|(exact fun i h1 h2=>by rcases i with _|_|i <;> first|rfl|omega)|(simp; done)) ?_
   apply zgB;simp only[go_sem]
   repeat refine aqf ?_
   rw[ic q];refine ainv hf (AaC [.mp (lenM _)] _ rfl (by simp) (by show(lowB 1 _&&true)=true; rw[AmV]; rfl) ?_);simp only[go_sem]
   try rfl
  .have h1:=g2.put eb (w:=(if va+(c.roads[q]).m<vb then va+(c.roads[q]).m else vb)) (by unfold farN; split <;> omega)
   obtain⟨j2,v2,f2,e2⟩:=AcB (c.roads[q]).a 0 (l.set jb ((c.roads[q]).b,(if va+(c.roads[q]).m<vb then va+(c.roads[q]).m else vb))) (by rw[h1.keys]; assumption);rw[lbc]at f2;have h2:=h1.put e2 (w:=(if vb+(c.roads[q]).m<va then vb+(c.roads[q]).m else va)) (by unfold farN; split <;> omega);have t1:=AfX l jb (c.roads[q]).b (if va+(c.roads[q]).m<vb then va+(c.roads[q]).m else vb);have t2:=AfX (l.set jb ((c.roads[q]).b,(if va+(c.roads[q]).m<vb then va+(c.roads[q]).m else vb))) j2 (c.roads[q]).a (if vb+(c.roads[q]).m<va then vb+(c.roads[q]).m else va);have hf:=hJ (q+1,_) ⟨by simp only; omega,h2⟩ (by simp only; omega);simp only at hf;clear hJ hQ;simp only[go_sem,Go.Av.dxy,Go.Av.dxyc,Go.Av.pix,Go.Av.gOnB,↓Go.Av.AcP,↓Go.Av.AbX,Go.Av.dbry,List.filterMap_cons,List.filterMap_nil,fb,t1,f2,t2]
   repeat refine And.intro (by first|omega|rfl|(exact fun i h1 h2=>by rcases i with _|_|i <;> first|rfl|omega)|(simp; done)) ?_
   apply zgB;simp only[go_sem]
   repeat refine aqf ?_
   rw[ic q];refine ainv hf (AaC [.mp (lenM _)] _ rfl (by simp) (by show(lowB 1 _&&true)=true; rw[AmV]; rfl) ?_);simp only[go_sem]
   try rfl
 .intro i g1 J Q hJ hQ
  rcases lau i c.sites.length with hi|hi
  case inr =>
   have di:decide ((i:Int)<(c.sites.length:Int))=false:=by simp; omega
   have hf:=hQ () trivial;rw[laf (by omega)];apply zgB;simp only[go_sem,di];refine ainv hf (Lg ?_ rfl);simp only[go_sem]
   try rfl
  have di:decide ((i:Int)<(c.sites.length:Int))=true:=by simp; omega
  have p1:=AcO c.sites hi;have hi':i<(c.sites.map (·.key)).length:=by simpa using hi
  have hn:=AeJ ns hi';rw[show(c.sites.map (·.key))[i]=c.sites[i].key by simp]at hn;have f1:=ApE c.sites[i].key 0 ((c.sites.take i).map fun x=>(x.key,farN)) (by
   rw[List.map_map];rw[<- List.map_take]at hn;exact hn)
  have hf:=hJ (i+1) (by omega) (by omega);rw[lag hi,lav,lak,List.map_nil,ApF]at hf;have hlen:(lenM ((c.sites.take i).map fun x=>(x.key,farN))).length<=1000:=by simp[lenM]; omega
  have lM:=AmV 1 ((c.sites.take i).map (fun x=>(x.key,farN))++[(c.sites[i].key,farN)]);rw[ApF]at lM;generalize lenM ((c.sites.take i).map fun x=>(x.key,farN))=M at f1 hf hlen lM |-;generalize c.sites[i]=y at *;clear hJ hQ;simp only[farN]at hf lM;apply zgB;simp only[go_sem,di,p1,siteA,f1,laa]
  repeat refine aqf ?_
  rw[ic i];refine ainv hf (AaC [.mp (M++[(.str y.key,kI 1099511627776)])] _ rfl (by simp) (by show(lowB 1 _&&true)=true; rw[lM]; rfl) ?_);simp only[go_sem]
  try rfl
theorem A1G(c:Crew)(ok:CrewOk c)(tk:LU)(hto:tk∈c.sites.map (·.key)):Ct prog 148 [.agg (crewC c),.str tk] [] (fun r s=>r=.mp 0/\∃ l,s=[.mp (lenM l)]/\LenOk (c.sites.map (·.key)) l):=by
 have hl:=AuN c ok tk hto;simp only[crewC]at hl |-;refine zcIB func148 rfl fun h ρ w=>?_
 simp only[go_sem];refine za (hl) ?_;rintro _ _ ⟨rfl,l,rfl,h⟩;apply zgB;simp only[go_sem];exact aret [4] rfl ⟨rfl,l,rfl,h⟩
theorem A1H(c:Crew)(ok:CrewOk c)(tk:LU)(hto:tk∈c.sites.map (·.key))(s:LB):Ct prog 148 [.agg (crewC c),.str tk] s (fun r s'=>r=.mp s.length/\∃ l,s'=s++[.mp (lenM l)]/\LenOk (c.sites.map (·.key)) l):=by
 have h:=Ct.liftN (A1G c ok tk hto) rfl (by rintro _ _ ⟨-,l,rfl,-⟩; simp[mpOk,lenM]) s;refine⟨h.1,fun hh ρ w vs m r=>(h.2 hh ρ w vs m r).mono ?_⟩;rintro en w' ⟨v,r,s1,h',ρ',e1,⟨r0,s0,⟨rfl,l,rfl,hl⟩,rfl,rfl⟩,rest⟩;refine⟨v,_,_,h',ρ',e1,⟨by show AV.mp (0+s.length)=_; rw[lbc],l,?_,hl⟩,rest⟩
 simp[shB,lenM]
 exact fun _ _ _=>rfl
def drM(es:List (LU×Nat)):List (AV×AV):=es.map fun x=>(.str x.1,.mp x.2)
theorem AmW(k:LU):∀ (es:List (LU×Nat))(n:Nat),(mfind .string (.str k) (drM es) n=some none/\k ∉ es.map (·.1))\/∃ i m,mfind .string (.str k) (drM es) n=some (some (n+i,.mp m))/\(k,m)∈es
 | [],n=>.inl ⟨rfl,by simp⟩
 | g::r,n=>by
  simp only[drM,lak,mfind,keyEq]
  cases hb:k==g.1 with
  | true =>
   have:k=g.1:=by simpa using hb
   exact .inr ⟨0,g.2,rfl,by subst this; simp⟩
  | false =>
   have hb':k≠g.1:=by simpa using hb
   rcases AmW k r (n+1)with⟨h,h'⟩|⟨i,m,h1,h2⟩
   .exact .inl ⟨h,by simp only[lak,lbf,not_or]; exact⟨hb',h'⟩⟩
   .refine .inr ⟨i+1,m,?_,by simp[h2]⟩
    simp only;rw[show n+(i+1)=n+1+i by omega];exact h1
structure DrOk(p:Plan)(es:List (LU×Nat))(T:LB):Prop where
 keys:(es.map (·.1)).Nodup
 blk:∀ x∈es,∃ j l,x.2=j+4/\T[j]? = some (.mp (lenM l))/\LenOk (p.crew.sites.map (·.key)) l
theorem AyH{S:Std}(p:Plan)(ok:PlanOk p)(es:List (LU×Nat))(T:LB)(hdr:DrOk p es T)(a b:LU)(ha:a∈p.crew.sites.map (·.key))(hb:b∈p.crew.sites.map (·.key)) :
  CtH prog S 82 [.ptr 3 1 0 0,.str a,.str b] (dkT p (drM es) T) (fun r s=>∃ v es' V,r=kI v/\0<=v/\v<=farN/\s=dkT p (drM es') (T++V)/\DrOk p es' (T++V)):=by
 rcases AmW b es 0 with⟨f1,hnb⟩|⟨i,m,f1,hm⟩
 .simp only [dkT,deskB,planC,lah,lax]
  refine zdIN func82 rfl fun h ρ w hg=>?_
  have hr:=A1H p.crew ok.crew b hb;simp only[crewC]at hr;simp only[go_sem,undD,tsD,f1];refine AoL [11] 2 [] AaL (by decide) rfl rfl 100 ?_;simp only[go_sem,Go.Av.dxn,Go.Av.dxnc,↓Go.Av.AbF,↓Go.Av.AaY,Go.Av.dbrn,undD,tsD,f1]
  repeat refine aqf ?_
  refine icc (hr _) ⟨_,_,rfl,(p.crew.sites.map fun x=>(x.key,farN)),rfl,⟨by simp,fun x hx=>by
   obtain⟨y,-,rfl⟩:=List.mem_map.1 hx
   simp[farN]⟩⟩ ?_
  rintro _ _ ⟨rfl,l,rfl,hl⟩;refine⟨Agr.push' (by simp) _,?_⟩;have e0:(drM es).length=es.length:=by simp[drM]
  simp only[lah,lax];simp only[go_sem,Go.Av.dxn,Go.Av.dxnc,↓Go.Av.AbF,↓Go.Av.AaY,Go.Av.dbrn,undD,tsD,f1];obtain⟨ja,va,fa,ea⟩:=AcB a 0 l (by rw[hl.keys]; exact ha);have hv:=hl.vals _ (laj ea);obtain⟨i2,m2,f2,hm2⟩:∃ i m,mfind .string (.str b) (drM (es++[(b,T.length+1+1+1+1)])) 0=some (some (i,.mp m))/\m=T.length+1+1+1+1:=by
   rcases AmW b (es++[(b,T.length+1+1+1+1)]) 0 with⟨-,h2⟩|⟨i,m,h1,h2⟩
   .exact absurd (by simp) h2
   .refine ⟨_,m,h1,?_⟩
    rcases List.mem_append.1 h2 with h3|h3
    .exact absurd (List.mem_map.2 ⟨_,h3,rfl⟩) hnb
    .simpa using h3
  subst hm2;have e1:drM es++[(.str b,.mp (T.length+1+1+1+1))]=drM (es++[(b,T.length+1+1+1+1)]):=by simp[drM]
  rw[e1];have hdr2:DrOk p (es++[(b,T.length+1+1+1+1)]) (T++[.mp (lenM l)]):=by
   refine⟨?_,fun x hx=>?_⟩
   .rw [lav,List.nodup_append]
    exact⟨hdr.keys,by simp,fun y hy z hz=>by simp at hz; subst hz; exact fun e=>hnb (e▸hy)⟩
   .rcases List.mem_append.1 hx with hx|hx
    .obtain ⟨j,l2,h1,h2,h3⟩:=hdr.blk x hx
     exact⟨j,l2,h1,by rw[lao (List.getElem?_eq_some_iff.1 h2).1]; exact h2,h3⟩
    .rw [List.mem_singleton.1 hx]
     exact⟨T.length,l,rfl,by simp,hl⟩
  apply zgN;simp only[go_sem,undD,tsD,f2,fa,gt_at0];exact aret [6] rfl ⟨va,_,_,rfl,hv.1,hv.2,rfl,hdr2⟩
 .obtain ⟨j,l,rfl,hT,hl⟩:=hdr.blk _ hm
  obtain⟨ja,va,fa,ea⟩:=AcB a 0 l (by rw[hl.keys]; exact ha);have hT2:T.getD j .dead=.mp (lenM l):=by rw[lam,hT]; rfl
  simp only[dkT,deskB,planC,lah,lax];refine zdIN func82 rfl fun h ρ w hg=>?_
  simp only[go_sem,undD,tsD,f1,fa,hT2];have hv:=hl.vals _ (laj ea);exact aret [6] rfl ⟨va,es,[],rfl,hv.1,hv.2,by rw[lbn],by rw[lbn]; exact hdr⟩
