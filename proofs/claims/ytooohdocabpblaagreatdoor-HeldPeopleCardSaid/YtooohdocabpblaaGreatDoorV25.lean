/- A right crew is accepted. -/
import Derived.Test.YtooohdocabpblaaGreatDoorV24
set_option maxRecDepth 100000
set_option maxHeartbeats 4000000
set_option linter.all false
namespace Go.Proofs.YtooohdocabpblaaGreatDoor
open Av RowKit Proofs.Tryz
theorem AaC{c:Cx}{e e':Env}{s:LB}(U V:LB)(hs:s=U++V)(hc:c.sto.length<=U.length)(hU:U.all (lowB U.length)=true)(hw:wkl U.length e e'):Shift c e s e' U:=by
 subst hs;have:=AeG (c:=c) (e:=e) (e':=e') [] U V rfl (by simpa using hc) rfl (by simpa using hU) (by simpa using hw)
 simpa using this
def endsA(x:Road):AV:=.agg [.str x.a,.str x.b]
def endsM(l:List Road):List (AV×AV):=l.map fun x=>(endsA x,.bool true)
abbrev endsFs:List Field:=[{ name:= "a",type:=9,offset:=0,embedded:=false,tag:= "",pkgPath:= "backlot/crew",byteOffset:=0 },{ name:= "b",type:=9,offset:=1,embedded:=false,tag:= "",pkgPath:= "backlot/crew",byteOffset:=16 }]
theorem keyEnds(x y:Road):keyEqS prog endsFs (endsA x) (endsA y)=some (x.a==y.a&&x.b==y.b):=by
 simp only[keyEqS,endsA,endsFs,lan,lbm,decide_true,Bool.and_self,lai,eqFs,underlying9,leafEq,bothB,if_true,lbg]
theorem AkX(x:Road):∀ (n:Nat)(l:List Road),(∀ y∈l,¬ (x.a=y.a/\x.b=y.b))->mfindS prog endsFs (endsA x) (endsM l) n=some none
 | _,[],_=>rfl
 | n,y::l,h=>by
  have h0:=h y (by simp);have h1:(x.a==y.a&&x.b==y.b)=false:=by
   cases a:x.a==y.a <;> cases b:x.b==y.b <;> simp_all
  simp only[endsM,lak,mfindS,keyEnds,h1];exact AkX x (n+1) l fun z hz=>h z (by simp[hz])
theorem AkY(l:List Road)(x:Road):endsM (l++[x])=endsM l++[(endsA x,.bool true)]:=by simp[endsM]
theorem AxX(n:Nat)(l:List Road):lowB n (.mp (endsM l))=true:=by simp[lowB,endsM,endsA,lowV,lowC,Av.frozen]
theorem AmN(l:List Road)(ks:List LU)(hl:l.length<=100)(hr:∀ r∈l,r.a∈ks/\r.b∈ks/\bytesLess r.a r.b=true/\1<=r.m/\r.m<=1440)(ho:l.Pairwise fun a b=>¬ (a.a=b.a/\a.b=b.b)) :
  Ct prog 93 [.fz 3 (l.map roadA),.mp 0] [.mp (boolM ks)] (fun r s=>r=kI 0):=by
 refine zcIB func93 rfl fun h ρ w=>?_
 simp only[go_sem,laa];refine AbP (ι:=Nat) (fun i=>l.length-i) (fun i=>[(11,kI i),(10,kI l.length),(9,.fz 3 (l.map roadA)),(5,.mp 1),(1,.mp 0)]) (fun i=>[.mp (boolM ks),.mp (endsM (l.take i))]) (fun i=>i<=l.length) 0 (by simp) ?_ ?_
 .refine Lg ?_ rfl
  simp only[go_sem]
  try rfl
 intro i gi J hJ
 by_cases hi:i<l.length
 .have di:decide ((i:Int)<(l.length:Int))=true:=by simp; omega
  have p1:=AoE l hi;obtain⟨q1,q2,q3,q4,q5⟩:=hr _ (lae hi);obtain⟨j1,f1⟩:=AcY _ 0 _ q1;obtain⟨j2,f2⟩:=AcY _ 0 _ q2;have htk:l.take (i+1)=l.take i++[l[i]]:=lag hi;have hne:∀ y∈l.take i,¬ (l[i].a=y.a/\l[i].b=y.b):=by
   intro y hy he;obtain⟨q,hq,rfl⟩:=List.getElem_of_mem hy;have hq':q<i:=by simp at hq; omega
   rw[List.getElem_take]at he;exact(List.pairwise_iff_getElem.1 ho) q i (by omega) hi hq' ⟨he.1.symm,he.2.symm⟩
  have f3:=AkX l[i] 0 _ hne;have hlen:(endsM (l.take i)).length=i:=by simp[endsM]; omega
  have hfin:=hJ (i+1) (by omega) (by omega);rw[htk,AkY]at hfin;have lM:=AxX 2 (l.take i++[l[i]]);rw[AkY]at lM;have lK:=AbC 2 ks;have k1:isKeyS prog endsFs (endsA l[i])=true:=by simp[isKeyS,keyEnds]
  generalize endsM (l.take i)=M at f3 hfin lM hlen |-;generalize boolM ks=B at f1 f2 hfin lK |-;clear hJ htk hne;generalize l[i]=x at *;simp only[endsA]at f3 hfin lM k1;apply zgB;simp only[go_sem,di,p1,roadA,f1,f2,q3,laa]
  repeat refine aqf ?_
  refine zpB (AcQ _ _ _ q4 q5) ?_;simp only[go_sem,f3,k1]
  repeat refine aqg ?_
  rw[ic i];refine ainv hfin (AaC [.mp B,.mp (M++[(.agg [.str x.a,.str x.b],.bool true)])] _ rfl (by simp) (by show(lowB 2 _&&(lowB 2 _&&true))=true; rw[lK,lM]; rfl) ?_);simp only[go_sem]
  try rfl
 .have di:decide ((i:Int)<(l.length:Int))=false:=by simp; omega
  apply zgB;simp only[go_sem,di];exact aret [4] rfl rfl
theorem AcA{L M:List LU}{n:Nat}(h:L=M.take n)(hM:M.Nodup):L.Nodup/\∀ k∈L,k∈M:=by
 subst h;exact⟨hM.sublist (List.take_sublist _ _),fun k hk=>lbb hk⟩
theorem AeJ{L:List LU}(h:L.Nodup){i:Nat}(hi:i<L.length):L[i] ∉ L.take i:=by
 intro hm;obtain⟨q,hq,e⟩:=List.getElem_of_mem hm;have hq':q<i:=by simp at hq; omega
 rw[List.getElem_take]at e;exact(List.pairwise_iff_getElem.1 h) q i (by omega) hi hq' e
theorem AmO{S:Std}(hS:LibOk S)(c:Crew)(ok:CrewOk c):PcH prog S 45 [.agg (crewC c)] (· = kI 0):=by
 obtain⟨⟨m1,m2,m3⟩,⟨p1,p2,p3,p4⟩,⟨s1,s2,s3,s4⟩,r1,r2,r3⟩:=ok;have d1:decide ((c.minors.length:Int)>10)=false:=by simp; omega
 have d2:decide ((c.people.length:Int)>60)=false:=by simp; omega
 have d3:decide ((c.sites.length:Int)>40)=false:=by simp; omega
 have d4:decide ((c.roads.length:Int)>400)=false:=by simp; omega
 obtain⟨np,kp⟩:=AcA p3 (by decide);obtain⟨ns,ks⟩:=AcA s3 (by decide);simp only[crewC];refine zqIB func45 rfl fun h ρ w hg=>?_
 simp only[go_sem,d1,d2,d3,d4,laa];refine AbA (ι:=Nat×Int) (κ:=Unit) (fun x=>c.minors.length-x.1)
  (fun x=>[(42,kI x.1),(41,kI c.minors.length),(40,.fz 5 (c.minors.map minorA)),(3,kI x.2),(1,.pin 4 [.agg [.fz 5 (c.minors.map minorA),.fz 9 (c.people.map persA),.fz 3 (c.sites.map siteA),.fz 3 (c.roads.map roadA)]] 0 0)]) (fun _=>[])
  (fun x=>x.1<=c.minors.length/\∀ j (h:j<c.minors.length),x.1<=j->x.2<(c.minors[j]).under)
  (fun _=>[(1,.pin 4 [.agg [.fz 5 (c.minors.map minorA),.fz 9 (c.people.map persA),.fz 3 (c.sites.map siteA),.fz 3 (c.roads.map roadA)]] 0 0)]) (fun _=>[]) (fun _=>True)
  (0,0) ⟨by simp,fun j h _=>by have:=(m2 _ (lae h)).under; simp only; omega⟩ ?_ ?_ ?_
 .refine Ld ?_
  simp only[go_sem]
  try rfl
 .rintro ⟨⟩ -
  apply zgB;simp only[go_sem,laa];refine AbA (ι:=Nat) (κ:=Unit) (fun i=>c.people.length-i)
   (fun i=>[(59,kI i),(58,kI c.people.length),(57,.fz 9 (c.people.map persA)),(7,.mp 0),(1,.pin 4 [.agg [.fz 5 (c.minors.map minorA),.fz 9 (c.people.map persA),.fz 3 (c.sites.map siteA),.fz 3 (c.roads.map roadA)]] 0 0)]) (fun i=>[.mp (boolM ((c.people.map (·.key)).take i))])
   (fun i=>i<=c.people.length) (fun _=>[(1,.pin 4 [.agg [.fz 5 (c.minors.map minorA),.fz 9 (c.people.map persA),.fz 3 (c.sites.map siteA),.fz 3 (c.roads.map roadA)]] 0 0)]) (fun _=>[]) (fun _=>True) 0 (by simp) ?_ ?_ ?_
  .refine Lg ?_ rfl
   simp only[go_sem]
   try rfl
  .rintro ⟨⟩ -
   apply zgB;simp only[go_sem,laa];refine AbA (ι:=Nat) (κ:=Unit) (fun i=>c.sites.length-i)
    (fun i=>[(80,kI i),(79,kI c.sites.length),(78,.fz 3 (c.sites.map siteA)),(12,.mp 0),(1,.pin 4 [.agg [.fz 5 (c.minors.map minorA),.fz 9 (c.people.map persA),.fz 3 (c.sites.map siteA),.fz 3 (c.roads.map roadA)]] 0 0)]) (fun i=>[.mp (boolM ((c.sites.map (·.key)).take i))])
    (fun i=>i<=c.sites.length) (fun _=>[(12,.mp 0),(1,.pin 4 [.agg [.fz 5 (c.minors.map minorA),.fz 9 (c.people.map persA),.fz 3 (c.sites.map siteA),.fz 3 (c.roads.map roadA)]] 0 0)]) (fun _=>[.mp (boolM (c.sites.map (·.key)))]) (fun _=>True) 0 (by simp) ?_ ?_ ?_
   .refine Lg ?_ rfl
    simp only[go_sem]
    try rfl
   .rintro ⟨⟩ -
    apply zgB;simp only[go_sem,laa];refine za (AmN c.roads (c.sites.map (·.key)) (by omega) r2 r3) ?_;rintro _ _ rfl;apply zgB;simp only[go_sem];exact zt [2]
   .intro i g1 J Q hJ hQ
    by_cases hi:i<c.sites.length
    .have di:decide ((i:Int)<(c.sites.length:Int))=true:=by simp; omega
     have q1:=AcO c.sites hi;have hi':i<(c.sites.map (·.key)).length:=by simpa using hi
     have hk:=ks _ (lae hi');have hn:=AeJ ns hi';have e1:(c.sites.map (·.key))[i]=c.sites[i].key:=by simp
     have hfin:=hJ (i+1) (by omega) (by omega);simp only[lag hi',e1]at hfin;rw[e1]at hk hn;have hs:=AoZ _ (s4 _ (lae hi));have lK:=AbC 1 ((c.sites.map (·.key)).take i++[c.sites[i].key]);have hlen:((c.sites.map (·.key)).take i).length<=1000:=by simp; omega
     generalize (c.sites.map (·.key)).take i=K at hn hfin lK hlen |-;generalize c.sites[i]=x at *;clear hJ;simp only[siteA]at hs;apply zgB;simp only[go_sem,di,q1,siteA,laa]
     repeat refine aqf ?_
     refine zaH hg (AgX hS K x.key [.arr 3 [.agg [.str x.key,kI x.glow,.fz 3 (x.suns.map sunA)]]] (List.mem_append_right _ hk) hn hlen) ?_;rintro _ _ ⟨rfl,rfl⟩;apply zgB;simp only[go_sem];refine zpB (hs) ?_;simp only[go_sem]
     repeat refine aqf ?_
     refine ainv hfin (AaC [.mp (boolM (K++[x.key]))] _ rfl (by simp) (by show(lowB 1 _&&true)=true; rw[lK]; rfl) ?_);simp only[go_sem]
     try rfl
    .have di:decide ((i:Int)<(c.sites.length:Int))=false:=by simp; omega
     have hfin:=hQ () trivial;have e2:(c.sites.map (·.key)).take i=c.sites.map (·.key):=laf (by simp; omega);rw[e2];apply zgB;simp only[go_sem,di];refine ainv hfin (Lg ?_ rfl);simp only[go_sem]
     try rfl
  .intro i g1 J Q hJ hQ
   by_cases hi:i<c.people.length
   .have di:decide ((i:Int)<(c.people.length:Int))=true:=by simp; omega
    have q1:=AfM c.people hi;have hi':i<(c.people.map (·.key)).length:=by simpa using hi
    have hk:=kp _ (lae hi');have hn:=AeJ np hi';have e1:(c.people.map (·.key))[i]=c.people[i].key:=by simp
    have hfin:=hJ (i+1) (by omega) (by omega);simp only[lag hi',e1]at hfin;rw[e1]at hk hn;have hs:=AjS _ (p4 _ (lae hi));have lK:=AbC 1 ((c.people.map (·.key)).take i++[c.people[i].key]);have hlen:((c.people.map (·.key)).take i).length<=1000:=by simp; omega
    generalize (c.people.map (·.key)).take i=K at hn hfin lK hlen |-;generalize c.people[i]=x at *;clear hJ;simp only[persA]at hs;apply zgB;simp only[go_sem,di,q1,persA,laa]
    repeat refine aqf ?_
    refine zaH hg (AgX hS K x.key [.arr 9 [.agg [.str x.key,kI x.born,kI x.week,kI x.fr,kI x.til,.fz 2 (x.away.map spanA),kI x.long,kI x.rest,kI x.row]]] (List.mem_append_left _ hk) hn hlen) ?_;rintro _ _ ⟨rfl,rfl⟩;apply zgB;simp only[go_sem];refine zpB (hs) ?_;simp only[go_sem]
    repeat refine aqf ?_
    refine ainv hfin (AaC [.mp (boolM (K++[x.key]))] _ rfl (by simp) (by show(lowB 1 _&&true)=true; rw[lK]; rfl) ?_);simp only[go_sem]
    try rfl
   .have di:decide ((i:Int)<(c.people.length:Int))=false:=by simp; omega
    apply zgB;simp only[go_sem,di];refine ainv (hQ () trivial) (AbG (hc:=rfl) _ ?_);simp only[go_sem]
    try rfl
 .rintro ⟨i,u⟩ ⟨g1,g2⟩ J Q hJ hQ
  simp only at g1 g2 hJ hQ |-
  by_cases hi:i<c.minors.length
  .have di:decide ((i:Int)<(c.minors.length:Int))=true:=by simp; omega
   have q1:=AuA c.minors hi;have hfin:=hJ (i+1,(c.minors[i]).under) ⟨by simp only; omega,fun j h hj=>(List.pairwise_iff_getElem.1 m3) i j hi h (by simp only at hj; omega)⟩ (by simp only; omega);apply zgB;simp only[go_sem,di,q1,minorA,laa]
   repeat refine aqf ?_
   refine zpB (AmM (c.minors[i]) u (m2 _ (lae hi)) (g2 i hi (by omega))) ?_;simp only[go_sem]
   repeat refine aqf ?_
   refine ainv hfin (AbG (hc:=rfl) _ ?_);simp only[go_sem]
   try rfl
  .have di:decide ((i:Int)<(c.minors.length:Int))=false:=by simp; omega
   apply zgB;simp only[go_sem,di];refine ainv (hQ () trivial) (Ld ?_);simp only[go_sem]
   try rfl
noncomputable def okLk (l:List Look):Bool:=chkP 1 (kI 0) (AhC prog orcA 60 147 [.fz 4 ((AdW l).map lookA)] [])
theorem A5R:(((AaW 3).drop 0).take 8).all okLk=true:=by kernel_rfl
theorem A5S:(((AaW 3).drop 8).take 8).all okLk=true:=by kernel_rfl
theorem A5T:(((AaW 3).drop 16).take 8).all okLk=true:=by kernel_rfl
theorem A5U:(((AaW 3).drop 24).take 8).all okLk=true:=by kernel_rfl
theorem A5V:(((AaW 3).drop 32).take 8).all okLk=true:=by kernel_rfl
theorem A5W:(((AaW 3).drop 40).take 8).all okLk=true:=by kernel_rfl
theorem A5X:(((AaW 3).drop 48).take 8).all okLk=true:=by kernel_rfl
theorem A5Y:(((AaW 3).drop 56).take 8).all okLk=true:=by kernel_rfl
theorem ApA{α:Type}{f:α->Bool}{l:List α}:∀ n,(∀ i<n,((l.drop (8*i)).take 8).all f=true)->(l.take (8*n)).all f=true
 | 0,_=>by simp
 | n+1,h=>by
  have h1:=ApA n fun i hi=>h i (by omega)
  have h2:=h n (by omega);rw[show 8*(n+1)=8*n+8 by omega,List.take_add,lbd,h1,h2];rfl
theorem AxY:(AaW 3).all okLk=true:=by
 have h:=ApA (f:=okLk) (l:=AaW 3) 8 fun i hi=>by
  match i,hi with
  | 0,_=>exact A5R
  | 1,_=>exact A5S
  | 2,_=>exact A5T
  | 3,_=>exact A5U
  | 4,_=>exact A5V
  | 5,_=>exact A5W
  | 6,_=>exact A5X
  | 7,_=>exact A5Y
 rwa [laf (show(AaW 3).length<=8*8 by decide +kernel)]at h
theorem AjT{S:Std}(hS:LibOk S){l:List Look}(h:∃ l0∈AaW 3,l=AdW l0):PcH prog S 147 [.fz 4 (l.map lookA)] (· = kI 0):=by
 obtain⟨l0,h0,rfl⟩:=h;exact AfW AaL (ArA hS) 60 1 (List.all_eq_true.1 AxY l0 h0)
theorem AmP(x:Rules)(ok:RulesOk x):Pc prog 77 [.agg [kI x.start,kI x.eighths,kI x.moves,kI x.change,kI x.gap,kI x.day,kI x.move,kI x.hold,kI x.look]] (· = kI 0):=by
 obtain⟨⟨a1,a2⟩,⟨b1,b2⟩,⟨c1,c2⟩,⟨d1,d2⟩,⟨e1,e2⟩,⟨f1,f2⟩,⟨g1,g2⟩,⟨h1,h2⟩,i1,i2⟩:=ok;refine zpIB func77 rfl fun h ρ w=>?_
 simp only[go_sem];refine zpB (AeR _ _ _ a1 a2) ?_;simp only[go_sem];refine zpB (AeR _ _ _ b1 b2) ?_;simp only[go_sem];refine zpB (AeR _ _ _ c1 c2) ?_;simp only[go_sem];refine zpB (AeR _ _ _ d1 d2) ?_;simp only[go_sem];refine zpB (AeR _ _ _ e1 e2) ?_;simp only[go_sem];have hM:∀ v∈[x.day,x.move,x.hold,x.look],0<=v/\v<=1000000000:=by
  intro v hv;simp only[lbf,List.not_mem_nil,or_false]at hv
  rcases hv with rfl|rfl|rfl|rfl <;> omega
 have hl:[x.day,x.move,x.hold,x.look].length=4:=rfl;rw[show[kI x.day,kI x.move,kI x.hold,kI x.look]=[x.day,x.move,x.hold,x.look].map (fun v=>kI v) from rfl];generalize [x.day,x.move,x.hold,x.look]=M at hM hl |-;refine AbP (ι:=Nat) (fun i=>4-i) (fun i=>[(39,kI i),(38,kI 4),(37,.fz 1 (M.map fun v=>kI v)),(3,.bool true)]) (fun _=>[]) (fun i=>i<=4) 0 (by simp) ?_ ?_
 .refine Ld ?_
  simp only[go_sem]
  try rfl
 intro i gi J hJ
 by_cases hi:i<4
 .have di:decide ((i:Int)<4)=true:=by simp; omega
  have p1:(M.map fun v=>(kI v:AV)).getD i .any=kI (M[i]'(by omega)):=by simp[List.getD,show i<M.length by omega]
  have q1:=hM (M[i]'(by omega)) (lae _);have hfin:=hJ (i+1) (by omega) (by omega);apply zgB;simp only[go_sem,di,p1,hl,laa]
  repeat refine aj ?_
  refine zpB (AeR _ _ _ q1.1 q1.2) ?_;simp only[go_sem]
  repeat refine aqf ?_
  rw[ic i];refine ainv hfin (Ld ?_);simp only[go_sem]
  try rfl
 .have di:decide ((i:Int)<4)=false:=by simp; omega
  apply zgB;simp only[go_sem,di];exact zt [2]
theorem AjU{S:Std}(hS:LibOk S)(c:Crew)(x:Strip)(ok:StripOk c x)(ks ps:List LU)(hk:ks=c.sites.map (·.key))(hp:ps=PeopleL.take c.people.length)(hc:c.people.length<=4)(T:LB) :
  CtH prog S 79 [stripA x,.mp 0,.mp 1] (.mp (boolM ks)::.mp (boolM ps)::T) (fun r s=>r=kI 0/\s=.mp (boolM ks)::.mp (boolM ps)::T):=by
 obtain⟨⟨a1,a2⟩,⟨b1,b2⟩,hs,⟨l1,l2⟩,hpe,hlk⟩:=ok;rw[<- hk]at hs;rw[<- hp]at hpe;have hlen:x.people.length<=4:=by have:=hpe.length_le; subst hp; have:=List.length_take_le c.people.length PeopleL; omega
 have dl:decide ((x.people.length:Int)>60)=false:=by simp; omega
 obtain⟨j,fs⟩:=AcY _ 0 _ hs;have hch:=AjT hS hlk;have hso:x.people.Pairwise fun a b=>bytesLess b a=false/\(b==a)=false:=by
  have h1:PeopleL.Pairwise fun a b=>bytesLess b a=false/\(b==a)=false:=by decide
  subst hp;exact(h1.sublist (List.take_sublist _ _)).sublist hpe
 have hin:∀ k∈x.people,k∈ps:=fun k h=>hpe.subset h
 have lS:=AbC 2 ks;have lP:=AbC 2 ps;simp only[stripA,strA];refine zdIB func79 rfl fun h ρ w hg=>?_
 simp only[go_sem];refine zpB (AeR _ _ _ a1 a2) ?_;simp only[go_sem];refine zpB (AeR _ _ _ b1 b2) ?_;simp only[go_sem,fs];refine zpB (AeR _ _ _ l1 l2) ?_;simp only[go_sem,dl,laa];refine AbP (ι:=Nat) (fun i=>x.people.length-i) (fun i=>[(39,kI i),(38,kI x.people.length),(37,.fz 1 (x.people.map .str)),(3,.pin 8 [.agg [.str x.scene,kI x.eighths,kI x.minutes,.str x.site,kI x.light,.bool x.outside,.fz 1 (x.people.map .str),.fz 4 (x.looks.map lookA)]] 0 0),(2,.mp 1)]) (fun _=>.mp (boolM ks)::.mp (boolM ps)::T) (fun i=>i<=x.people.length) 0 (by simp) ?_ ?_
 .refine Lg ?_ rfl
  simp only[go_sem]
  try rfl
 intro i gi J hJ
 by_cases hi:i<x.people.length
 .have di:decide ((i:Int)<(x.people.length:Int))=true:=by simp; omega
  have p1:=AdU x.people hi;obtain⟨j1,f1⟩:=AcY _ 0 _ (hin _ (lae hi));have hfin:=hJ (i+1) (by omega) (by omega)
  by_cases h0:i=0
  .have d0:decide ((i:Int)>0)=false:=by simp; omega
   apply zgB;simp only[go_sem,di,d0,p1,f1,laa]
   repeat refine aqf ?_
   refine ainv hfin (Lg ?_ rfl);simp only[go_sem]
   try rfl
  .obtain ⟨q,rfl⟩:∃ q,i=q+1:=⟨i-1,by omega⟩
   have hgt:decide (((q+1:Nat):Int)>0)=true:=decide_eq_true (by omega);have hq:q<x.people.length:=by omega
   have p2:=AdU x.people hq;have ho2:=List.pairwise_iff_getElem.1 hso q (q+1) hq hi (by omega);have e1:((q+1:Nat):Int)-1=(q:Int):=by omega
   apply zgB;simp only[go_sem,di,p1,f1,hgt,e1,p2,ho2.1,ho2.2,laa]
   repeat refine aqf ?_
   refine ainv hfin (Lg ?_ rfl);simp only[go_sem]
   try rfl
 .have di:decide ((i:Int)<(x.people.length:Int))=false:=by simp; omega
  apply zgB;simp only[go_sem,di];refine zqB hg (hch) ?_;simp only[go_sem];exact zt [6]
theorem AjV{S:Std}(hS:LibOk S)(p:Plan)(ok:PlanOk p):PcH prog S 38 [.agg (planC p)] (· = kI 0):=by
 obtain⟨oc,oru,few,hsc,hst⟩:=ok;have hcr:=AmO hS p.crew oc;have hru:=AmP p.rules oru;obtain⟨-,⟨p1,p2,p3,p4⟩,⟨s1,s2,s3,s4⟩,-⟩:=oc;have d1:decide ((p.strips.length:Int)>300)=false:=by simp; omega
 obtain⟨np,kp⟩:=AcA p3 (by decide);obtain⟨ns,ks⟩:=AcA s3 (by decide);obtain⟨nn,kn⟩:=AcA hsc (by decide);simp only[crewC]at hcr;simp only[planC];refine zqIB func38 rfl fun h ρ w hg=>?_
 simp only[go_sem];refine zqB hg (hcr) ?_;simp only[go_sem];refine zpB (hru) ?_;simp only[go_sem,d1,laa];refine AbA (ι:=Nat) (κ:=Unit) (fun i=>p.crew.sites.length-i)
  (fun i=>[(38,kI i),(37,kI p.crew.sites.length),(36,.fz 3 (p.crew.sites.map siteA)),(7,.mp 2),(6,.mp 1),(5,.mp 0),(1,.pin 14 [.agg [.fz 5 (p.crew.minors.map minorA),.fz 9 (p.crew.people.map persA),.fz 3 (p.crew.sites.map siteA),.fz 3 (p.crew.roads.map roadA),.fz 8 (p.strips.map stripA),kI p.rules.start,kI p.rules.eighths,kI p.rules.moves,kI p.rules.change,kI p.rules.gap,kI p.rules.day,kI p.rules.move,kI p.rules.hold,kI p.rules.look]] 0 0)])
  (fun i=>[.mp (boolM ((p.crew.sites.map (·.key)).take i)),.mp (boolM []),.mp (boolM [])])
  (fun i=>i<=p.crew.sites.length) (fun _=>[(7,.mp 2),(6,.mp 1),(5,.mp 0),(1,.pin 14 [.agg [.fz 5 (p.crew.minors.map minorA),.fz 9 (p.crew.people.map persA),.fz 3 (p.crew.sites.map siteA),.fz 3 (p.crew.roads.map roadA),.fz 8 (p.strips.map stripA),kI p.rules.start,kI p.rules.eighths,kI p.rules.moves,kI p.rules.change,kI p.rules.gap,kI p.rules.day,kI p.rules.move,kI p.rules.hold,kI p.rules.look]] 0 0)]) (fun _=>[.mp (boolM (p.crew.sites.map (·.key))),.mp (boolM []),.mp (boolM [])]) (fun _=>True) 0 (by simp) ?_ ?_ ?_
 .refine Lg ?_ rfl
  simp only[go_sem]
  try rfl
 .rintro ⟨⟩ -
  apply zgB;simp only[go_sem,laa];refine AbA (ι:=Nat) (κ:=Unit) (fun i=>p.crew.people.length-i)
   (fun i=>[(50,kI i),(49,kI p.crew.people.length),(48,.fz 9 (p.crew.people.map persA)),(7,.mp 2),(6,.mp 1),(5,.mp 0),(1,.pin 14 [.agg [.fz 5 (p.crew.minors.map minorA),.fz 9 (p.crew.people.map persA),.fz 3 (p.crew.sites.map siteA),.fz 3 (p.crew.roads.map roadA),.fz 8 (p.strips.map stripA),kI p.rules.start,kI p.rules.eighths,kI p.rules.moves,kI p.rules.change,kI p.rules.gap,kI p.rules.day,kI p.rules.move,kI p.rules.hold,kI p.rules.look]] 0 0)])
   (fun i=>[.mp (boolM (p.crew.sites.map (·.key))),.mp (boolM ((p.crew.people.map (·.key)).take i)),.mp (boolM [])])
   (fun i=>i<=p.crew.people.length) (fun _=>[(7,.mp 2),(6,.mp 1),(5,.mp 0),(1,.pin 14 [.agg [.fz 5 (p.crew.minors.map minorA),.fz 9 (p.crew.people.map persA),.fz 3 (p.crew.sites.map siteA),.fz 3 (p.crew.roads.map roadA),.fz 8 (p.strips.map stripA),kI p.rules.start,kI p.rules.eighths,kI p.rules.moves,kI p.rules.change,kI p.rules.gap,kI p.rules.day,kI p.rules.move,kI p.rules.hold,kI p.rules.look]] 0 0)]) (fun _=>[.mp (boolM (p.crew.sites.map (·.key))),.mp (boolM (p.crew.people.map (·.key))),.mp (boolM [])]) (fun _=>True) 0 (by simp) ?_ ?_ ?_
  .refine Lg ?_ rfl
   simp only[go_sem]
   try rfl
  .rintro ⟨⟩ -
   apply zgB;simp only[go_sem,laa];refine AbP (ι:=Nat) (fun i=>p.strips.length-i)
    (fun i=>[(61,kI i),(60,kI p.strips.length),(59,.fz 8 (p.strips.map stripA)),(7,.mp 2),(6,.mp 1),(5,.mp 0),(1,.pin 14 [.agg [.fz 5 (p.crew.minors.map minorA),.fz 9 (p.crew.people.map persA),.fz 3 (p.crew.sites.map siteA),.fz 3 (p.crew.roads.map roadA),.fz 8 (p.strips.map stripA),kI p.rules.start,kI p.rules.eighths,kI p.rules.moves,kI p.rules.change,kI p.rules.gap,kI p.rules.day,kI p.rules.move,kI p.rules.hold,kI p.rules.look]] 0 0)])
    (fun i=>[.mp (boolM (p.crew.sites.map (·.key))),.mp (boolM (p.crew.people.map (·.key))),.mp (boolM ((p.strips.map (·.scene)).take i))])
    (fun i=>i<=p.strips.length) 0 (by simp) ?_ ?_
   .refine Lg ?_ rfl
    simp only[go_sem]
    try rfl
   intro i g1 J hJ
   by_cases hi:i<p.strips.length
   .have di:decide ((i:Int)<(p.strips.length:Int))=true:=by simp; omega
    have q1:=AcH p.strips hi;have hi':i<(p.strips.map (·.scene)).length:=by simpa using hi
    have hk:=kn _ (lae hi');have hn:=AeJ nn hi';have e1:(p.strips.map (·.scene))[i]=p.strips[i].scene:=by simp
    have hfin:=hJ (i+1) (by omega) (by omega);simp only[lag hi',e1,AbQ]at hfin;rw[e1]at hk hn;have f1:=AcI _ 0 _ hn;have hs:=fun T=>AjU hS p.crew _ (hst _ (lae hi)) _ _ rfl p3 p2 T
    have lS:=AbC 3 (p.crew.sites.map (·.key));have lP:=AbC 3 (p.crew.people.map (·.key));have lK:=AbC 3 ((p.strips.map (·.scene)).take i++[p.strips[i].scene]);have hlen:(boolM ((p.strips.map (·.scene)).take i)).length<=1000:=by simp[boolM]; omega
    rw[AbQ]at lK;generalize boolM ((p.strips.map (·.scene)).take i)=K at f1 hfin lK hlen |-;generalize boolM (p.crew.sites.map (·.key))=B at hs hfin lS |-;generalize boolM (p.crew.people.map (·.key))=C at hs hfin lP |-;generalize p.strips[i]=x at *;clear hJ;simp only[stripA,strA]at hs;apply zgB;simp only[go_sem,di,q1,stripA,strA,laa]
    repeat refine aqf ?_
    refine zqB hg (AoY hS hk) ?_;simp only[go_sem,f1]
    repeat refine aqf ?_
    refine zaH hg (hs _) ?_;rintro _ _ ⟨rfl,rfl⟩;apply zgB;simp only[go_sem]
    repeat refine aqf ?_
    refine ainv hfin (AaC [.mp B,.mp C,.mp (K++[(.str x.scene,.bool true)])] _ rfl (by simp) (by show(lowB 3 _&&(lowB 3 _&&(lowB 3 _&&true)))=true; rw[lS,lP,lK]; rfl) ?_);simp only[go_sem]
    try rfl
   .have di:decide ((i:Int)<(p.strips.length:Int))=false:=by simp; omega
    apply zgB;simp only[go_sem,di];exact zt [2]
  .intro i g1 J Q hJ hQ
   by_cases hi:i<p.crew.people.length
   .have di:decide ((i:Int)<(p.crew.people.length:Int))=true:=by simp; omega
    have q1:=AfM p.crew.people hi;have hi':i<(p.crew.people.map (·.key)).length:=by simpa using hi
    have hn:=AeJ np hi';have e1:(p.crew.people.map (·.key))[i]=p.crew.people[i].key:=by simp
    have hfin:=hJ (i+1) (by omega) (by omega);simp only[lag hi',e1,AbQ]at hfin;rw[e1]at hn;have f1:=AcI _ 0 _ hn;have lS:=AbC 3 (p.crew.sites.map (·.key));have lK:=AbC 3 ((p.crew.people.map (·.key)).take i++[p.crew.people[i].key]);have hlen:(boolM ((p.crew.people.map (·.key)).take i)).length<=1000:=by simp[boolM]; omega
    rw[AbQ]at lK;generalize boolM ((p.crew.people.map (·.key)).take i)=K at f1 hfin lK hlen |-;generalize boolM (p.crew.sites.map (·.key))=B at hfin lS |-;generalize p.crew.people[i]=x at *;clear hJ;apply zgB;simp only[go_sem,di,q1,persA,f1,laa]
    repeat refine aqf ?_
    refine ainv hfin (AaC [.mp B,.mp (K++[(.str x.key,.bool true)]),.mp (boolM [])] _ rfl (by simp) (by show(lowB 3 _&&(lowB 3 _&&(lowB 3 _&&true)))=true; rw[lS,lK]; rfl) ?_);simp only[go_sem]
    try rfl
   .have di:decide ((i:Int)<(p.crew.people.length:Int))=false:=by simp; omega
    have hfin:=hQ () trivial;have e2:(p.crew.people.map (·.key)).take i=p.crew.people.map (·.key):=laf (by simp; omega);rw[e2];apply zgB;simp only[go_sem,di];refine ainv hfin (Lg ?_ rfl);simp only[go_sem]
    try rfl
 .intro i g1 J Q hJ hQ
  by_cases hi:i<p.crew.sites.length
  .have di:decide ((i:Int)<(p.crew.sites.length:Int))=true:=by simp; omega
   have q1:=AcO p.crew.sites hi;have hi':i<(p.crew.sites.map (·.key)).length:=by simpa using hi
   have hn:=AeJ ns hi';have e1:(p.crew.sites.map (·.key))[i]=p.crew.sites[i].key:=by simp
   have hfin:=hJ (i+1) (by omega) (by omega);simp only[lag hi',e1,AbQ]at hfin;rw[e1]at hn;have f1:=AcI _ 0 _ hn;have lK:=AbC 3 ((p.crew.sites.map (·.key)).take i++[p.crew.sites[i].key]);have hlen:(boolM ((p.crew.sites.map (·.key)).take i)).length<=1000:=by simp[boolM]; omega
   rw[AbQ]at lK;generalize boolM ((p.crew.sites.map (·.key)).take i)=K at f1 hfin lK hlen |-;generalize p.crew.sites[i]=x at *;clear hJ;apply zgB;simp only[go_sem,di,q1,siteA,f1,laa]
   repeat refine aqf ?_
   refine ainv hfin (AaC [.mp (K++[(.str x.key,.bool true)]),.mp (boolM []),.mp (boolM [])] _ rfl (by simp) (by show(lowB 3 _&&(lowB 3 _&&(lowB 3 _&&true)))=true; rw[lK]; rfl) ?_);simp only[go_sem]
   try rfl
  .have di:decide ((i:Int)<(p.crew.sites.length:Int))=false:=by simp; omega
   have hfin:=hQ () trivial;have e2:(p.crew.sites.map (·.key)).take i=p.crew.sites.map (·.key):=laf (by simp; omega);rw[e2];apply zgB;simp only[go_sem,di];refine ainv hfin (Lg ?_ rfl);simp only[go_sem]
   try rfl
def inA(n:Nat):AV:=.int .i64 n
theorem AmQ(l:List Nat)(i:Nat)(h:i<l.length):(l.map inA).getD i .any=.int .i64 l[i]:=by simp[List.getD,h,inA]
theorem AxZ(l:List Nat)(i x:Nat):(l.map inA).set i (.int .i64 x)=(l.set i x).map inA:=by rw[List.map_set]; rfl
theorem AyA:∀ l:List Nat,(flat (l.map inA)).all Av.frozen=true
 | []=>rfl
 | a::l=>by simp only[lak,flat,inA,cellsOf,lah,lax,lay,Av.frozen,AyA l,Bool.and_self]
theorem A1A(L:List Int)(k:Int)(n:Nat)(hn:n<=1000)(h3:0<=k)(h4:k<=900000) :
  Mc prog 20 2 (str L k) [.int .i64 n] (fun r s=>∃ (o:List Nat) (k':Int),r=.fz 1 (o.map inA)/\o.Perm (List.range n)/\s=str L k'/\k<=k'/\k'<=k+n):=by
 refine zcIB func20 rfl fun h ρ w=>?_
 simp only[go_sem];refine AbP (ι:=Nat) (fun i=>n-i) (fun i=>[(10,.int .i64 i),(9,.int .i64 n),(5,.sl 1 0 i i),(1,.int .i64 n),(0,.ptr 0 1 0 0)]) (fun i=>[.arr 2 [str L k],.arr 1 ((List.range i).map inA)]) (fun i=>i<=n) 0 (by simp) ?_ ?_
 .refine Shift.trans (Shift.nilsl 5 1 rfl) (Lg ?_ rfl)
  simp only[go_sem]
  try rfl
 intro i g1 J hJ
 by_cases gi:i<n
 .have di:decide ((i:Int)<(n:Int))=true:=by simp; omega
  have hfin:=hJ (i+1) (by omega) (by omega);simp only[List.range_succ,lav,lak,List.map_nil,inA]at hfin;apply zgB;simp only[go_sem,di,laa,List.length_range]
  repeat refine aqh ?_
  rw[ic i];refine ainv hfin (Lg ?_ rfl);simp only[go_sem]
 have di:decide ((i:Int)<(n:Int))=false:=by simp; omega
 have hi:i=n:=by omega
 subst hi;clear hJ
 by_cases h0:i=0
 .subst h0
  apply zgB;simp only[go_sem,di]
  repeat refine aj ?_
  refine A2G (AwB ?_);apply zgB;simp only[go_sem];exact ARet.shift (Shift.freeze 4 (id:=1) (l:=[]) rfl rfl (by simp) (lal _) rfl) (aret [4] rfl ⟨str L k,[.dead],rfl,⟨[],k,rfl,.refl _,rfl,by omega,by omega⟩,rfl,rfl⟩)
 have hpos:0<i:=by omega
 apply zgB;simp only[go_sem,di]
 repeat refine aj ?_
 refine AbP (ι:=Nat×List Nat×Int) (fun y=>y.1) (fun y=>[(7,.int .i64 y.1),(5,.sl 1 0 i i),(0,.ptr 0 1 0 0)]) (fun y=>[.arr 2 [str L y.2.2],.arr 1 (y.2.1.map inA)])
  (fun y=>y.1<i/\y.2.1.Perm (List.range i)/\k<=y.2.2/\y.2.2+y.1<=k+i) (i-1,List.range i,k) ⟨by simp; omega,.refl _,by simp,by simp only; omega⟩ ?_ ?_
 .refine Lg ?_ rfl
  simp only[go_sem];rw[show((i:Int)-1)=((i-1:Nat):Int) by omega]
 rintro⟨j,o,kk⟩ ⟨q1,q2,q3,q4⟩ K hK;simp only at q1 q2 q3 q4 hK |-;have hol:o.length=i:=by rw[q2.length_eq,List.length_range]
 by_cases gj:0<j
 .have dj:decide ((j:Int)>0)=true:=by simp; omega
  apply zgB;simp only[go_sem,dj]
  repeat refine aj ?_
  refine zm 0 (AdX L kk (j+1) (by omega) (by omega) (by omega) (by omega)) ?_;rintro _ _ ⟨⟨v,rfl,hv0,hv1⟩,rfl⟩;obtain⟨t,rfl⟩:∃ t:Nat,v=t:=⟨v.toNat,by omega⟩;have p1:=AmQ o j (by omega);have p2:=AmQ o t (by omega);have p3:=AmQ (o.set j (o[t]'(by omega))) t (by simp; omega);have s1:=AxZ o j (o[t]'(by omega));have s2:=AxZ (o.set j (o[t]'(by omega))) t (o[j]'(by omega));have hfin:=hK (j-1,(o.set j (o[t]'(by omega))).set t (o[j]'(by omega)),kk+1) ⟨by simp only; omega,(List.set_set_perm (by omega) (by omega)).trans q2,by simp only; omega,by simp only; omega⟩ (by simp only; omega);simp only at hfin;apply zgB;simp only[go_sem];refine A8X [] AaL (by decide) rfl rfl 100 ?_;simp only[go_sem,p1,p2,p3,s1,s2,hol,laa,List.length_set]
  repeat refine aj ?_
  apply zgB;simp only[go_sem]
  repeat refine aj ?_
  rw[show(j:Int)-1=((j-1:Nat):Int) by omega];refine ainv hfin (Lg ?_ rfl);simp only[go_sem]
 .have dj:decide ((j:Int)>0)=false:=by simp; omega
  clear hK;have htk:((o.map inA).drop 0).take i=o.map inA:=by rw[List.drop_zero,laf (by simp; omega)]
  apply zgB;simp only[go_sem,dj];exact ARet.shift (Shift.freeze 4 (id:=1) (l:=o.map inA) rfl rfl (by simp; omega) (lal _) (AyA _)) (aret [4] rfl ⟨str L kk,[.dead],rfl,⟨o,kk,by simp only[resV,Av.get,Av.put,beq_self_eq_true,lai,htk],q2,rfl,by omega,by omega⟩,rfl,rfl⟩)
