/- Scenes by their numbers: the document's sceneAt, the program's places; tag.scriptFault. -/
import Derived.Test.YtnfkjpihaficbaaGreatDoorK26
set_option maxRecDepth 100000
set_option maxHeartbeats 2000000
set_option linter.unusedSimpArgs false
set_option linter.unusedVariables false
namespace Go.Proofs.YtnfkjpihaficbaaGreatDoor
open Go Go.Av Go.RowKit _root_.Go.Proofs.Tryz
theorem AuF(x:Sc)(no:List UInt8):Pc prog 168 [scA x,.pin 1 [.str no] 0 0] (· = .bool (x.no==no&&no != [])):=by
 simp only[scA];refine zpIB func168 rfl fun h ρ w=>?_
 cases e1:x.no==no with
 | true =>
  simp only[go_sem,e1];exact aret [3] rfl ⟨by simp[resV,Av.get,Av.put,e1],rfl⟩
 | false =>
  simp only[go_sem,e1];exact aret [3] rfl ⟨by simp[resV,Av.get,Av.put,e1],rfl⟩
def sceneIx(x:Sr)(no:List UInt8):Int:=idxP (fun y=>y.no==no&&no != []) x.scenes
theorem ApL(x:Sr)(no:List UInt8)(hl:x.scenes.length<=5):Pc prog 117 [srA x,.str no] (· = .int .i64 (sceneIx x no)):=by
 have hi:=AzK 168 [.pin 1 [.str no] 0 0] rfl (fun y=>y.no==no&&no != []) x.scenes (by omega) (fun y _=>AuF y no);simp only[srA];refine zpIB func117 rfl fun h ρ w=>?_
 simp only[go_sem];refine zpB (hi) ?_;simp only[go_sem];exact zt [4]
theorem AjB(x:Sr)(no:List UInt8):sceneIx x no<0\/∃ i,(i<x.scenes.length)/\sceneIx x no=((i:Nat):Int):=by
 unfold sceneIx idxP
 cases hq:x.scenes.findIdx? (fun y=>y.no==no&&no != [])with
 | none=>left; decide
 | some i =>
  right
  exact⟨i,(List.findIdx?_eq_some_iff_getElem.1 hq).1,rfl⟩
theorem AkB{x:Sr}(h:StoryOk x):ScriptOk x:=by
 have hl:=h.len;have hs:=AuE h;have ht:=List.all_eq_true.1 A7N x.title h.title;simp only[Bool.and_eq_true,decide_eq_true_eq]at ht;refine⟨ht.2,ht.1,by omega,by omega,?_⟩;have key:∀ (l:List Sc) (i:Nat),i+l.length<=5->(∀ j,(hj:j<l.length)->l[j].no=AbI (i+j+1)/\DrawnS ⟨[],l[j].place,l[j].set,l[j].time,l[j].paras⟩)->(i=0->∀ y,l.head? = some y->y.time≠5)->AzS (accN i) (decide (i=0)) l:=by
  intro l
  induction l with
  | nil=>intros; trivial
  | cons y r ih =>
   intro i hi hall h5;simp only[List.length_cons]at hi;obtain⟨h1,h2⟩:=hall 0 (by simp);simp only[List.getElem_cons_zero,Nat.add_zero]at h1 h2;have ha:=BiJ i (by omega);have hd:dd (accN i) y.no=accN (i+1):=by
    rw[h1,dd,if_neg ha.1]
    simp[accN,List.range_succ]
   refine⟨.inr ?_,h2.place,h2.time,fun hf=>h5 (by simpa using hf) y rfl,?_,?_⟩
   .rw [h1]; exact⟨ha.2.1,ha.2.2,ha.1⟩
   .have:=AxA h2
    exact⟨this.set,this.len,this.many,this.run⟩
   .rw [hd]
    have:=ih (i+1) (by omega) (fun j hj=>by
     have:=hall (j+1) (by simpa using hj);simp only[List.getElem_cons_succ]at this;rw[show i+1+j+1=i+(j+1)+1 by omega];exact this) (by simp)
    simpa using this
 have:=key x.scenes 0 (by omega) (fun j hj=>⟨by rw[Nat.zero_add]; exact h.no j hj,h.all j hj⟩) (fun _=>h.first)
 simpa[accN]using this
def scMF:Nat->List Sc->List (AV×AV)
 | _,[]=>[]
 | n,y::r=>(.str y.no,.int .i64 n)::scMF (n+1) r
theorem A0G:∀ (a b:List Sc)(n:Nat),scMF n (a++b)=scMF n a++scMF (n+a.length) b
 | [],b,n=>rfl
 | y::a,b,n=>by simp only[List.cons_append,scMF,A0G a b (n+1),List.length_cons]; rw[show n+1+a.length=n+(a.length+1) by omega]
theorem AnA{k:List UInt8}:∀ (l:List Sc)(n m:Nat),(∀ y∈l,y.no≠k)->mfind .string (.str k) (scMF n l) m=some none
 | [],n,m,_=>rfl
 | y::r,n,m,h=>by
  have:(k==y.no)=false:=by have:=h y (by simp); simpa using Ne.symm this
  simp only[scMF,mfind,keyEq,this];exact AnA r (n+1) (m+1) (fun z hz=>h z (by simp[hz]))
theorem AuG{k:List UInt8}:∀ (l:List Sc)(n m i:Nat)(hi:i<l.length),l[i].no=k->(∀ j,(hj:j<i)->(l[j]'(by omega)).no≠k)->mfind .string (.str k) (scMF n l) m=some (some (m+i,.int .i64 ((n+i:Nat):Int)))
 | [],n,m,i,hi,_,_=>by simp at hi
 | y::r,n,m,0,hi,h,_=>by
  simp at h
  simp[scMF,mfind,keyEq,h]
 | y::r,n,m,i+1,hi,h,hn=>by
  have h0:=hn 0 (by omega);simp only[List.getElem_cons_zero]at h0;have:(k==y.no)=false:=by simpa using Ne.symm h0
  simp only[scMF,mfind,keyEq,this];rw[AuG r (n+1) (m+1) i (by simpa using hi) (by simpa using h) (fun j hj=>by simpa using hn (j+1) (by omega)),show m+1+i=m+(i+1) by omega,show n+1+i=n+(i+1) by omega]
theorem low_scM(n m:Nat)(l:List Sc):lowB n (.mp (scMF m l))=true:=by
 show(scMF m l).all _=true
 rw[List.all_eq_true];intro x hx;have key:∀ (l:List Sc) (m:Nat),x∈scMF m l->∃ s i,x=(.str s,.int .i64 i):=by
  intro l
  induction l with
  | nil=>intro m h; simp[scMF]at h
  | cons y r ih =>
   intro m h;simp only[scMF,List.mem_cons]at h
   rcases h with rfl|h
   .exact ⟨_,_,rfl⟩
   .exact ih _ h
 obtain⟨s,i,rfl⟩:=key l m hx;rfl
theorem AgI(x:Sr)(hx:StoryOk x):Ct prog 51 [srA x] [] (fun r s=>r=.mp 0/\s=[.mp (scMF 0 x.scenes)]):=by
 have hlen:=hx.len;simp only[srA];refine zcIB func51 rfl fun h ρ w=>?_
 simp only[go_sem,List.length_map];refine AaC (ι:=Nat) (fun y=>x.scenes.length-y)
  (fun y=>[(10,.int .i64 y),(9,.int .i64 x.scenes.length),(8,.fz 5 (x.scenes.map scA)),(3,.mp 0)])
  (fun y=>[.mp (scMF 0 (x.scenes.take y))]) (fun y=>y<=x.scenes.length) 0 (by simp) ?_ ?_
 .refine Shift.weakS ?_ rfl
  simp only[go_sem,List.length_map]
 intro i g1 J hJ
 by_cases gi:i<x.scenes.length
 .have di:decide ((i:Int)<(x.scenes.length:Int))=true:=by simp; omega
  have hget:=AdL x.scenes i gi;have m1:=AnA (k:=x.scenes[i].no) (x.scenes.take i) 0 0 (fun y hy=>by
   obtain⟨j,hj,rfl⟩:=List.getElem_of_mem hy;rw[List.length_take]at hj;rw[List.getElem_take];intro e;exact absurd (hx.inj (by omega) gi e) (by omega))
  have m2:scMF 0 (x.scenes.take i)++[(.str x.scenes[i].no,.int .i64 (i:Int))]=scMF 0 (x.scenes.take (i+1)):=by
   rw[List.take_add_one,List.getElem?_eq_getElem gi,A0G];simp only[Option.toList,scMF,List.length_take];rw[show min i x.scenes.length=i by omega,Nat.zero_add]
  have hfin:=hJ (i+1) (by omega) (by omega);generalize x.scenes[i]=y at *;refine zgB ?_;simp only[go_sem,di,hget,m1,m2,List.length_map]
  repeat refine ak ?_
  rw[ic i];refine ainv hfin (Shift.low 1 (by simp) (by simp) ?_ ?_)
  .simp only [List.take_succ_cons,List.take_zero,List.all_cons,List.all_nil,↓low_scM,Bool.and_self]
  .simp only [go_sem]
 .have di:decide ((i:Int)<(x.scenes.length:Int))=false:=by simp; omega
  rw[show x.scenes.take i=x.scenes from List.take_of_length_le (by omega)];refine zgB ?_;simp only[go_sem,di];exact zt [2]
theorem AuH{x:Sr}(hx:StoryOk x){no:List UInt8}{i:Nat}(hi:i<x.scenes.length)(hs:sceneIx x no=i):x.scenes[i].no=no/\∀ j,(hj:j<i)->(x.scenes[j]'(by omega)).no≠no:=by
 unfold sceneIx idxP at hs
 cases hq:x.scenes.findIdx? (fun y=>y.no==no&&no != [])with
 | none=>rw[hq]at hs; simp at hs
 | some j =>
  rw[hq]at hs;have hij:j=i:=by
   simp only at hs;omega
  subst hij;obtain⟨h1,h2,h3⟩:=List.findIdx?_eq_some_iff_getElem.1 hq;simp only[Bool.and_eq_true,beq_iff_eq]at h2;refine⟨h2.1,fun k hk e=>?_⟩;have:=hx.inj (show k<x.scenes.length by omega) hi (by rw[e,h2.1]);omega
theorem AdD{S:Std}(hS:LibOk S)(x:Sr)(hx:StoryOk x):PcH prog S 102 [srA x] (· = .int .i64 0):=by
 have h1:=AtQ hS x (AkB hx);have hl:=hx.len;simp only[srA]at h1 |-;refine zqIB func102 rfl fun h ρ w hg=>?_
 simp only[go_sem];refine zqB hg (h1) ?_;simp only[go_sem,List.length_map];refine AaC (ι:=Nat) (fun y=>x.scenes.length-y)
  (fun y=>[(14,.int .i64 y),(13,.int .i64 x.scenes.length),(12,.fz 5 (x.scenes.map scA))])
  (fun _=>[]) (fun y=>y<=x.scenes.length) 0 (by simp) ?_ ?_
 .refine Shift.weak ?_
  simp only[go_sem,List.length_map]
 intro i g1 J hJ
 by_cases gi:i<x.scenes.length
 .have di:decide ((i:Int)<(x.scenes.length:Int))=true:=by simp; omega
  have hget:=AdL x.scenes i gi;have hno:(x.scenes[i].no==[])=false:=by
   rw[hx.no i gi];exact(AiD i (by omega)).2.2.2.2
  have hfin:=hJ (i+1) (by omega) (by omega);generalize x.scenes[i]=y at *;refine zgB ?_;simp only[go_sem,di,hget,hno,List.length_map]
  repeat refine ak ?_
  rw[ic i];refine ainv hfin (Shift.low 0 (by simp) (by simp) rfl ?_);simp only[go_sem]
 .have di:decide ((i:Int)<(x.scenes.length:Int))=false:=by simp; omega
  refine zgB ?_;simp only[go_sem,di];exact zt [2]
def AiE:List UInt8:=[97,98,99,100,101,102,103,104,105,106,107,108,109,110,111,112,113,114,115,116,117,118,119,120,121,122]
def AiF:List UInt8:=[97,98,99,100,101,102,103,104,105,106,107,108,109,110,111,112,113,114,115,116,117,118,119,120,121,122,48,49,50,51,52,53,54,55,56,57,32]
def A7R(s:List UInt8):Bool:=longR s 1 40&&(plainR s&&AeR s AiF)
def elR(e:El):Int:=if e.kind<1\/e.kind>11 then 4 else if e.kind=11 then(if nameR e.name then 0 else 5) else if A7R e.name then 0 else 5
theorem BiL{S:Std}(hS:LibR S)(e:El)(hl:e.name.length<1000):PcH prog S 28 [elA e] (· = .int .i64 (elR e)):=by
 have hn:=AtR hS e.name (by omega);have hp:=AdF hS e.name (by omega);have hm:=AdU e.name AiF (by omega) (by decide) (by unfold AcL AiF; decide);have hlo:=AgG e.name 1 40;unfold elR A7R;simp only[elA];obtain⟨ek,en⟩:=e;simp only at hn hp hm hlo |-
 by_cases h1:ek<1
 .have d1:decide (ek<1)=true:=by simpa using h1
  rw[if_pos (.inl h1)];refine zqIB func28 rfl fun h ρ w hg=>?_
  simp only[go_sem,d1];exact zt [2]
 have d1:decide (ek<1)=false:=by simpa using h1
 by_cases h2:ek>11
 .have d2:decide (ek>11)=true:=by simpa using h2
  rw[if_pos (.inr h2)];refine zqIB func28 rfl fun h ρ w hg=>?_
  simp only[go_sem,d1,d2];exact zt [2]
 have d2:decide (ek>11)=false:=by simpa using h2
 rw[if_neg (by omega)]
 by_cases h3:ek=11
 .have d3:(ek==11)=true:=by simpa using h3
  rw[if_pos h3];generalize nameR en=b at *;refine zqIB func28 rfl fun h ρ w hg=>?_
  simp only[go_sem,d1,d2,d3];refine zqB hg (hn) ?_
  cases b with
  | true =>
   simp only[go_sem];exact zt [2]
  | false =>
   simp only[go_sem];exact zt [2]
 have d3:(ek==11)=false:=by simpa using h3
 rw[if_neg h3];generalize longR en 1 40=b1 at *;generalize plainR en=b2 at *;unfold AiF at hm;generalize hmm:AeR en _=b3 at hm;have hmm2:AeR en AiF=b3:=hmm;rw[hmm2];refine zqIB func28 rfl fun h ρ w hg=>?_
 simp only[go_sem,d1,d2,d3];refine zpB (hlo) ?_
 cases b1 with
 | false =>
  simp only[go_sem];exact zt [2]
 | true =>
  simp only[go_sem];refine zqB hg (hp) ?_
  cases b2 with
  | false =>
   simp only[go_sem];exact zt [2]
  | true =>
   simp only[go_sem];refine zpB (hm) ?_
   cases b3 with
   | false =>
    simp only[go_sem];exact zt [2]
   | true =>
    simp only[go_sem];exact zt [2]
def facetR(s:List UInt8):Bool:=longR s 1 20&&AeR s AiE
theorem A7S(s:List UInt8)(hl:s.length<1000):Pc prog 169 [.str s] (· = .bool (facetR s)):=by
 have hm:=AdU s AiE (by omega) (by decide) (by unfold AcL AiE; decide);have hlo:=AgG s 1 20;unfold facetR;generalize longR s 1 20=b1 at *;unfold AiE at hm;generalize hmm:AeR s _=b3 at hm;have hmm2:AeR s AiE=b3:=hmm;rw[hmm2];refine zpIB func169 rfl fun h ρ w=>?_
 simp only[go_sem];refine zpB (hlo) ?_
 cases b1 with
 | false =>
  simp only[go_sem];exact zt [2]
 | true =>
  simp only[go_sem];refine zpB (hm) ?_;simp only[go_sem];exact aret [2] rfl ⟨by simp[resV,Av.get,Av.put],rfl⟩
def faR(f:Fa):Int:=if elR f.el≠0 then elR f.el else if facetR f.facet then(if plainR f.value then(if f.value.length>60 then 3 else 0) else 3) else 5
structure FaSz(f:Fa):Prop where
 name:f.el.name.length<1000
 facet:f.facet.length<1000
 value:f.value.length<1000
 scene:f.scene.length<1000
theorem BiM{S:Std}(hS:LibR S)(f:Fa)(hz:FaSz f):PcH prog S 119 [faA f] (· = .int .i64 (faR f)):=by
 have h1:=BiL hS f.el hz.name;have h2:=A7S f.facet hz.facet;have h3:=AdF hS f.value (by have:=hz.value; omega);unfold faR;simp only[faA,elA]at h1 |-;generalize elR f.el=n at *;generalize facetR f.facet=b2 at *;generalize plainR f.value=b3 at *;refine zqIB func119 rfl fun h ρ w hg=>?_
 simp only[go_sem];refine zqB hg (h1) ?_
 by_cases hn:n=0
 .have dn:(n != 0)=false:=by simpa using hn
  rw[if_neg (by simpa using hn)];simp only[go_sem,dn];refine zpB (h2) ?_
  cases b2 with
  | false =>
   simp only[go_sem];exact zt [2]
  | true =>
   simp only[go_sem];refine zqB hg (h3) ?_
   cases b3 with
   | false =>
    simp only[go_sem];exact zt [2]
   | true =>
    by_cases hv:f.value.length>60
    .have dv:decide ((f.value.length:Int)>60)=true:=by simp; omega
     simp only[if_true,if_pos hv];simp only[go_sem,dv];exact zt [2]
    .have dv:decide ((f.value.length:Int)>60)=false:=by simp; omega
     simp only[if_true,if_neg hv];simp only[go_sem,dv];exact zt [2]
 .have dn:(n != 0)=true:=by simpa using hn
  rw[if_pos hn];simp only[go_sem,dn];exact zt [2]
def factsGo(x:Sr)(pre:List Fa):List Fa->Int
 | []=>0
 | f::r=>if sceneIx x f.scene<0 then 8 else if faR f≠0 then faR f else if pre.any (fun y=>sameFa y f) then 6 else factsGo x (pre++[f]) r
def AfM(x:Sr)(l:List Fa):Int:=if AdN x≠0 then AdN x else factsGo x [] l
theorem A2R(x:Sr)(l:List Fa)(i:Nat)(h:i<l.length):factsGo x (l.take i) (l.drop i)=if sceneIx x l[i].scene<0 then 8 else if faR l[i]≠0 then faR l[i] else if(l.take i).any (fun y=>sameFa y l[i]) then 6 else factsGo x (l.take (i+1)) (l.drop (i+1)):=by
 rw[List.drop_eq_getElem_cons h,factsGo,List.take_add_one,List.getElem?_eq_getElem h];rfl
def jumpR(j:Jm):Int:=if decide (j.by'<0)||(decide (j.by'>1000)||(decide (j.to' < -1000)||decide (j.to'>1000))) then 1 else if((j.by' != 0)&&(j.to' != 0))||(j.flash&&(j.to'==0)) then 3 else 0
theorem BdG(j:Jm):Pc prog 118 [jmA j] (· = .int .i64 (jumpR j)):=by
 obtain⟨js,jb,jt,jf⟩:=j;simp only[jmA,jumpR];generalize d1:decide (jb<0)=b1;generalize d2:decide (jb>1000)=b2;generalize d3:decide (jt < -1000)=b3;generalize d4:decide (jt>1000)=b4;generalize d5:(jb != 0)=b5;have d7:(jt==0)=!(jt != 0):=by simp[bne]
 rw[d7];generalize d6:(jt != 0)=b6;rw[d6]at d7
 cases b1 with
 | true =>
  refine zpIB func118 rfl fun h ρ w=>?_
  simp only[go_sem,d1,d2,d3,d4];exact zt [2]
 | false =>
  cases b2 with
  | true =>
   refine zpIB func118 rfl fun h ρ w=>?_
   simp only[go_sem,d1,d2,d3,d4];exact zt [2]
  | false =>
   cases b3 with
   | true =>
    refine zpIB func118 rfl fun h ρ w=>?_
    simp only[go_sem,d1,d2,d3,d4];exact zt [2]
   | false =>
    cases b4 with
    | true =>
     refine zpIB func118 rfl fun h ρ w=>?_
     simp only[go_sem,d1,d2,d3,d4];exact zt [2]
    | false =>
     cases b5 <;> cases b6 <;> cases jf
     .refine zpIB func118 rfl fun h ρ w=>?_
      simp only[go_sem,d1,d2,d3,d4,d5,d6,d7];exact zt [2]
     .refine zpIB func118 rfl fun h ρ w=>?_
      simp only[go_sem,d1,d2,d3,d4,d5,d6,d7];exact zt [2]
     .refine zpIB func118 rfl fun h ρ w=>?_
      simp only[go_sem,d1,d2,d3,d4,d5,d6,d7];exact zt [2]
     .refine zpIB func118 rfl fun h ρ w=>?_
      simp only[go_sem,d1,d2,d3,d4,d5,d6,d7];exact zt [2]
     .refine zpIB func118 rfl fun h ρ w=>?_
      simp only[go_sem,d1,d2,d3,d4,d5,d6,d7];exact zt [2]
     .refine zpIB func118 rfl fun h ρ w=>?_
      simp only[go_sem,d1,d2,d3,d4,d5,d6,d7];exact zt [2]
     .refine zpIB func118 rfl fun h ρ w=>?_
      simp only[go_sem,d1,d2,d3,d4,d5,d6,d7];exact zt [2]
     .refine zpIB func118 rfl fun h ρ w=>?_
      simp only[go_sem,d1,d2,d3,d4,d5,d6,d7];exact zt [2]
theorem BdH(j:Jm):Pc prog 135 [jmA j] (· = .int .i64 (jumpR j)):=by
 obtain⟨js,jb,jt,jf⟩:=j;simp only[jmA,jumpR];generalize d1:decide (jb<0)=b1;generalize d2:decide (jb>1000)=b2;generalize d3:decide (jt < -1000)=b3;generalize d4:decide (jt>1000)=b4;generalize d5:(jb != 0)=b5;have d7:(jt==0)=!(jt != 0):=by simp[bne]
 rw[d7];generalize d6:(jt != 0)=b6;rw[d6]at d7
 cases b1 with
 | true =>
  refine zpIB func135 rfl fun h ρ w=>?_
  simp only[go_sem,d1,d2,d3,d4];exact zt [2]
 | false =>
  cases b2 with
  | true =>
   refine zpIB func135 rfl fun h ρ w=>?_
   simp only[go_sem,d1,d2,d3,d4];exact zt [2]
  | false =>
   cases b3 with
   | true =>
    refine zpIB func135 rfl fun h ρ w=>?_
    simp only[go_sem,d1,d2,d3,d4];exact zt [2]
   | false =>
    cases b4 with
    | true =>
     refine zpIB func135 rfl fun h ρ w=>?_
     simp only[go_sem,d1,d2,d3,d4];exact zt [2]
    | false =>
     cases b5 <;> cases b6 <;> cases jf
     .refine zpIB func135 rfl fun h ρ w=>?_
      simp only[go_sem,d1,d2,d3,d4,d5,d6,d7];exact zt [2]
     .refine zpIB func135 rfl fun h ρ w=>?_
      simp only[go_sem,d1,d2,d3,d4,d5,d6,d7];exact zt [2]
     .refine zpIB func135 rfl fun h ρ w=>?_
      simp only[go_sem,d1,d2,d3,d4,d5,d6,d7];exact zt [2]
     .refine zpIB func135 rfl fun h ρ w=>?_
      simp only[go_sem,d1,d2,d3,d4,d5,d6,d7];exact zt [2]
     .refine zpIB func135 rfl fun h ρ w=>?_
      simp only[go_sem,d1,d2,d3,d4,d5,d6,d7];exact zt [2]
     .refine zpIB func135 rfl fun h ρ w=>?_
      simp only[go_sem,d1,d2,d3,d4,d5,d6,d7];exact zt [2]
     .refine zpIB func135 rfl fun h ρ w=>?_
      simp only[go_sem,d1,d2,d3,d4,d5,d6,d7];exact zt [2]
     .refine zpIB func135 rfl fun h ρ w=>?_
      simp only[go_sem,d1,d2,d3,d4,d5,d6,d7];exact zt [2]
def AhG(x:Sr)(last:Int):List Jm->Int
 | []=>0
 | j::r=>if sceneIx x j.scene<0 then 8 else if sceneIx x j.scene<=last then 7 else if jumpR j≠0 then jumpR j else AhG x (sceneIx x j.scene) r
def AkC(x:Sr)(l:List Jm):Int:=if AdN x≠0 then AdN x else AhG x (-1) l
theorem ArH(l:List Jm)(i:Nat)(h:i<l.length):List.getD (List.map jmA l) i .any=jmA l[i]:=by simp[List.getD,h]
theorem A2S{S:Std}(hS:LibR S)(x:Sr)(hx:StoryOk x)(l:List Jm)(hl:l.length<=1000):PcH prog S 62 [srA x,.fz 4 (l.map jmA)] (· = .int .i64 (AkC x l)):=by
 have h1:=ApK hS x hx;have h2:=fun no=>ApL x no hx.len
 have h3:=BdG;unfold AkC;simp only[srA]at h1 h2 |-;refine zqIB func62 rfl fun h ρ w hg=>?_
 simp only[go_sem];refine zqB hg (h1) ?_
 cases e1:AdN x != 0 with
 | true =>
  rw[if_pos (by simpa using e1)];simp only[go_sem,e1];exact zt [4]
 | false =>
  rw[if_neg (by simpa using e1)];simp only[go_sem,e1,List.length_map];refine AaC (ι:=Nat×Int) (fun y=>l.length-y.1)
   (fun y=>[(18,.int .i64 y.1),(17,.int .i64 l.length),(6,.int .i64 y.2),(2,.pin 2 [.agg [.str x.title,.fz 5 (x.scenes.map scA)]] 0 0),(16,.fz 4 (l.map jmA))])
   (fun y=>[]) (fun y=>y.1<=l.length /\ -1<=y.2/\y.2<5/\AhG x y.2 (l.drop y.1)=AhG x (-1) l) (0,-1) ⟨by simp,by simp,by simp,rfl⟩ ?_ ?_
  .refine Shift.weakS ?_ rfl
   simp only[go_sem,List.length_map]
  .rintro ⟨i,last⟩ ⟨g1,g3,g4,g2⟩ J hJ
   try simp only at g1 g2 g3 g4
   by_cases gi:i<l.length
   .have di:decide ((i:Int)<(l.length:Int))=true:=by simp; omega
    have hget:=ArH l i gi;rw[List.drop_eq_getElem_cons gi,AhG]at g2;have hfin:=fun q h=>hJ (i+1,q) h (by simp; omega)
    have bd:=AjB x l[i].scene;have hxl:=hx.len;generalize l[i]=j at *;have h2j:=h2 j.scene;have h3j:=h3 j;have hja:jmA j=.agg [.str j.scene,.int .i64 j.by',.int .i64 j.to',.bool j.flash]:=rfl;generalize sceneIx x j.scene=n at *;generalize jumpR j=m at *;rw[hja]at hget h3j;refine zgB ?_;simp only[go_sem,di,hget,List.length_map]
    repeat refine aj ?_
    refine zpB (h2j) ?_
    by_cases hn:n<0
    .have dn:decide (n<0)=true:=by simpa using hn
     rw[if_pos hn]at g2;simp only[go_sem,dn];exact aret [4] rfl ⟨by rw[<- g2]; rfl,rfl⟩
    have dn:decide (n<0)=false:=by simpa using hn
    rw[if_neg hn]at g2
    by_cases hq:n<=last
    .have dq:decide (n<=last)=true:=by simpa using hq
     rw[if_pos hq]at g2;simp only[go_sem,dn,dq];exact aret [4] rfl ⟨by rw[<- g2]; rfl,rfl⟩
    have dq:decide (n<=last)=false:=by simpa using hq
    rw[if_neg hq]at g2;simp only[go_sem,dn,dq];refine zpB (h3j) ?_
    by_cases hm:m=0
    .have dm:(m != 0)=false:=by simpa using hm
     rw[if_neg (by simpa using hm)]at g2;simp only[go_sem,dm]
     repeat refine aj ?_
     rw[ic i];refine ainv (hfin n ⟨by omega,by omega,by omega,g2⟩) (Shift.low 0 (by simp) (by simp) rfl ?_);simp only[go_sem]
    .have dm:(m != 0)=true:=by simpa using hm
     rw[if_pos (by simpa using hm)]at g2;simp only[go_sem,dm];exact aret [4] rfl ⟨by rw[<- g2]; rfl,rfl⟩
   .have di:decide ((i:Int)<(l.length:Int))=false:=by simp; omega
    rw[List.drop_eq_nil_of_le (by omega)]at g2;refine zgB ?_;simp only[go_sem,di];exact aret [4] rfl ⟨by rw[<- g2]; rfl,rfl⟩
theorem A2T{S:Std}(hS:LibR S)(x:Sr)(hx:StoryOk x)(l:List Fa)(hl:l.length<=1000)(hz:∀ f∈l,FaSz f):PcH prog S 63 [srA x,.fz 5 (l.map faA)] (· = .int .i64 (AfM x l)):=by
 have h1:=ApK hS x hx;have h2:=fun no=>ApL x no hx.len
 unfold AfM;simp only[srA]at h1 h2 |-;refine zqIB func63 rfl fun h ρ w hg=>?_
 simp only[go_sem];refine zqB hg (h1) ?_
 cases e1:AdN x != 0 with
 | true =>
  rw[if_pos (by simpa using e1)];simp only[go_sem,e1];exact zt [4]
 | false =>
  rw[if_neg (by simpa using e1)];have d1:decide ((l.length:Int)>3000)=false:=by simp; omega
  simp only[go_sem,e1,d1,List.length_map];refine AaC (ι:=Nat) (fun y=>l.length-y)
   (fun y=>[(19,.int .i64 y),(18,.int .i64 l.length),(2,.pin 2 [.agg [.str x.title,.fz 5 (x.scenes.map scA)]] 0 0),(17,.fz 5 (l.map faA)),(1,.fz 5 (l.map faA))])
   (fun y=>[]) (fun y=>y<=l.length/\factsGo x (l.take y) (l.drop y)=factsGo x [] l) 0 ⟨by simp,rfl⟩ ?_ ?_
  .refine Shift.weakS ?_ rfl
   simp only[go_sem,List.length_map]
  .rintro i ⟨g1,g2⟩ J hJ
   by_cases gi:i<l.length
   .have di:decide ((i:Int)<(l.length:Int))=true:=by simp; omega
    have hget:=AiZ l i gi;rw[A2R x l i gi]at g2;have hfin:=fun h=>hJ (i+1) h (by omega)
    have h3:=BiM hS l[i] (hz _ (List.getElem_mem gi));have h4:=A0E 120 [.pin 5 [faA l[i]] 0 0] rfl (fun y=>sameFa y l[i]) (l.take i) (by simp; omega) (fun y _=>BdE y l[i]);rw[List.map_take]at h4;have hbor:=Ct.borrowF (P:=prog) (f:=114) (args:=[.fz 5 (List.take i (l.map faA)),.fn (.func 120) [.ptr 0 1 0 0]]) 1 [.arr 5 [faA l[i]]] h4 (by rintro r rfl; rfl);have hj:∀ j:Fa,faA j=.agg [.str j.scene,.int .i64 j.el.kind,.str j.el.name,.str j.facet,.str j.value]:=fun _=>rfl
    have hk2:decide ((i:Int)<=(l.length:Int))=true:=by simp; omega
    rw[hj]at h3 hbor;clear h4;generalize l[i]=j at *;have h2j:=h2 j.scene;generalize sceneIx x j.scene=n at *;generalize faR j=m at *;refine zgB ?_;simp only[go_sem,di,hget,List.length_map]
    repeat refine aj ?_
    refine zpB (h2j) ?_
    by_cases hn:n<0
    .have dn:decide (n<0)=true:=by simpa using hn
     rw[if_pos hn]at g2;simp only[go_sem,dn];exact aret [4] rfl ⟨by rw[<- g2]; rfl,rfl⟩
    have dn:decide (n<0)=false:=by simpa using hn
    rw[if_neg hn]at g2;simp only[go_sem,dn];refine zqB hg (h3) ?_
    by_cases hm:m=0
    .have dm:(m != 0)=false:=by simpa using hm
     rw[if_neg (by simpa using hm)]at g2;simp only[go_sem,dm,hk2,List.length_map]
     repeat refine aj ?_
     refine za (hbor) ?_;rintro _ _ ⟨rfl,rfl⟩;refine zgB ?_
     cases e2:((l.take i).any fun y=>sameFa y j)with
     | true =>
      rw[if_pos e2]at g2;simp only[go_sem];exact aret [4] rfl ⟨by rw[<- g2]; rfl,rfl⟩
     | false =>
      rw[if_neg (by rw[e2]; simp)]at g2;simp only[go_sem]
      repeat refine aj ?_
      rw[ic i];refine ainv (hfin ⟨by omega,g2⟩) (Shift.low 0 (by simp) (by simp) rfl ?_);simp only[go_sem]
    .have dm:(m != 0)=true:=by simpa using hm
     rw[if_pos (by simpa using hm)]at g2;simp only[go_sem,dm];exact aret [4] rfl ⟨by rw[<- g2]; rfl,rfl⟩
   .have di:decide ((i:Int)<(l.length:Int))=false:=by simp; omega
    rw[List.drop_eq_nil_of_le (by omega)]at g2;refine zgB ?_;simp only[go_sem,di];exact aret [4] rfl ⟨by rw[<- g2]; rfl,rfl⟩
def smI(n:Int):Bool:=decide (n>=97)&&decide (n<=122)
theorem AaN(n:Int):Pc prog 187 [.int .u8 n] (· = .bool (digI n)):=by
 refine zpIN func187 rfl fun h ρ w=>?_
 by_cases h1:n>=48
 .have d1:decide (n>=48)=true:=by simpa using h1
  simp only[go_sem,d1];exact aret [2] rfl ⟨by simp[resV,Av.get,digI,h1],rfl⟩
 .have d1:decide (n>=48)=false:=by simpa using h1
  simp only[go_sem,d1];exact aret [2] rfl ⟨by simp[resV,Av.get,digI,h1],rfl⟩
theorem AdO(n:Int):Pc prog 189 [.int .u8 n] (· = .bool (smI n)):=by
 refine zpIN func189 rfl fun h ρ w=>?_
 by_cases h1:n>=97
 .have d1:decide (n>=97)=true:=by simpa using h1
  simp only[go_sem,d1];exact aret [2] rfl ⟨by simp[resV,Av.get,smI,h1],rfl⟩
 .have d1:decide (n>=97)=false:=by simpa using h1
  simp only[go_sem,d1];exact aret [2] rfl ⟨by simp[resV,Av.get,smI,h1],rfl⟩
def thB(c:UInt8):Bool:=smI c.toNat||(digI c.toNat||(c.toNat:Int)==32)
def isThingL(s:List UInt8):Bool:=decide (1<=s.length)&&(decide (s.length<=40)&&(plainL s&&s.all thB))
theorem AnB{S:Std}(hS:LibOk S)(s:List UInt8)(h:isThingL s=true):PcH prog S 133 [.str s] (· = .bool true):=by
 simp only[isThingL,Bool.and_eq_true,decide_eq_true_eq]at h;obtain⟨h1,h2,h3,h4⟩:=h;have d1:decide ((s.length:Int)<1)=false:=by simp; omega
 have d2:decide ((s.length:Int)>40)=false:=by simp; omega
 have hp:=AbM hS s (by omega);rw[h3]at hp;refine zqIN func133 rfl fun h ρ w hg=>?_
 simp only[go_sem,d1,d2];refine zqN hg (hp) ?_;simp only[go_sem];refine AaC (ι:=Nat) (fun i=>s.length-i) (fun i=>[(19,.int .i64 i),(18,.int .i64 s.length),(0,.str s)]) (fun _=>[]) (fun i=>i<=s.length) 0 (by omega) ?_ ?_
 .refine Shift.weak ?_
  simp only[go_sem]
 .rintro i g1 J hJ
  refine zgN ?_
  by_cases hi:(i:Int)<s.length
  .have hil:i<s.length:=by omega
   have hgd:s.getD i 0=s[i]:=by simp[List.getD,hil]
   have hc:=List.all_eq_true.1 h4 _ (List.getElem_mem hil);have hfin:=hJ (i+1) (by omega) (by omega);simp only[thB]at hc;simp only[go_sem,hi,hgd]
   repeat refine ao ?_
   refine zpN (AdO _) ?_
   cases c1:smI (s[i].toNat:Int)with
   | true =>
    simp only[go_sem];rw[ic i]
    repeat refine ao ?_
    refine ainv hfin (Shift.weak ?_);simp only[go_sem]
   | false =>
    rw[c1]at hc;simp only[go_sem,hi,hgd]
    repeat refine ao ?_
    refine zpN (AaN _) ?_
    cases c2:digI (s[i].toNat:Int)with
    | true =>
     simp only[go_sem];rw[ic i]
     repeat refine ao ?_
     refine ainv hfin (Shift.weak ?_);simp only[go_sem]
    | false =>
     rw[c2]at hc;have c3:((s[i].toNat:Int) != 32)=false:=by simpa using hc
     simp only[go_sem,hi,hgd,c3];rw[ic i]
     repeat refine ao ?_
     refine ainv hfin (Shift.weak ?_);simp only[go_sem]
  .simp only [go_sem,hi]
   exact zt [2]
def nmB(c:UInt8):Bool:=(!decide ((c.toNat:Int)<65)&&!decide ((c.toNat:Int)>90))||(digI c.toNat||!decide (Lib.indexByte [32,39,46,45] c<0))
def isNameL(s:List UInt8):Bool:=decide (1<=s.length)&&(decide (s.length<=30)&&(!decide (((s.getD 0 0).toNat:Int)<65)&&(!decide (((s.getD 0 0).toNat:Int)>90)&&(plainL s&&s.all nmB))))
theorem AnC{S:Std}(hS:LibOk S)(s:List UInt8)(h:isNameL s=true):PcH prog S 132 [.str s] (· = .bool true):=by
 simp only[isNameL,Bool.and_eq_true,Bool.not_eq_true',decide_eq_true_eq]at h;obtain⟨h1,h2,k1,k2,h3,h4⟩:=h;have d1:decide ((s.length:Int)<1)=false:=by simp; omega
 have d2:decide ((s.length:Int)>30)=false:=by simp; omega
 have hp:=AbM hS s (by omega);rw[h3]at hp;refine zqIN func132 rfl fun h ρ w hg=>?_
 simp only[go_sem,d1,d2,k1,k2]
 repeat refine ao ?_
 refine zqN hg (hp) ?_;simp only[go_sem];refine AaC (ι:=Nat) (fun i=>s.length-i) (fun i=>[(29,.int .i64 i),(28,.int .i64 s.length),(0,.str s)]) (fun _=>[]) (fun i=>i<=s.length) 0 (by omega) ?_ ?_
 .refine Shift.weak ?_
  simp only[go_sem]
 .rintro i g1 J hJ
  refine zgN ?_
  by_cases hi:(i:Int)<s.length
  .have hil:i<s.length:=by omega
   have hgd:s.getD i 0=s[i]:=by simp[List.getD,hil]
   have hc:=List.all_eq_true.1 h4 _ (List.getElem_mem hil);have hfin:=hJ (i+1) (by omega) (by omega);simp only[nmB]at hc;have fin2:∀ b:Bool,b=false->b=false:=fun _ h=>h
   cases c0:(!decide ((s[i].toNat:Int)<65)&&!decide ((s[i].toNat:Int)>90))with
   | true =>
    simp only[Bool.and_eq_true,Bool.not_eq_true']at c0;simp only[go_sem,hi,hgd,c0.1,c0.2]
    repeat refine ao ?_
    rw[ic i]
    repeat refine ao ?_
    refine ainv hfin (Shift.weak ?_);simp only[go_sem]
   | false =>
    rw[c0]at hc;have c0':decide ((s[i].toNat:Int)<65)=true\/(decide ((s[i].toNat:Int)<65)=false/\decide ((s[i].toNat:Int)>90)=true):=by
     cases h1:decide ((s[i].toNat:Int)<65) <;> cases h2:decide ((s[i].toNat:Int)>90) <;> simp_all
    have hb:((s[i].toNat:Int)).toNat.toUInt8=s[i]:=by simp
    rcases c0' with c0'|⟨c0',c9⟩
    .cases c2:digI (s[i].toNat:Int)with
     | true =>
      simp only[go_sem,hi,hgd,c0']
      repeat refine ao ?_
      refine zpN (AaN _) ?_;rw[c2];simp only[go_sem];rw[ic i]
      repeat refine ao ?_
      refine ainv hfin (Shift.weak ?_);simp only[go_sem]
     | false =>
      rw[c2]at hc;have c3:decide (Lib.indexByte [32,39,46,45] s[i]<0)=false:=by simpa using hc
      simp only[go_sem,hi,hgd,c0']
      repeat refine ao ?_
      refine zpN (AaN _) ?_;rw[c2];simp only[go_sem,hi,hgd]
      repeat refine ao ?_
      refine zpN (AcU [32,39,46,45] (s[i].toNat:Int)) ?_;rw[hb];simp only[go_sem,c3];rw[ic i]
      repeat refine ao ?_
      refine ainv hfin (Shift.weak ?_);simp only[go_sem]
    .cases c2:digI (s[i].toNat:Int)with
     | true =>
      simp only[go_sem,hi,hgd,c0',c9]
      repeat refine ao ?_
      refine zpN (AaN _) ?_;rw[c2];simp only[go_sem];rw[ic i]
      repeat refine ao ?_
      refine ainv hfin (Shift.weak ?_);simp only[go_sem]
     | false =>
      rw[c2]at hc;have c3:decide (Lib.indexByte [32,39,46,45] s[i]<0)=false:=by simpa using hc
      simp only[go_sem,hi,hgd,c0',c9]
      repeat refine ao ?_
      refine zpN (AaN _) ?_;rw[c2];simp only[go_sem,hi,hgd]
      repeat refine ao ?_
      refine zpN (AcU [32,39,46,45] (s[i].toNat:Int)) ?_;rw[hb];simp only[go_sem,c3];rw[ic i]
      repeat refine ao ?_
      refine ainv hfin (Shift.weak ?_);simp only[go_sem]
  .simp only [go_sem,hi]
   exact zt [2]
theorem A2U(s:List UInt8)(hh:s.all (fun c=>smI c.toNat)=true)(h1:1<=s.length)(h2:s.length<=20):Pc prog 225 [.str s] (· = .bool true):=by
 have d1:decide ((s.length:Int)>=1)=true:=by simp; omega
 have d2:decide ((s.length:Int)<=20)=true:=by simp; omega
 refine zpIN func225 rfl fun h ρ w=>?_
 simp only[go_sem];refine AaC (ι:=Nat) (fun i=>s.length-i) (fun i=>[(6,.int .i64 i),(5,.int .i64 s.length),(0,.str s)]) (fun _=>[]) (fun i=>i<=s.length) 0 (by omega) ?_ ?_
 .refine Shift.weak ?_
  simp only[go_sem]
 .rintro i g1 J hJ
  refine zgN ?_
  by_cases hi:(i:Int)<s.length
  .have hil:i<s.length:=by omega
   have hgd:s.getD i 0=s[i]:=by simp[List.getD,hil]
   have hc:=List.all_eq_true.1 hh _ (List.getElem_mem hil);have hfin:=hJ (i+1) (by omega) (by omega);simp only[go_sem,hi,hgd]
   repeat refine ao ?_
   refine zpN (AdO _) ?_;rw[hc];simp only[go_sem];rw[ic i]
   repeat refine ao ?_
   refine ainv hfin (Shift.weak ?_);simp only[go_sem]
  .simp only [go_sem,hi,d1,d2]
   exact zt [2]
def elT(e:El):Bool:=decide (1<=e.kind)&&(decide (e.kind<=11)&&(if e.kind=11 then isNameL e.name else isThingL e.name))
theorem BiN{S:Std}(hS:LibOk S)(e:El)(h:elT e=true):PcH prog S 78 [elA e] (· = .int .i64 0):=by
 obtain⟨ek,en⟩:=e;simp only[elT,Bool.and_eq_true,decide_eq_true_eq]at h;obtain⟨h1,h2,h3⟩:=h;have d1:decide (ek<1)=false:=by simp; omega
 have d2:decide (ek>11)=false:=by simp; omega
 simp only[elA]
 by_cases hk:ek=11
 .have d3:(ek==11)=true:=by simpa using hk
  have d4:(ek != 11)=false:=by simpa using hk
  rw[if_pos hk]at h3;have hn:=AnC hS en h3;refine zqIB func78 rfl fun h ρ w hg=>?_
  simp only[go_sem,d1,d2,d3];refine zqB hg (hn) ?_;simp only[go_sem,d4];exact zt [2]
 .have d3:(ek==11)=false:=by simpa using hk
  have d4:(ek != 11)=true:=by simpa using hk
  rw[if_neg hk]at h3;have hn:=AnB hS en h3;refine zqIB func78 rfl fun h ρ w hg=>?_
  simp only[go_sem,d1,d2,d3,d4];refine zqB hg (hn) ?_;simp only[go_sem];exact zt [2]
def faT(f:Fa):Bool:=elT f.el&&(f.facet.all (fun c=>smI c.toNat)&&(decide (1<=f.facet.length)&&(decide (f.facet.length<=20)&&(plainL f.value&&decide (f.value.length<=60)))))
theorem BiO{S:Std}(hS:LibOk S)(f:Fa)(h:faT f=true):PcH prog S 170 [faA f] (· = .int .i64 0):=by
 simp only[faT,Bool.and_eq_true,decide_eq_true_eq]at h;obtain⟨h1,h2,h3,h4,h5,h6⟩:=h;have c1:=BiN hS f.el h1;have c2:=A2U f.facet h2 h3 h4;have c3:=AbM hS f.value (by omega);rw[h5]at c3;have dv:decide ((f.value.length:Int)>60)=false:=by simp; omega
 simp only[faA,elA]at c1 |-;refine zqIB func170 rfl fun h ρ w hg=>?_
 simp only[go_sem];refine zqB hg (c1) ?_;simp only[go_sem];refine zpB (c2) ?_;simp only[go_sem];refine zqB hg (c3) ?_;simp only[go_sem,dv];exact zt [2]
