/- Draws of the tags' rows: facts, walked. -/
import Derived.Test.YtnfkjpihaficbaaGreatDoorK27
set_option maxRecDepth 100000
set_option maxHeartbeats 8000000
set_option linter.unusedSimpArgs false
set_option linter.unusedVariables false
namespace Go.Proofs.YtnfkjpihaficbaaGreatDoor
open Go Go.Av Go.RowKit _root_.Go.Proofs.Tryz
theorem BlY(s:List Blk)(id:Nat)(l:List Fa)(h:s.getD id .dead=.arr 5 (l.map faA)):borF 1 s (.sl id 0 l.length l.length)=.fz 5 (l.map faA):=by
 show bor (0+1) s (.sl id 0 l.length l.length)=_
 rw[bor_sl,h];simp only[Nat.zero_add,List.length_map,decide_true,Nat.le_refl,Bool.and_self,cond_true,List.drop_zero,AV.fz.injEq,true_and];rw[List.take_of_length_le (by simp),List.map_map];exact List.map_congr_left fun x _=>rfl
theorem A8W(L:List Int)(k:Int)(x:Sr)(hl:x.scenes.length<=1000)(h3:0<=k)(h4:k<=700000):Mc prog 61 2 (str L k) [srA x] (fun r s=>r=.fz 5 ((factsF L k x).1.map faA)/\s=str L (factsF L k x).2):=by
 have hb:=AcV L k 8 (by decide);have hn0:=AbW L k 8 (by decide) (by decide) h3 (by omega);have hr1:=AeG [118] 60 (by decide) (by decide);have hr2:=AeG [118] 61 (by decide) (by decide);unfold factsF;generalize nx L k 8=v at *;obtain⟨b1,b2⟩:=hb;obtain⟨n,rfl⟩:∃ n:Nat,v=n:=⟨v.toNat,by omega⟩;rw[show((n:Int)).toNat=n by omega];have hno:=fun kk (h:0<=kk) (h':kk<=800000)=>BfJ L kk x hl h (by omega)
 simp only[srA]at hno |-;refine zcIB func61 rfl fun h ρ w=>?_
 simp only[go_sem];refine zm 0 (hn0) ?_;rintro _ _ ⟨rfl,rfl⟩;refine zgB ?_;simp only[go_sem];refine AaC (ι:=Nat) (fun i=>n-i)
  (fun i=>[(10,.int .i64 i),(9,.int .i64 n),(5,.sl 1 0 (faRun L x (k+1) i).1.length (faRun L x (k+1) i).1.length),(3,.pin 2 [.agg [.str x.title,.fz 5 (x.scenes.map scA)]] 0 0),(0,.ptr 0 1 0 0)])
  (fun i=>[.arr 2 [str L (faRun L x (k+1) i).2],.arr 5 ((faRun L x (k+1) i).1.map faA)]) (fun i=>i<=n) 0 (by simp) ?_ ?_
 .refine Shift.trans (Shift.nilsl 5 5 rfl) (Shift.weakS ?_ rfl)
  simp only[go_sem,List.length_map]
  repeat(first|rfl|(simp; done)|refine And.intro (by first|rfl|(simp; done)) ?_)
 intro i g1 J hJ;obtain⟨c1,c2,c3⟩:=ArG L x (k+1) i
 by_cases gi:i<n
 .have di:decide ((i:Int)<(n:Int))=true:=by simp; omega
  have hfin:=hJ (i+1) (by omega) (by omega);simp only[faRun]at hfin;generalize faRun L x (k+1) i=st at *;obtain⟨fs,kk⟩:=st;simp only at c1 c2 c3 hfin |-;clear hJ;unfold AkA at hfin;simp only at hfin;have w1:=hno kk (by omega) (by omega);have n1:=A0A L kk x;unfold faF at hfin;simp only at hfin;generalize noF L kk x=nn at *;obtain⟨no,k1⟩:=nn;simp only at w1 n1 hfin;have w2:=BfK L k1 (by omega) (by omega);have n2:=A0B L k1;generalize elF L k1=ee at *;obtain⟨el,k2⟩:=ee;simp only[elA]at w2 n2 hfin;have w3:=AbJ L k2 FcA (by decide) (by decide) (by omega) (by omega);have w4:=AbJ L (k2+1) VlA (by decide) (by decide) (by omega) (by omega);have w5:=AaZ L (k2+1+1) 15 (by decide) (by decide) (by omega) (by omega);have w6:=AbJ L (k2+1+1+1) FcB (by decide) (by decide) (by omega) (by omega);have n3:=A7K L k2;have hfc:fcF L k2=if flipF L (k2+1+1) 15 then(oneF L (k2+1+1+1) FcB,k2+1+1+1+1) else(oneF L k2 FcA,k2+1+1+1):=rfl
  generalize fcF L k2=cc at *;obtain⟨fc,k3⟩:=cc;simp only at n3 hfin;have w7:=AaZ L k3 15 (by decide) (by decide) (by omega) (by omega);have w8:=AbJ L (k3+1) VlB (by decide) (by decide) (by omega) (by omega);have n4:=A7L L k2 k3;have hvl:vlF L k2 k3=if flipF L k3 15 then(oneF L (k3+1) VlB,k3+1+1) else(oneF L (k2+1) VlA,k3+1):=rfl
  generalize vlF L k2 k3=vv at *;obtain⟨vl,k4⟩:=vv;simp only at n4 hfin;have w9:=AaZ L k4 15 (by decide) (by decide) (by omega) (by omega);generalize oneF L k2 FcA=f0 at *;generalize oneF L (k2+1) VlA=v0 at *;generalize flipF L (k2+1+1) 15=p1 at *;generalize oneF L (k2+1+1+1) FcB=f1 at *;generalize flipF L k3 15=p2 at *;generalize oneF L (k3+1) VlB=v1 at *;generalize flipF L k4 15=p3 at *;have hany:=A0E 115 [.pin 5 [faA ⟨no,el,fc,vl⟩] 0 0] rfl (fun y=>sameFa y ⟨no,el,fc,vl⟩) fs (by omega) (fun y _=>BiH y _);generalize fs.any (fun y=>sameFa y ⟨no,el,fc,vl⟩)=dbl at *;refine zgB ?_;simp only[go_sem,di]
  repeat refine aqd ?_
  refine zm 0 (w1) ?_;rintro _ _ ⟨rfl,rfl⟩;refine zgB ?_;simp only[go_sem];refine zm 0 (w2) ?_;rintro _ _ ⟨rfl,rfl⟩;refine zgB ?_;simp only[go_sem];refine zm 0 (w3) ?_;rintro _ _ ⟨rfl,rfl⟩;refine zgB ?_;simp only[go_sem];refine zm 0 (w4) ?_;rintro _ _ ⟨rfl,rfl⟩;refine zgB ?_;simp only[go_sem]
  repeat refine aqd ?_
  refine zm 0 (w5) ?_;rintro _ _ ⟨rfl,rfl⟩;refine goB rfl 1 ?_;simp only[go_sem];refine acut (ι:=Unit) (fun _=>[(6,.ptr 2 1 0 0),(10,.int .i64 i),(9,.int .i64 n),(5,.sl 1 0 fs.length fs.length),(3,.pin 2 [.agg [.str x.title,.fz 5 (x.scenes.map scA)]] 0 0),(0,.ptr 0 1 0 0)])
   (fun _=>[.arr 2 [str L k3],.arr 5 (fs.map faA),.arr 5 [.agg [.str no,.int .i64 el.kind,.str el.name,.str fc,.str v0]]]) (fun _=>True) ?_ ?_
  .intro Jc hJc
   have fc1:=hJc () trivial
   cases p1 with
   | true =>
    simp only[if_true,Prod.mk.injEq]at hfc;obtain⟨rfl,rfl⟩:=hfc;refine zgB ?_;simp only[go_sem];refine zm 0 (w6) ?_;rintro _ _ ⟨rfl,rfl⟩;refine zgB ?_;simp only[go_sem]
    repeat refine aqd ?_
    refine ainv fc1 (Shift.weakS ?_ rfl);simp only[go_sem]
   | false =>
    simp only[Bool.false_eq_true,if_false,Prod.mk.injEq]at hfc;obtain⟨rfl,rfl⟩:=hfc;refine zgB ?_;simp only[go_sem];refine ainv fc1 (Shift.weakS ?_ rfl);simp only[go_sem]
  intro _ _;clear hfc w1 w2 w3 w4 w5 w6;refine zgB ?_;simp only[go_sem];refine zm 0 (w7) ?_;rintro _ _ ⟨rfl,rfl⟩;refine goB rfl 1 ?_;simp only[go_sem];refine acut (ι:=Unit) (fun _=>[(6,.ptr 2 1 0 0),(10,.int .i64 i),(9,.int .i64 n),(5,.sl 1 0 fs.length fs.length),(3,.pin 2 [.agg [.str x.title,.fz 5 (x.scenes.map scA)]] 0 0),(0,.ptr 0 1 0 0)])
   (fun _=>[.arr 2 [str L k4],.arr 5 (fs.map faA),.arr 5 [.agg [.str no,.int .i64 el.kind,.str el.name,.str fc,.str vl]]]) (fun _=>True) ?_ ?_
  .intro Jc hJc
   have fc1:=hJc () trivial
   cases p2 with
   | true =>
    simp only[if_true,Prod.mk.injEq]at hvl;obtain⟨rfl,rfl⟩:=hvl;refine zgB ?_;simp only[go_sem];refine zpB (hr1) ?_;simp only[go_sem];refine zpB (hr2) ?_;simp only[go_sem];refine zm 0 (w8) ?_;rintro _ _ ⟨rfl,rfl⟩;refine zgB ?_;simp only[go_sem]
    repeat refine aqd ?_
    refine ainv fc1 (Shift.weakS ?_ rfl);simp only[go_sem]
   | false =>
    simp only[Bool.false_eq_true,if_false,Prod.mk.injEq]at hvl;obtain⟨rfl,rfl⟩:=hvl;refine zgB ?_;simp only[go_sem];refine ainv fc1 (Shift.weakS ?_ rfl);simp only[go_sem]
  intro _ _;clear hvl w7 w8;have hbor:=Ct.borrowF (P:=prog) (f:=114) (args:=[.sl 1 0 fs.length fs.length,.fn (.func 115) [.ptr 2 1 0 0]]) 1 [.arr 2 [str L k4],.arr 5 (fs.map faA),.arr 5 [.agg [.str no,.int .i64 el.kind,.str el.name,.str fc,.str vl]]] (post:=(· = .bool dbl)) (by
   simp only[List.map_cons,List.map_nil];rw[BlY _ 1 fs rfl];exact hany) (by rintro r rfl; rfl)
  refine zgB ?_;simp only[go_sem];refine za (hbor) ?_;rintro _ _ ⟨rfl,rfl⟩
  cases dbl with
  | false =>
   simp only[Bool.false_eq_true,if_false,List.map_append,List.map_cons,List.map_nil,faA,List.length_append,List.length_cons,List.length_nil,Nat.zero_add]at hfin;refine zgB ?_;simp only[go_sem,List.length_map]
   repeat refine aqe ?_
   rw[ic i];refine ainv hfin (Shift.low 2 (by simp) (by simp) ?_ ?_)
   .simp only [List.take_succ_cons,List.take_zero,List.all_cons,List.all_nil,lowB,flat_append,List.all_append,AaD (ApI fs),str,flat,cellsOf,lowC,Av.frozen,List.append_nil,List.cons_append,List.nil_append,Bool.and_self]
   .simp only [go_sem]
    repeat(first|rfl|(simp; done)|(simp; omega)|refine And.intro (by first|rfl|(simp; done)|(simp; omega)) ?_)
  | true =>
   simp only[if_true]at hfin;refine zgB ?_;simp only[go_sem];refine zm 0 (w9) ?_;rintro _ _ ⟨rfl,rfl⟩
   cases p3 with
   | true =>
    simp only[if_true,List.map_append,List.map_cons,List.map_nil,faA,List.length_append,List.length_cons,List.length_nil,Nat.zero_add]at hfin;refine zgB ?_;simp only[go_sem,List.length_map]
    repeat refine aqe ?_
    rw[ic i];refine ainv hfin (Shift.low 2 (by simp) (by simp) ?_ ?_)
    .simp only [List.take_succ_cons,List.take_zero,List.all_cons,List.all_nil,lowB,flat_append,List.all_append,AaD (ApI fs),str,flat,cellsOf,lowC,Av.frozen,List.append_nil,List.cons_append,List.nil_append,Bool.and_self]
    .simp only [go_sem]
     repeat(first|rfl|(simp; done)|(simp; omega)|refine And.intro (by first|rfl|(simp; done)|(simp; omega)) ?_)
   | false =>
    simp only[Bool.false_eq_true,if_false]at hfin;refine zgB ?_;simp only[go_sem,List.length_map]
    repeat refine aqe ?_
    rw[ic i];refine ainv hfin (Shift.low 2 (by simp) (by simp) ?_ ?_)
    .simp only [List.take_succ_cons,List.take_zero,List.all_cons,List.all_nil,lowB,flat_append,List.all_append,AaD (ApI fs),str,flat,cellsOf,lowC,Av.frozen,List.append_nil,List.cons_append,List.nil_append,Bool.and_self]
    .simp only [go_sem]
     repeat(first|rfl|(simp; done)|(simp; omega)|refine And.intro (by first|rfl|(simp; done)|(simp; omega)) ?_)
 .have di:decide ((i:Int)<(n:Int))=false:=by simp; omega
  have hi:i=n:=by omega
  subst hi;clear hJ;generalize faRun L x (k+1) i=st at *;obtain⟨fs,kk⟩:=st;simp only at c1 c2 c3 |-;have htk:((fs.map faA).drop 0).take fs.length=fs.map faA:=by rw[List.drop_zero,List.take_of_length_le (by simp)]
  refine zgB ?_;simp only[go_sem,di];exact ARet.shift (Shift.freeze 4 (id:=1) (l:=fs.map faA) rfl rfl (by simp) (Nat.le_refl _) (ApI fs)) (aret [4] rfl ⟨_,_,rfl,by simp only[resV,Av.get,Av.put,beq_self_eq_true,cond_true,htk],rfl,rfl,rfl⟩)
theorem AnK:∀ n∈ElA++ElB++NameL,(nameR n=true->isNameL n=true)/\(A7R n=true->isThingL n=true)/\n.length<100:=by decide +kernel
theorem AkD:∀ n∈FcA++FcB,(facetR n=true->n.all (fun c=>smI c.toNat)=true/\1<=n.length/\n.length<=20)/\n.length<100:=by decide +kernel
theorem AkE:∀ n∈VlA++VlB,(plainR n=true->plainL n=true)/\n.length<100:=by decide +kernel
def ElDr(e:El):Prop:=e.name∈ElA++ElB++NameL
theorem BlZ{e:El}(hd:ElDr e)(h:elR e=0):elT e=true:=by
 obtain⟨h1,h2,_⟩:=AnK _ hd;unfold elR at h
 split at h
 .exact absurd h (by decide)
 rename_i hk;simp only[elT,Bool.and_eq_true,decide_eq_true_eq];refine⟨by omega,by omega,?_⟩
 split at h
 .rename_i h11
  rw[if_pos h11]
  split at h
  .rename_i hn
   exact h1 hn
  .exact absurd h (by decide)
 .rename_i h11
  rw[if_neg h11]
  split at h
  .rename_i hn
   exact h2 hn
  .exact absurd h (by decide)
structure FaDr(f:Fa):Prop where
 el:ElDr f.el
 facet:f.facet∈FcA++FcB
 value:f.value∈VlA++VlB
 scene:f.scene.length<100
theorem FaDr.sz{f:Fa}(h:FaDr f):FaSz f:=⟨by have:=(AnK _ h.el).2.2; omega,by have:=(AkD _ h.facet).2; omega,by have:=(AkE _ h.value).2; omega,by have:=h.scene; omega⟩
theorem BmA{f:Fa}(hd:FaDr f)(h:faR f=0):faT f=true:=by
 unfold faR at h
 split at h
 .exact absurd h (by assumption)
 rename_i he;have he:elR f.el=0:=by simpa using he
 split at h
 .rename_i hf
  obtain⟨a1,a2,a3⟩:=(AkD _ hd.facet).1 hf
  split at h
  .rename_i hp
   have b1:=(AkE _ hd.value).1 hp
   split at h
   .exact absurd h (by decide)
   .simp only [faT,Bool.and_eq_true,decide_eq_true_eq]
    exact⟨BlZ hd.el he,a1,a2,a3,b1,by omega⟩
  .exact absurd h (by decide)
 .exact absurd h (by decide)
theorem BmB(L:List Int)(k:Int):ElDr (elF L k).1:=by
 unfold elF ElDr
 split
 .exact List.mem_append_left _ (List.mem_append_left _ (AaI (by decide)))
 split
 .exact List.mem_append_right _ (AaI (by decide))
 .exact List.mem_append_left _ (List.mem_append_right _ (AaI (by decide)))
theorem A8X:∀ i,i<5->(AbI (i+1)).length<100:=by decide
theorem BjH(L:List Int)(k:Int){x:Sr}(hx:StoryOk x):(noF L k x).1.length<100:=by
 have key:∀ j,(oneF L j NoL).length<100:=fun j=>by
  have:=BiE _ (AaI (L:=L) (k:=j) (ls:=NoL) (by decide));omega
 unfold noF
 split
 .exact key k
 split
 .exact key _
 .rename_i h0 _
  have hb:=AcV L (k+1) x.scenes.length (by omega);have hi:(nx L (k+1) x.scenes.length).toNat<x.scenes.length:=by omega
  simp only[List.getD,List.getElem?_map,List.getElem?_eq_getElem hi,Option.map_some,Option.getD_some];rw[hx.no _ hi];exact A8X _ (by have:=hx.len; omega)
theorem BmC(L:List Int)(k:Int){x:Sr}(hx:StoryOk x):FaDr (faF L x k).1:=⟨BmB _ _,(A7K _ _).2.2,(A7L _ _ _).2.2,BjH L k hx⟩
theorem A8Y(L:List Int){x:Sr}(hx:StoryOk x)(st:List Fa×Int)(h:∀ f∈st.1,FaDr f):∀ f∈(AkA L x st).1,FaDr f:=by
 have key:∀ f∈st.1++[(faF L x st.2).1],FaDr f:=by
  intro f hf
  rcases List.mem_append.1 hf with h1|h1
  .exact h f h1
  .rw [List.mem_singleton.1 h1]
   exact BmC L _ hx
 unfold AkA
 split
 .split
  .exact key
  .exact h
 .exact key
theorem A0R(L:List Int){x:Sr}(hx:StoryOk x)(k:Int):∀ n,∀ f∈(faRun L x k n).1,FaDr f
 | 0=>by simp[faRun]
 | n+1=>A8Y L hx _ (A0R L hx k n)
theorem AuR(L:List Int)(k:Int){x:Sr}(hx:StoryOk x):∀ f∈(factsF L k x).1,FaDr f:=A0R L hx _ _
structure FactsOk(x:Sr)(l:List Fa):Prop where
 len:l.length<=8
 fa:∀ f∈l,faT f=true/\f.scene.length<100
 at':∀ f∈l,∃ i,∃ h:i<x.scenes.length,x.scenes[i].no=f.scene
 dist:l.Pairwise fun a b=>sameFa a b=false
theorem ApT{x:Sr}(hx:StoryOk x):∀ (r pre:List Fa),(∀ f∈r,FaDr f)->factsGo x pre r=0->(∀ f∈r,faT f=true/\f.scene.length<100)/\(∀ f∈r,∃ i,∃ h:i<x.scenes.length,x.scenes[i].no=f.scene)/\r.Pairwise (fun a b=>sameFa a b=false)/\∀ a∈pre,∀ b∈r,sameFa a b=false
 | [],pre,_,_=>by simp
 | f::r,pre,hd,h=>by
  rw[factsGo]at h
  split at h
  .exact absurd h (by decide)
  rename_i hs
  split at h
  .exact absurd h (by assumption)
  rename_i hf
  split at h
  .exact absurd h (by decide)
  rename_i hp;obtain⟨a1,a2,a3,a4⟩:=ApT hx r (pre++[f]) (fun g hg=>hd g (by simp[hg])) h;have hfd:=hd f (by simp);obtain⟨i,hi,he⟩:=(AjB x f.scene).resolve_left hs;refine⟨?_,?_,?_,?_⟩
  .intro g hg
   rcases List.mem_cons.1 hg with rfl|hg
   .exact ⟨BmA hfd (by simpa using hf),hfd.scene⟩
   .exact a1 g hg
  .intro g hg
   rcases List.mem_cons.1 hg with rfl|hg
   .exact ⟨i,hi,(AuH hx hi he).1⟩
   .exact a2 g hg
  .rw [List.pairwise_cons]
   exact⟨fun b hb=>a4 f (by simp) b hb,a3⟩
  .intro a ha b hb
   rcases List.mem_cons.1 hb with rfl|hb
   .have:=List.any_eq_false.1 (by simpa using hp:(pre.any fun y=>sameFa y b)=false) a ha
    simpa using this
   .exact a4 a (by simp[ha]) b hb
theorem A8Z{x:Sr}(hx:StoryOk x){l:List Fa}(hl:l.length<=8)(hd:∀ f∈l,FaDr f)(h:AfM x l=0):FactsOk x l:=by
 unfold AfM at h
 split at h
 .exact absurd h (by assumption)
 obtain⟨a1,a2,a3,_⟩:=ApT hx l [] hd h;exact⟨hl,a1,a2,a3⟩
theorem AxK(x:Sr):FactsOk x []:=⟨by simp,by simp,by simp,.nil⟩
structure JumpsOk(x:Sr)(l:List Jm):Prop where
 len:l.length<=6
 jm:∀ j∈l,jumpR j=0
 at':∀ j∈l,∃ i,∃ h:i<x.scenes.length,sceneIx x j.scene=i/\x.scenes[i].no=j.scene
 up:l.Pairwise fun a b=>sceneIx x a.scene<sceneIx x b.scene
theorem ApU{x:Sr}(hx:StoryOk x):∀ (r:List Jm)(last:Int),AhG x last r=0->(∀ j∈r,jumpR j=0)/\(∀ j∈r,∃ i,∃ h:i<x.scenes.length,sceneIx x j.scene=i/\x.scenes[i].no=j.scene)/\r.Pairwise (fun a b=>sceneIx x a.scene<sceneIx x b.scene)/\∀ j∈r,last<sceneIx x j.scene
 | [],_,_=>by simp
 | j::r,last,h=>by
  rw[AhG]at h
  split at h
  .exact absurd h (by decide)
  rename_i hs
  split at h
  .exact absurd h (by decide)
  rename_i hq
  split at h
  .exact absurd h (by assumption)
  rename_i hj;obtain⟨a1,a2,a3,a4⟩:=ApU hx r _ h;obtain⟨i,hi,he⟩:=(AjB x j.scene).resolve_left hs;refine⟨?_,?_,?_,?_⟩
  .intro g hg
   rcases List.mem_cons.1 hg with rfl|hg
   .simpa using hj
   .exact a1 g hg
  .intro g hg
   rcases List.mem_cons.1 hg with rfl|hg
   .exact ⟨i,hi,he,(AuH hx hi he).1⟩
   .exact a2 g hg
  .rw [List.pairwise_cons]
   exact⟨a4,a3⟩
  .intro g hg
   rcases List.mem_cons.1 hg with rfl|hg
   .omega
   .have:=a4 g hg
    omega
theorem A9A{x:Sr}(hx:StoryOk x){l:List Jm}(hl:l.length<=6)(h:AkC x l=0):JumpsOk x l:=by
 unfold AkC at h
 split at h
 .exact absurd h (by assumption)
 obtain⟨a1,a2,a3,_⟩:=ApU hx l (-1) h;exact⟨hl,a1,a2,a3⟩
theorem AxL(x:Sr):JumpsOk x []:=⟨by simp,by simp,by simp,.nil⟩
def fkA(f:Fa):AV:=.agg [.str f.scene,.int .i64 f.el.kind,.str f.el.name,.str f.facet]
def lkA(k:El×List UInt8):AV:=.agg [.int .i64 k.1.kind,.str k.1.name,.str k.2]
theorem keyFk(a b:Fa):keyEqT prog 249 (fkA a) (fkA b)=some (sameFa a b):=by
 have h9:prog.underlying 9=some .string:=by kernel_rfl
 have h3:prog.underlying 3=some (.int .i64):=by kernel_rfl
 simp only[fkA,keyEqT,lf249,eqLs,h9,h3,leafEq,bothB,sameFa,el_beq,Bool.and_true,Bool.and_assoc];rfl
theorem keyLk(a b:El×List UInt8):keyEqT prog 160 (lkA a) (lkA b)=some (a==b):=by
 have h9:prog.underlying 9=some .string:=by kernel_rfl
 have h3:prog.underlying 3=some (.int .i64):=by kernel_rfl
 obtain⟨a,p⟩:=a;obtain⟨b,q⟩:=b;have:((a,p)==(b,q))=(a==b&&p==q):=rfl;rw[this];simp only[lkA,keyEqT,lf160,eqLs,h9,h3,leafEq,bothB,el_beq,Bool.and_true,Bool.and_assoc];rfl
theorem isFk(f:Fa):AbZ prog 249 (fkA f)=true:=by
 unfold AbZ;rw[keyFk]
 simp[sameFa,el_beq]
theorem AxM(a b:Fa):sameFa a b=sameFa b a:=by
 simp only[sameFa,el_beq];rw[Bool.eq_iff_iff];simp only[Bool.and_eq_true,beq_iff_eq]
 constructor <;> (rintro⟨h1,⟨h2,h3⟩,h4⟩; exact⟨h1.symm,⟨h2.symm,h3.symm⟩,h4.symm⟩)
def fkM(l:List Fa):List (AV×AV):=l.map fun f=>(fkA f,.bool true)
theorem A0S(f:Fa):∀ (l:List Fa)(n:Nat),(∀ g∈l,sameFa g f=false)->mfindT prog 249 (fkA f) (fkM l) n=some none
 | [],n,_=>rfl
 | g::r,n,h=>by
  have h1:=h g (by simp);rw[AxM]at h1
  show(match keyEqT prog 249 (fkA f) (fkA g)with|some true=>_|some false=>mfindT prog 249 (fkA f) (fkM r) (n+1)|none=>_)=_
  rw[keyFk,h1];exact A0S f r (n+1) (fun x hx=>h x (by simp[hx]))
theorem BjI(n:Nat)(l:List Fa):lowB n (.mp (fkM l))=true:=by
 show(fkM l).all _=true
 rw[List.all_eq_true];intro x hx;simp only[fkM,List.mem_map]at hx;obtain⟨f,_,rfl⟩:=hx;rfl
theorem AnL{x:Sr}(hx:StoryOk x){no:List UInt8}{i:Nat}(hi:i<x.scenes.length)(hs:x.scenes[i].no=no):mfind .string (.str no) (scMF 0 x.scenes) 0=some (some (i,.int .i64 (i:Int))):=by
 have:=AuG x.scenes 0 0 i hi hs (fun j hj e=>by
  have:=hx.inj (show j<x.scenes.length by omega) hi (by rw[e,hs]);omega)
 simpa using this
theorem AgW{S:Std}(hS:LibOk S)(x:Sr)(hx:StoryOk x)(l:List Jm)(hl:JumpsOk x l):PcH prog S 83 [srA x,.fz 4 (l.map jmA)] (· = .int .i64 0):=by
 have hlen:=hx.len;have hll:=hl.len;have h1:=AdD hS x hx;have h2:=AgI x hx;simp only[srA]at h1 h2 |-;refine zqIB func83 rfl fun h ρ w hg=>?_
 simp only[go_sem];refine zqB hg (h1) ?_;simp only[go_sem];refine za (h2) ?_;rintro _ _ ⟨rfl,rfl⟩;refine zgB ?_;simp only[go_sem,List.length_map];refine AaC (ι:=Nat×Int) (fun y=>l.length-y.1)
  (fun y=>[(22,.int .i64 y.1),(21,.int .i64 l.length),(20,.fz 4 (l.map jmA)),(7,.int .i64 y.2),(6,.mp 0)])
  (fun y=>[.mp (scMF 0 x.scenes)]) (fun y=>y.1<=l.length /\ -1<=y.2/\y.2<5/\∀ j (hj:j<l.length),y.1<=j->y.2<sceneIx x l[j].scene) (0,-1) ⟨by simp,by simp,by simp,?_⟩ ?_ ?_
 .intro j hj _
  obtain⟨i,hi,he,_⟩:=hl.at' _ (List.getElem_mem hj);simp only;omega
 .refine Shift.weakS ?_ rfl
  simp only[go_sem,List.length_map]
 rintro⟨i,last⟩ ⟨g1,g2,g3,g4⟩ J hJ
 try simp only at g1 g2 g3 g4
 by_cases gi:i<l.length
 .have di:decide ((i:Int)<(l.length:Int))=true:=by simp; omega
  have hget:=ArH l i gi;have h5:=BdH l[i];rw[hl.jm _ (List.getElem_mem gi)]at h5;obtain⟨q,hq,hqi,hqs⟩:=hl.at' _ (List.getElem_mem gi);have hup:=g4 i gi (Nat.le_refl _);have m0:=AnL hx hq hqs;have hnext:∀ j (hj:j<l.length),i+1<=j->(q:Int)<sceneIx x l[j].scene:=fun j hj hij=>by
   have:=List.pairwise_iff_getElem.1 hl.up i j gi hj (by omega);omega
  have hfin:=hJ (i+1,(q:Int)) ⟨by show i+1<=_; omega,by show -1<=(q:Int); omega,by show(q:Int)<5; omega,hnext⟩ (by simp; omega);rw[hqi]at hup;have dq:decide ((q:Int)<=last)=false:=by simp; omega
  clear hnext;generalize l[i]=j at *;have hja:jmA j=.agg [.str j.scene,.int .i64 j.by',.int .i64 j.to',.bool j.flash]:=rfl;rw[hja]at hget h5;refine zgB ?_;simp only[go_sem,di,hget,m0,dq,List.length_map]
  repeat refine ak ?_
  refine zpB (h5) ?_;simp only[go_sem]
  repeat refine ak ?_
  rw[ic i];refine ainv hfin (Shift.low 1 (by simp) (by simp) ?_ ?_)
  .simp only [List.take_succ_cons,List.take_zero,List.all_cons,List.all_nil,↓low_scM,Bool.and_self]
  .simp only [go_sem]
 .have di:decide ((i:Int)<(l.length:Int))=false:=by simp; omega
  refine zgB ?_;simp only[go_sem,di];exact zt [4]
theorem AoG{S:Std}(hS:LibOk S)(x:Sr)(hx:StoryOk x)(l:List Fa)(hl:FactsOk x l):PcH prog S 121 [srA x,.fz 5 (l.map faA)] (· = .int .i64 0):=by
 have hlen:=hx.len;have hll:=hl.len;have h1:=AdD hS x hx;have h2:=AgI x hx;have d1:decide ((l.length:Int)>3000)=false:=by simp; omega
 simp only[srA]at h1 h2 |-;refine zqIB func121 rfl fun h ρ w hg=>?_
 simp only[go_sem];refine zqB hg (h1) ?_;simp only[go_sem,d1,List.length_map];refine za (h2) ?_;rintro _ _ ⟨rfl,rfl⟩;refine zgB ?_;simp only[go_sem,List.length_map];refine AaC (ι:=Nat) (fun y=>l.length-y)
  (fun y=>[(27,.int .i64 y),(26,.int .i64 l.length),(25,.fz 5 (l.map faA)),(6,.mp 0),(7,.mp 1)])
  (fun y=>[.mp (scMF 0 x.scenes),.mp (fkM (l.take y))]) (fun y=>y<=l.length) 0 (by simp) ?_ ?_
 .refine Shift.weakS ?_ rfl
  simp only[go_sem,List.length_map]
 rintro i g1 J hJ
 by_cases gi:i<l.length
 .have di:decide ((i:Int)<(l.length:Int))=true:=by simp; omega
  have hget:=AiZ l i gi;obtain⟨t1,t2⟩:=hl.fa _ (List.getElem_mem gi);have h5:=BiO hS l[i] t1;obtain⟨q,hq,hqs⟩:=hl.at' _ (List.getElem_mem gi);have m0:=AnL hx hq hqs;have m1:=A0S l[i] (l.take i) 0 (fun g hg=>by
   obtain⟨j,hj,rfl⟩:=List.getElem_of_mem hg;rw[List.length_take]at hj;rw[List.getElem_take];exact List.pairwise_iff_getElem.1 hl.dist j i (by omega) gi (by omega))
  have m2:fkM (l.take i)++[(fkA l[i],.bool true)]=fkM (l.take (i+1)):=by
   rw[List.take_add_one,List.getElem?_eq_getElem gi,fkM,fkM,List.map_append];rfl
  have m3:=isFk l[i];have hfin:=hJ (i+1) (by omega) (by omega);generalize l[i]=f at *;simp only[fkA,faA]at m1 m2 m3 h5;refine zgB ?_;simp only[go_sem,di,hget,m0,List.length_map]
  repeat refine ak ?_
  refine zqB hg (h5) ?_;simp only[go_sem,↓m3,↓m1,m2]
  repeat refine ak ?_
  rw[ic i];refine ainv hfin (Shift.low 2 (by simp) (by simp) ?_ ?_)
  .simp only [List.take_succ_cons,List.take_zero,List.all_cons,List.all_nil,↓low_scM,↓BjI,Bool.and_self]
  .simp only [go_sem]
 .have di:decide ((i:Int)<(l.length:Int))=false:=by simp; omega
  refine zgB ?_;simp only[go_sem,di];exact zt [4]
def timesTo(xs:List Sc):Nat->List Int
 | 0=>[]
 | i+1=>timesTo xs i++[if(xs.getD i ⟨[],0,[],0,[]⟩).time==5&&decide (i>0) then(timesTo xs i).getD (i-1) 0 else(xs.getD i ⟨[],0,[],0,[]⟩).time]
theorem AcO(xs:List Sc):∀ i,(timesTo xs i).length=i
 | 0=>rfl
 | i+1=>by simp[timesTo,AcO xs i]
theorem AnM(l:List Int):(flat (l.map (AV.int .i64))).all Av.frozen=true:=by
 induction l with
 | nil=>rfl
 | cons y l ih=>simpa[flat,cellsOf,Av.frozen]using ih
theorem BdZ(x:Sr)(hl:x.scenes.length<1000000):Pc prog 191 [srA x] (· = .fz 1 ((timesTo x.scenes x.scenes.length).map (.int .i64))):=by
 obtain⟨ti,xs⟩:=x;simp only[srA]at hl |-;refine zpIF func191 rfl fun h ρ w=>?_
 simp only[go_sem,List.length_map];refine AaC (ι:=Nat) (fun i=>xs.length-i)
  (fun i=>[(10,.int .i64 i),(9,.int .i64 xs.length),(8,.fz 5 (xs.map scA)),(3,.sl 1 0 i i)])
  (fun i=>[.arr 2 [.agg [.str ti,.fz 5 (xs.map scA)]],.arr 1 ((timesTo xs i).map (.int .i64))]) (fun i=>i<=xs.length) 0 (by simp) ?_ ?_
 .refine Shift.trans (Shift.nilsl 3 1 rfl) (Shift.weak ?_)
  simp only[go_sem,timesTo]
 .intro i g1 J hJ
  have htl:=AcO xs i
  by_cases gi:i<xs.length
  .have di:decide ((i:Int)<(xs.length:Int))=true:=by simp; omega
   have hgd:xs.getD i ⟨[],0,[],0,[]⟩=xs[i]:=by simp[List.getD,gi]
   have hg':List.getD (List.map scA xs) i .any=.agg [.str xs[i].no,.int .i64 xs[i].place,.str xs[i].set,.int .i64 xs[i].time,.fz 2 (xs[i].paras.map paA)]:=by simp[List.getD,gi,scA]
   have hsu:timesTo xs (i+1)=timesTo xs i++[if xs[i].time==5&&decide (i>0) then(timesTo xs i).getD (i-1) 0 else xs[i].time]:=by rw[timesTo,hgd]
   have fin:=hJ (i+1) (by omega) (by omega);have lowT:∀ k,(flat ((timesTo xs k).map (AV.int .i64))).all (lowC 2)=true:=fun k=>AaD (AnM _)
   cases e5:xs[i].time==5 with
   | true =>
    by_cases h0:i>0
    .have d0:decide ((i:Int)>0)=true:=by simp; omega
     have hlast:List.getD (List.map (AV.int .i64) (timesTo xs i)) ((i:Int)-1).toNat .any=.int .i64 ((timesTo xs i).getD (i-1) 0):=by
      rw[show((i:Int)-1).toNat=i-1 by omega]
      simp[List.getD,show i-1<(timesTo xs i).length by omega]
     have hs:timesTo xs (i+1)=timesTo xs i++[(timesTo xs i).getD (i-1) 0]:=by rw[hsu,e5]; simp[h0]
     refine zgF ?_;simp only[go_sem,List.length_map,di,hg',e5,d0,hlast,htl]
     repeat refine al ?_
     rw[show List.map (AV.int .i64) (timesTo xs i)++[.int .i64 ((timesTo xs i).getD (i-1) 0)]=List.map (AV.int .i64) (timesTo xs (i+1)) by rw[hs]; simp,show(i:Int)+1=((i+1:Nat):Int) by omega];refine ainv fin (Shift.low 2 (by simp) (by simp) ?_ ?_)
     .simp only [List.take_succ_cons,List.take_zero,List.all_cons,List.all_nil,lowB,lowT,flat,cellsOf,lowC,Av.frozen,List.append_nil,Bool.and_self]
     .simp only [go_sem]
    .have d0:decide ((i:Int)>0)=false:=by simp; omega
     have hs:timesTo xs (i+1)=timesTo xs i++[xs[i].time]:=by rw[hsu]; simp[h0]
     refine zgF ?_;simp only[go_sem,List.length_map,di,hg',e5,d0,htl]
     repeat refine al ?_
     rw[show List.map (AV.int .i64) (timesTo xs i)++[.int .i64 xs[i].time]=List.map (AV.int .i64) (timesTo xs (i+1)) by rw[hs]; simp,show(i:Int)+1=((i+1:Nat):Int) by omega];refine ainv fin (Shift.low 2 (by simp) (by simp) ?_ ?_)
     .simp only [List.take_succ_cons,List.take_zero,List.all_cons,List.all_nil,lowB,lowT,flat,cellsOf,lowC,Av.frozen,List.append_nil,Bool.and_self]
     .simp only [go_sem]
   | false =>
    have hs:timesTo xs (i+1)=timesTo xs i++[xs[i].time]:=by rw[hsu,e5]; simp
    refine zgF ?_;simp only[go_sem,List.length_map,di,hg',e5,htl]
    repeat refine al ?_
    rw[show List.map (AV.int .i64) (timesTo xs i)++[.int .i64 xs[i].time]=List.map (AV.int .i64) (timesTo xs (i+1)) by rw[hs]; simp,show(i:Int)+1=((i+1:Nat):Int) by omega];refine ainv fin (Shift.low 2 (by simp) (by simp) ?_ ?_)
    .simp only [List.take_succ_cons,List.take_zero,List.all_cons,List.all_nil,lowB,lowT,flat,cellsOf,lowC,Av.frozen,List.append_nil,Bool.and_self]
    .simp only [go_sem]
  .have di:decide ((i:Int)<(xs.length:Int))=false:=by simp; omega
   have hi:i=xs.length:=by omega
   subst hi;refine zgF ?_;simp only[go_sem,di];refine ARet.shift (Shift.freeze 2 (id:=1) rfl rfl (by simp[htl]) (Nat.le_refl _) (AnM _)) (aret [2] rfl ⟨?_,rfl⟩)
   simp[resV,Av.get,Av.put,List.take_of_length_le,htl]
theorem AgK{x:Sr}(hx:StoryOk x):∀ n,n<=x.scenes.length->∀ t∈timesTo x.scenes n,1<=t/\t<=4
 | 0,_=>by simp[timesTo]
 | i+1,hi=>by
  intro t ht;have ih:=AgK hx i (by omega);rw[timesTo]at ht
  rcases List.mem_append.1 ht with h|h
  .exact ih t h
  rw[List.mem_singleton]at h;have hgd:x.scenes.getD i ⟨[],0,[],0,[]⟩=x.scenes[i]:=by simp[List.getD,show i<x.scenes.length by omega]
  rw[hgd]at h;have ha:=(hx.all i (by omega)).time;simp only at ha
  split at h
  .rename_i hc
   simp only[Bool.and_eq_true,decide_eq_true_eq]at hc;have hl:i-1<(timesTo x.scenes i).length:=by rw[AcO]; omega
   rw[h,show(timesTo x.scenes i).getD (i-1) 0=(timesTo x.scenes i)[i-1] by simp[List.getD,hl]];exact ih _ (List.getElem_mem hl)
  .rename_i hc
   have h5:x.scenes[i].time≠5:=by
    intro e
    by_cases h0:i=0
    .subst h0
     exact hx.first x.scenes[0] (by rw[List.head?_eq_getElem?,List.getElem?_eq_getElem]) e
    .exact hc (by simp[e]; omega)
   omega
def AaU(t:Int):Int:=if t=1 then 2 else if t=2 then 4 else if t=3 then 1 else if t=4 then 3 else 0
theorem AxN(t:Int)(h:1<=t/\t<=4):Pc prog 138 [.int .i64 t] (· = .int .i64 (AaU t)):=by
 obtain rfl|rfl|rfl|rfl:t=1\/t=2\/t=3\/t=4:=by omega
 all_goals
  refine zpIB func138 rfl fun h ρ w=>?_
  simp only[go_sem];exact zt [2]
theorem A3B{S:Std}(hS:LibOk S)(x:Sr)(hx:StoryOk x):PcH prog S 139 [srA x] (· = .tup [.fz 1 ((timesTo x.scenes x.scenes.length).map (.int .i64)),.int .i64 0]):=by
 have h1:=AtQ hS x (AkB hx);have h2:=BdZ x (by have:=hx.len; omega);simp only[srA]at h1 h2 |-;refine zqIB func139 rfl fun h ρ w hg=>?_
 simp only[go_sem];refine zqB hg (h1) ?_;simp only[go_sem];refine zpB (h2) ?_;simp only[go_sem];exact zt [2,3]
def inA(n:Nat):AV:=.int .i64 n
theorem AdP(l:List Nat)(i:Nat)(h:i<l.length):(l.map inA).getD i .any=.int .i64 l[i]:=by simp[List.getD,h,inA]
theorem AhK(l:List Nat)(i x:Nat):(l.map inA).set i (.int .i64 x)=(l.set i x).map inA:=by rw[List.map_set]; rfl
theorem A9B:∀ l:List Nat,(flat (l.map inA)).all Av.frozen=true
 | []=>rfl
 | a::l=>by simp only[List.map_cons,flat,inA,cellsOf,List.cons_append,List.nil_append,List.all_cons,Av.frozen,A9B l,Bool.and_self]
