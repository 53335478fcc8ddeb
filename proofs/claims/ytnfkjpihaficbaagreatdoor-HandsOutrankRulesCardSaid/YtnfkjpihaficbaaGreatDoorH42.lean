/- The tags drawn, exact. Own work of this seat. -/
import Derived.Test.YtnfkjpihaficbaaGreatDoorH41
set_option maxRecDepth 100000
set_option linter.unusedSimpArgs false
set_option linter.unusedVariables false
namespace Go.Proofs.YtnfkjpihaficbaaGreatDoor
open Go Go.Av Go.RowKit
structure Tg where
 scene:List UInt8
 el:El
 n:Int
def tgA (t:Tg):AV:=.agg [.str t.scene,.int .i64 t.el.kind,.str t.el.name,.int .i64 t.n]
def tgN (L:List Int) (k:Int):Int × Int:=if flipF L (k+1) 12 then (pickF L (k+1+1) [-1,1000],k+1+1+1) else (pickF L k [0,1,2,5,999],k+1+1)
def tgF (L:List Int) (k:Int) (x:Sr):Tg × Int :=
 let a:=noF L k x
 let e:=elF L a.2
 let n:=tgN L e.2
 (⟨a.1,e.1,n.1⟩,n.2)
def tgRun (L:List Int) (x:Sr) (k:Int):Nat→List Tg × Int
 | 0=>([],k)
 | n+1=>let s:=tgRun L x k n; let r:=tgF L s.2 x; (s.1++[r.1],r.2)
def tagsF (L:List Int) (k:Int) (x:Sr):List Tg × Int:=tgRun L x (k+1) (nx L k 5).toNat
theorem tgN_bd (L:List Int) (k:Int):k ≤ (tgN L k).2∧(tgN L k).2 ≤ k+3:=by
 unfold tgN
 split <;> exact ⟨by simp only; omega,by simp only; omega⟩
theorem tgF_bd (L:List Int) (k:Int) (x:Sr):k ≤ (tgF L k x).2∧(tgF L k x).2 ≤ k+40:=by
 have h1:=noF_bd L k x
 have h2:=elF_bd L (noF L k x).2
 have h3:=tgN_bd L (elF L (noF L k x).2).2
 unfold tgF
 simp only
 omega
theorem tgRun_bd (L:List Int) (x:Sr) (k:Int):∀ n,(tgRun L x k n).1.length=n∧k ≤ (tgRun L x k n).2∧(tgRun L x k n).2 ≤ k+40 * n
 | 0=>⟨rfl,by simp [tgRun],by simp [tgRun]⟩
 | n+1=>by
  obtain ⟨h1,h2,h3⟩:=tgRun_bd L x k n
  have h4:=tgF_bd L (tgRun L x k n).2 x
  rw [tgRun]
  simp only
  refine ⟨by simp [h1],by omega,by omega⟩
theorem tg_frz:∀ l:List Tg,(flat (l.map tgA)).all Av.frozen=true
 | []=>rfl
 | r :: l=>by simpa [tgA,flat,cellsOf,Av.frozen] using tg_frz l
set_option maxHeartbeats 8000000 in
theorem tagsF_mc (L:List Int) (k:Int) (x:Sr) (hl:x.scenes.length ≤ 1000) (h3:0 ≤ k) (h4:k ≤ 700000):Mc Tryz.prog 10 2 (str L k) [srA x] (fun r s=>r=.fz 4 ((tagsF L k x).1.map tgA)∧s=str L (tagsF L k x).2):=by
 have hb:=nx_bd L k 5 (by decide)
 have hn0:=nextX_mc L k 5 (by decide) (by decide) h3 (by omega)
 have hno:=fun kk (h:0 ≤ kk) (h':kk ≤ 800000)=>noX_mc L kk x hl h (by omega)
 unfold tagsF
 generalize nx L k 5=v at *
 obtain ⟨b1,b2⟩:=hb
 obtain ⟨n,rfl⟩:∃ n:Nat,v=n:=⟨v.toNat,by omega⟩
 rw [show ((n:Int)).toNat=n by omega]
 simp only [srA] at hno ⊢
 refine ct_intro Tryz.func10 rfl Tryz.ntmps10 hB10 (by simp) fun h ρ w=>goB (N:=32) Tryz.ntmps10 300 ?_
 simp only [go_sem]
 refine mcall (hn0) rfl rfl (id:=0) rfl (N:=32) Tryz.ntmps10 rfl ?_
 rintro _ _ ⟨rfl,rfl⟩
 refine goB (N:=32) Tryz.ntmps10 300 ?_
 simp only [go_sem]
 refine aloop (ι:=Nat) (fun i=>n - i)
  (fun i=>[(9,.int .i64 i),(8,.int .i64 n),(5,.sl 1 0 (tgRun L x (k+1) i).1.length (tgRun L x (k+1) i).1.length),(3,.pin 2 [.agg [.str x.title,.fz 5 (x.scenes.map scA)]] 0 0),(0,.ptr 0 1 0 0)])
  (fun i=>[.arr 2 [str L (tgRun L x (k+1) i).2],.arr 4 ((tgRun L x (k+1) i).1.map tgA)]) (fun i=>i ≤ n) 0 (by simp) ?_ ?_
 ·refine Shift.trans (Shift.nilsl 5 4 rfl) (Shift.weakS ?_ rfl)
  simp only [wk,go_sem,List.length_map]
  repeat (first | rfl | (simp; done) | refine And.intro (by first | rfl | (simp; done)) ?_)
 intro i g1 J hJ
 obtain ⟨c1,c2,c3⟩:=tgRun_bd L x (k+1) i
 by_cases gi:i < n
 rotate_left
 ·have di:decide ((i:Int) < (n:Int))=false:=by simp; omega
  have hi:i=n:=by omega
  subst hi
  clear hJ
  generalize tgRun L x (k+1) i=st at *
  obtain ⟨fs,kk⟩:=st
  simp only at c1 c2 c3 ⊢
  have htk:((fs.map tgA).drop 0).take fs.length=fs.map tgA:=by rw [List.drop_zero,List.take_of_length_le (by simp)]
  refine goB (N:=32) Tryz.ntmps10 300 ?_
  simp only [go_sem,di]
  exact ARet.shift (Shift.freeze 4 (id:=1) (l:=fs.map tgA) rfl rfl (by simp) (Nat.le_refl _) (tg_frz fs)) (aret [4] rfl ⟨_,_,rfl,by simp only [resV,Av.get,Av.put,beq_self_eq_true,cond_true,htk],rfl,rfl,rfl⟩)
 have di:decide ((i:Int) < (n:Int))=true:=by simp; omega
 have hfin:=hJ (i+1) (by omega) (by omega)
 simp only [tgRun] at hfin
 generalize tgRun L x (k+1) i=st at *
 obtain ⟨fs,kk⟩:=st
 simp only at c1 c2 c3 hfin ⊢
 clear hJ
 unfold tgF at hfin
 simp only at hfin
 have w1:=hno kk (by omega) (by omega)
 have n1:=noF_bd L kk x
 generalize noF L kk x=nn at *
 obtain ⟨no,k1⟩:=nn
 simp only at w1 n1 hfin
 have w2:=elX_mc L k1 (by omega) (by omega)
 have n2:=elF_bd L k1
 generalize elF L k1=ee at *
 obtain ⟨el,k2⟩:=ee
 simp only [elA] at w2 n2 hfin
 have w3:=pickX_mc L k2 [0,1,2,5,999] (by decide) (by decide) (by omega) (by omega)
 have w4:=flipX_mc L (k2+1) 12 (by decide) (by decide) (by omega) (by omega)
 have w5:=pickX_mc L (k2+1+1) [-1,1000] (by decide) (by decide) (by omega) (by omega)
 have hT:tgN L k2=if flipF L (k2+1) 12 then (pickF L (k2+1+1) [-1,1000],k2+1+1+1) else (pickF L k2 [0,1,2,5,999],k2+1+1):=rfl
 generalize tgN L k2=tt at *
 obtain ⟨tn,k3⟩:=tt
 simp only [List.map_append,List.map_cons,List.map_nil,List.length_append,List.length_cons,List.length_nil,Nat.zero_add,tgA] at hfin
 generalize pickF L k2 [0,1,2,5,999]=v3 at *
 generalize flipF L (k2+1) 12=b4 at *
 generalize pickF L (k2+1+1) [-1,1000]=v5 at *
 have hol:(fs.map tgA).length=fs.length:=by simp
 have hfz:lowB 2 (.arr 4 (fs.map tgA++[.agg [.str no,.int .i64 el.kind,.str el.name,.int .i64 tn]]))=true:=low_all (by
  have:=tg_frz (fs++[⟨no,el,tn⟩])
  rw [List.map_append] at this
  exact this)
 generalize fs.map tgA=R at *
 refine goB (N:=32) Tryz.ntmps10 300 ?_
 simp only [go_sem,di]
 repeat refine And.intro (by first | omega | (simp; done) | (simp; omega) | kernel_rfl) ?_
 refine mcall (w1) rfl rfl (id:=0) rfl (N:=32) Tryz.ntmps10 rfl ?_
 rintro _ _ ⟨rfl,rfl⟩
 refine goB (N:=32) Tryz.ntmps10 300 ?_
 simp only [go_sem]
 refine mcall (w2) rfl rfl (id:=0) rfl (N:=32) Tryz.ntmps10 rfl ?_
 rintro _ _ ⟨rfl,rfl⟩
 refine goB (N:=32) Tryz.ntmps10 300 ?_
 simp only [go_sem]
 refine mcall (w3) rfl rfl (id:=0) rfl (N:=32) Tryz.ntmps10 rfl ?_
 rintro _ _ ⟨rfl,rfl⟩
 refine goB (N:=32) Tryz.ntmps10 300 ?_
 simp only [go_sem]
 refine mcall (w4) rfl rfl (id:=0) rfl (N:=32) Tryz.ntmps10 rfl ?_
 rintro _ _ ⟨rfl,rfl⟩
 cases b4 with
 | true =>
  simp only [if_true,Prod.mk.injEq] at hT
  obtain ⟨rfl,rfl⟩:=hT
  refine goB (N:=32) Tryz.ntmps10 300 ?_
  simp only [go_sem]
  refine mcall (w5) rfl rfl (id:=0) rfl (N:=32) Tryz.ntmps10 rfl ?_
  rintro _ _ ⟨rfl,rfl⟩
  refine goB (N:=32) Tryz.ntmps10 300 ?_
  simp only [go_sem,hol]
  repeat refine And.intro (by first | omega | rfl | kernel_rfl | exact .inl rfl | exact .inl trivial | (simp; done) | (simp; omega)) ?_
  rw [show (i:Int)+1=((i+1:Nat):Int) by omega]
  refine ainv hfin ?_
  refine Shift.trans (Shift.low 2 (by simp) (by simp) (e':=[(9,.int .i64 (i+1:Nat)),(8,.int .i64 n),(5,.sl 1 0 (fs.length+1) (fs.length+1)),(3,.pin 2 [.agg [.str x.title,.fz 5 (x.scenes.map scA)]] 0 0),(0,.ptr 0 1 0 0)]) (by simp only [List.take_succ_cons,List.take_zero,List.all_cons,List.all_nil,hfz,Bool.and_true]; rfl) ?_) (Shift.weakS ?_ rfl)
  ·simp only [wkl,lowV,lowC,Av.get,go_sem]
   try simp
  ·simp only [wk,go_sem]
 | false =>
  simp only [Bool.false_eq_true,if_false,Prod.mk.injEq] at hT
  obtain ⟨rfl,rfl⟩:=hT
  refine goB (N:=32) Tryz.ntmps10 300 ?_
  simp only [go_sem,hol]
  repeat refine And.intro (by first | omega | rfl | kernel_rfl | exact .inl rfl | exact .inl trivial | (simp; done) | (simp; omega)) ?_
  rw [show (i:Int)+1=((i+1:Nat):Int) by omega]
  refine ainv hfin ?_
  refine Shift.trans (Shift.low 2 (by simp) (by simp) (e':=[(9,.int .i64 (i+1:Nat)),(8,.int .i64 n),(5,.sl 1 0 (fs.length+1) (fs.length+1)),(3,.pin 2 [.agg [.str x.title,.fz 5 (x.scenes.map scA)]] 0 0),(0,.ptr 0 1 0 0)]) (by simp only [List.take_succ_cons,List.take_zero,List.all_cons,List.all_nil,hfz,Bool.and_true]; rfl) ?_) (Shift.weakS ?_ rfl)
  ·simp only [wkl,lowV,lowC,Av.get,go_sem]
   try simp
  ·simp only [wk,go_sem]
theorem paras_ok:∀ (ps:List Pa) (l e:Int),runL l ps=some e→∀ p ∈ ps,paraOk p=true
 | [],_,_,_,p,hp=>by cases hp
 | q :: r,l,e,h,p,hp=>by
  rw [runL] at h
  split at h
  ·rename_i hq
   simp only [Bool.and_eq_true] at hq
   rcases List.mem_cons.1 hp with rfl | hp
   ·exact hq.1
   ·exact paras_ok r _ _ h p hp
  ·cases h
theorem paraOk_len {p:Pa} (h:paraOk p=true):p.text.length ≤ 2000:=by
 simp only [paraOk,Bool.and_eq_true,decide_eq_true_eq] at h
 exact h.2.2.2.2.1
theorem wstep_bd:∀ (t:List UInt8) (s:Wst) (m:Nat),s.word.length ≤ m→s.out.length ≤ m→(∀ w ∈ s.out,w.length ≤ m)→((t.foldl wstep s).out.length ≤ m+t.length∧∀ w ∈ (t.foldl wstep s).out,w.length ≤ m+t.length)
 | [],s,m,h1,h2,h3=>⟨by simpa using h2,by simpa using h3⟩
 | c :: t,s,m,h1,h2,h3=>by
  have key:(wstep s c).word.length ≤ m+1∧(wstep s c).out.length ≤ m+1∧∀ w ∈ (wstep s c).out,w.length ≤ m+1:=by
   unfold wstep
   split
   ·exact ⟨by simp; omega,by simp only; omega,fun w hw=>by have:=h3 w hw; omega⟩
   ·split
    ·exact ⟨by simp; omega,by simp only; omega,fun w hw=>by have:=h3 w hw; omega⟩
    ·refine ⟨by simp,?_,?_⟩
     ·simp only
      split
      ·simp; omega
      ·omega
     ·intro w hw
      simp only at hw
      split at hw
      ·rcases List.mem_append.1 hw with hw | hw
       ·have:=h3 w hw; omega
       ·rw [List.mem_singleton.1 hw]; omega
      ·have:=h3 w hw; omega
  obtain ⟨a,b⟩:=wstep_bd t (wstep s c) (m+1) key.1 key.2.1 key.2.2
  rw [List.foldl_cons,List.length_cons]
  exact ⟨by omega,fun w hw=>by have:=b w hw; omega⟩
theorem wordsL_bd (s:List UInt8):(wordsL s).length ≤ s.length+1∧∀ w ∈ wordsL s,w.length ≤ s.length+1:=by
 have:=wstep_bd (s++[32]) ⟨false,[],[]⟩ 0 (by simp) (by simp) (by simp)
 simpa [wordsL] using this
theorem story_sizes {x:Sr} (hx:StoryOk x):∀ y ∈ x.scenes,y.paras.length < 100000∧∀ p ∈ y.paras,p.text.length < 100000∧(wordsL p.text).length < 100000∧∀ w ∈ wordsL p.text,w.length < 1000000:=by
 intro y hy
 obtain ⟨i,hi,rfl⟩:=List.getElem_of_mem hy
 have hd:=hx.all i hi
 have hlen:=hd.len
 simp only at hlen
 refine ⟨by omega,fun p hp=>?_⟩
 obtain ⟨e,he,_⟩:=hd.run
 have h1:=paraOk_len (paras_ok _ _ _ he p hp)
 obtain ⟨h2,h3⟩:=wordsL_bd p.text
 exact ⟨by omega,by omega,fun w hw=>by have:=h3 w hw; omega⟩
theorem ruF_ok (L:List Int) (k:Int):RuOk (ruF L k).1:=by
 have h1:=elF_ok L k
 have h2:=patF_ok L (elF L k).2
 unfold ruF
 refine ⟨?_,?_,?_,?_⟩
 ·simp only
  unfold ruEl
  split
  ·split
   ·simp only; omega
   ·simp [gunsB]
  ·simp only; omega
 ·simp only
  unfold ruPat
  simp only
  split
  ·omega
  ·split
   ·omega
   ·simp [gunB]
 ·simp only
  unfold ruSet
  split
  ·have hs:∀ s ∈ RuSetL,s.length < 1000:=by decide
   exact hs _ (oneF_mem (by decide))
  ·simp
 ·intro l hl
  simp only at hl
  unfold ruIn at hl
  split at hl
  ·simp only [Option.some.injEq] at hl
   subst hl
   have hs:∀ s ∈ InL,s.length < 1000:=by decide
   rw [List.getD_eq_getElem?_getD]
   cases hq:InL[(nx L (_+1) 6).toNat]? with
   | none=>simp
   | some v=>exact hs _ (List.mem_of_getElem? hq)
  ·cases hl
theorem ruRun_ok (L:List Int) (k:Int):∀ n,∀ r ∈ (ruRun L k n).1,RuOk r
 | 0,r,h=>by simp [ruRun] at h
 | n+1,r,h=>by
  rw [ruRun] at h
  rcases List.mem_append.1 h with h | h
  ·exact ruRun_ok L k n r h
  ·rw [List.mem_singleton.1 h]
   exact ruF_ok L _
theorem rulesF_ok (L:List Int) (k:Int):(∀ r ∈ (rulesF L k).1,RuOk r)∧(rulesF L k).1.length ≤ 4∧k ≤ (rulesF L k).2∧(rulesF L k).2 ≤ k+200:=by
 have hb:=nx_bd L k 5 (by decide)
 have hr:=ruRun_bd L (k+1) (nx L k 5).toNat
 unfold rulesF
 refine ⟨ruRun_ok L _ _,by omega,by omega,by omega⟩
theorem mentionsF_pch {S:Std} (hS:LibOk S) (x:Sr) (hx:StoryOk x) (rs:List Ru) (hr:∀ r ∈ rs,RuOk r) (hl:rs.length < 1000000):PcH Tryz.prog S 49 [srA x,.fz 5 (rs.map ruA)] (· = mnV rs x) :=
 mentions_pch hS x hx rs hr hl (story_sizes hx)
theorem names_agree:∀ n ∈ ElA++ElB++NameL,(nameR n=true→isNameL n=true)∧(thingR n=true→isThingL n=true)∧n.length < 100:=by decide +kernel
theorem facets_agree:∀ n ∈ FcA++FcB,(facetR n=true→n.all (fun c=>smI c.toNat)=true∧1 ≤ n.length∧n.length ≤ 20)∧n.length < 100:=by decide +kernel
theorem values_agree:∀ n ∈ VlA++VlB,(plainR n=true→plainL n=true)∧n.length < 100:=by decide +kernel
def ElDr (e:El):Prop:=e.name ∈ ElA++ElB++NameL
structure FaDr (f:Fa):Prop where
 el:ElDr f.el
 facet:f.facet ∈ FcA++FcB
 value:f.value ∈ VlA++VlB
 scene:f.scene.length < 100
theorem FaDr.sz {f:Fa} (h:FaDr f):FaSz f:=⟨by have:=(names_agree _ h.el).2.2; omega,by have:=(facets_agree _ h.facet).2; omega,by have:=(values_agree _ h.value).2; omega,by have:=h.scene; omega⟩
structure FactsOk (x:Sr) (l:List Fa):Prop where
 len:l.length ≤ 8
 fa:∀ f ∈ l,faT f=true∧f.scene.length < 100
 at':∀ f ∈ l,∃ i,∃ h:i < x.scenes.length,x.scenes[i].no=f.scene
 dist:l.Pairwise fun a b=>sameFa a b=false
structure JumpsOk (x:Sr) (l:List Jm):Prop where
 len:l.length ≤ 6
 jm:∀ j ∈ l,jumpR j=0
 at':∀ j ∈ l,∃ i,∃ h:i < x.scenes.length,sceneIx x j.scene=i∧x.scenes[i].no=j.scene
 up:l.Pairwise fun a b=>sceneIx x a.scene < sceneIx x b.scene
theorem scM_at {x:Sr} (hx:StoryOk x) {no:List UInt8} {i:Nat} (hi:i < x.scenes.length) (hs:x.scenes[i].no=no):mfind .string (.str no) (scMF 0 x.scenes) 0=some (some (i,.int .i64 (i:Int))):=by
 have:=scMF_find x.scenes 0 0 i hi hs (fun j hj e=>by
  have:=hx.inj (show j < x.scenes.length by omega) hi (by rw [e,hs])
  omega)
 simpa using this
def timesTo (xs:List Sc):Nat→List Int
 | 0=>[]
 | i+1=>timesTo xs i++[if (xs.getD i ⟨[],0,[],0,[]⟩).time == 5 && decide (i > 0) then (timesTo xs i).getD (i - 1) 0 else (xs.getD i ⟨[],0,[],0,[]⟩).time]
def rankF (t:Int):Int:=if t=1 then 2 else if t=2 then 4 else if t=3 then 1 else if t=4 then 3 else 0
def cmpD (ds:List (Int × Int × Int)) (i j:Nat):Int:=orI (cmpI (ds.getD i (0,0,0)).1 (ds.getD j (0,0,0)).1) (cmpI (rankF (ds.getD i (0,0,0)).2.1) (rankF (ds.getD j (0,0,0)).2.1))
def insN (c:Nat→Nat→Int) (a:Nat):Nat→Nat→List Nat→List Nat
 | 0,_,q=>q
 | f+1,j,q=>if a < j∧c (q.getD j 0) (q.getD (j - 1) 0) < 0 then insN c a f (j - 1) ((q.set j (q.getD (j - 1) 0)).set (j - 1) (q.getD j 0)) else q
def isN (c:Nat→Nat→Int) (a b:Nat):Nat→Nat→List Nat→List Nat
 | 0,_,q=>q
 | f+1,i,q=>if i < b then isN c a b f (i+1) (insN c a i i q) else q
def sortN (c:Nat→Nat→Int) (l:List Nat):List Nat:=isN c 0 l.length l.length 1 l
def orderD (ds:List (Int × Int × Int)):List Nat:=sortN (cmpD ds) (List.range ds.length)
end Go.Proofs.YtnfkjpihaficbaaGreatDoor
set_option linter.unusedSectionVars false
namespace Go.Av
open Go Go.RowKit
variable [Tr]
def gOnB (ops:Array Oper) (e:Env) (o:Oper):Bool:=match o.guard with
 | none=>true
 | some (j,want)=>match yldD want e ops[j]? with
  | some b=>b == want
  | none=>false
theorem gOn_agree {ops:Array Oper} {o:Oper} {e e':Env} (h:Agree ops o e e'):gOnB ops e o=gOnB ops e' o:=by
 unfold gOnB
 cases hg:o.guard with
 | none=>rfl
 | some p =>
  obtain ⟨j,want⟩:=p
  simp only
  rw [agree_yld h hg]
def ImpG (c:Cx) (ops:Array Oper) (n:Nat) (id:Nat) (o:Oper) (e:Env) (s:List Blk) (K:AV→List Blk→Prop):Prop :=
 gOnB ops e o=true∧∃ f args,xop false true c.P e s o.op=.call f args∧ICallC c n f args id s K
def ChG (c:Cx) (ops:Array Oper) (im:List Nat) (n0 id:Nat) (K:Env→List Blk→Prop):List Nat→Env→List Blk→Prop
 | [],e,s=>K e s
 | i :: r,e,s=>match ops[i]? with
  | none=>False
  | some o=>bif im.contains i then ImpG c ops n0 id o e s (fun v s'=>ChG c ops im n0 id K r (put e o.dst v) s')
   else (reader o.op=true→blind o.op=false→opOk n0 id e o.op=true)∧∃ cv v s',Does c ops s o cv e v s'∧ChG c ops im n0 id K r (put e o.dst v) s'
def okG (ops:List Oper) (im:List Nat) (j i:Nat):Bool:=match ops[j]?,ops[i]? with
 | some oj,some oi=>oj.apart ops.toArray oi && (bif im.contains i then !im.contains j && reader oj.op else bif im.contains j then reader oi.op else together oj oi)
 | _,_=>false
section
variable {cx:Cx} {ops:Array Oper} {s:List Blk} {K:Env→List Blk→Prop} {im:List Nat} {n0 id:Nat}
theorem ImpG.agree {o:Oper} {e e':Env} {s:List Blk} {K K':AV→List Blk→Prop} (h:Agree ops o e e') (hK:∀ r s,K r s→K' r s) (x:ImpG cx ops n0 id o e s K):ImpG cx ops n0 id o e' s K':=by
 obtain ⟨h1,f,args,h2,post,h4,h5,h6⟩:=x
 exact ⟨by rw [← gOn_agree h]; exact h1,f,args,by rw [← xop_agree (agree_ops h)]; exact h2,post,h4,h5,fun r b hp=>⟨(h6 r b hp).1,hK _ _ (h6 r b hp).2⟩⟩
theorem ChG.congr (hK:∀ e e' s,Eqv e e'→K e s→K e' s):∀ {l:List Nat} {e e':Env} {s:List Blk},Eqv e e'→ChG cx ops im n0 id K l e s→ChG cx ops im n0 id K l e' s
 | [],e,e',s,h,x=>hK e e' s h x
 | i :: r,e,e',s,h,x=>by
  unfold ChG at x ⊢
  split at x
  ·exact x.elim
  ·rename_i o ho
   cases hi:im.contains i with
   | true =>
    rw [hi] at x
    exact ImpG.agree (fun t _=>h t) (fun r' s' z=>ChG.congr hK (h.put _ _) z) x
   | false =>
    rw [hi] at x
    obtain ⟨h1,cv,v,s',h2,h3⟩:=x
    exact ⟨fun hr hb=>by rw [← opOk_agree (e:=e) (fun y _=>ev_agree fun t _=>h t)]; exact h1 hr hb,cv,v,s',h2.agree fun t _=>h t,ChG.congr hK (h.put _ _) h3⟩
theorem ChG.swap {opl:List Oper} (hops:ops=opl.toArray) (hK:∀ e e' s,Eqv e e'→K e s→K e' s) {i j:Nat} {r:List Nat} (hok:okG opl im j i=true) {e:Env} {s:List Blk} (x:ChG cx ops im n0 id K (j :: i :: r) e s) :
  ChG cx ops im n0 id K (i :: j :: r) e s:=by
 unfold okG at hok
 split at hok
 rotate_left
 ·cases hok
 rename_i oj oi hj' hi'
 have hj:ops[j]? = some oj:=by rw [hops]; simpa using hj'
 have hi:ops[i]? = some oi:=by rw [hops]; simpa using hi'
 simp only [Bool.and_eq_true] at hok
 obtain ⟨ha,hok⟩:=hok
 rw [← hops] at ha
 obtain ⟨a1,a2,a3⟩:=Oper.apart_spec ha
 have gi:∀ (e:Env) (v:AV),Agree ops oi (put e oj.dst v) e:=fun e v t ht=>by
  rw [get_put,if_neg]; intro h; exact a1 t h ht
 have gj:∀ (e:Env) (v:AV),Agree ops oj e (put e oi.dst v):=fun e v t ht=>by
  rw [get_put,if_neg]; intro h; exact a3 t h ht
 have sw:∀ (e:Env) (v u:AV),Eqv (put (put e oj.dst v) oi.dst u) (put (put e oi.dst u) oj.dst v):=fun e v u=>put_swap a2
 simp only [ChG,hi,hj] at x ⊢
 cases mi:im.contains i with
 | true =>
  rw [mi] at hok x
  simp only [cond_true,Bool.and_eq_true,Bool.not_eq_true'] at hok
  obtain ⟨mj,rj⟩:=hok
  rw [mj] at x ⊢
  simp only [cond_true,cond_false] at x ⊢
  obtain ⟨o1,cv,v,s',d1,y⟩:=x
  obtain ⟨rfl,_⟩:=does_reader rj (o1 rj) (Agr.rfl' (n:=n0) (id:=id)) d1
  obtain ⟨h1,f,args,h2,post,h4,h5,h6⟩:=y
  refine ⟨by rw [← gOn_agree (gi e v)]; exact h1,f,args,by rw [← xop_agree (agree_ops (gi e v))]; exact h2,post,h4,h5,fun u b hp=>?_⟩
  obtain ⟨ag,hy⟩:=h6 u b hp
  have hs:=(does_reader rj (o1 rj) ag d1).2
  refine ⟨ag,fun _ hb=>?_,cv,v,_,hs.agree (gj e u),ChG.congr hK (sw e v u) hy⟩
  rw [← opOk_agree (e:=e) (agree_ops (gj e u))]
  exact o1 rj hb
 | false =>
  rw [mi] at hok x
  simp only [cond_false] at hok x ⊢
  cases mj:im.contains j with
  | true =>
   rw [mj] at hok x
   simp only [cond_true] at hok x ⊢
   obtain ⟨h1,f,args,h2,post,h4,⟨u0,b0,h5⟩,h6⟩:=x
   obtain ⟨ag0,o0,cv0,v0,s0,d0,z0⟩:=h6 u0 b0 h5
   have ok0:blind oi.op=false→opOk n0 id e oi.op=true:=fun hb=>by
    have:=o0 hok hb
    rw [opOk_agree (agree_ops (gi e u0))] at this
    exact this
   have d0':Does cx ops b0 oi cv0 e v0 s0:=d0.agree (gi e u0)
   have d0s:=(does_reader hok ok0 ag0.symm d0').2
   refine ⟨fun _=>ok0,cv0,v0,s,d0s,by rw [← gOn_agree (gj e v0)]; exact h1,f,args,?_,post,h4,⟨u0,b0,h5⟩,fun u b hp=>?_⟩
   ·rw [← xop_agree (agree_ops (gj e v0))]; exact h2
   ·obtain ⟨ag,_,cv,v,s',d,y⟩:=h6 u b hp
    have d':Does cx ops b oi cv e v s':=d.agree (gi e u)
    obtain ⟨e1,ds⟩:=does_reader hok ok0 ag.symm d'
    subst e1
    have:=does_det hok d0s ds
    subst this
    exact ⟨ag,ChG.congr hK (sw e u v0) y⟩
  | false =>
   rw [mj] at hok x
   simp only [cond_false] at hok x ⊢
   obtain ⟨o1,cv,v,s1,h1,o2,cu,u,s2,h2,h3⟩:=x
   have h2':Does cx ops s1 oi cu e u s2:=h2.agree (gi e v)
   have h1':∀ {z z'},Does cx ops z oj cv e v z'→Does cx ops z oj cv (put e oi.dst u) v z':=fun hd=>hd.agree (gj e u)
   have h3':=ChG.congr hK (sw e v u) h3
   have oi':∀ {n},reader oi.op=true→opOk n id (put e oj.dst v) oi.op=opOk n id e oi.op:=fun _=>opOk_agree (agree_ops (gi e v))
   have oj':∀ {n},opOk n id e oj.op=opOk n id (put e oi.dst u) oj.op:=opOk_agree (agree_ops (gj e u))
   simp only [Bool.or_eq_true,Bool.and_eq_true,together] at hok
   rcases hok with (⟨c1,c2⟩ | c1) | c1
   ·have e1:=h1.calm c1
    subst e1
    have e2:=h2.calm c2
    subst e2
    exact ⟨fun hr hb=>by rw [← oi' hr]; exact o2 hr hb,cu,u,_,h2',fun hr hb=>by rw [← oj']; exact o1 hr hb,cv,v,_,h1' h1,h3'⟩
   ·have e1:=h1.calm (blind_calm c1)
    subst e1
    exact ⟨fun hr hb=>by rw [← oi' hr]; exact o2 hr hb,cu,u,_,h2',fun hr hb=>(by rw [c1] at hb; cases hb),cv,v,_,h1' (h1.blind c1),h3'⟩
   ·have e2:=h2.calm (blind_calm c1)
    subst e2
    exact ⟨fun hr hb=>(by rw [c1] at hb; cases hb),cu,u,_,h2'.blind c1,fun hr hb=>by rw [← oj']; exact o1 hr hb,cv,v,_,h1' h1,h3'⟩
theorem ChG.front {opl:List Oper} (hops:ops=opl.toArray) (hK:∀ e e' s,Eqv e e'→K e s→K e' s):∀ (l:List Nat) (i:Nat) (r:List Nat) (e:Env) (s:List Blk),(∀ j ∈ l,okG opl im j i=true) →
  ChG cx ops im n0 id K (l++i :: r) e s→ChG cx ops im n0 id K (i :: (l++r)) e s
 | [],_,_,_,_,_,x=>x
 | j :: l,i,r,e,s,h,x=>by
  refine ChG.swap hops hK (h j (by simp)) ?_
  have ih:=fun e s=>ChG.front hops hK l i r e s fun k hk=>h k (by simp [hk])
  simp only [List.cons_append,ChG] at x ⊢
  split at x
  ·exact x.elim
  ·rename_i o ho
   cases hm:im.contains j with
   | true =>
    rw [hm] at x
    exact ImpG.agree (fun _ _=>rfl) (fun r' s' z=>ih _ _ z) x
   | false =>
    rw [hm] at x
    obtain ⟨h1,cv,v,s',h2,h3⟩:=x
    exact ⟨h1,cv,v,s',h2,ih _ _ h3⟩
end
section
variable {c:Cx} {k:List It} {e:Env} {s:List Blk}
mutual
def dxq (c:Cx) (all:List Oper) (im:List Nat) (n0 id:Nat) (k:List It):Nat→List Oper→List AV→Env→List Blk→Prop
 | _,[],_,e,s=>AWp c k e s
 | 0,_ :: _,_,_,_=>False
 | n+1,o :: r,cs,e,s=>bif im.contains (rix all (o :: r)) then
   (match gOnB all.toArray e o,xop false true c.P e s o.op with
    | true,.call f args=>ICallC c n0 f args id s (fun v s'=>dxq c all im n0 id k n r cs (put e o.dst v) s')
    | _,_=>False)
  else dck (reader o.op && !blind o.op) n0 id e o.op∧dxqc c all im n0 id k n (dgrd c all s o r cs e o.guard)
def dxqc (c:Cx) (all:List Oper) (im:List Nat) (n0 id:Nat) (k:List It):Nat→Dn→Prop
 | n,.go r cs e s=>dxq c all im n0 id k n r cs e s
 | n,.two b r cs e r' cs' e' s=>dbrq c all im n0 id k n b r cs e r' cs' e' s
 | n,.side p r cs e s=>p∧dxq c all im n0 id k n r cs e s
 | _,.fail=>False
def dbrq (c:Cx) (all:List Oper) (im:List Nat) (n0 id:Nat) (k:List It):Nat→Bool→List Oper→List AV→Env→List Oper→List AV→Env→List Blk→Prop
 | 0,_,_,_,_,_,_,_,_=>False
 | n+1,b,r,cs,e,r',cs',e',s=>(b=true→dxq c all im n0 id k n r cs e s)∧(b=false→dxq c all im n0 id k n r' cs' e' s)
end
end
end Go.Av
namespace Go.Proofs.YtnfkjpihaficbaaGreatDoor
open Go Go.Av Go.RowKit
def jmAt (x:Sr) (l:List Jm) (i:Nat):Option Jm:=l.find? fun j=>sceneIx x j.scene == (i:Int)
structure DSt where
 os:List (Int × Int × Int)
 fs:List Bool
 st:Int
def j0:Jm:=⟨[],0,0,false⟩
def dFl (jm:Option Jm) (i:Nat) (fs:List Bool):Bool:=match jm with
 | some j=>j.flash
 | none=>decide (0 < i) && fs.getD (i - 1) false
def dP (i:Nat) (fs:List Bool) (fl:Bool) (st:Int):Int:=if 0 < i∧fs.getD (i - 1) false=fl then (i:Int) - 1 else st
def dDay (j:Jm) (ts:List Int) (i:Nat) (os:List (Int × Int × Int)) (p st:Int):Int :=
 if j.to' ≠ 0 then j.to' else if j.by' ≠ 0 then (if st ≥ 0 then (os.getD st.toNat (0,0,0)).1 else 1)+j.by'
 else if p ≥ 0 then (if rankF (ts.getD i 0) < rankF (ts.getD p.toNat 0) then (os.getD p.toNat (0,0,0)).1+1 else (os.getD p.toNat (0,0,0)).1) else 1
def dStep (x:Sr) (l:List Jm) (ts:List Int) (i:Nat) (s:DSt):DSt :=
 ⟨s.os++[(dDay ((jmAt x l i).getD j0) ts i s.os (dP i s.fs (dFl (jmAt x l i) i s.fs) s.st) s.st,ts.getD i 0,0)],s.fs++[dFl (jmAt x l i) i s.fs],if dFl (jmAt x l i) i s.fs then s.st else i⟩
def dRun (x:Sr) (l:List Jm) (ts:List Int):Nat→DSt
 | 0=>⟨[],[],-1⟩
 | i+1=>dStep x l ts i (dRun x l ts i)
structure DOk (i:Nat) (s:DSt):Prop where
 os:s.os.length=i
 fs:s.fs.length=i
 st:-1 ≤ s.st∧s.st < i
 bd:∀ o ∈ s.os,-2001 * (i:Int) ≤ o.1∧o.1 ≤ 2001 * (i:Int)
 tm:∀ o ∈ s.os,1 ≤ o.2.1∧o.2.1 ≤ 4
def ordL (x:Sr) (l:List Jm):List Nat:=orderD (dRun x l (timesTo x.scenes x.scenes.length) x.scenes.length).os
structure Gf where
 key:Nat
 at':Nat
 ds:List Fa
structure GfOk (kf:Fa→Nat) (l:List Fa) (gs:List Gf) (S:List Blk):Prop where
 blk:∀ g ∈ gs,S[g.at']? = some (.arr 5 (g.ds.map faA))
 own:∀ g ∈ gs,g.ds=l.filter fun f=>kf f == g.key
 all:∀ f ∈ l,∃ g ∈ gs,g.key=kf f
 ne:gs.Pairwise fun x y=>x.at' ≠ y.at'
 nk:gs.Pairwise fun x y=>x.key ≠ y.key
theorem GfOk.lt {kf:Fa→Nat} {l:List Fa} {gs:List Gf} {S:List Blk} (h:GfOk kf l gs S) {g:Gf} (hg:g ∈ gs):g.at' < S.length:=(List.getElem?_eq_some_iff.1 (h.blk g hg)).1
theorem GfOk.push {kf:Fa→Nat} {l:List Fa} {gs:List Gf} {S:List Blk} (h:GfOk kf l gs S) (x:Blk) (d:Fa) (hk:∀ g ∈ gs,g.key ≠ kf d):GfOk kf (l++[d]) (gs++[⟨kf d,S.length+1,[d]⟩]) (S++[x]++[.arr 5 [faA d]]):=by
 have hemp:l.filter (fun f=>kf f == kf d)=[]:=by
  rw [List.filter_eq_nil_iff]
  intro f hf
  obtain ⟨g,hg,e⟩:=h.all f hf
  simp only [beq_iff_eq]
  intro e2
  exact hk g hg (by rw [e,e2])
 refine ⟨fun g hg=>?_,fun g hg=>?_,fun f hf=>?_,?_,?_⟩
 ·rcases List.mem_append.1 hg with hg | hg
  ·rw [List.getElem?_append_left (by have:=h.lt hg; simp; omega),List.getElem?_append_left (h.lt hg)]; exact h.blk g hg
  ·rw [List.mem_singleton.1 hg]; simp
 ·rcases List.mem_append.1 hg with hg | hg
  ·have hn:(kf d == g.key)=false:=by have:=hk g hg; simpa using Ne.symm this
   rw [List.filter_append,← h.own g hg]
   simp [hn]
  ·rw [List.mem_singleton.1 hg]
   simp [List.filter_append,hemp]
 ·rcases List.mem_append.1 hf with hf | hf
  ·obtain ⟨g,hg,e⟩:=h.all f hf
   exact ⟨g,List.mem_append_left _ hg,e⟩
  ·rw [List.mem_singleton.1 hf]
   exact ⟨_,List.mem_append_right _ (List.mem_singleton.2 rfl),rfl⟩
 ·rw [List.pairwise_append]
  exact ⟨h.ne,List.pairwise_singleton ..,fun a ha b hb=>by rw [List.mem_singleton.1 hb]; have:=h.lt ha; simp only; omega⟩
 ·rw [List.pairwise_append]
  exact ⟨h.nk,List.pairwise_singleton ..,fun a ha b hb=>by rw [List.mem_singleton.1 hb]; exact hk a ha⟩
theorem GfOk.put {kf:Fa→Nat} {l:List Fa} {gs:List Gf} {S:List Blk} (h:GfOk kf l gs S) (x:Blk) {i:Nat} {g:Gf} (hi:gs[i]? = some g) (d:Fa) (hd:g.key=kf d) :
  GfOk kf (l++[d]) (gs.set i ⟨g.key,g.at',g.ds++[d]⟩) ((S++[x]).set g.at' (.arr 5 ((g.ds++[d]).map faA))):=by
 obtain ⟨hil,hgi⟩:=List.getElem?_eq_some_iff.1 hi
 have hgm:g ∈ gs:=List.mem_of_getElem? hi
 have key:∀ y ∈ gs.set i ⟨g.key,g.at',g.ds++[d]⟩,y=⟨g.key,g.at',g.ds++[d]⟩∨(y ∈ gs∧y.at' ≠ g.at'∧y.key ≠ g.key):=by
  intro y hy
  obtain ⟨j,hj,rfl⟩:=List.getElem_of_mem hy
  rw [List.length_set] at hj
  by_cases hij:j=i
  ·subst hij; left; simp
  ·right
   rw [List.getElem_set_ne (Ne.symm hij)]
   refine ⟨List.getElem_mem _,?_⟩
   rcases Nat.lt_or_gt_of_ne hij with hlt | hlt
   ·have hx:=List.pairwise_iff_getElem.1 h.ne j i hj hil hlt
    have hz:=List.pairwise_iff_getElem.1 h.nk j i hj hil hlt
    rw [hgi] at hx hz
    exact ⟨hx,hz⟩
   ·have hx:=List.pairwise_iff_getElem.1 h.ne i j hil hj hlt
    have hz:=List.pairwise_iff_getElem.1 h.nk i j hil hj hlt
    rw [hgi] at hx hz
    exact ⟨Ne.symm hx,Ne.symm hz⟩
 have hat:∀ (t:Nat) (ht:t < gs.length),((gs.set i ⟨g.key,g.at',g.ds++[d]⟩)[t]'(by simpa using ht)).at'=gs[t].at'∧((gs.set i ⟨g.key,g.at',g.ds++[d]⟩)[t]'(by simpa using ht)).key=gs[t].key:=by
  intro t ht
  by_cases hti:t=i
  ·subst hti; simp [hgi]
  ·rw [List.getElem_set_ne (Ne.symm hti)]
   exact ⟨rfl,rfl⟩
 have hin:(⟨g.key,g.at',g.ds++[d]⟩:Gf) ∈ gs.set i ⟨g.key,g.at',g.ds++[d]⟩:=List.mem_of_getElem? (i:=i) (by rw [List.getElem?_set_self hil])
 refine ⟨fun y hy=>?_,fun y hy=>?_,fun f hf=>?_,?_,?_⟩
 ·rcases key y hy with rfl | ⟨h1,h2,_⟩
  ·simp only
   rw [List.getElem?_set_self (by have:=h.lt hgm; simp; omega)]
  ·rw [List.getElem?_set_ne (Ne.symm h2),List.getElem?_append_left (h.lt h1)]
   exact h.blk y h1
 ·rcases key y hy with rfl | ⟨h1,_,h3⟩
  ·simp only
   rw [List.filter_append,← h.own g hgm]
   simp [hd]
  ·have hn:(kf d == y.key)=false:=by rw [← hd]; simpa using Ne.symm h3
   rw [List.filter_append,← h.own y h1]
   simp [hn]
 ·rcases List.mem_append.1 hf with hf | hf
  ·obtain ⟨y,hy,e⟩:=h.all f hf
   obtain ⟨t,ht,rfl⟩:=List.getElem_of_mem hy
   exact ⟨(gs.set i ⟨g.key,g.at',g.ds++[d]⟩)[t]'(by simpa using ht),List.getElem_mem _,by rw [(hat t ht).2]; exact e⟩
  ·rw [List.mem_singleton.1 hf]
   exact ⟨_,hin,hd⟩
 ·rw [List.pairwise_iff_getElem]
  intro a b ha hb hab
  rw [List.length_set] at ha hb
  rw [(hat a ha).1,(hat b hb).1]
  exact List.pairwise_iff_getElem.1 h.ne a b ha hb hab
 ·rw [List.pairwise_iff_getElem]
  intro a b ha hb hab
  rw [List.length_set] at ha hb
  rw [(hat a ha).2,(hat b hb).2]
  exact List.pairwise_iff_getElem.1 h.nk a b ha hb hab
end Go.Proofs.YtnfkjpihaficbaaGreatDoor
