/- The order of scenes while their days are still one's own memory: some order. Own work of this seat. -/
import Derived.Test.YtnfkjpihaficbaaGreatDoorG35
set_option maxRecDepth 100000
set_option linter.unusedSimpArgs false
set_option linter.unusedVariables false
namespace Go.Proofs.YtnfkjpihaficbaaGreatDoor
open Go Go.Av Go.RowKit
theorem sd_frz:∀ l:List (Int × Int × Int),(flat (l.map sdA)).all Av.frozen=true
 | []=>rfl
 | a :: l=>by simp only [List.map_cons,flat,sdA,cellsOf,List.cons_append,List.nil_append,List.all_cons,Av.frozen,sd_frz l,Bool.and_self]
def ordT (ds:List (Int × Int × Int)) (q:List Nat):List Blk:=[.arr 3 (ds.map sdA),.mp [],.arr 1 [.sl 0 0 ds.length ds.length],.arr 1 (q.map inA)]
theorem orderFn_own (ds:List (Int × Int × Int)) (ht:∀ d ∈ ds,1 ≤ d.2.1∧d.2.1 ≤ 4) (q:List Nat) (i j:Nat) (hi:i < ds.length) (hj:j < ds.length) :
  Ct Tryz.prog 137 [.int .i64 i,.int .i64 j,.ptr 2 1 0 0] (ordT ds q) (fun r s=>r=.int .i64 (cmpD ds i j)∧s=ordT ds q):=by
 refine Ct.borrowF (P:=Tryz.prog) (f:=137) (args:=[.int .i64 i,.int .i64 j,.ptr 2 1 0 0]) 2 (ordT ds q) (post:=(· = .int .i64 (cmpD ds i j))) ?_ (by rintro r rfl; rfl)
 have h:=orderFn_pc ds ht i j hi hj
 have hb:borF 2 (ordT ds q) (.ptr 2 1 0 0)=.pin 1 [.fz 3 (ds.map sdA)] 0 0:=by
  have hs:borC 2 (ordT ds q) (.sl 0 0 ds.length ds.length)=.fz 3 (ds.map sdA):=by
   show bor (1+1) (ordT ds q) (.sl 0 0 ds.length ds.length)=_
   rw [bor_sl,show (ordT ds q).getD 0 .dead=.arr 3 (ds.map sdA) from rfl]
   simp only [Nat.zero_add,List.length_map,decide_true,Nat.le_refl,Bool.and_self,cond_true,List.drop_zero,AV.fz.injEq,true_and]
   rw [List.take_of_length_le (by simp),List.map_map]
   exact List.map_congr_left fun x _=>rfl
  show AV.pin 1 [borC 2 (ordT ds q) (.sl 0 0 ds.length ds.length)] 0 0=_
  rw [hs]
 rw [List.map_cons,List.map_cons,List.map_cons,List.map_nil,hb]
 exact h
set_option maxHeartbeats 1000000 in
theorem insertionO (ds:List (Int × Int × Int)) (ht:∀ d ∈ ds,1 ≤ d.2.1∧d.2.1 ≤ 4) (l:List Nat) (hn:∀ i ∈ l,i < ds.length) (b:Nat) (h3:b ≤ l.length) (hl:l.length < 1000000) :
  Ct Tryz.prog 243 [.sl 3 0 l.length l.length,.int .i64 0,.int .i64 b,.fn (.func 137) [.ptr 2 1 0 0]] (ordT ds l) (fun r s=>r=.tup []∧s=ordT ds (isN (cmpD ds) 0 b b 1 l)):=by
 have hof:=orderFn_own ds ht
 unfold ordT at hof ⊢
 generalize hX:Blk.arr 3 (ds.map sdA)=X0' at *
 generalize hY:Blk.arr 1 [AV.sl 0 0 ds.length ds.length]=Y0' at *
 generalize hcc:cmpD ds=c at *
 refine ct_intro Tryz.func243 rfl Tryz.ntmps243 hB243 (by simp) fun h ρ w=>goB (N:=53) Tryz.ntmps243 300 ?_
 simp only [go_sem]
 repeat refine And.intro (by omega) ?_
 refine aloop (ι:=Nat × List Nat) (fun y=>b+1 - y.1) (fun y=>[(8,.int .i64 y.1),(3,.fn (.func 137) [.ptr 2 1 0 0]),(2,.int .i64 b),(1,.int .i64 0),(0,.sl 3 0 l.length l.length)]) (fun y=>[X0',.mp [],Y0',.arr 1 (y.2.map inA)])
  (fun y=>1 ≤ y.1∧y.2.Perm l∧isN c 0 b (b+1 - y.1) y.1 y.2=isN c 0 b b 1 l) (1,l) ⟨by simp,.refl _,rfl⟩ ?_ ?_
 ·refine Shift.weakS ?_ rfl
  simp only [wk,go_sem]
 ·rintro ⟨i,q⟩ ⟨g1,g2,g3⟩ J hJ
  simp only at g1 g2 g3 hJ ⊢
  by_cases gi:i < b
  ·have di:decide ((i:Int) < (b:Int))=true:=by simp; omega
   refine goB (N:=53) Tryz.ntmps243 300 ?_
   simp only [go_sem,di]
   refine aloop (ι:=Nat × List Nat) (fun y=>y.1) (fun y=>[(9,.int .i64 y.1),(8,.int .i64 i),(3,.fn (.func 137) [.ptr 2 1 0 0]),(2,.int .i64 b),(1,.int .i64 0),(0,.sl 3 0 l.length l.length)]) (fun y=>[X0',.mp [],Y0',.arr 1 (y.2.map inA)])
    (fun y=>0 ≤ y.1∧y.1 ≤ i∧y.2.Perm l∧∃ f,y.1 ≤ f∧insN c 0 f y.1 y.2=insN c 0 i i q) (i,q) ⟨by simp only; omega,by simp,g2,i,Nat.le_refl _,rfl⟩ ?_ ?_
   ·refine Shift.weakS ?_ rfl
    simp only [wk,go_sem]
   ·rintro ⟨j,p⟩ ⟨k1,k2,k3,f0,k4,k5⟩ K hK
    simp only at k1 k2 k3 k4 k5 hK ⊢
    have hgo:insN c 0 i i q=p→isN c 0 b (b+1 - (i+1)) (i+1) p=isN c 0 b b 1 l:=fun e=>by
     rw [show b+1 - i=(b+1 - (i+1))+1 by omega,isN,if_pos gi,e] at g3
     exact g3
    have hq:=k3.length_eq
    have hpn:∀ k,(hk:k < p.length)→p[k] < ds.length:=fun k hk=>hn _ (k3.mem_iff.1 (List.getElem_mem hk))
    by_cases hja:0 < j
    ·obtain ⟨f1,rfl⟩:∃ f1,f0=f1+1:=⟨f0 - 1,by omega⟩
     have dj:decide ((j:Int) > 0)=true:=by simp; omega
     have e1:((j:Int) - 1).toNat=j - 1:=by omega
     have p1:=inA_get p j (by omega)
     have p2:=inA_get p (j - 1) (by omega)
     have hc:=hof p (p[j]'(by omega)) (p[j - 1]'(by omega)) (hpn _ _) (hpn _ _)
     refine goB (N:=53) Tryz.ntmps243 300 ?_
     simp only [go_sem]
     refine adrawG [14] 9 [] mixed (by decide) (N:=53) Tryz.ntmps243 (by decide) 100 ?_
     simp only [go_sem,Go.Av.dxq,Go.Av.dxqc,Go.Av.gOnB,Go.Av.yldD,↓Go.Av.dbrq_true,↓Go.Av.dbrq_false,Go.Av.dbrq,dj,e1,p1,p2,List.length_map]
     repeat refine And.intro (by first | omega | rfl | (simp; done) | (simp; omega)) ?_
     refine icc hc ⟨_,_,rfl,rfl⟩ ?_
     rintro _ _ ⟨rfl,rfl⟩
     refine ⟨.rfl',?_⟩
     cases dc:decide (c (p[j]'(by omega)) (p[j - 1]'(by omega)) < 0) with
     | true =>
      have p3:=inA_get (p.set j (p[j - 1]'(by omega))) (j - 1) (by simp; omega)
      have s1:=inA_set p j (p[j - 1]'(by omega))
      have s2:=inA_set (p.set j (p[j - 1]'(by omega))) (j - 1) (p[j]'(by omega))
      have hfin:=hK (j - 1,_) ⟨by simp only; omega,by simp only; omega,swapN_perm k3 (i:=j) (j:=j - 1) (by omega) (by omega),f1,by simp only; omega,by
       rw [insN,atN (by omega),atN (by omega),if_pos ⟨hja,of_decide_eq_true dc⟩] at k5
       exact k5⟩ (by simp only; omega)
      simp only [go_sem,Go.Av.dxq,Go.Av.dxqc,Go.Av.gOnB,Go.Av.yldD,↓Go.Av.dbrq_true,↓Go.Av.dbrq_false,Go.Av.dbrq,dj,e1,p1,p2,dc,List.length_map]
      repeat refine And.intro (by first | omega | rfl | (simp; done) | (simp; omega)) ?_
      refine goB (N:=53) Tryz.ntmps243 300 ?_
      simp only [go_sem]
      refine adrawS [] mixed (by decide) (N:=53) Tryz.ntmps243 (by decide) 100 ?_
      simp only [go_sem,e1,p1,p2,p3,s1,s2,List.length_map,List.length_set]
      repeat refine And.intro (by first | omega | rfl | (simp; done) | (simp; omega)) ?_
      refine goB (N:=53) Tryz.ntmps243 300 ?_
      simp only [go_sem]
      repeat refine And.intro (by first | omega | rfl | (simp; done) | (simp; omega)) ?_
      rw [show (j:Int) - 1=((j - 1:Nat):Int) by omega]
      refine ainv hfin (Shift.weakS ?_ rfl)
      simp only [wk,go_sem]
     | false =>
      rw [insN,atN (by omega),atN (by omega),if_neg (fun h=>of_decide_eq_false dc h.2)] at k5
      have hfin:=hJ (i+1,p) ⟨by simp only; omega,k3,hgo k5.symm⟩ (by simp only; omega)
      simp only [go_sem,Go.Av.dxq,Go.Av.dxqc,Go.Av.gOnB,Go.Av.yldD,↓Go.Av.dbrq_true,↓Go.Av.dbrq_false,Go.Av.dbrq,dj,e1,p1,p2,dc,List.length_map]
      repeat refine And.intro (by first | omega | rfl | (simp; done) | (simp; omega)) ?_
      refine goB (N:=53) Tryz.ntmps243 300 ?_
      simp only [go_sem]
      repeat refine And.intro (by first | omega | rfl | (simp; done) | (simp; omega)) ?_
      rw [show (i:Int)+1=((i+1:Nat):Int) by omega]
      refine ainv hfin (Shift.weakS ?_ rfl)
      simp only [wk,go_sem]
    ·have dj:decide ((j:Int) > 0)=false:=by simp; omega
     have k6:insN c 0 f0 j p=p:=by
      cases f0 with
      | zero=>rfl
      | succ f=>rw [insN,if_neg (fun h=>hja h.1)]
     have hfin:=hJ (i+1,p) ⟨by simp only; omega,k3,hgo (by rw [← k5,k6])⟩ (by simp only; omega)
     refine goB (N:=53) Tryz.ntmps243 300 ?_
     simp only [go_sem]
     refine adraw [.any] mixed (by decide) (N:=53) Tryz.ntmps243 (by decide) 100 ?_
     simp only [go_sem,dj]
     repeat refine And.intro (by first | omega | rfl | (simp; done) | (simp; omega)) ?_
     refine goB (N:=53) Tryz.ntmps243 300 ?_
     simp only [go_sem]
     repeat refine And.intro (by first | omega | rfl | (simp; done) | (simp; omega)) ?_
     rw [show (i:Int)+1=((i+1:Nat):Int) by omega]
     refine ainv hfin (Shift.weakS ?_ rfl)
     simp only [wk,go_sem]
  ·have di:decide ((i:Int) < (b:Int))=false:=by simp; omega
   refine goB (N:=53) Tryz.ntmps243 300 ?_
   simp only [go_sem,di]
   have g4:isN c 0 b (b+1 - i) i q=q:=by
    cases b+1 - i with
    | zero=>rfl
    | succ f=>rw [isN,if_neg gi]
   exact aret [] rfl ⟨rfl,by rw [← g3,g4]⟩
theorem stableO (ds:List (Int × Int × Int)) (ht:∀ d ∈ ds,1 ≤ d.2.1∧d.2.1 ≤ 4) (l:List Nat) (hn:∀ i ∈ l,i < ds.length) (hl:l.length < 20) :
  Ct Tryz.prog 190 [.sl 3 0 l.length l.length,.int .i64 l.length,.fn (.func 137) [.ptr 2 1 0 0]] (ordT ds l) (fun r s=>r=.tup []∧s=ordT ds (sortN (cmpD ds) l)):=by
 have hr:=insertionO ds ht l hn l.length (by omega) (by omega)
 have d1:decide ((20:Int) ≤ (l.length:Int))=false:=by simp; omega
 have d2:decide ((20:Int) < (l.length:Int))=false:=by simp; omega
 unfold ordT at hr ⊢
 refine ct_intro Tryz.func190 rfl Tryz.ntmps190 hB190 (by simp) fun h ρ w=>goB (N:=63) Tryz.ntmps190 300 ?_
 simp only [go_sem]
 refine aenter (around ?_)
 refine goB (N:=63) Tryz.ntmps190 300 ?_
 simp only [go_sem,d1]
 refine acall (hr) (N:=63) Tryz.ntmps190 rfl ?_
 rintro _ _ ⟨rfl,rfl⟩
 refine goB (N:=63) Tryz.ntmps190 300 ?_
 simp only [go_sem]
 refine aenter (around ?_)
 refine goB (N:=63) Tryz.ntmps190 300 ?_
 simp only [go_sem,d2]
 exact aret [] rfl ⟨rfl,rfl⟩
theorem sortStableO (ds:List (Int × Int × Int)) (ht:∀ d ∈ ds,1 ≤ d.2.1∧d.2.1 ≤ 4) (l:List Nat) (hn:∀ i ∈ l,i < ds.length) (hl:l.length < 20) :
  Ct Tryz.prog 136 [.sl 3 0 l.length l.length,.fn (.func 137) [.ptr 2 1 0 0]] (ordT ds l) (fun r s=>r=.tup []∧s=ordT ds (sortN (cmpD ds) l)):=by
 have hr:=stableO ds ht l hn hl
 unfold ordT at hr ⊢
 refine ct_intro Tryz.func136 rfl Tryz.ntmps136 hB136 (by simp) fun h ρ w=>goB (N:=9) Tryz.ntmps136 300 ?_
 simp only [go_sem,List.length_map]
 repeat refine And.intro (by first | omega | rfl | (simp; omega)) ?_
 refine acall (hr) (N:=9) Tryz.ntmps136 rfl ?_
 rintro _ _ ⟨rfl,rfl⟩
 refine goB (N:=9) Tryz.ntmps136 300 ?_
 simp only [go_sem]
 exact aret [] rfl ⟨rfl,rfl⟩
theorem orderO_ct (ds:List (Int × Int × Int)) (ht:∀ d ∈ ds,1 ≤ d.2.1∧d.2.1 ≤ 4) (hl:ds.length ≤ 5):Ct Tryz.prog 84 [.sl 0 0 ds.length ds.length] [.arr 3 (ds.map sdA),.mp []] (fun r s=>r=.sl 3 0 ds.length ds.length∧s=ordT ds (orderD ds)):=by
 have hr:=sortStableO ds ht (List.range ds.length) (by simp) (by simp; omega)
 rw [List.length_range] at hr
 unfold ordT at hr ⊢
 have hlow:∀ n,lowB n (.arr 3 (ds.map sdA))=true:=fun n=>low_all (sd_frz ds)
 have hDl:(ds.map sdA).length=ds.length:=by simp
 generalize ds.map sdA=D at *
 refine ct_intro Tryz.func84 rfl Tryz.ntmps84 hB84 (by simp) fun h ρ w=>goF (N:=22) Tryz.ntmps84 300 ?_
 simp only [go_sem,List.length_map,hDl]
 repeat refine And.intro (by first | omega | rfl | (simp; done) | (simp; omega)) ?_
 refine aloop (ι:=Nat) (fun y=>ds.length - y) (fun y=>[(10,.int .i64 y),(9,.int .i64 ds.length),(3,.sl 3 0 ds.length ds.length),(1,.ptr 2 1 0 0)])
  (fun y=>[.arr 3 D,.mp [],.arr 1 [.sl 0 0 ds.length ds.length],.arr 1 (((List.range y)++List.replicate (ds.length - y) 0).map inA)]) (fun y=>y ≤ ds.length) 0 (by simp) ?_ ?_
 ·refine Shift.weakS ?_ ?_
  ·simp only [wk,go_sem,List.length_map]
  ·simp [inA]
 intro i g1 J hJ
 by_cases gi:i < ds.length
 ·have di:decide ((i:Int) < (ds.length:Int))=true:=by simp; omega
  have hfin:=hJ (i+1) (by omega) (by omega)
  have hs:((List.range i++List.replicate (ds.length - i) 0).map inA).set i (.int .i64 (i:Int))=(List.range (i+1)++List.replicate (ds.length - (i+1)) 0).map inA:=by
   rw [inA_set]
   congr 1
   obtain ⟨m,hm⟩:∃ m,ds.length - i=m+1:=⟨ds.length - i - 1,by omega⟩
   rw [hm,show ds.length - (i+1)=m by omega,List.range_succ,List.set_append_right _ _ (by simp)]
   simp [List.replicate_succ]
  have hlen:((List.range i++List.replicate (ds.length - i) 0).map inA).length=ds.length:=by simp; omega
  obtain ⟨v,hgt⟩:∃ v:Nat,((List.range i++List.replicate (ds.length - i) 0).map inA).getD i .any=.int .i64 v:=⟨_,inA_get _ i (by simp; omega)⟩
  generalize (List.range i++List.replicate (ds.length - i) 0).map inA=T at *
  refine goF (N:=22) Tryz.ntmps84 300 ?_
  simp only [go_sem,di,hs,hlen,hgt]
  repeat refine And.intro (by first | omega | rfl | (simp; done) | (simp; omega)) ?_
  rw [show (i:Int)+1=((i+1:Nat):Int) by omega]
  refine ainv hfin (Shift.weakS ?_ (by first | rfl | rw [List.range_succ]))
  simp only [wk,go_sem]
 ·have di:decide ((i:Int) < (ds.length:Int))=false:=by simp; omega
  have hi:i=ds.length:=by omega
  subst hi
  rw [Nat.sub_self,List.replicate_zero,List.append_nil]
  refine goF (N:=22) Tryz.ntmps84 300 ?_
  simp only [go_sem,di]
  refine acall (hr) (N:=22) Tryz.ntmps84 rfl ?_
  rintro _ _ ⟨rfl,rfl⟩
  refine goF (N:=22) Tryz.ntmps84 300 ?_
  simp only [go_sem]
  exact aret [2] rfl ⟨rfl,rfl⟩
def jmM (x:Sr) (l:List Jm):List (AV × AV):=l.map fun j=>(.int .i64 (sceneIx x j.scene),jmA j)
def jmAt (x:Sr) (l:List Jm) (i:Nat):Option Jm:=l.find? fun j=>sceneIx x j.scene == (i:Int)
theorem jmM_none (x:Sr) (n:Int):∀ (l:List Jm) (k:Nat),(∀ j ∈ l,sceneIx x j.scene ≠ n)→mfind (.int .i64) (.int .i64 n) (jmM x l) k=some none
 | [],k,_=>rfl
 | j :: r,k,h=>by
  have h1:(n == sceneIx x j.scene)=false:=by have:=h j (by simp); simpa using Ne.symm this
  show (match keyEq (.int .i64) (.int .i64 n) (.int .i64 (sceneIx x j.scene)) with | some true=>_ | some false=>mfind (.int .i64) (.int .i64 n) (jmM x r) (k+1) | none=>_)=_
  simp only [keyEq,h1]
  exact jmM_none x n r (k+1) (fun y hy=>h y (by simp [hy]))
theorem jmM_at (x:Sr) (n:Nat):∀ (l:List Jm) (k:Nat),(jmAt x l n=none∧mfind (.int .i64) (.int .i64 (n:Int)) (jmM x l) k=some none)∨(∃ j q,jmAt x l n=some j∧j ∈ l∧mfind (.int .i64) (.int .i64 (n:Int)) (jmM x l) k=some (some (q,jmA j)))
 | [],k=>.inl ⟨rfl,rfl⟩
 | j :: r,k=>by
  by_cases h:sceneIx x j.scene=(n:Int)
  ·refine .inr ⟨j,k,?_,by simp,?_⟩
   ·simp [jmAt,h]
   ·show (match keyEq (.int .i64) (.int .i64 (n:Int)) (.int .i64 (sceneIx x j.scene)) with | some true=>some (some (k,jmA j)) | some false=>mfind (.int .i64) (.int .i64 (n:Int)) (jmM x r) (k+1) | none=>_)=_
    rw [h]
    simp [keyEq]
  ·have h1:((n:Int) == sceneIx x j.scene)=false:=by simpa using Ne.symm h
   have h2:(sceneIx x j.scene == (n:Int))=false:=by simpa using h
   have e:mfind (.int .i64) (.int .i64 (n:Int)) (jmM x (j :: r)) k=mfind (.int .i64) (.int .i64 (n:Int)) (jmM x r) (k+1):=by
    show (match keyEq (.int .i64) (.int .i64 (n:Int)) (.int .i64 (sceneIx x j.scene)) with | some true=>some (some (k,jmA j)) | some false=>mfind (.int .i64) (.int .i64 (n:Int)) (jmM x r) (k+1) | none=>_)=_
    simp only [keyEq,h1]
    rfl
   have e2:jmAt x (j :: r) n=jmAt x r n:=by simp [jmAt,h2]
   rw [e,e2]
   rcases jmM_at x n r (k+1) with h | ⟨j',q,a,b,c⟩
   ·exact .inl h
   ·exact .inr ⟨j',q,a,by simp [b],c⟩
theorem low_jmM (n:Nat) (x:Sr) (l:List Jm):lowB n (.mp (jmM x l))=true:=by
 show (jmM x l).all _=true
 rw [List.all_eq_true]
 intro y hy
 simp only [jmM,List.mem_map] at hy
 obtain ⟨f,_,rfl⟩:=hy
 rfl
structure DSt where
 os:List (Int × Int × Int)
 fs:List Bool
 st:Int
def j0:Jm:=⟨[],0,0,false⟩
def dFl (jm:Option Jm) (i:Nat) (fs:List Bool):Bool:=match jm with
 | some j=>j.flash
 | none=>decide (0 < i) && fs.getD (i - 1) false
def dP (i:Nat) (fs:List Bool) (fl:Bool) (st:Int):Int:=if 0 < i∧fs.getD (i - 1) false=fl then (i:Int) - 1 else st
def dDay (j:Jm) (ts:List Int) (i:Nat) (os:List (Int × Int × Int)) (p st:Int):Int :=
 if j.to' ≠ 0 then j.to' else if j.by' ≠ 0 then (if st ≥ 0 then (os.getD st.toNat (0,0,0)).1 else 1)+j.by'
 else if p ≥ 0 then (if rankF (ts.getD i 0) < rankF (ts.getD p.toNat 0) then (os.getD p.toNat (0,0,0)).1+1 else (os.getD p.toNat (0,0,0)).1) else 1
def dStep (x:Sr) (l:List Jm) (ts:List Int) (i:Nat) (s:DSt):DSt :=
 ⟨s.os++[(dDay ((jmAt x l i).getD j0) ts i s.os (dP i s.fs (dFl (jmAt x l i) i s.fs) s.st) s.st,ts.getD i 0,0)],s.fs++[dFl (jmAt x l i) i s.fs],if dFl (jmAt x l i) i s.fs then s.st else i⟩
def dRun (x:Sr) (l:List Jm) (ts:List Int):Nat→DSt
 | 0=>⟨[],[],-1⟩
 | i+1=>dStep x l ts i (dRun x l ts i)
structure DOk (i:Nat) (s:DSt):Prop where
 os:s.os.length=i
 fs:s.fs.length=i
 st:-1 ≤ s.st∧s.st < i
 bd:∀ o ∈ s.os,-2001 * (i:Int) ≤ o.1∧o.1 ≤ 2001 * (i:Int)
 tm:∀ o ∈ s.os,1 ≤ o.2.1∧o.2.1 ≤ 4
theorem jumpR_bd {j:Jm} (h:jumpR j=0):0 ≤ j.by'∧j.by' ≤ 1000 ∧ -1000 ≤ j.to'∧j.to' ≤ 1000:=by
 unfold jumpR at h
 split at h
 ·exact absurd h (by decide)
 ·rename_i hc
  simp only [Bool.or_eq_true,decide_eq_true_eq,not_or] at hc
  omega
theorem jmAt_mem {x:Sr} {l:List Jm} {i:Nat} {j:Jm} (h:jmAt x l i=some j):j ∈ l:=List.mem_of_find?_eq_some h
theorem jmD_bd {x:Sr} {l:List Jm} (hl:∀ j ∈ l,jumpR j=0) (i:Nat):jumpR ((jmAt x l i).getD j0)=0:=by
 cases h:jmAt x l i with
 | none=>rfl
 | some j=>exact hl j (jmAt_mem h)
theorem dP_bd {i:Nat} {fs:List Bool} {fl:Bool} {st:Int} (h:-1 ≤ st∧st < i):-1 ≤ dP i fs fl st∧dP i fs fl st < i:=by
 unfold dP
 split <;> omega
theorem osD {os:List (Int × Int × Int)} {p:Int} (h:0 ≤ p∧p < os.length):os.getD p.toNat (0,0,0) ∈ os:=by
 have:p.toNat < os.length:=by omega
 simp [List.getD,this]
theorem dDay_bd {j:Jm} (hj:jumpR j=0) (ts:List Int) {i:Nat} {s:DSt} (h:DOk i s) {p:Int} (hp:-1 ≤ p∧p < i):-2001 * ((i:Int)+1) ≤ dDay j ts i s.os p s.st∧dDay j ts i s.os p s.st ≤ 2001 * ((i:Int)+1):=by
 obtain ⟨a1,a2,a3,a4⟩:=jumpR_bd hj
 have h1:=h.st
 have hl:=h.os
 unfold dDay
 split
 ·omega
 split
 ·split
  ·have:=h.bd _ (osD (p:=s.st) (by omega))
   omega
  ·omega
 split
 ·have:=h.bd _ (osD (p:=p) (by omega))
  split <;> omega
 ·omega
theorem dRun_ok {x:Sr} {l:List Jm} (hl:∀ j ∈ l,jumpR j=0) {ts:List Int} (ht:∀ t ∈ ts,1 ≤ t∧t ≤ 4):∀ i,i ≤ ts.length→DOk i (dRun x l ts i)
 | 0,_=>⟨rfl,rfl,⟨by simp [dRun],by simp [dRun]⟩,by simp [dRun],by simp [dRun]⟩
 | i+1,hi=>by
  have h:=dRun_ok (x:=x) hl ht i (by omega)
  have hb:=dDay_bd (jmD_bd (x:=x) hl i) ts h (dP_bd (i:=i) (fs:=(dRun x l ts i).fs) (fl:=dFl (jmAt x l i) i (dRun x l ts i).fs) h.st)
  rw [dRun]
  refine ⟨by simp [dStep,h.os],by simp [dStep,h.fs],?_,?_,?_⟩
  ·have:=h.st
   simp only [dStep]
   split <;> omega
  ·intro o ho
   simp only [dStep,List.mem_append,List.mem_singleton] at ho
   rcases ho with ho | rfl
   ·have:=h.bd o ho
    omega
   ·simp only
    omega
  ·intro o ho
   simp only [dStep,List.mem_append,List.mem_singleton] at ho
   rcases ho with ho | rfl
   ·exact h.tm o ho
   ·simp only
    have:i < ts.length:=by omega
    rw [show ts.getD i 0=ts[i] by simp [List.getD,this]]
    exact ht _ (List.getElem_mem this)
end Go.Proofs.YtnfkjpihaficbaaGreatDoor
