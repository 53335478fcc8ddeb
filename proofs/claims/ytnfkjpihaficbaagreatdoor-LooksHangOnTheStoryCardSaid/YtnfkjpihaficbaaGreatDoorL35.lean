/- Orders that are drawn. Own work of this seat. -/
import Derived.Test.YtnfkjpihaficbaaGreatDoorL34
set_option maxRecDepth 100000
set_option linter.unusedSimpArgs false
set_option linter.unusedVariables false
namespace Go.Proofs.YtnfkjpihaficbaaGreatDoor
open Go Go.Av Go.RowKit
def inA (n:Nat):AV:=.int .i64 n
theorem inA_get (l:List Nat) (i:Nat) (h:i < l.length):(l.map inA).getD i .any = .int .i64 l[i]:=by simp [List.getD,h,inA]
theorem inA_set (l:List Nat) (i x:Nat):(l.map inA).set i (.int .i64 x) = (l.set i x).map inA:=by rw [List.map_set]; rfl
theorem inA_frz:∀ l:List Nat,(flat (l.map inA)).all Av.frozen = true
 | []=>rfl
 | a :: l=>by simp only [List.map_cons,flat,inA,cellsOf,List.cons_append,List.nil_append,List.all_cons,Av.frozen,inA_frz l,Bool.and_self]
set_option maxHeartbeats 4000000 in
theorem order_mc (L:List Int) (k:Int) (n:Nat) (hn:n ≤ 1000) (h3:0 ≤ k) (h4:k ≤ 900000) :
  Mc Tryz.prog 20 2 (str L k) [.int .i64 n] (fun r s=>∃ (o:List Nat) (k':Int),r = .fz 1 (o.map inA) ∧ o.Perm (List.range n) ∧ s = str L k' ∧ k ≤ k' ∧ k' ≤ k + n):=by
 refine ct_intro Tryz.func20 rfl Tryz.ntmps20 hB20 (by simp) fun h ρ w=>goB (N:=43) Tryz.ntmps20 300 ?_
 simp only [go_sem]
 refine aloop (ι:=Nat) (fun i=>n - i) (fun i=>[(10,.int .i64 i),(9,.int .i64 n),(5,.sl 1 0 i i),(1,.int .i64 n),(0,.ptr 0 1 0 0)]) (fun i=>[.arr 2 [str L k],.arr 1 ((List.range i).map inA)]) (fun i=>i ≤ n) 0 (by simp) ?_ ?_
 ·refine Shift.trans (Shift.nilsl 5 1 rfl) (Shift.weakS ?_ rfl)
  simp only [wk,go_sem]
  try rfl
 intro i g1 J hJ
 by_cases gi:i < n
 ·have di:decide ((i:Int) < (n:Int)) = true:=by simp; omega
  have hfin:=hJ (i + 1) (by omega) (by omega)
  simp only [List.range_succ,List.map_append,List.map_cons,List.map_nil,inA] at hfin
  refine goB (N:=43) Tryz.ntmps20 300 ?_
  simp only [go_sem,di,List.length_map,List.length_range]
  repeat refine And.intro (by first | omega | rfl | exact .inl rfl | exact .inl trivial | (simp; done) | (simp; omega)) ?_
  rw [show (i:Int) + 1 = ((i + 1:Nat):Int) by omega]
  refine ainv hfin (Shift.weakS ?_ rfl)
  simp only [wk,go_sem]
 have di:decide ((i:Int) < (n:Int)) = false:=by simp; omega
 have hi:i = n:=by omega
 subst hi
 clear hJ
 by_cases h0:i = 0
 ·subst h0
  refine goB (N:=43) Tryz.ntmps20 300 ?_
  simp only [go_sem,di]
  repeat refine And.intro (by first | omega | rfl | (simp; done) | (simp; omega)) ?_
  refine aenter (around ?_)
  refine goB (N:=43) Tryz.ntmps20 300 ?_
  simp only [go_sem]
  exact ARet.shift (Shift.freeze 4 (id:=1) (l:=[]) rfl rfl (by simp) (Nat.le_refl _) rfl) (aret [4] rfl ⟨str L k,[.dead],rfl,⟨[],k,rfl,.refl _,rfl,by omega,by omega⟩,rfl,rfl⟩)
 have hpos:0 < i:=by omega
 refine goB (N:=43) Tryz.ntmps20 300 ?_
 simp only [go_sem,di]
 repeat refine And.intro (by first | omega | rfl | (simp; done) | (simp; omega)) ?_
 refine aloop (ι:=Nat × List Nat × Int) (fun y=>y.1) (fun y=>[(7,.int .i64 y.1),(5,.sl 1 0 i i),(0,.ptr 0 1 0 0)]) (fun y=>[.arr 2 [str L y.2.2],.arr 1 (y.2.1.map inA)])
  (fun y=>y.1 < i ∧ y.2.1.Perm (List.range i) ∧ k ≤ y.2.2 ∧ y.2.2 + y.1 ≤ k + i) (i - 1,List.range i,k) ⟨by simp; omega,.refl _,by simp,by simp only; omega⟩ ?_ ?_
 ·refine Shift.weakS ?_ rfl
  simp only [wk,go_sem]
  rw [show ((i:Int) - 1) = ((i - 1:Nat):Int) by omega]
 rintro ⟨j,o,kk⟩ ⟨q1,q2,q3,q4⟩ K hK
 simp only at q1 q2 q3 q4 hK ⊢
 have hol:o.length = i:=by rw [q2.length_eq,List.length_range]
 by_cases gj:0 < j
 ·have dj:decide ((j:Int) > 0) = true:=by simp; omega
  refine goB (N:=43) Tryz.ntmps20 300 ?_
  simp only [go_sem,dj]
  repeat refine And.intro (by first | omega | rfl | (simp; done) | (simp; omega)) ?_
  refine mcall (nextX_mc L kk (j + 1) (by omega) (by omega) (by omega) (by omega)) rfl rfl (id:=0) rfl (N:=43) Tryz.ntmps20 rfl ?_
  rintro _ _ ⟨rfl,rfl⟩
  obtain ⟨hv0,hv1⟩:=nx_bd L kk (j + 1) (by omega)
  generalize nx L kk (j + 1) = v at *
  obtain ⟨t,rfl⟩:∃ t:Nat,v = t:=⟨v.toNat,by omega⟩
  have p1:=inA_get o j (by omega)
  have p2:=inA_get o t (by omega)
  have p3:=inA_get (o.set j (o[t]'(by omega))) t (by simp; omega)
  have s1:=inA_set o j (o[t]'(by omega))
  have s2:=inA_set (o.set j (o[t]'(by omega))) t (o[j]'(by omega))
  have hfin:=hK (j - 1,(o.set j (o[t]'(by omega))).set t (o[j]'(by omega)),kk + 1) ⟨by simp only; omega,(List.set_set_perm (by omega) (by omega)).trans q2,by simp only; omega,by simp only; omega⟩ (by simp only; omega)
  simp only at hfin
  refine goB (N:=43) Tryz.ntmps20 300 ?_
  simp only [go_sem]
  refine adrawS [] mixed (by decide) (N:=43) Tryz.ntmps20 (by decide) 100 ?_
  simp only [go_sem,p1,p2,p3,s1,s2,hol,List.length_map,List.length_set]
  repeat refine And.intro (by first | omega | rfl | (simp; done) | (simp; omega)) ?_
  refine goB (N:=43) Tryz.ntmps20 300 ?_
  simp only [go_sem]
  repeat refine And.intro (by first | omega | rfl | (simp; done) | (simp; omega)) ?_
  rw [show (j:Int) - 1 = ((j - 1:Nat):Int) by omega]
  refine ainv hfin (Shift.weakS ?_ rfl)
  simp only [wk,go_sem]
 ·have dj:decide ((j:Int) > 0) = false:=by simp; omega
  clear hK
  have htk:((o.map inA).drop 0).take i = o.map inA:=by rw [List.drop_zero,List.take_of_length_le (by simp; omega)]
  refine goB (N:=43) Tryz.ntmps20 300 ?_
  simp only [go_sem,dj]
  exact ARet.shift (Shift.freeze 4 (id:=1) (l:=o.map inA) rfl rfl (by simp; omega) (Nat.le_refl _) (inA_frz _)) (aret [4] rfl ⟨str L kk,[.dead],rfl,⟨o,kk,by simp only [resV,Av.get,Av.put,beq_self_eq_true,cond_true,htk],q2,rfl,by omega,by omega⟩,rfl,rfl⟩)
def sdA (d:Int × Int × Int):AV:=.agg [.int .i64 d.1,.int .i64 d.2.1,.int .i64 d.2.2]
theorem sdA_get (l:List (Int × Int × Int)) (i:Nat) (h:i < l.length):(l.map sdA).getD i .any = .agg [.int .i64 l[i].1,.int .i64 l[i].2.1,.int .i64 l[i].2.2]:=by simp [List.getD,h,sdA]
def cmpD (ds:List (Int × Int × Int)) (i j:Nat):Int:=orI (cmpI (ds.getD i (0,0,0)).1 (ds.getD j (0,0,0)).1) (cmpI (rankF (ds.getD i (0,0,0)).2.1) (rankF (ds.getD j (0,0,0)).2.1))
theorem orderFn_pc (ds:List (Int × Int × Int)) (ht:∀ d ∈ ds,1 ≤ d.2.1 ∧ d.2.1 ≤ 4) (i j:Nat) (hi:i < ds.length) (hj:j < ds.length):Pc Tryz.prog 137 [.int .i64 i,.int .i64 j,.pin 1 [.fz 3 (ds.map sdA)] 0 0] (· = .int .i64 (cmpD ds i j)):=by
 have g1:=sdA_get ds i hi
 have g2:=sdA_get ds j hj
 have r1:=rank_pc _ (ht _ (List.getElem_mem hi))
 have r2:=rank_pc _ (ht _ (List.getElem_mem hj))
 have e1:ds.getD i (0,0,0) = ds[i]:=by simp [List.getD,hi]
 have e2:ds.getD j (0,0,0) = ds[j]:=by simp [List.getD,hj]
 unfold cmpD
 rw [e1,e2]
 generalize ds[i] = a at *
 generalize ds[j] = b at *
 obtain ⟨a1,a2,a3⟩:=a
 obtain ⟨b1,b2,b3⟩:=b
 simp only at g1 g2 r1 r2 ⊢
 have ho:=or_pc (cmpI a1 b1) (cmpI (rankF a2) (rankF b2))
 refine pc_intro (ct_intro Tryz.func137 rfl Tryz.ntmps137 hB137 (by simp) fun h ρ w=>goB (N:=32) Tryz.ntmps137 300 ?_)
 simp only [go_sem]
 refine adraw [.int .i64 (cmpI a1 b1),.int .i64 (rankF a2),.int .i64 (rankF b2),.int .i64 (cmpI (rankF a2) (rankF b2)),.int .i64 (orI (cmpI a1 b1) (cmpI (rankF a2) (rankF b2)))] mixed (by decide) (N:=32) Tryz.ntmps137 (by decide) 100 ?_
 simp only [go_sem,g1,g2,List.length_map]
 repeat refine And.intro (by first | exact (cmp_int_pc _ _).at | exact r1.at | exact r2.at | exact ho.at | omega | rfl | (simp; done) | (simp; omega)) ?_
 refine goB (N:=32) Tryz.ntmps137 300 ?_
 simp only [go_sem]
 exact aret [5] rfl ⟨rfl,rfl⟩
def insN (c:Nat → Nat → Int) (a:Nat):Nat → Nat → List Nat → List Nat
 | 0,_,q=>q
 | f + 1,j,q=>if a < j ∧ c (q.getD j 0) (q.getD (j - 1) 0) < 0 then insN c a f (j - 1) ((q.set j (q.getD (j - 1) 0)).set (j - 1) (q.getD j 0)) else q
def isN (c:Nat → Nat → Int) (a b:Nat):Nat → Nat → List Nat → List Nat
 | 0,_,q=>q
 | f + 1,i,q=>if i < b then isN c a b f (i + 1) (insN c a i i q) else q
theorem atN {q:List Nat} {i:Nat} (h:i < q.length):q.getD i 0 = q[i]:=by simp [List.getD,h]
theorem swapN_perm {q l:List Nat} (hq:q.Perm l) {i j:Nat} (h1:i < q.length) (h2:j < q.length):((q.set i q[j]).set j q[i]).Perm l:=(List.set_set_perm h1 h2).trans hq
theorem insN_perm (c:Nat → Nat → Int) (a:Nat):∀ (f j:Nat) (q:List Nat),j < q.length → (insN c a f j q).Perm q
 | 0,_,q,_=>.refl _
 | f + 1,j,q,h=>by
  rw [insN]
  split
  ·have h2:j - 1 < q.length:=by omega
   rw [atN h,atN h2]
   exact (insN_perm c a f (j - 1) _ (by simp; omega)).trans (swapN_perm (.refl q) h h2)
  ·exact .refl _
theorem isN_perm (c:Nat → Nat → Int) (a b:Nat):∀ (f i:Nat) (q:List Nat),b ≤ q.length → (isN c a b f i q).Perm q
 | 0,_,q,_=>.refl _
 | f + 1,i,q,h=>by
  rw [isN]
  split
  ·rename_i hi
   have hp:=insN_perm c a i i q (by omega)
   exact (isN_perm c a b f (i + 1) _ (by rw [hp.length_eq]; exact h)).trans hp
  ·exact .refl _
set_option maxHeartbeats 1000000 in
theorem insertionN (cap:AV) (hcap:nr1 cap = true) (c:Nat → Nat → Int) (n:Nat) (hc:∀ i j,i < n → j < n → Pc Tryz.prog 137 [.int .i64 i,.int .i64 j,cap] (· = .int .i64 (c i j))) (l:List Nat) (hn:∀ i ∈ l,i < n) (a b:Nat) (h2:a ≤ b) (h3:b ≤ l.length) (hl:l.length < 1000000) :
  Ct Tryz.prog 243 [.sl 0 0 l.length l.length,.int .i64 a,.int .i64 b,.fn (.func 137) [cap]] [.arr 1 (l.map inA)] (fun r s=>r = .tup [] ∧ s = [.arr 1 ((isN c a b (b + 1 - (a + 1)) (a + 1) l).map inA)]):=by
 refine ct_intro Tryz.func243 rfl Tryz.ntmps243 hB243 (by simp) fun h ρ w=>goB (N:=53) Tryz.ntmps243 300 ?_
 simp only [go_sem]
 repeat refine And.intro (by omega) ?_
 rw [show (a:Int) + 1 = ((a + 1:Nat):Int) by omega]
 refine aloop (ι:=Nat × List Nat) (fun y=>b + 1 - y.1) (fun y=>[(8,.int .i64 y.1),(3,.fn (.func 137) [cap]),(2,.int .i64 b),(1,.int .i64 a),(0,.sl 0 0 l.length l.length)]) (fun y=>[.arr 1 (y.2.map inA)])
  (fun y=>a + 1 ≤ y.1 ∧ y.2.Perm l ∧ isN c a b (b + 1 - y.1) y.1 y.2 = isN c a b (b + 1 - (a + 1)) (a + 1) l) (a + 1,l) ⟨by simp,.refl _,rfl⟩ ?_ ?_
 ·refine Shift.weakS ?_ rfl
  simp only [wk,go_sem]
 ·rintro ⟨i,q⟩ ⟨g1,g2,g3⟩ J hJ
  simp only at g1 g2 g3 hJ ⊢
  by_cases gi:i < b
  ·have di:decide ((i:Int) < (b:Int)) = true:=by simp; omega
   refine goB (N:=53) Tryz.ntmps243 300 ?_
   simp only [go_sem,di]
   refine aloop (ι:=Nat × List Nat) (fun y=>y.1) (fun y=>[(9,.int .i64 y.1),(8,.int .i64 i),(3,.fn (.func 137) [cap]),(2,.int .i64 b),(1,.int .i64 a),(0,.sl 0 0 l.length l.length)]) (fun y=>[.arr 1 (y.2.map inA)])
    (fun y=>a ≤ y.1 ∧ y.1 ≤ i ∧ y.2.Perm l ∧ ∃ f,y.1 ≤ f ∧ insN c a f y.1 y.2 = insN c a i i q) (i,q) ⟨by simp only; omega,by simp,g2,i,Nat.le_refl _,rfl⟩ ?_ ?_
   ·refine Shift.weakS ?_ rfl
    simp only [wk,go_sem]
   ·rintro ⟨j,p⟩ ⟨k1,k2,k3,f0,k4,k5⟩ K hK
    simp only at k1 k2 k3 k4 k5 hK ⊢
    have hgo:insN c a i i q = p → isN c a b (b + 1 - (i + 1)) (i + 1) p = isN c a b (b + 1 - (a + 1)) (a + 1) l:=fun e=>by
     rw [show b + 1 - i = (b + 1 - (i + 1)) + 1 by omega,isN,if_pos gi,e] at g3
     exact g3
    have hq:=k3.length_eq
    have hpn:∀ k,(hk:k < p.length) → p[k] < n:=fun k hk=>hn _ (k3.mem_iff.1 (List.getElem_mem hk))
    by_cases hja:a < j
    ·obtain ⟨f1,rfl⟩:∃ f1,f0 = f1 + 1:=⟨f0 - 1,by omega⟩
     have dj:decide ((j:Int) > (a:Int)) = true:=by simp; omega
     have e1:((j:Int) - 1).toNat = j - 1:=by omega
     have p1:=inA_get p j (by omega)
     have p2:=inA_get p (j - 1) (by omega)
     have hc:=hc (p[j]'(by omega)) (p[j - 1]'(by omega)) (hpn _ _) (hpn _ _)
     refine goB (N:=53) Tryz.ntmps243 300 ?_
     simp only [go_sem]
     refine adraw [.int .i64 (c (p[j]'(by omega)) (p[j - 1]'(by omega)))] mixed (by decide) (N:=53) Tryz.ntmps243 (by decide) 100 ?_
     cases dc:decide (c (p[j]'(by omega)) (p[j - 1]'(by omega)) < 0) with
     | true =>
      have p3:=inA_get (p.set j (p[j - 1]'(by omega))) (j - 1) (by simp; omega)
      have s1:=inA_set p j (p[j - 1]'(by omega))
      have s2:=inA_set (p.set j (p[j - 1]'(by omega))) (j - 1) (p[j]'(by omega))
      have hfin:=hK (j - 1,_) ⟨by simp only; omega,by simp only; omega,swapN_perm k3 (i:=j) (j:=j - 1) (by omega) (by omega),f1,by simp only; omega,by
       rw [insN,atN (by omega),atN (by omega),if_pos ⟨hja,of_decide_eq_true dc⟩] at k5
       exact k5⟩ (by simp only; omega)
      simp only [go_sem,dj,e1,p1,p2,dc,List.length_map]
      repeat refine And.intro (by first | exact hc.at | exact hcap | omega | rfl | (simp; done) | (simp; omega)) ?_
      refine goB (N:=53) Tryz.ntmps243 300 ?_
      simp only [go_sem]
      refine adrawS [] mixed (by decide) (N:=53) Tryz.ntmps243 (by decide) 100 ?_
      simp only [go_sem,e1,p1,p2,p3,s1,s2,List.length_map,List.length_set]
      repeat refine And.intro (by first | omega | rfl | (simp; done) | (simp; omega)) ?_
      refine goB (N:=53) Tryz.ntmps243 300 ?_
      simp only [go_sem]
      repeat refine And.intro (by first | omega | rfl | (simp; done) | (simp; omega)) ?_
      rw [show (j:Int) - 1 = ((j - 1:Nat):Int) by omega]
      refine ainv hfin (Shift.weakS ?_ rfl)
      simp only [wk,go_sem]
     | false =>
      rw [insN,atN (by omega),atN (by omega),if_neg (fun h=>of_decide_eq_false dc h.2)] at k5
      have hfin:=hJ (i + 1,p) ⟨by simp only; omega,k3,hgo k5.symm⟩ (by simp only; omega)
      simp only [go_sem,dj,e1,p1,p2,dc,List.length_map]
      repeat refine And.intro (by first | exact hc.at | exact hcap | omega | rfl | (simp; done) | (simp; omega)) ?_
      refine goB (N:=53) Tryz.ntmps243 300 ?_
      simp only [go_sem]
      repeat refine And.intro (by first | omega | rfl | (simp; done) | (simp; omega)) ?_
      rw [show (i:Int) + 1 = ((i + 1:Nat):Int) by omega]
      refine ainv hfin (Shift.weakS ?_ rfl)
      simp only [wk,go_sem]
    ·have dj:decide ((j:Int) > (a:Int)) = false:=by simp; omega
     have k6:insN c a f0 j p = p:=by
      cases f0 with
      | zero=>rfl
      | succ f=>rw [insN,if_neg (fun h=>hja h.1)]
     have hfin:=hJ (i + 1,p) ⟨by simp only; omega,k3,hgo (by rw [← k5,k6])⟩ (by simp only; omega)
     refine goB (N:=53) Tryz.ntmps243 300 ?_
     simp only [go_sem]
     refine adraw [.any] mixed (by decide) (N:=53) Tryz.ntmps243 (by decide) 100 ?_
     simp only [go_sem,dj]
     repeat refine And.intro (by first | omega | rfl | (simp; done) | (simp; omega)) ?_
     refine goB (N:=53) Tryz.ntmps243 300 ?_
     simp only [go_sem]
     repeat refine And.intro (by first | omega | rfl | (simp; done) | (simp; omega)) ?_
     rw [show (i:Int) + 1 = ((i + 1:Nat):Int) by omega]
     refine ainv hfin (Shift.weakS ?_ rfl)
     simp only [wk,go_sem]
  ·have di:decide ((i:Int) < (b:Int)) = false:=by simp; omega
   refine goB (N:=53) Tryz.ntmps243 300 ?_
   simp only [go_sem,di]
   have g4:isN c a b (b + 1 - i) i q = q:=by
    cases b + 1 - i with
    | zero=>rfl
    | succ f=>rw [isN,if_neg gi]
   exact aret [] rfl ⟨rfl,by rw [← g3,g4]⟩
def sortN (c:Nat → Nat → Int) (l:List Nat):List Nat:=isN c 0 l.length l.length 1 l
theorem sortN_perm (c:Nat → Nat → Int) (l:List Nat):(sortN c l).Perm l:=isN_perm c 0 l.length _ _ l (Nat.le_refl _)
theorem stableN (cap:AV) (hcap:nr1 cap = true) (c:Nat → Nat → Int) (n:Nat) (hc:∀ i j,i < n → j < n → Pc Tryz.prog 137 [.int .i64 i,.int .i64 j,cap] (· = .int .i64 (c i j))) (l:List Nat) (hn:∀ i ∈ l,i < n) (hl:l.length < 20) :
  Ct Tryz.prog 190 [.sl 0 0 l.length l.length,.int .i64 l.length,.fn (.func 137) [cap]] [.arr 1 (l.map inA)] (fun r s=>r = .tup [] ∧ s = [.arr 1 ((sortN c l).map inA)]):=by
 have hr:=insertionN cap hcap c n hc l hn 0 l.length (by omega) (by omega) (by omega)
 have d1:decide ((20:Int) ≤ (l.length:Int)) = false:=by simp; omega
 have d2:decide ((20:Int) < (l.length:Int)) = false:=by simp; omega
 refine ct_intro Tryz.func190 rfl Tryz.ntmps190 hB190 (by simp) fun h ρ w=>goB (N:=63) Tryz.ntmps190 300 ?_
 simp only [go_sem]
 refine aenter (around ?_)
 refine goB (N:=63) Tryz.ntmps190 300 ?_
 simp only [go_sem,d1]
 refine acall (hr) (N:=63) Tryz.ntmps190 rfl ?_
 rintro _ _ ⟨rfl,rfl⟩
 refine goB (N:=63) Tryz.ntmps190 300 ?_
 simp only [go_sem]
 refine aenter (around ?_)
 refine goB (N:=63) Tryz.ntmps190 300 ?_
 simp only [go_sem,d2]
 exact aret [] rfl ⟨rfl,rfl⟩
theorem sortStableN (cap:AV) (hcap:nr1 cap = true) (c:Nat → Nat → Int) (n:Nat) (hc:∀ i j,i < n → j < n → Pc Tryz.prog 137 [.int .i64 i,.int .i64 j,cap] (· = .int .i64 (c i j))) (l:List Nat) (hn:∀ i ∈ l,i < n) (hl:l.length < 20) :
  Ct Tryz.prog 136 [.sl 0 0 l.length l.length,.fn (.func 137) [cap]] [.arr 1 (l.map inA)] (fun r s=>r = .tup [] ∧ s = [.arr 1 ((sortN c l).map inA)]):=by
 have hr:=stableN cap hcap c n hc l hn hl
 refine ct_intro Tryz.func136 rfl Tryz.ntmps136 hB136 (by simp) fun h ρ w=>goB (N:=9) Tryz.ntmps136 300 ?_
 simp only [go_sem,List.length_map]
 repeat refine And.intro (by first | omega | rfl | (simp; omega)) ?_
 refine acall (hr) (N:=9) Tryz.ntmps136 rfl ?_
 rintro _ _ ⟨rfl,rfl⟩
 refine goB (N:=9) Tryz.ntmps136 300 ?_
 simp only [go_sem]
 exact aret [] rfl ⟨rfl,rfl⟩
def orderD (ds:List (Int × Int × Int)):List Nat:=sortN (cmpD ds) (List.range ds.length)
theorem orderD_perm (ds:List (Int × Int × Int)):(orderD ds).Perm (List.range ds.length):=sortN_perm _ _
theorem orderD_pc (ds:List (Int × Int × Int)) (ht:∀ d ∈ ds,1 ≤ d.2.1 ∧ d.2.1 ≤ 4) (hl:ds.length ≤ 5):Pc Tryz.prog 84 [.fz 3 (ds.map sdA)] (· = .fz 1 ((orderD ds).map inA)):=by
 have hr:=sortStableN (.pin 1 [.fz 3 (ds.map sdA)] 0 0) rfl (cmpD ds) ds.length (orderFn_pc ds ht) (List.range ds.length) (by simp) (by simp; omega)
 rw [List.length_range] at hr
 refine pc_intro (ct_intro Tryz.func84 rfl Tryz.ntmps84 hB84 (by simp) fun h ρ w=>goB (N:=22) Tryz.ntmps84 300 ?_)
 simp only [go_sem,List.length_map]
 repeat refine And.intro (by first | omega | rfl | (simp; done) | (simp; omega)) ?_
 refine aloop (ι:=Nat) (fun y=>ds.length - y) (fun y=>[(10,.int .i64 y),(9,.int .i64 ds.length),(3,.sl 0 0 ds.length ds.length),(1,.pin 1 [.fz 3 (ds.map sdA)] 0 0)])
  (fun y=>[.arr 1 (((List.range y) ++ List.replicate (ds.length - y) 0).map inA)]) (fun y=>y ≤ ds.length) 0 (by simp) ?_ ?_
 ·refine Shift.weakS ?_ ?_
  ·simp only [wk,go_sem,List.length_map]
  ·simp [inA]
 intro i g1 J hJ
 by_cases gi:i < ds.length
 ·have di:decide ((i:Int) < (ds.length:Int)) = true:=by simp; omega
  have hfin:=hJ (i + 1) (by omega) (by omega)
  have hs:((List.range i ++ List.replicate (ds.length - i) 0).map inA).set i (.int .i64 (i:Int)) = (List.range (i + 1) ++ List.replicate (ds.length - (i + 1)) 0).map inA:=by
   rw [inA_set]
   congr 1
   obtain ⟨m,hm⟩:∃ m,ds.length - i = m + 1:=⟨ds.length - i - 1,by omega⟩
   rw [hm,show ds.length - (i + 1) = m by omega,List.range_succ,List.set_append_right _ _ (by simp)]
   simp [List.replicate_succ]
  have hlen:((List.range i ++ List.replicate (ds.length - i) 0).map inA).length = ds.length:=by simp; omega
  obtain ⟨v,hgt⟩:∃ v:Nat,((List.range i ++ List.replicate (ds.length - i) 0).map inA).getD i .any = .int .i64 v:=⟨_,inA_get _ i (by simp; omega)⟩
  generalize (List.range i ++ List.replicate (ds.length - i) 0).map inA = T at *
  refine goB (N:=22) Tryz.ntmps84 300 ?_
  simp only [go_sem,di,hs,hlen,hgt]
  repeat refine And.intro (by first | omega | rfl | (simp; done) | (simp; omega)) ?_
  rw [show (i:Int) + 1 = ((i + 1:Nat):Int) by omega]
  refine ainv hfin (Shift.weakS ?_ (by first | rfl | rw [List.range_succ]))
  simp only [wk,go_sem]
 ·have di:decide ((i:Int) < (ds.length:Int)) = false:=by simp; omega
  have hi:i = ds.length:=by omega
  subst hi
  rw [Nat.sub_self,List.replicate_zero,List.append_nil]
  refine goB (N:=22) Tryz.ntmps84 300 ?_
  simp only [go_sem,di]
  refine acall (hr) (N:=22) Tryz.ntmps84 rfl ?_
  rintro _ _ ⟨rfl,rfl⟩
  refine goB (N:=22) Tryz.ntmps84 300 ?_
  simp only [go_sem]
  have hfr:=inA_frz (orderD ds)
  have hle:((orderD ds).map inA).length = ds.length:=by rw [List.length_map,(orderD_perm ds).length_eq,List.length_range]
  refine ARet.shift (Shift.freeze 2 (id:=0) (l:=(orderD ds).map inA) rfl rfl (by simp [hle]) (Nat.le_refl _) hfr) (aret [2] rfl ⟨?_,rfl⟩)
  simp [resV,Av.get,Av.put,List.take_of_length_le,hle]
end Go.Proofs.YtnfkjpihaficbaaGreatDoor
