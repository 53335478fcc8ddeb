/- continuity.each, over whatever is done at each scene. Own work of this seat. -/
import Derived.Test.YtnfkjpihaficbaaGreatDoorC41
set_option maxRecDepth 100000
set_option linter.unusedSimpArgs false
set_option linter.unusedVariables false
namespace Go.Proofs.YtnfkjpihaficbaaGreatDoor
open Go Go.Av Go.RowKit
theorem gfF_find (k:Nat):∀ (gs:List Gf) (n:Nat),(mfind (.int .i64) (.int .i64 (k:Int)) (gfF gs) n = some none ∧ ∀ g ∈ gs,g.key ≠ k) ∨ ∃ i g,mfind (.int .i64) (.int .i64 (k:Int)) (gfF gs) n = some (some (n + i,.fz 5 (g.ds.map faA))) ∧ gs[i]? = some g ∧ g.key = k
 | [],n=>.inl ⟨rfl,by simp⟩
 | g :: r,n=>by
  by_cases hk:g.key = k
  ·refine .inr ⟨0,g,?_,by simp,hk⟩
   subst hk
   simp [gfF,mfind,keyEq]
  ·have h1:(((k:Nat):Int) == (g.key:Int)) = false:=by simp; omega
   have e:mfind (.int .i64) (.int .i64 (k:Int)) (gfF (g :: r)) n = mfind (.int .i64) (.int .i64 (k:Int)) (gfF r) (n + 1):=by
    show (match keyEq (.int .i64) (.int .i64 (k:Int)) (.int .i64 (g.key:Int)) with | some true=>some (some (n,AV.fz 5 (g.ds.map faA))) | some false=>mfind (.int .i64) (.int .i64 (k:Int)) (gfF r) (n + 1) | none=>none) = _
    simp only [keyEq,h1]
    rfl
   rw [e]
   rcases gfF_find k r (n + 1) with ⟨h,h2⟩ | ⟨i,g',h1,h2,h3⟩
   ·exact .inl ⟨h,fun y hy=>by
     rcases List.mem_cons.1 hy with rfl | hy
     ·exact hk
     ·exact h2 y hy⟩
   ·exact .inr ⟨i + 1,g',by rw [h1,show n + 1 + i = n + (i + 1) by omega],by simpa using h2,h3⟩
def factsAt (kf:Fa → Nat) (fs:List Fa) (i:Nat):List Fa:=fs.filter fun f=>kf f == i
def esAt (kf:Fa → Nat) (fs:List Fa) (ord:List Nat) (j:Nat):LMap:=lrun ((ord.take j).flatMap (factsAt kf fs))
theorem gfF_at {kf:Fa → Nat} {fs:List Fa} {gs:List Gf} {T:List Blk} (h:GfOk kf fs gs T) (k:Nat) :
  (mfind (.int .i64) (.int .i64 (k:Int)) (gfF gs) 0 = some none ∧ factsAt kf fs k = []) ∨ ∃ i,mfind (.int .i64) (.int .i64 (k:Int)) (gfF gs) 0 = some (some (i,.fz 5 ((factsAt kf fs k).map faA))):=by
 rcases gfF_find k gs 0 with ⟨h1,h2⟩ | ⟨i,g,h1,h2,h3⟩
 ·refine .inl ⟨h1,?_⟩
  unfold factsAt
  rw [List.filter_eq_nil_iff]
  intro f hf
  obtain ⟨g,hg,e⟩:=h.all f hf
  have:=h2 g hg
  simp only [beq_iff_eq]
  omega
 ·refine .inr ⟨0 + i,?_⟩
  rw [h1,h.own g (List.mem_of_getElem? h2),h3]
  rfl
def B0 (ord:List Nat) (a b:Nat):Blk:=.arr 3 [.agg [.fz 1 (ord.map inA),.mp a,.mp b]]
theorem tix_put {κ ν:Type} [DecidableEq κ] (es:List (Option (κ × ν))) (k:κ) (v:ν):∃ i,tix k (tput es k v) = some i:=by
 cases h:tix k (tput es k v) with
 | some i=>exact ⟨i,rfl⟩
 | none =>
  exfalso
  rw [tix_none] at h
  unfold tput at h
  cases hq:tix k es with
  | none=>rw [hq] at h; exact h (k,v) (by simp) rfl
  | some i =>
   rw [hq] at h
   obtain ⟨v0,h1,_⟩:=tix_some hq
   have hi:=(List.getElem?_eq_some_iff.1 h1).1
   exact h (k,v) (List.mem_of_getElem? (i:=i) (by rw [List.getElem?_set_self hi])) rfl
theorem esAt_succ (kf:Fa → Nat) (fs:List Fa) (ord:List Nat) (j:Nat) (h:j < ord.length):esAt kf fs ord (j + 1) = lrun ((ord.take j).flatMap (factsAt kf fs) ++ factsAt kf fs ord[j]):=by
 unfold esAt
 rw [List.take_succ_eq_append_getElem h,List.flatMap_append]
 simp
theorem factsAt_len (kf:Fa → Nat) (fs:List Fa) (i:Nat):(factsAt kf fs i).length ≤ fs.length:=List.length_filter_le _ _
set_option maxHeartbeats 8000000 in
theorem each_cth {S:Std} (kf:Fa → Nat) (fs:List Fa) (hfs:fs.length ≤ 8) (ord:List Nat) (hord:ord.length ≤ 5) (gs:List Gf) (TG:List Blk) (hG:GfOk kf fs gs TG) (a b m:Nat) (ha:a < m) (hb:b < m) (f:FuncId) (caps:List AV) (hcaps:caps.all (lowC m) = true)
  (Φ:Nat → List Blk → List Blk → Prop) (Ψ:List Blk → List Blk → Prop)
  (hΦ:∀ j T R,Φ j T R → T.length = m ∧ T[b]? = some (.mp (gfF gs)) ∧ T.all (lowB m) = true ∧ R.all (lowB (m + 2 + R.length)) = true)
  (hcall:∀ j (hj:j < ord.length) T R,Φ j T R → CtH Tryz.prog S f ([.int .i64 (ord[j]:Nat),.mp (m + 1)] ++ caps) (T ++ (B0 ord a b :: .mp (lkM (esAt kf fs ord (j + 1))) :: R)) (fun r s=>∃ T' R',s = T' ++ (B0 ord a b :: .mp (lkM (esAt kf fs ord (j + 1))) :: R') ∧ ((r = .bool true ∧ Φ (j + 1) T' R') ∨ (r = .bool false ∧ Ψ T' R'))))
  (T0:List Blk) (h0:Φ 0 T0 []) :
  CtH Tryz.prog S 65 [.agg [.fz 1 (ord.map inA),.mp a,.mp b],.fn (.func f) caps] T0 (fun r s=>r = .tup [] ∧ ∃ T R es,s = T ++ (B0 ord a b :: .mp es :: R) ∧ (Φ ord.length T R ∨ Ψ T R)):=by
 obtain ⟨i1,i2,i3,i4⟩:=hΦ 0 T0 [] h0
 subst i1
 simp only [B0,List.cons_append,List.nil_append] at hcall ⊢
 refine cth_intro Tryz.func65 rfl Tryz.ntmps65 hB65 (by simp) fun h ρ w hg=>goF (N:=48) Tryz.ntmps65 300 ?_
 simp only [go_sem,gt_at0,gt_at,List.append_assoc,List.cons_append,List.nil_append,List.length_map,List.length_append]
 refine aloop (ι:=Nat × List Blk × List Blk) (fun y=>ord.length - y.1)
  (fun y=>[(14,.int .i64 y.1),(13,.int .i64 ord.length),(12,.fz 1 (ord.map inA)),(4,.mp (T0.length + 1)),(2,.ptr T0.length 1 0 0),(1,.fn (.func f) caps)])
  (fun y=>y.2.1 ++ (.arr 3 [.agg [.fz 1 (ord.map inA),.mp a,.mp b]] :: .mp (lkM (esAt kf fs ord y.1)) :: y.2.2)) (fun y=>y.1 ≤ ord.length ∧ Φ y.1 y.2.1 y.2.2) (0,T0,[]) ⟨by simp,h0⟩ ?_ ?_
 ·refine Shift.weakS ?_ rfl
  simp only [wk,go_sem]
 rintro ⟨j,T,R⟩ ⟨g1,g2⟩ J hJ
 simp only at g1 g2 hJ ⊢
 obtain ⟨t1,t2,t3,t4⟩:=hΦ j T R g2
 by_cases gj:j < ord.length
 ·have dj:decide ((j:Int) < (ord.length:Int)) = true:=by simp; omega
  have p1:=inA_get ord j gj
  have hc:=hcall j gj T R g2
  have hsucc:=esAt_succ kf fs ord j gj
  have hl8:=factsAt_len kf fs ord[j]
  have hg0:∀ U:List Blk,(T ++ U).getD T0.length .dead = U.getD 0 .dead:=fun U=>by rw [← t1]; exact gt_at0
  have hg1:∀ (U:List Blk) (c:Nat),(T ++ U).getD (T0.length + c) .dead = U.getD c .dead:=fun U c=>by rw [← t1]; exact gt_at
  have hs1:∀ (U:List Blk) (c:Nat) (x:Blk),(T ++ U).set (T0.length + c) x = T ++ U.set c x:=fun U c x=>by rw [← t1]; exact st_at
  have hgb:∀ U:List Blk,(T ++ U).getD b .dead = .mp (gfF gs):=gt_old t2
  have hpre:lrun ((ord.take j).flatMap (factsAt kf fs)) = esAt kf fs ord j:=rfl
  generalize ord[j] = i at *
  generalize (ord.take j).flatMap (factsAt kf fs) = pre at *
  have hnext:∀ T' R',Φ (j + 1) T' R' → ∀ a_1 w_1,_:=fun T' R' h=>hJ (j + 1,T',R') ⟨by simp only; omega,h⟩ (by simp only; omega)
  rcases gfF_at hG i with ⟨m1,m2⟩ | ⟨q,m1⟩
  case' inl =>
   refine goF (N:=48) Tryz.ntmps65 300 ?_
   simp only [go_sem,dj,p1,hg0,hg1,hs1,hgb,m1,List.length_map,List.append_assoc,List.cons_append,List.nil_append]
   repeat refine And.intro (by first | omega | rfl | (simp; done) | (simp; omega)) ?_
   refine AWp.shift (Shift.trans (Shift.nilfz 21 5 rfl) (Shift.weakS (e':=[(23,.int .i64 0),(22,.int .i64 (factsAt kf fs i).length),(21,.fz 5 ((factsAt kf fs i).map faA)),(6,.int .i64 i),(14,.int .i64 j),(13,.int .i64 ord.length),(12,.fz 1 (ord.map inA)),(4,.mp (T0.length + 1)),(2,.ptr T0.length 1 0 0),(1,.fn (.func f) caps)]) ?_ rfl)) ?_
   ·rw [m2]
    simp only [wk,go_sem,List.map_nil,List.length_nil]
  case' inr =>
   refine goF (N:=48) Tryz.ntmps65 300 ?_
   simp only [go_sem,dj,p1,hg0,hg1,hs1,hgb,m1,List.length_map,List.append_assoc,List.cons_append,List.nil_append]
   repeat refine And.intro (by first | omega | rfl | (simp; done) | (simp; omega)) ?_
   refine AWp.shift (Shift.weakS (e':=[(23,.int .i64 0),(22,.int .i64 (factsAt kf fs i).length),(21,.fz 5 ((factsAt kf fs i).map faA)),(6,.int .i64 i),(14,.int .i64 j),(13,.int .i64 ord.length),(12,.fz 1 (ord.map inA)),(4,.mp (T0.length + 1)),(2,.ptr T0.length 1 0 0),(1,.fn (.func f) caps)]) ?_ rfl) ?_
   ·simp only [wk,go_sem]
  all_goals
   clear m1
   clear hG
   generalize factsAt kf fs i = l at *
   refine aloop (ι:=Nat) (fun k=>l.length - k) (fun k=>[(23,.int .i64 k),(22,.int .i64 (l).length),(21,.fz 5 ((l).map faA)),(6,.int .i64 i),(14,.int .i64 j),(13,.int .i64 ord.length),(12,.fz 1 (ord.map inA)),(4,.mp (T0.length + 1)),(2,.ptr T0.length 1 0 0),(1,.fn (.func f) caps)])
    (fun k=>T ++ (.arr 3 [.agg [.fz 1 (ord.map inA),.mp a,.mp b]] :: .mp (lkM (lrun (pre ++ l.take k))) :: R)) (fun k=>k ≤ l.length) 0 (by simp) ?_ ?_
   ·refine Shift.weakS ?_ (by rw [List.take_zero,List.append_nil,hpre])
    simp only [wk,go_sem]
   rintro k k1 K hK
   by_cases gk:k < l.length
   ·have dk:decide ((k:Int) < (l.length:Int)) = true:=by simp; omega
    have p2:=faA_get l k gk
    have hst:lrun (pre ++ l.take (k + 1)) = lstep (lrun (pre ++ l.take k)) l[k]:=by rw [List.take_succ_eq_append_getElem gk,← List.append_assoc,lrun_snoc]
    have hfin:=hK (k + 1) (by omega) (by omega)
    rw [hst] at hfin
    have hu:=lrun_uniq (pre ++ l.take k)
    clear hst
    generalize lrun (pre ++ l.take k) = es at *
    generalize l[k] = f0 at *
    have hfind:=lkM_find (f0.el,f0.facet) es 0
    have hput:=lkM_put es (f0.el,f0.facet) f0.value
    have hfind2:=lkM_find (f0.el,f0.facet) (tput es (f0.el,f0.facet) f0.value) 0
    have hdel:=lkM_del (tput es (f0.el,f0.facet) f0.value) (f0.el,f0.facet)
    obtain ⟨i2,ht2⟩:=tix_put es (f0.el,f0.facet) f0.value
    rw [ht2] at hfind2 hdel
    simp only [lkA,Nat.zero_add] at hfind hput hfind2 hdel
    have hlow:(Blk.arr 3 [.agg [.fz 1 (ord.map inA),.mp a,.mp b]] :: .mp (lkM (lstep es f0)) :: R).all (lowB (T.length + (Blk.arr 3 [.agg [.fz 1 (ord.map inA),.mp a,.mp b]] :: .mp (lkM (lstep es f0)) :: R).length)) = true:=by
     rw [List.all_cons,List.all_cons,low_lkM,Bool.true_and,Bool.and_eq_true]
     refine ⟨?_,?_⟩
     ·simp only [lowB,flat,cellsOf,lowC,Av.frozen,List.append_nil,List.all_cons,List.all_nil,Bool.and_true,Bool.true_and,Bool.and_eq_true,decide_eq_true_eq,List.length_cons]
      exact ⟨by omega,by omega⟩
     ·rw [t1]
      rw [List.all_eq_true] at t4 ⊢
      exact fun x hx=>low_mono (by simp only [List.length_cons]; omega) (t4 x hx)
    cases hv:f0.value == [] with
    | false =>
     have hls:lstep es f0 = tput es (f0.el,f0.facet) f0.value:=by
      unfold lstep
      rw [if_neg (by simpa using hv)]
      rfl
     rw [hls] at hfin hlow
     cases ht:tix (f0.el,f0.facet) es with
     | none =>
      rw [ht] at hfind hput
      simp only at hfind hput
      refine goF (N:=48) Tryz.ntmps65 300 ?_
      simp only [go_sem,dk,p2,hv,hg0,hg1,hs1,hfind,gt_at0,gt_at,st_at,st_at0,t1,List.length_map,List.append_assoc,List.cons_append,List.nil_append,List.length_append,← hput]
      repeat refine And.intro (by first | omega | kernel_rfl | rfl | (simp; done) | (simp; omega)) ?_
      rw [show (k:Int) + 1 = ((k + 1:Nat):Int) by omega]
      refine ainv hfin ?_
      refine shift_lowE T (_ :: _ :: R) [_,_] rfl (Nat.le_of_eq t1.symm) (by rw [t1]; exact t3) hlow ?_
      simp only [wkl,lowV,lowC,Av.get,go_sem]
      exact ⟨by omega,by omega,lowCs_mono (by omega) hcaps⟩
     | some i1 =>
      rw [ht] at hfind hput
      simp only at hfind hput
      refine goF (N:=48) Tryz.ntmps65 300 ?_
      simp only [go_sem,dk,p2,hv,hg0,hg1,hs1,hfind,gt_at0,gt_at,st_at,st_at0,t1,List.length_map,List.append_assoc,List.cons_append,List.nil_append,List.length_append,← hput]
      repeat refine And.intro (by first | omega | kernel_rfl | rfl | (simp; done) | (simp; omega)) ?_
      rw [show (k:Int) + 1 = ((k + 1:Nat):Int) by omega]
      refine ainv hfin ?_
      refine shift_lowE T (_ :: _ :: R) [_,_] rfl (Nat.le_of_eq t1.symm) (by rw [t1]; exact t3) hlow ?_
      simp only [wkl,lowV,lowC,Av.get,go_sem]
      exact ⟨by omega,by omega,lowCs_mono (by omega) hcaps⟩
    | true =>
     have hls:lstep es f0 = tdel (tput es (f0.el,f0.facet) f0.value) (f0.el,f0.facet):=by
      unfold lstep
      rw [if_pos (by simpa using hv)]
      rfl
     rw [hls] at hfin hlow
     cases ht:tix (f0.el,f0.facet) es with
     | none =>
      rw [ht] at hfind hput
      simp only at hfind hput
      refine goF (N:=48) Tryz.ntmps65 300 ?_
      simp only [go_sem,dk,p2,hv,hg0,hg1,hs1,hfind,gt_at0,gt_at,st_at,st_at0,t1,List.length_map,List.append_assoc,List.cons_append,List.nil_append,List.length_append,← hput,hfind2,← hdel]
      repeat refine And.intro (by first | omega | kernel_rfl | rfl | (simp; done) | (simp; omega)) ?_
      rw [show (k:Int) + 1 = ((k + 1:Nat):Int) by omega]
      refine ainv hfin ?_
      refine shift_lowE T (_ :: _ :: R) [_,_] rfl (Nat.le_of_eq t1.symm) (by rw [t1]; exact t3) hlow ?_
      simp only [wkl,lowV,lowC,Av.get,go_sem]
      exact ⟨by omega,by omega,lowCs_mono (by omega) hcaps⟩
     | some i1 =>
      rw [ht] at hfind hput
      simp only at hfind hput
      refine goF (N:=48) Tryz.ntmps65 300 ?_
      simp only [go_sem,dk,p2,hv,hg0,hg1,hs1,hfind,gt_at0,gt_at,st_at,st_at0,t1,List.length_map,List.append_assoc,List.cons_append,List.nil_append,List.length_append,← hput,hfind2,← hdel]
      repeat refine And.intro (by first | omega | kernel_rfl | rfl | (simp; done) | (simp; omega)) ?_
      rw [show (k:Int) + 1 = ((k + 1:Nat):Int) by omega]
      refine ainv hfin ?_
      refine shift_lowE T (_ :: _ :: R) [_,_] rfl (Nat.le_of_eq t1.symm) (by rw [t1]; exact t3) hlow ?_
      simp only [wkl,lowV,lowC,Av.get,go_sem]
      exact ⟨by omega,by omega,lowCs_mono (by omega) hcaps⟩
   ·have dk:decide ((k:Int) < (l.length:Int)) = false:=by simp; omega
    rw [List.take_of_length_le (by omega),← hsucc]
    clear hK
    refine goF (N:=48) Tryz.ntmps65 300 ?_
    simp only [go_sem,dk]
    refine acallH hg (hc) (N:=48) Tryz.ntmps65 rfl ?_
    rintro _ _ ⟨T',R',rfl,(⟨rfl,h1⟩ | ⟨rfl,h1⟩)⟩
    ·have hfin:=hJ (j + 1,T',R') ⟨by simp only; omega,h1⟩ (by simp only; omega)
     refine goF (N:=48) Tryz.ntmps65 300 ?_
     simp only [go_sem]
     repeat refine And.intro (by first | omega | rfl | (simp; done) | (simp; omega)) ?_
     rw [show (j:Int) + 1 = ((j + 1:Nat):Int) by omega]
     refine ainv hfin (Shift.weakS ?_ rfl)
     simp only [wk,go_sem]
    ·refine goF (N:=48) Tryz.ntmps65 300 ?_
     simp only [go_sem]
     exact aret [] rfl ⟨rfl,T',R',_,rfl,.inr h1⟩
 ·have dj:decide ((j:Int) < (ord.length:Int)) = false:=by simp; omega
  have hjl:j = ord.length:=by omega
  subst hjl
  refine goF (N:=48) Tryz.ntmps65 300 ?_
  simp only [go_sem,dj]
  exact aret [] rfl ⟨rfl,T,R,_,rfl,.inl g2⟩
theorem filter_split (p:Fa → Bool):∀ l:List Fa,(l.filter p).length + (l.filter fun x=>!p x).length = l.length
 | []=>rfl
 | a :: l=>by
  have ih:=filter_split p l
  cases h:p a <;> simp [h] <;> omega
theorem flatFacts_len (kf:Fa → Nat):∀ (ord:List Nat) (fs:List Fa),ord.Nodup → (ord.flatMap (factsAt kf fs)).length ≤ fs.length
 | [],fs,_=>by simp
 | i :: r,fs,hn=>by
  rw [List.nodup_cons] at hn
  have ih:=flatFacts_len kf r (fs.filter fun f=>!(kf f == i)) hn.2
  have e:r.flatMap (factsAt kf fs) = r.flatMap (factsAt kf (fs.filter fun f=>!(kf f == i))):=by
   have:∀ k ∈ r,factsAt kf fs k = factsAt kf (fs.filter fun f=>!(kf f == i)) k:=fun k hk=>by
    unfold factsAt
    rw [List.filter_filter]
    refine List.filter_congr fun f _=>?_
    by_cases h:kf f = k
    ·have hne:kf f ≠ i:=fun h2=>hn.1 (by rw [← h2,h]; exact hk)
     simp [h]
     intro h3
     exact hne (h.trans h3)
    ·have:(kf f == k) = false:=by simpa using h
     simp [this]
   clear ih hn
   induction r with
   | nil=>rfl
   | cons a r ih =>
    rw [List.flatMap_cons,List.flatMap_cons,this a (by simp),ih fun k hk=>this k (by simp [hk])]
  have h2:(factsAt kf fs i).length + (fs.filter fun f=>!(kf f == i)).length = fs.length:=by
   exact filter_split (fun f=>kf f == i) fs
  rw [List.flatMap_cons,List.length_append,e]
  omega
theorem esAt_len (kf:Fa → Nat) (fs:List Fa) (ord:List Nat) (hn:ord.Nodup) (j:Nat):(esAt kf fs ord j).length ≤ fs.length:=by
 refine Nat.le_trans (lrun_len _) ?_
 exact flatFacts_len kf _ fs (hn.sublist (List.take_sublist _ _))
theorem esAt_uniq (kf:Fa → Nat) (fs:List Fa) (ord:List Nat) (j:Nat):Tuniq (esAt kf fs ord j):=lrun_uniq _
def looksAt (x:Sr) (js:List Jm) (fs:List Fa) (n:Nat):LMap:=esAt (kfN x) fs (ordL x js) ((ordL x js).idxOf n + 1)
def insLk (y:Lk):List Lk → List Lk
 | []=>[y]
 | z :: r=>if kCmp (lkey y) (lkey z) < 0 then y :: z :: r else z :: insLk y r
def sortedLk (es:LMap):List Lk:=(lvL es).foldr insLk []
theorem insLk_perm (y:Lk):∀ l,(insLk y l).Perm (y :: l)
 | []=>.refl _
 | z :: r=>by
  rw [insLk]
  split
  ·exact .refl _
  ·exact ((insLk_perm y r).cons z).trans (.swap _ _ _)
theorem insLk_sorted (y:Lk):∀ l:List Lk,l.Pairwise lkLt → (∀ z ∈ l,lkey z ≠ lkey y) → (insLk y l).Pairwise lkLt
 | [],_,_=>by simp [insLk]
 | z :: r,h,hk=>by
  obtain ⟨h1,h2⟩:=List.pairwise_cons.1 h
  rw [insLk]
  split
  ·rename_i hlt
   have hlt:=kCmp_lt.1 hlt
   refine List.pairwise_cons.2 ⟨fun w hw=>?_,h⟩
   rcases List.mem_cons.1 hw with rfl | hw
   ·exact hlt
   ·exact kO.trans _ _ _ hlt (h1 w hw)
  ·rename_i hlt
   have hlt:¬ kLt (lkey y) (lkey z):=fun e=>hlt (kCmp_lt.2 e)
   have hz:lkLt z y:=by
    by_cases h3:kLt (lkey z) (lkey y)
    ·exact h3
    ·exact absurd (kO.total _ _ h3 hlt) (hk z (by simp))
   refine List.pairwise_cons.2 ⟨fun w hw=>?_,insLk_sorted y r h2 fun w hw=>hk w (by simp [hw])⟩
   rcases List.mem_cons.1 ((insLk_perm y r).mem_iff.1 hw) with rfl | hw
   ·exact hz
   ·exact h1 w hw
theorem sortLk_all:∀ l:List Lk,(l.Pairwise fun a b=>lkey a ≠ lkey b) → (l.foldr insLk []).Perm l ∧ (l.foldr insLk []).Pairwise lkLt
 | [],_=>⟨.refl _,.nil⟩
 | a :: l,h=>by
  obtain ⟨h1,h2⟩:=List.pairwise_cons.1 h
  obtain ⟨p,s⟩:=sortLk_all l h2
  refine ⟨(insLk_perm a _).trans (p.cons a),insLk_sorted a _ s fun z hz=>?_⟩
  exact fun e=>h1 z (p.mem_iff.1 hz) e.symm
theorem sortedLk_ok {es:LMap} (hu:Tuniq es):LooksOf es (sortedLk es):=by
 obtain ⟨p,s⟩:=sortLk_all (lvL es) (lvL_keys hu)
 exact ⟨fun y=>by rw [← lvL_mem hu]; exact p.mem_iff,s⟩
theorem looksOf_eq {es:LMap} (hu:Tuniq es) {l:List Lk} (h:LooksOf es l):l = sortedLk es:=looksOf_uniq (fun _=>rfl) h (sortedLk_ok hu)
theorem sortedLk_len {es:LMap} (hu:Tuniq es):(sortedLk es).length ≤ es.length:=by
 unfold sortedLk
 rw [(sortLk_all (lvL es) (lvL_keys hu)).1.length_eq]
 exact List.length_filterMap_le _ _
def hadL (a:List Lk):LMap:=a.foldl (fun es y=>tput es (lkey y) y.value) []
theorem hadL_snoc (a:List Lk) (y:Lk):hadL (a ++ [y]) = tput (hadL a) (lkey y) y.value:=by simp [hadL]
theorem hadL_uniq (a:List Lk):Tuniq (hadL a):=by
 suffices ∀ n,∀ a:List Lk,a.length = n → Tuniq (hadL a) from this _ a rfl
 intro n
 induction n with
 | zero=>intro a h; rw [List.eq_nil_of_length_eq_zero h]; exact .nil
 | succ n ih =>
  intro a h
  obtain ⟨r,f,rfl⟩:∃ r f,a = r ++ [f]:=⟨a.dropLast,a.getLast (by intro e; subst e; simp at h),(List.dropLast_concat_getLast _).symm⟩
  rw [hadL_snoc]
  exact tuniq_put (ih r (by simpa using h))
theorem hadL_val:∀ {a:List Lk},(a.Pairwise fun x y=>lkey x ≠ lkey y) → ∀ (k:LKey) (v:List UInt8),tval k (hadL a) = some v ↔ ∃ y ∈ a,lkey y = k ∧ y.value = v:=by
 suffices ∀ n,∀ a:List Lk,a.length = n → (a.Pairwise fun x y=>lkey x ≠ lkey y) → ∀ (k:LKey) (v:List UInt8),tval k (hadL a) = some v ↔ ∃ y ∈ a,lkey y = k ∧ y.value = v from fun {a}=>this _ a rfl
 intro n
 induction n with
 | zero=>intro a h _ k v; rw [List.eq_nil_of_length_eq_zero h]; simp [hadL,tval]
 | succ n ih =>
  intro a h hp k v
  obtain ⟨r,f,rfl⟩:∃ r f,a = r ++ [f]:=⟨a.dropLast,a.getLast (by intro e; subst e; simp at h),(List.dropLast_concat_getLast _).symm⟩
  rw [List.pairwise_append] at hp
  have ih:=ih r (by simpa using h) hp.1 k v
  rw [hadL_snoc,tval_put (hadL_uniq r)]
  have hf:∀ y ∈ r,lkey y ≠ lkey f:=fun y hy=>hp.2.2 y hy f (by simp)
  by_cases hk:k = lkey f
  ·rw [if_pos hk]
   constructor
   ·intro e; exact ⟨f,by simp,hk.symm,by simpa using e⟩
   ·rintro ⟨y,hy,h1,h2⟩
    rcases List.mem_append.1 hy with hy | hy
    ·exact absurd (h1.trans hk) (hf y hy)
    ·rw [List.mem_singleton.1 hy] at h2; simpa using h2
  ·rw [if_neg hk,ih]
   constructor
   ·rintro ⟨y,hy,h1⟩; exact ⟨y,by simp [hy],h1⟩
   ·rintro ⟨y,hy,h1,h2⟩
    rcases List.mem_append.1 hy with hy | hy
    ·exact ⟨y,hy,h1,h2⟩
    ·rw [List.mem_singleton.1 hy] at h1; exact absurd h1.symm hk
def chgB (a:List Lk) (y:Lk):Bool:=match tval (lkey y) (hadL a) with
 | some v=>v != y.value
 | none=>false
def changedN (a b:List Lk):Nat:=(b.filter (chgB a)).length
def chgP (x y:Lk):Prop:=lkey x = lkey y ∧ x.value ≠ y.value
theorem chgB_iff {a:List Lk} (h:a.Pairwise fun x y=>lkey x ≠ lkey y) (y:Lk):chgB a y = true ↔ ∃ x ∈ a,chgP x y:=by
 unfold chgB chgP
 cases hq:tval (lkey y) (hadL a) with
 | none =>
  simp only [Bool.false_eq_true,false_iff]
  rintro ⟨x,hx,h1,h2⟩
  have:=(hadL_val h (lkey y) x.value).2 ⟨x,hx,h1,rfl⟩
  rw [hq] at this
  cases this
 | some v =>
  obtain ⟨x,hx,h1,h2⟩:=(hadL_val h (lkey y) v).1 hq
  simp only [bne_iff_ne,ne_eq]
  constructor
  ·intro hv; exact ⟨x,hx,h1,by rw [h2]; exact hv⟩
  ·rintro ⟨x',hx',h3,h4⟩
   have:=(hadL_val h (lkey y) x'.value).2 ⟨x',hx',h3,rfl⟩
   rw [hq] at this
   cases this
   exact h4
theorem keys_of {es:LMap} {l:List Lk} (h:LooksOf es l):l.Pairwise fun x y=>lkey x ≠ lkey y:=h.2.imp fun {a b} hab=>by
 intro e
 unfold lkLt at hab
 rw [e] at hab
 exact kO.irrefl _ hab
theorem changedN_self {a:List Lk} (h:a.Pairwise fun x y=>lkey x ≠ lkey y):changedN a a = 0:=by
 unfold changedN
 rw [List.length_eq_zero_iff,List.filter_eq_nil_iff]
 intro y hy hc
 obtain ⟨x,hx,h1,h2⟩:=(chgB_iff h y).1 hc
 apply h2
 have e1:=(hadL_val h (lkey y) x.value).2 ⟨x,hx,h1,rfl⟩
 have e2:=(hadL_val h (lkey y) y.value).2 ⟨y,hy,rfl,rfl⟩
 rw [e1] at e2
 exact Option.some.inj e2
theorem changedN_le {a b:List Lk} (ha:a.Pairwise fun x y=>lkey x ≠ lkey y) (hb:b.Pairwise fun x y=>lkey x ≠ lkey y):changedN a b ≤ changedN b a:=by
 unfold changedN
 have h1:((b.filter (chgB a)).map lkey).Nodup:=by
  rw [List.Nodup,List.pairwise_map]
  exact (hb.sublist List.filter_sublist).imp id
 have h2:∀ k ∈ (b.filter (chgB a)).map lkey,k ∈ (a.filter (chgB b)).map lkey:=by
  intro k hk
  obtain ⟨y,hy,rfl⟩:=List.mem_map.1 hk
  obtain ⟨hy,hc⟩:=List.mem_filter.1 hy
  obtain ⟨x,hx,e1,e2⟩:=(chgB_iff ha y).1 hc
  exact List.mem_map.2 ⟨x,List.mem_filter.2 ⟨hx,(chgB_iff hb x).2 ⟨y,hy,e1.symm,fun e=>e2 e.symm⟩⟩,e1⟩
 have:=List.Nodup.length_le_of_subset h1 h2
 simpa using this
theorem changedN_symm {a b:List Lk} (ha:a.Pairwise fun x y=>lkey x ≠ lkey y) (hb:b.Pairwise fun x y=>lkey x ≠ lkey y):changedN a b = changedN b a:=Nat.le_antisymm (changedN_le ha hb) (changedN_le hb ha)
set_option maxHeartbeats 8000000 in
theorem changed_pc (a b:List Lk) (ha:a.length ≤ 12) (hb:b.length ≤ 12):Pc Tryz.prog 70 [.fz 4 (a.map lookA),.fz 4 (b.map lookA)] (· = .int .i64 (changedN a b)):=by
 refine pc_intro (ct_intro Tryz.func70 rfl Tryz.ntmps70 hB70 (by simp) fun h ρ w=>goB (N:=56) Tryz.ntmps70 300 ?_)
 simp only [go_sem,List.length_map]
 refine aloop (ι:=Nat) (fun i=>a.length - i) (fun i=>[(16,.int .i64 i),(15,.int .i64 a.length),(14,.fz 4 (a.map lookA)),(5,.mp 0),(1,.fz 4 (b.map lookA))]) (fun i=>[.mp (lkM (hadL (a.take i)))]) (fun i=>i ≤ a.length) 0 (by simp) ?_ ?_
 ·refine Shift.weakS ?_ rfl
  simp only [wk,go_sem]
 intro i g1 J hJ
 by_cases gi:i < a.length
 ·have di:decide ((i:Int) < (a.length:Int)) = true:=by simp; omega
  have p1:=lookA_get a i gi
  have hst:hadL (a.take (i + 1)) = tput (hadL (a.take i)) (lkey a[i]) a[i].value:=by rw [List.take_succ_eq_append_getElem gi,hadL_snoc]
  have hfin:=hJ (i + 1) (by omega) (by omega)
  rw [hst] at hfin
  clear hst
  generalize hadL (a.take i) = es at *
  generalize a[i] = y at *
  have hfind:=lkM_find (lkey y) es 0
  have hput:=lkM_put es (lkey y) y.value
  simp only [lkA,lkey,Nat.zero_add] at hfind hput hfin
  cases ht:tix (y.el,y.facet) es with
  | none =>
   rw [ht] at hfind hput
   simp only at hfind hput
   refine goB (N:=56) Tryz.ntmps70 300 ?_
   simp only [go_sem,di,p1,hfind,← hput,List.length_map]
   repeat refine And.intro (by first | omega | kernel_rfl | rfl | (simp; done) | (simp; omega)) ?_
   rw [show (i:Int) + 1 = ((i + 1:Nat):Int) by omega]
   refine ainv hfin (Shift.low 1 (by simp) (by simp) ?_ ?_)
   ·simp only [List.take_succ_cons,List.take_zero,List.all_cons,List.all_nil,low_lkM,Bool.and_self]
   ·simp only [wkl,lowV,lowC,Av.get,go_sem]
  | some q =>
   rw [ht] at hfind hput
   simp only at hfind hput
   refine goB (N:=56) Tryz.ntmps70 300 ?_
   simp only [go_sem,di,p1,hfind,← hput,List.length_map]
   repeat refine And.intro (by first | omega | kernel_rfl | rfl | (simp; done) | (simp; omega)) ?_
   rw [show (i:Int) + 1 = ((i + 1:Nat):Int) by omega]
   refine ainv hfin (Shift.low 1 (by simp) (by simp) ?_ ?_)
   ·simp only [List.take_succ_cons,List.take_zero,List.all_cons,List.all_nil,low_lkM,Bool.and_self]
   ·simp only [wkl,lowV,lowC,Av.get,go_sem]
 have di:decide ((i:Int) < (a.length:Int)) = false:=by simp; omega
 rw [List.take_of_length_le (by omega)]
 clear hJ
 refine goB (N:=56) Tryz.ntmps70 300 ?_
 simp only [go_sem,di,List.length_map]
 refine aloop (ι:=Nat) (fun i=>b.length - i) (fun i=>[(31,.int .i64 i),(30,.int .i64 b.length),(29,.fz 4 (b.map lookA)),(8,.int .i64 (changedN a (b.take i))),(5,.mp 0)]) (fun i=>[.mp (lkM (hadL a))]) (fun i=>i ≤ b.length) 0 (by simp) ?_ ?_
 ·refine Shift.weakS ?_ rfl
  simp only [wk,go_sem]
  rfl
 intro i g1 J hJ
 have hcl:changedN a (b.take i) ≤ 12:=by
  unfold changedN
  have:=List.length_filter_le (chgB a) (b.take i)
  simp at this ⊢
  omega
 by_cases gi:i < b.length
 ·have di:decide ((i:Int) < (b.length:Int)) = true:=by simp; omega
  have p1:=lookA_get b i gi
  have hst:changedN a (b.take (i + 1)) = changedN a (b.take i) + (if chgB a b[i] then 1 else 0):=by
   unfold changedN
   rw [List.take_succ_eq_append_getElem gi,List.filter_append,List.length_append]
   congr 1
   cases h:chgB a b[i] <;> simp [h]
  have hfin:=hJ (i + 1) (by omega) (by omega)
  rw [hst] at hfin
  clear hst
  have hcb:∀ y,chgB a y = (match tval (lkey y) (hadL a) with | some v=>v != y.value | none=>false):=fun y=>rfl
  generalize changedN a (b.take i) = n at *
  generalize b[i] = y at *
  have hcb:=hcb y
  generalize hadL a = es at *
  have hfind:=lkM_find (lkey y) es 0
  simp only [lkA,lkey,Nat.zero_add] at hfind hfin hcb
  cases ht:tix (y.el,y.facet) es with
  | none =>
   rw [tval_none ht] at hcb
   simp only at hcb
   rw [hcb] at hfin
   simp only [Bool.false_eq_true,if_false,Nat.add_zero] at hfin
   rw [ht] at hfind
   simp only at hfind
   refine goB (N:=56) Tryz.ntmps70 300 ?_
   simp only [go_sem,di,p1,hfind,List.length_map]
   repeat refine And.intro (by first | omega | kernel_rfl | rfl | (simp; done) | (simp; omega)) ?_
   rw [show (i:Int) + 1 = ((i + 1:Nat):Int) by omega]
   refine ainv hfin (Shift.low 1 (by simp) (by simp) ?_ ?_)
   ·simp only [List.take_succ_cons,List.take_zero,List.all_cons,List.all_nil,low_lkM,Bool.and_self]
   ·simp only [wkl,lowV,lowC,Av.get,go_sem]
  | some q =>
   obtain ⟨v,hv1,hv2⟩:=tix_some ht
   rw [hv2] at hcb hfind
   rw [ht] at hfind
   simp only [Option.getD_some] at hcb hfind
   rw [hcb] at hfin
   cases hd:v != y.value with
   | false =>
    rw [hd] at hfin
    simp only [Bool.false_eq_true,if_false,Nat.add_zero] at hfin
    refine goB (N:=56) Tryz.ntmps70 300 ?_
    simp only [go_sem,di,p1,hfind,hd,List.length_map]
    repeat refine And.intro (by first | omega | kernel_rfl | rfl | (simp; done) | (simp; omega)) ?_
    rw [show (i:Int) + 1 = ((i + 1:Nat):Int) by omega]
    refine ainv hfin (Shift.low 1 (by simp) (by simp) ?_ ?_)
    ·simp only [List.take_succ_cons,List.take_zero,List.all_cons,List.all_nil,low_lkM,Bool.and_self]
    ·simp only [wkl,lowV,lowC,Av.get,go_sem]
   | true =>
    rw [hd] at hfin
    simp only [if_true] at hfin
    refine goB (N:=56) Tryz.ntmps70 300 ?_
    simp only [go_sem,di,p1,hfind,hd,List.length_map]
    repeat refine And.intro (by first | omega | kernel_rfl | rfl | (simp; done) | (simp; omega)) ?_
    rw [show (i:Int) + 1 = ((i + 1:Nat):Int) by omega,show (n:Int) + 1 = ((n + 1:Nat):Int) by omega]
    refine ainv hfin (Shift.low 1 (by simp) (by simp) ?_ ?_)
    ·simp only [List.take_succ_cons,List.take_zero,List.all_cons,List.all_nil,low_lkM,Bool.and_self]
    ·simp only [wkl,lowV,lowC,Av.get,go_sem]
 have di:decide ((i:Int) < (b.length:Int)) = false:=by simp; omega
 rw [List.take_of_length_le (by omega)]
 refine goB (N:=56) Tryz.ntmps70 300 ?_
 simp only [go_sem,di]
 exact aret [4] rfl ⟨rfl,rfl⟩
def gmM (g:Nat → AV) (I:List Nat):List (AV × AV):=I.map fun (i:Nat)=>(AV.int .i64 (i:Int),g i)
theorem gm_none (g:Nat → AV) (k:Nat):∀ (I:List Nat) (n:Nat),k ∉ I → mfind (.int .i64) (.int .i64 (k:Int)) (gmM g I) n = some none
 | [],n,_=>rfl
 | a :: r,n,h=>by
  have h1:(((k:Nat):Int) == (a:Int)) = false:=by
   have:k ≠ a:=fun e=>h (by simp [e])
   simp; omega
  have e:mfind (.int .i64) (.int .i64 (k:Int)) (gmM g (a :: r)) n = mfind (.int .i64) (.int .i64 (k:Int)) (gmM g r) (n + 1):=by
   show (match keyEq (.int .i64) (.int .i64 (k:Int)) (.int .i64 (a:Int)) with | some true=>some (some (n,g a)) | some false=>mfind (.int .i64) (.int .i64 (k:Int)) (gmM g r) (n + 1) | none=>none) = _
   simp only [keyEq,h1]
   rfl
  rw [e]
  exact gm_none g k r (n + 1) fun hk=>h (by simp [hk])
theorem gm_some (g:Nat → AV) (k:Nat):∀ (I:List Nat) (n:Nat),k ∈ I → ∃ q,I[q]? = some k ∧ mfind (.int .i64) (.int .i64 (k:Int)) (gmM g I) n = some (some (n + q,g k))
 | [],n,h=>by cases h
 | a :: r,n,h=>by
  by_cases hk:k = a
  ·subst hk
   exact ⟨0,rfl,by simp [gmM,mfind,keyEq]⟩
  ·have h1:(((k:Nat):Int) == (a:Int)) = false:=by simp; omega
   have e:mfind (.int .i64) (.int .i64 (k:Int)) (gmM g (a :: r)) n = mfind (.int .i64) (.int .i64 (k:Int)) (gmM g r) (n + 1):=by
    show (match keyEq (.int .i64) (.int .i64 (k:Int)) (.int .i64 (a:Int)) with | some true=>some (some (n,g a)) | some false=>mfind (.int .i64) (.int .i64 (k:Int)) (gmM g r) (n + 1) | none=>none) = _
    simp only [keyEq,h1]
    rfl
   obtain ⟨q,h2,h3⟩:=gm_some g k r (n + 1) (by
    rcases List.mem_cons.1 h with h | h
    ·exact absurd h hk
    ·exact h)
   exact ⟨q + 1,by simpa using h2,by rw [e,h3,show n + 1 + q = n + (q + 1) by omega]⟩
theorem gm_set (g:Nat → AV) (I:List Nat) (q k:Nat) (h:I[q]? = some k):(gmM g I).set q (.int .i64 (k:Int),g k) = gmM g I:=by
 unfold gmM
 apply List.ext_getElem?
 intro j
 rw [List.getElem?_set]
 split
 ·rename_i e
  subst e
  split
  ·rw [List.getElem?_map,h]; rfl
  ·rename_i hl
   rw [List.getElem?_eq_none (by omega)]
 ·rfl
theorem gm_push (g:Nat → AV) (I:List Nat) (k:Nat):gmM g I ++ [(.int .i64 (k:Int),g k)] = gmM g (I ++ [k]):=by simp [gmM]
theorem low_gm {g:Nat → AV} (n:Nat) (hg:∀ k,lowV n (g k) = true) (I:List Nat):lowB n (.mp (gmM g I)) = true:=by
 show (gmM g I).all _ = true
 rw [gmM,List.all_map,List.all_eq_true]
 exact fun k _=>hg k
def trueG:Nat → AV:=fun _=>.bool true
def lookG (f:Nat → List Lk):Nat → AV:=fun k=>.fz 4 ((f k).map lookA)
theorem gm_frz (f:Nat → List Lk) (id:Nat) (L:List AV) (I:List Nat):(gmM (lookG f) I).map (fun x=>(x.1,frz id 4 L x.2)) = gmM (lookG f) I:=by
 unfold gmM
 rw [List.map_map]
 rfl
theorem lvs_le:∀ es:List (AV × AV),(lvs es).length ≤ es.length
 | []=>Nat.le_refl _
 | x :: r=>by
  have:=lvs_le r
  rw [lvs]
  cases liveK x.1 <;> simp <;> omega
theorem lkM_frz (id:Nat) (L:List AV) (es:LMap):(lkM es).map (fun x=>(x.1,frz id 4 L x.2)) = lkM es:=by
 unfold lkM
 rw [List.map_map]
 apply List.map_congr_left
 intro x _
 cases x <;> rfl
set_option maxHeartbeats 4000000 in
theorem changes1_ct (f:Nat → List Lk) (b0 b1 b2 b3 B:Blk) (hlow:∀ b ∈ [b0,b1,b2,b3,B],lowB 11 b = true) (W I:List Nat) (i:Nat) (hi:i ∉ I) (es:LMap) (hu:Tuniq es) (hl:es.length ≤ 12) (hf:f i = sortedLk es) :
  Ct Tryz.prog 69 [.int .i64 i,.mp 10,.ptr 5 1 0 0,.ptr 7 1 0 0,.ptr 8 1 0 0] [b0,b1,b2,b3,.mp (gmM trueG W),.arr 1 [.mp 4],.mp (gmM (lookG f) I),.arr 1 [.mp 6],.arr 1 [.bool false],B,.mp (lkM es)]
   (fun r s=>r = .bool true ∧ s = [b0,b1,b2,b3,.mp (gmM trueG W),.arr 1 [.mp 4],.mp (gmM (lookG f) (if i ∈ W then I ++ [i] else I)),.arr 1 [.mp 6],.arr 1 [.bool false],B,.mp (lkM es)]):=by
 simp only [List.mem_cons,List.not_mem_nil,or_false,forall_eq_or_imp,forall_eq] at hlow
 obtain ⟨l0,l1,l2,l3,l4⟩:=hlow
 have lw:lowB 11 (.mp (gmM trueG W)) = true:=low_gm 11 (fun _=>rfl) W
 have li:∀ I,lowB 11 (.mp (gmM (lookG f) I)) = true:=fun I=>low_gm 11 (fun _=>rfl) I
 have hs:=sorted_ct es hu hl [b0,b1,b2,b3,.mp (gmM trueG W),.arr 1 [.mp 4],.mp (gmM (lookG f) I),.arr 1 [.mp 6],.arr 1 [.bool false],B,.mp (lkM es)] 10 rfl (by
  simp only [List.all_cons,List.all_nil,List.length_cons,List.length_nil,Nat.zero_add,Nat.reduceAdd,l0,l1,l2,l3,l4,lw,li,low_lkM,Bool.and_true,Bool.true_and]
  rfl)
 by_cases hW:i ∈ W
 ·obtain ⟨q,hq1,hq2⟩:=gm_some trueG i W 0 hW
  rw [Nat.zero_add] at hq2
  have hm:=gm_none (lookG f) i I 0 hi
  have hlv:decide (((lvs (lkM es)).length:Int) > 400) = false:=by
   have:=lvs_le (lkM es)
   have:(lkM es).length = es.length:=by simp [lkM]
   simp; omega
  simp only [trueG] at hq2
  rw [if_pos hW]
  refine ct_intro Tryz.func69 rfl Tryz.ntmps69 hB69 (by simp) fun h ρ w=>goB (N:=21) Tryz.ntmps69 300 ?_
  simp only [go_sem,hq2]
  repeat refine And.intro (by first | omega | kernel_rfl | rfl | (simp; done) | (simp; omega)) ?_
  refine adrawC [3] 100 [] mixed (by decide) (N:=21) Tryz.ntmps69 (by decide) 100 ?_
  simp only [go_sem,Go.Av.dxn,Go.Av.dxnc,↓Go.Av.dbrn_true,↓Go.Av.dbrn_false,Go.Av.dbrn]
  refine icc hs ⟨_,_,sortedLk es,[],sortedLk_ok hu,rfl,rfl⟩ ?_
  rintro _ _ ⟨l,seen,hlo,rfl,rfl⟩
  have hle:=looksOf_eq hu hlo
  rw [← hf] at hle
  subst hle
  refine ⟨Agr.push' (by simp) _,?_⟩
  simp only [go_sem,Go.Av.dxn,Go.Av.dxnc,↓Go.Av.dbrn_true,↓Go.Av.dbrn_false,Go.Av.dbrn,hm]
  repeat refine And.intro (by first | omega | kernel_rfl | rfl | exact .inl rfl | exact .inl trivial | (simp; done) | (simp; omega)) ?_
  refine goB (N:=21) Tryz.ntmps69 300 ?_
  simp only [go_sem,hlv]
  repeat refine And.intro (by first | omega | kernel_rfl | rfl | exact .inl rfl | exact .inl trivial | (simp; done) | (simp; omega)) ?_
  have z0:=frzB_low (id:=12) (e:=4) (l:=(f i).map lookA) (Nat.le_succ 11) l0
  have z1:=frzB_low (id:=12) (e:=4) (l:=(f i).map lookA) (Nat.le_succ 11) l1
  have z2:=frzB_low (id:=12) (e:=4) (l:=(f i).map lookA) (Nat.le_succ 11) l2
  have z3:=frzB_low (id:=12) (e:=4) (l:=(f i).map lookA) (Nat.le_succ 11) l3
  have z4:=frzB_low (id:=12) (e:=4) (l:=(f i).map lookA) (Nat.le_succ 11) l4
  have z5:=frzB_low (id:=12) (e:=4) (l:=(f i).map lookA) (Nat.le_succ 11) lw
  refine ARet.shift (Shift.trans (Shift.frz 12 (l:=(f i).map lookA) rfl (lookA_frz _)) (Shift.trans (Shift.weakS (e':=[(7,.bool true)]) (s':=[b0,b1,b2,b3,.mp (gmM trueG W),.arr 1 [.mp 4],.mp (gmM (lookG f) (I ++ [i])),.arr 1 [.mp 6],.arr 1 [.bool false],B,.mp (lkM es),.it 10 es.length seen,.dead]) ⟨rfl,trivial⟩ ?_) (Shift.trans (Shift.low 11 (by simp) (by simp) (e':=[(7,.bool true)]) ?_ ?_) (Shift.weakS (e':=[(7,.bool true)]) (s':=[b0,b1,b2,b3,.mp (gmM trueG W),.arr 1 [.mp 4],.mp (gmM (lookG f) (I ++ [i])),.arr 1 [.mp 6],.arr 1 [.bool false],B,.mp (lkM es)]) ⟨rfl,trivial⟩ rfl)))) (aret [7] rfl ⟨rfl,rfl⟩)
  ·simp only [List.cons_append,List.nil_append,List.set_cons_succ,List.set_cons_zero,List.map_cons,List.map_nil,z0,z1,z2,z3,z4,z5]
   simp only [frzB,List.map_append,gm_frz,lkM_frz,← gm_push]
   simp only [List.map_cons,List.map_nil,frz,frz1,frzC,beq_self_eq_true,List.length_map,Nat.zero_add,decide_true,Nat.le_refl,Bool.and_self,cond_true,List.drop_zero,lookG]
   rw [List.take_of_length_le (by simp)]
  ·simp only [List.take_succ_cons,List.take_zero,List.all_cons,List.all_nil,l0,l1,l2,l3,l4,lw,li,low_lkM,Bool.and_true,Bool.true_and]
   rfl
  ·exact ⟨⟨rfl,rfl⟩,trivial⟩
 ·have hq:=gm_none trueG i W 0 hW
  rw [if_neg hW]
  refine ct_intro Tryz.func69 rfl Tryz.ntmps69 hB69 (by simp) fun h ρ w=>goB (N:=21) Tryz.ntmps69 300 ?_
  simp only [go_sem,hq]
  repeat refine And.intro (by first | omega | kernel_rfl | rfl | (simp; done) | (simp; omega)) ?_
  exact aret [7] rfl ⟨rfl,rfl⟩
end Go.Proofs.YtnfkjpihaficbaaGreatDoor
