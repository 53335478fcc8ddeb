/- continuity.each, over whatever is done at each scene. Own work of this seat. -/
import Derived.Test.YtnfkjpihaficbaaGreatDoorG41
set_option maxRecDepth 100000
set_option linter.unusedSimpArgs false
set_option linter.unusedVariables false
namespace Go.Proofs.YtnfkjpihaficbaaGreatDoor
open Go Go.Av Go.RowKit
theorem gfF_find (k:Nat):∀ (gs:List Gf) (n:Nat),(mfind (.int .i64) (.int .i64 (k:Int)) (gfF gs) n=some none∧∀ g ∈ gs,g.key ≠ k)∨∃ i g,mfind (.int .i64) (.int .i64 (k:Int)) (gfF gs) n=some (some (n+i,.fz 5 (g.ds.map faA)))∧gs[i]? = some g∧g.key=k
 | [],n=>.inl ⟨rfl,by simp⟩
 | g :: r,n=>by
  by_cases hk:g.key=k
  ·refine .inr ⟨0,g,?_,by simp,hk⟩
   subst hk
   simp [gfF,mfind,keyEq]
  ·have h1:(((k:Nat):Int) == (g.key:Int))=false:=by simp; omega
   have e:mfind (.int .i64) (.int .i64 (k:Int)) (gfF (g :: r)) n=mfind (.int .i64) (.int .i64 (k:Int)) (gfF r) (n+1):=by
    show (match keyEq (.int .i64) (.int .i64 (k:Int)) (.int .i64 (g.key:Int)) with | some true=>some (some (n,AV.fz 5 (g.ds.map faA))) | some false=>mfind (.int .i64) (.int .i64 (k:Int)) (gfF r) (n+1) | none=>none)=_
    simp only [keyEq,h1]
    rfl
   rw [e]
   rcases gfF_find k r (n+1) with ⟨h,h2⟩ | ⟨i,g',h1,h2,h3⟩
   ·exact .inl ⟨h,fun y hy=>by
     rcases List.mem_cons.1 hy with rfl | hy
     ·exact hk
     ·exact h2 y hy⟩
   ·exact .inr ⟨i+1,g',by rw [h1,show n+1+i=n+(i+1) by omega],by simpa using h2,h3⟩
def factsAt (kf:Fa→Nat) (fs:List Fa) (i:Nat):List Fa:=fs.filter fun f=>kf f == i
def esAt (kf:Fa→Nat) (fs:List Fa) (ord:List Nat) (j:Nat):LMap:=lrun ((ord.take j).flatMap (factsAt kf fs))
theorem gfF_at {kf:Fa→Nat} {fs:List Fa} {gs:List Gf} {T:List Blk} (h:GfOk kf fs gs T) (k:Nat) :
  (mfind (.int .i64) (.int .i64 (k:Int)) (gfF gs) 0=some none∧factsAt kf fs k=[])∨∃ i,mfind (.int .i64) (.int .i64 (k:Int)) (gfF gs) 0=some (some (i,.fz 5 ((factsAt kf fs k).map faA))):=by
 rcases gfF_find k gs 0 with ⟨h1,h2⟩ | ⟨i,g,h1,h2,h3⟩
 ·refine .inl ⟨h1,?_⟩
  unfold factsAt
  rw [List.filter_eq_nil_iff]
  intro f hf
  obtain ⟨g,hg,e⟩:=h.all f hf
  have:=h2 g hg
  simp only [beq_iff_eq]
  omega
 ·refine .inr ⟨0+i,?_⟩
  rw [h1,h.own g (List.mem_of_getElem? h2),h3]
  rfl
def B0 (ord:List Nat) (a b:Nat):Blk:=.arr 3 [.agg [.fz 1 (ord.map inA),.mp a,.mp b]]
theorem tix_put {κ ν:Type} [DecidableEq κ] (es:List (Option (κ × ν))) (k:κ) (v:ν):∃ i,tix k (tput es k v)=some i:=by
 cases h:tix k (tput es k v) with
 | some i=>exact ⟨i,rfl⟩
 | none =>
  exfalso
  rw [tix_none] at h
  unfold tput at h
  cases hq:tix k es with
  | none=>rw [hq] at h; exact h (k,v) (by simp) rfl
  | some i =>
   rw [hq] at h
   obtain ⟨v0,h1,_⟩:=tix_some hq
   have hi:=(List.getElem?_eq_some_iff.1 h1).1
   exact h (k,v) (List.mem_of_getElem? (i:=i) (by rw [List.getElem?_set_self hi])) rfl
theorem esAt_succ (kf:Fa→Nat) (fs:List Fa) (ord:List Nat) (j:Nat) (h:j < ord.length):esAt kf fs ord (j+1)=lrun ((ord.take j).flatMap (factsAt kf fs)++factsAt kf fs ord[j]):=by
 unfold esAt
 rw [List.take_succ_eq_append_getElem h,List.flatMap_append]
 simp
theorem factsAt_len (kf:Fa→Nat) (fs:List Fa) (i:Nat):(factsAt kf fs i).length ≤ fs.length:=List.length_filter_le _ _
set_option maxHeartbeats 8000000 in
theorem each_cth {S:Std} (kf:Fa→Nat) (fs:List Fa) (hfs:fs.length ≤ 8) (ord:List Nat) (hord:ord.length ≤ 5) (gs:List Gf) (TG:List Blk) (hG:GfOk kf fs gs TG) (a b m:Nat) (ha:a < m) (hb:b < m) (f:FuncId) (caps:List AV) (hcaps:caps.all (lowC m)=true)
  (Φ:Nat→List Blk→List Blk→Prop) (Ψ:List Blk→List Blk→Prop)
  (hΦ:∀ j T R,Φ j T R→T.length=m∧T[b]? = some (.mp (gfF gs))∧T.all (lowB m)=true∧R.all (lowB (m+2+R.length))=true)
  (hcall:∀ j (hj:j < ord.length) T R,Φ j T R→CtH Tryz.prog S f ([.int .i64 (ord[j]:Nat),.mp (m+1)]++caps) (T++(B0 ord a b :: .mp (lkM (esAt kf fs ord (j+1))) :: R)) (fun r s=>∃ T' R',s=T'++(B0 ord a b :: .mp (lkM (esAt kf fs ord (j+1))) :: R')∧((r=.bool true∧Φ (j+1) T' R')∨(r=.bool false∧Ψ T' R'))))
  (T0:List Blk) (h0:Φ 0 T0 []) :
  CtH Tryz.prog S 65 [.agg [.fz 1 (ord.map inA),.mp a,.mp b],.fn (.func f) caps] T0 (fun r s=>r=.tup []∧∃ T R es,s=T++(B0 ord a b :: .mp es :: R)∧(Φ ord.length T R∨Ψ T R)):=by
 obtain ⟨i1,i2,i3,i4⟩:=hΦ 0 T0 [] h0
 subst i1
 simp only [B0,List.cons_append,List.nil_append] at hcall ⊢
 refine cth_intro Tryz.func65 rfl Tryz.ntmps65 hB65 (by simp) fun h ρ w hg=>goF (N:=48) Tryz.ntmps65 300 ?_
 simp only [go_sem,gt_at0,gt_at,List.append_assoc,List.cons_append,List.nil_append,List.length_map,List.length_append]
 refine aloop (ι:=Nat × List Blk × List Blk) (fun y=>ord.length - y.1)
  (fun y=>[(14,.int .i64 y.1),(13,.int .i64 ord.length),(12,.fz 1 (ord.map inA)),(4,.mp (T0.length+1)),(2,.ptr T0.length 1 0 0),(1,.fn (.func f) caps)])
  (fun y=>y.2.1++(.arr 3 [.agg [.fz 1 (ord.map inA),.mp a,.mp b]] :: .mp (lkM (esAt kf fs ord y.1)) :: y.2.2)) (fun y=>y.1 ≤ ord.length∧Φ y.1 y.2.1 y.2.2) (0,T0,[]) ⟨by simp,h0⟩ ?_ ?_
 ·refine Shift.weakS ?_ rfl
  simp only [wk,go_sem]
 rintro ⟨j,T,R⟩ ⟨g1,g2⟩ J hJ
 simp only at g1 g2 hJ ⊢
 obtain ⟨t1,t2,t3,t4⟩:=hΦ j T R g2
 by_cases gj:j < ord.length
 ·have dj:decide ((j:Int) < (ord.length:Int))=true:=by simp; omega
  have p1:=inA_get ord j gj
  have hc:=hcall j gj T R g2
  have hsucc:=esAt_succ kf fs ord j gj
  have hl8:=factsAt_len kf fs ord[j]
  have hg0:∀ U:List Blk,(T++U).getD T0.length .dead=U.getD 0 .dead:=fun U=>by rw [← t1]; exact gt_at0
  have hg1:∀ (U:List Blk) (c:Nat),(T++U).getD (T0.length+c) .dead=U.getD c .dead:=fun U c=>by rw [← t1]; exact gt_at
  have hs1:∀ (U:List Blk) (c:Nat) (x:Blk),(T++U).set (T0.length+c) x=T++U.set c x:=fun U c x=>by rw [← t1]; exact st_at
  have hgb:∀ U:List Blk,(T++U).getD b .dead=.mp (gfF gs):=gt_old t2
  have hpre:lrun ((ord.take j).flatMap (factsAt kf fs))=esAt kf fs ord j:=rfl
  generalize ord[j]=i at *
  generalize (ord.take j).flatMap (factsAt kf fs)=pre at *
  have hnext:∀ T' R',Φ (j+1) T' R'→∀ a_1 w_1,_:=fun T' R' h=>hJ (j+1,T',R') ⟨by simp only; omega,h⟩ (by simp only; omega)
  rcases gfF_at hG i with ⟨m1,m2⟩ | ⟨q,m1⟩
  case' inl =>
   refine goF (N:=48) Tryz.ntmps65 300 ?_
   simp only [go_sem,dj,p1,hg0,hg1,hs1,hgb,m1,List.length_map,List.append_assoc,List.cons_append,List.nil_append]
   repeat refine And.intro (by first | omega | rfl | (simp; done) | (simp; omega)) ?_
   refine AWp.shift (Shift.trans (Shift.nilfz 21 5 rfl) (Shift.weakS (e':=[(23,.int .i64 0),(22,.int .i64 (factsAt kf fs i).length),(21,.fz 5 ((factsAt kf fs i).map faA)),(6,.int .i64 i),(14,.int .i64 j),(13,.int .i64 ord.length),(12,.fz 1 (ord.map inA)),(4,.mp (T0.length+1)),(2,.ptr T0.length 1 0 0),(1,.fn (.func f) caps)]) ?_ rfl)) ?_
   ·rw [m2]
    simp only [wk,go_sem,List.map_nil,List.length_nil]
  case' inr =>
   refine goF (N:=48) Tryz.ntmps65 300 ?_
   simp only [go_sem,dj,p1,hg0,hg1,hs1,hgb,m1,List.length_map,List.append_assoc,List.cons_append,List.nil_append]
   repeat refine And.intro (by first | omega | rfl | (simp; done) | (simp; omega)) ?_
   refine AWp.shift (Shift.weakS (e':=[(23,.int .i64 0),(22,.int .i64 (factsAt kf fs i).length),(21,.fz 5 ((factsAt kf fs i).map faA)),(6,.int .i64 i),(14,.int .i64 j),(13,.int .i64 ord.length),(12,.fz 1 (ord.map inA)),(4,.mp (T0.length+1)),(2,.ptr T0.length 1 0 0),(1,.fn (.func f) caps)]) ?_ rfl) ?_
   ·simp only [wk,go_sem]
  all_goals
   clear m1
   clear hG
   generalize factsAt kf fs i=l at *
   refine aloop (ι:=Nat) (fun k=>l.length - k) (fun k=>[(23,.int .i64 k),(22,.int .i64 (l).length),(21,.fz 5 ((l).map faA)),(6,.int .i64 i),(14,.int .i64 j),(13,.int .i64 ord.length),(12,.fz 1 (ord.map inA)),(4,.mp (T0.length+1)),(2,.ptr T0.length 1 0 0),(1,.fn (.func f) caps)])
    (fun k=>T++(.arr 3 [.agg [.fz 1 (ord.map inA),.mp a,.mp b]] :: .mp (lkM (lrun (pre++l.take k))) :: R)) (fun k=>k ≤ l.length) 0 (by simp) ?_ ?_
   ·refine Shift.weakS ?_ (by rw [List.take_zero,List.append_nil,hpre])
    simp only [wk,go_sem]
   rintro k k1 K hK
   by_cases gk:k < l.length
   ·have dk:decide ((k:Int) < (l.length:Int))=true:=by simp; omega
    have p2:=faA_get l k gk
    have hst:lrun (pre++l.take (k+1))=lstep (lrun (pre++l.take k)) l[k]:=by rw [List.take_succ_eq_append_getElem gk,← List.append_assoc,lrun_snoc]
    have hfin:=hK (k+1) (by omega) (by omega)
    rw [hst] at hfin
    have hu:=lrun_uniq (pre++l.take k)
    clear hst
    generalize lrun (pre++l.take k)=es at *
    generalize l[k]=f0 at *
    have hfind:=lkM_find (f0.el,f0.facet) es 0
    have hput:=lkM_put es (f0.el,f0.facet) f0.value
    have hfind2:=lkM_find (f0.el,f0.facet) (tput es (f0.el,f0.facet) f0.value) 0
    have hdel:=lkM_del (tput es (f0.el,f0.facet) f0.value) (f0.el,f0.facet)
    obtain ⟨i2,ht2⟩:=tix_put es (f0.el,f0.facet) f0.value
    rw [ht2] at hfind2 hdel
    simp only [lkA,Nat.zero_add] at hfind hput hfind2 hdel
    have hlow:(Blk.arr 3 [.agg [.fz 1 (ord.map inA),.mp a,.mp b]] :: .mp (lkM (lstep es f0)) :: R).all (lowB (T.length+(Blk.arr 3 [.agg [.fz 1 (ord.map inA),.mp a,.mp b]] :: .mp (lkM (lstep es f0)) :: R).length))=true:=by
     rw [List.all_cons,List.all_cons,low_lkM,Bool.true_and,Bool.and_eq_true]
     refine ⟨?_,?_⟩
     ·simp only [lowB,flat,cellsOf,lowC,Av.frozen,List.append_nil,List.all_cons,List.all_nil,Bool.and_true,Bool.true_and,Bool.and_eq_true,decide_eq_true_eq,List.length_cons]
      exact ⟨by omega,by omega⟩
     ·rw [t1]
      rw [List.all_eq_true] at t4 ⊢
      exact fun x hx=>low_mono (by simp only [List.length_cons]; omega) (t4 x hx)
    cases hv:f0.value == [] with
    | false =>
     have hls:lstep es f0=tput es (f0.el,f0.facet) f0.value:=by
      unfold lstep
      rw [if_neg (by simpa using hv)]
      rfl
     rw [hls] at hfin hlow
     cases ht:tix (f0.el,f0.facet) es with
     | none =>
      rw [ht] at hfind hput
      simp only at hfind hput
      refine goF (N:=48) Tryz.ntmps65 300 ?_
      simp only [go_sem,dk,p2,hv,hg0,hg1,hs1,hfind,gt_at0,gt_at,st_at,st_at0,t1,List.length_map,List.append_assoc,List.cons_append,List.nil_append,List.length_append,← hput]
      repeat refine And.intro (by first | omega | kernel_rfl | rfl | (simp; done) | (simp; omega)) ?_
      rw [show (k:Int)+1=((k+1:Nat):Int) by omega]
      refine ainv hfin ?_
      refine shift_lowE T (_ :: _ :: R) [_,_] rfl (Nat.le_of_eq t1.symm) (by rw [t1]; exact t3) hlow ?_
      simp only [wkl,lowV,lowC,Av.get,go_sem]
      exact ⟨by omega,by omega,lowCs_mono (by omega) hcaps⟩
     | some i1 =>
      rw [ht] at hfind hput
      simp only at hfind hput
      refine goF (N:=48) Tryz.ntmps65 300 ?_
      simp only [go_sem,dk,p2,hv,hg0,hg1,hs1,hfind,gt_at0,gt_at,st_at,st_at0,t1,List.length_map,List.append_assoc,List.cons_append,List.nil_append,List.length_append,← hput]
      repeat refine And.intro (by first | omega | kernel_rfl | rfl | (simp; done) | (simp; omega)) ?_
      rw [show (k:Int)+1=((k+1:Nat):Int) by omega]
      refine ainv hfin ?_
      refine shift_lowE T (_ :: _ :: R) [_,_] rfl (Nat.le_of_eq t1.symm) (by rw [t1]; exact t3) hlow ?_
      simp only [wkl,lowV,lowC,Av.get,go_sem]
      exact ⟨by omega,by omega,lowCs_mono (by omega) hcaps⟩
    | true =>
     have hls:lstep es f0=tdel (tput es (f0.el,f0.facet) f0.value) (f0.el,f0.facet):=by
      unfold lstep
      rw [if_pos (by simpa using hv)]
      rfl
     rw [hls] at hfin hlow
     cases ht:tix (f0.el,f0.facet) es with
     | none =>
      rw [ht] at hfind hput
      simp only at hfind hput
      refine goF (N:=48) Tryz.ntmps65 300 ?_
      simp only [go_sem,dk,p2,hv,hg0,hg1,hs1,hfind,gt_at0,gt_at,st_at,st_at0,t1,List.length_map,List.append_assoc,List.cons_append,List.nil_append,List.length_append,← hput,hfind2,← hdel]
      repeat refine And.intro (by first | omega | kernel_rfl | rfl | (simp; done) | (simp; omega)) ?_
      rw [show (k:Int)+1=((k+1:Nat):Int) by omega]
      refine ainv hfin ?_
      refine shift_lowE T (_ :: _ :: R) [_,_] rfl (Nat.le_of_eq t1.symm) (by rw [t1]; exact t3) hlow ?_
      simp only [wkl,lowV,lowC,Av.get,go_sem]
      exact ⟨by omega,by omega,lowCs_mono (by omega) hcaps⟩
     | some i1 =>
      rw [ht] at hfind hput
      simp only at hfind hput
      refine goF (N:=48) Tryz.ntmps65 300 ?_
      simp only [go_sem,dk,p2,hv,hg0,hg1,hs1,hfind,gt_at0,gt_at,st_at,st_at0,t1,List.length_map,List.append_assoc,List.cons_append,List.nil_append,List.length_append,← hput,hfind2,← hdel]
      repeat refine And.intro (by first | omega | kernel_rfl | rfl | (simp; done) | (simp; omega)) ?_
      rw [show (k:Int)+1=((k+1:Nat):Int) by omega]
      refine ainv hfin ?_
      refine shift_lowE T (_ :: _ :: R) [_,_] rfl (Nat.le_of_eq t1.symm) (by rw [t1]; exact t3) hlow ?_
      simp only [wkl,lowV,lowC,Av.get,go_sem]
      exact ⟨by omega,by omega,lowCs_mono (by omega) hcaps⟩
   ·have dk:decide ((k:Int) < (l.length:Int))=false:=by simp; omega
    rw [List.take_of_length_le (by omega),← hsucc]
    clear hK
    refine goF (N:=48) Tryz.ntmps65 300 ?_
    simp only [go_sem,dk]
    refine acallH hg (hc) (N:=48) Tryz.ntmps65 rfl ?_
    rintro _ _ ⟨T',R',rfl,(⟨rfl,h1⟩ | ⟨rfl,h1⟩)⟩
    ·have hfin:=hJ (j+1,T',R') ⟨by simp only; omega,h1⟩ (by simp only; omega)
     refine goF (N:=48) Tryz.ntmps65 300 ?_
     simp only [go_sem]
     repeat refine And.intro (by first | omega | rfl | (simp; done) | (simp; omega)) ?_
     rw [show (j:Int)+1=((j+1:Nat):Int) by omega]
     refine ainv hfin (Shift.weakS ?_ rfl)
     simp only [wk,go_sem]
    ·refine goF (N:=48) Tryz.ntmps65 300 ?_
     simp only [go_sem]
     exact aret [] rfl ⟨rfl,T',R',_,rfl,.inr h1⟩
 ·have dj:decide ((j:Int) < (ord.length:Int))=false:=by simp; omega
  have hjl:j=ord.length:=by omega
  subst hjl
  refine goF (N:=48) Tryz.ntmps65 300 ?_
  simp only [go_sem,dj]
  exact aret [] rfl ⟨rfl,T,R,_,rfl,.inl g2⟩
theorem filter_split (p:Fa→Bool):∀ l:List Fa,(l.filter p).length+(l.filter fun x=>!p x).length=l.length
 | []=>rfl
 | a :: l=>by
  have ih:=filter_split p l
  cases h:p a <;> simp [h] <;> omega
theorem flatFacts_len (kf:Fa→Nat):∀ (ord:List Nat) (fs:List Fa),ord.Nodup→(ord.flatMap (factsAt kf fs)).length ≤ fs.length
 | [],fs,_=>by simp
 | i :: r,fs,hn=>by
  rw [List.nodup_cons] at hn
  have ih:=flatFacts_len kf r (fs.filter fun f=>!(kf f == i)) hn.2
  have e:r.flatMap (factsAt kf fs)=r.flatMap (factsAt kf (fs.filter fun f=>!(kf f == i))):=by
   have:∀ k ∈ r,factsAt kf fs k=factsAt kf (fs.filter fun f=>!(kf f == i)) k:=fun k hk=>by
    unfold factsAt
    rw [List.filter_filter]
    refine List.filter_congr fun f _=>?_
    by_cases h:kf f=k
    ·have hne:kf f ≠ i:=fun h2=>hn.1 (by rw [← h2,h]; exact hk)
     simp [h]
     intro h3
     exact hne (h.trans h3)
    ·have:(kf f == k)=false:=by simpa using h
     simp [this]
   clear ih hn
   induction r with
   | nil=>rfl
   | cons a r ih =>
    rw [List.flatMap_cons,List.flatMap_cons,this a (by simp),ih fun k hk=>this k (by simp [hk])]
  have h2:(factsAt kf fs i).length+(fs.filter fun f=>!(kf f == i)).length=fs.length:=by
   exact filter_split (fun f=>kf f == i) fs
  rw [List.flatMap_cons,List.length_append,e]
  omega
theorem esAt_len (kf:Fa→Nat) (fs:List Fa) (ord:List Nat) (hn:ord.Nodup) (j:Nat):(esAt kf fs ord j).length ≤ fs.length:=by
 refine Nat.le_trans (lrun_len _) ?_
 exact flatFacts_len kf _ fs (hn.sublist (List.take_sublist _ _))
theorem esAt_uniq (kf:Fa→Nat) (fs:List Fa) (ord:List Nat) (j:Nat):Tuniq (esAt kf fs ord j):=lrun_uniq _
set_option maxHeartbeats 2000000 in
theorem looks1_ct (b0 b1 b2 b3 B:Blk) (hlow:∀ b ∈ [b0,b1,b2,b3,B],lowB 8 b=true) (n i:Nat) (es:LMap) (hu:Tuniq es) (hl:es.length ≤ 12) :
  Ct Tryz.prog 66 [.int .i64 i,.mp 7,.ptr 4 1 0 0,.ptr 5 1 0 0] [b0,b1,b2,b3,.arr 1 [.int .i64 n],.arr 1 [.raw (.slice none 0 0)],B,.mp (lkM es)]
   (fun r s=>(i ≠ n∧r=.bool true∧s=[b0,b1,b2,b3,.arr 1 [.int .i64 n],.arr 1 [.raw (.slice none 0 0)],B,.mp (lkM es)]) ∨
    (i=n∧r=.bool false∧∃ l seen,LooksOf es l∧s=[b0,b1,b2,b3,.arr 1 [.int .i64 n],.arr 1 [.sl 9 0 l.length l.length],B,.mp (lkM es),.it 7 es.length seen,.arr 4 (l.map lookA)])):=by
 simp only [List.mem_cons,List.not_mem_nil,or_false,forall_eq_or_imp,forall_eq] at hlow
 obtain ⟨l0,l1,l2,l3,l4⟩:=hlow
 have hs:=sorted_ct es hu hl [b0,b1,b2,b3,.arr 1 [.int .i64 n],.arr 1 [.raw (.slice none 0 0)],B,.mp (lkM es)] 7 rfl (by
  simp only [List.all_cons,List.all_nil,List.length_cons,List.length_nil,Nat.zero_add,Nat.reduceAdd,l0,l1,l2,l3,l4,low_lkM,Bool.and_true,Bool.true_and]
  rfl)
 by_cases hin:i=n
 ·subst hin
  have d1:((i:Int) == (i:Int))=true:=by simp
  have d2:((i:Int) != (i:Int))=false:=by simp
  refine ct_intro Tryz.func66 rfl Tryz.ntmps66 hB66 (by simp) fun h ρ w=>goB (N:=15) Tryz.ntmps66 300 ?_
  simp only [go_sem,d1,d2]
  repeat refine And.intro (by first | omega | rfl | (simp; done) | (simp; omega)) ?_
  refine acall (hs) (N:=15) Tryz.ntmps66 rfl ?_
  rintro _ _ ⟨l,seen,h1,rfl,rfl⟩
  refine goB (N:=15) Tryz.ntmps66 300 ?_
  simp only [go_sem,d1,d2]
  repeat refine And.intro (by first | omega | rfl | exact .inl rfl | exact .inl trivial | (simp; done) | (simp; omega)) ?_
  exact aret [6] rfl (by first | exact .inr ⟨rfl,rfl,l,seen,h1,rfl⟩ | exact ⟨rfl,l,seen,h1,rfl⟩ | exact .inr ⟨rfl,l,seen,h1,rfl⟩)
 ·have d1:((i:Int) == (n:Int))=false:=by simp; omega
  have d2:((i:Int) != (n:Int))=true:=by simp; omega
  refine ct_intro Tryz.func66 rfl Tryz.ntmps66 hB66 (by simp) fun h ρ w=>goB (N:=15) Tryz.ntmps66 300 ?_
  simp only [go_sem,d1,d2]
  repeat refine And.intro (by first | omega | rfl | (simp; done) | (simp; omega)) ?_
  exact aret [6] rfl (.inl ⟨hin,rfl,rfl⟩)
theorem ren_looks (σ:List Nat):∀ l:List Lk,(l.map lookA).map (renC σ)=l.map lookA
 | []=>rfl
 | a :: l=>by
  rw [List.map_cons,List.map_cons,ren_looks σ l]
  rfl
def looksAt (x:Sr) (js:List Jm) (fs:List Fa) (n:Nat):LMap:=esAt (kfN x) fs (ordL x js) ((ordL x js).idxOf n+1)
set_option maxHeartbeats 4000000 in
theorem looks_cth {S:Std} (hS:LibOk S) (x:Sr) (hx:StoryOk x) (js:List Jm) (hj:JumpsOk x js) (fs:List Fa) (hf:FactsOk x fs) (n:Nat) (hn:n < x.scenes.length) :
  CtH Tryz.prog S 21 [srA x,.fz 4 (js.map jmA),.fz 5 (fs.map faA),.str x.scenes[n].no] [] (fun r s=>∃ l,LooksOf (looksAt x js fs n) l∧r=.tup [.sl 0 0 l.length l.length,.int .i64 0]∧s=[.arr 4 (l.map lookA)]):=by
 have hlen:=hx.len
 have hfl:=hf.len
 have hperm:=ordL_perm hx hj
 have hnd:(ordL x js).Nodup:=hperm.symm.nodup List.nodup_range
 have hol:(ordL x js).length=x.scenes.length:=by rw [hperm.length_eq,List.length_range]
 have hno:n ∈ ordL x js:=hperm.mem_iff.2 (List.mem_range.2 hn)
 have hm:=scM_at hx hn rfl
 have h1:=follow_cth hS x hx js hj fs hf
 simp only [srA] at h1 ⊢
 refine cth_intro Tryz.func21 rfl Tryz.ntmps21 hB21 (by simp) fun h ρ w hg=>goB (N:=38) Tryz.ntmps21 300 ?_
 simp only [go_sem]
 repeat refine And.intro (by first | omega | rfl | kernel_rfl | (simp; done) | (simp; omega)) ?_
 refine acallH hg (h1) (N:=38) Tryz.ntmps21 rfl ?_
 rintro _ _ ⟨gs,TG,rfl,rfl,hG⟩
 simp only [cont0]
 refine goB (N:=38) Tryz.ntmps21 300 ?_
 simp only [go_sem,hm]
 repeat refine And.intro (by first | omega | rfl | kernel_rfl | (simp; done) | (simp; omega)) ?_
 have hE:=each_cth (S:=S) (kfN x) fs (by omega) (ordL x js) (by omega) gs TG hG 1 2 6 (by omega) (by omega) 66 [.ptr 4 1 0 0,.ptr 5 1 0 0] rfl
  (fun j T R=>T=[.arr 3 [.agg [.fz 1 ((ordL x js).map inA),.mp 1,.mp 2]],.mp (scMF 0 x.scenes),.mp (gfF gs),.arr 3 [.agg [.fz 1 ((ordL x js).map inA),.mp 1,.mp 2]],.arr 1 [.int .i64 n],.arr 1 [.raw (.slice none 0 0)]]∧R=[]∧n ∉ (ordL x js).take j)
  (fun T R=>∃ l seen,LooksOf (looksAt x js fs n) l∧T=[.arr 3 [.agg [.fz 1 ((ordL x js).map inA),.mp 1,.mp 2]],.mp (scMF 0 x.scenes),.mp (gfF gs),.arr 3 [.agg [.fz 1 ((ordL x js).map inA),.mp 1,.mp 2]],.arr 1 [.int .i64 n],.arr 1 [.sl 9 0 l.length l.length]]∧R=[.it 7 (looksAt x js fs n).length seen,.arr 4 (l.map lookA)])
  (by
   rintro j _ _ ⟨rfl,rfl,_⟩
   refine ⟨rfl,rfl,?_,rfl⟩
   simp only [List.all_cons,List.all_nil,low_scM,low_gfF,Bool.and_true,Bool.true_and]
   rfl)
  (by
   rintro j hjl _ _ ⟨rfl,rfl,hnj⟩
   have hl1:=looks1_ct (.arr 3 [.agg [.fz 1 ((ordL x js).map inA),.mp 1,.mp 2]]) (.mp (scMF 0 x.scenes)) (.mp (gfF gs)) (.arr 3 [.agg [.fz 1 ((ordL x js).map inA),.mp 1,.mp 2]]) (B0 (ordL x js) 1 2) (by
    simp only [List.mem_cons,List.not_mem_nil,or_false,forall_eq_or_imp,forall_eq,low_scM,low_gfF,true_and]
    exact ⟨rfl,rfl,rfl⟩) n ((ordL x js)[j]) (esAt (kfN x) fs (ordL x js) (j+1)) (esAt_uniq _ _ _ _) (Nat.le_trans (esAt_len _ _ _ hnd _) (by omega))
   refine CtH.imp (hl1.toH (g:=S)) ?_
   rintro r s (⟨q1,rfl,rfl⟩ | ⟨q1,rfl,l,seen,q2,rfl⟩)
   ·refine ⟨_,[],rfl,.inl ⟨rfl,rfl,rfl,?_⟩⟩
    rw [List.take_succ_eq_append_getElem hjl,List.mem_append,List.mem_singleton]
    rintro (q | q)
    ·exact hnj q
    ·exact q1 q.symm
   ·have hix:(ordL x js).idxOf n=j:=by rw [← q1]; exact hnd.idxOf_getElem j hjl
    have hla:looksAt x js fs n=esAt (kfN x) fs (ordL x js) (j+1):=by unfold looksAt; rw [hix]
    exact ⟨_,_,rfl,.inr ⟨rfl,l,seen,by rw [hla]; exact q2,rfl,by rw [hla]⟩⟩)
  _ ⟨rfl,rfl,by simp⟩
 refine acallH hg (hE) (N:=38) Tryz.ntmps21 rfl ?_
 rintro _ _ ⟨rfl,T,R,es,rfl,(⟨_,_,hT⟩ | ⟨l,seen,hl,rfl,rfl⟩)⟩
 ·rw [List.take_of_length_le (Nat.le_refl _)] at hT
  exact absurd hno hT
 simp only [List.cons_append,List.nil_append]
 refine goB (N:=38) Tryz.ntmps21 300 ?_
 simp only [go_sem]
 refine ARet.shift (Shift.ren [9] rfl) (aret [8,9] rfl ⟨l,hl,rfl,?_⟩)
 show [Blk.arr 4 ((l.map lookA).map (renC [9]))]=_
 rw [ren_looks]
def insLk (y:Lk):List Lk→List Lk
 | []=>[y]
 | z :: r=>if kCmp (lkey y) (lkey z) < 0 then y :: z :: r else z :: insLk y r
def sortedLk (es:LMap):List Lk:=(lvL es).foldr insLk []
theorem insLk_perm (y:Lk):∀ l,(insLk y l).Perm (y :: l)
 | []=>.refl _
 | z :: r=>by
  rw [insLk]
  split
  ·exact .refl _
  ·exact ((insLk_perm y r).cons z).trans (.swap _ _ _)
theorem insLk_sorted (y:Lk):∀ l:List Lk,l.Pairwise lkLt→(∀ z ∈ l,lkey z ≠ lkey y)→(insLk y l).Pairwise lkLt
 | [],_,_=>by simp [insLk]
 | z :: r,h,hk=>by
  obtain ⟨h1,h2⟩:=List.pairwise_cons.1 h
  rw [insLk]
  split
  ·rename_i hlt
   have hlt:=kCmp_lt.1 hlt
   refine List.pairwise_cons.2 ⟨fun w hw=>?_,h⟩
   rcases List.mem_cons.1 hw with rfl | hw
   ·exact hlt
   ·exact kO.trans _ _ _ hlt (h1 w hw)
  ·rename_i hlt
   have hlt:¬ kLt (lkey y) (lkey z):=fun e=>hlt (kCmp_lt.2 e)
   have hz:lkLt z y:=by
    by_cases h3:kLt (lkey z) (lkey y)
    ·exact h3
    ·exact absurd (kO.total _ _ h3 hlt) (hk z (by simp))
   refine List.pairwise_cons.2 ⟨fun w hw=>?_,insLk_sorted y r h2 fun w hw=>hk w (by simp [hw])⟩
   rcases List.mem_cons.1 ((insLk_perm y r).mem_iff.1 hw) with rfl | hw
   ·exact hz
   ·exact h1 w hw
theorem sortLk_all:∀ l:List Lk,(l.Pairwise fun a b=>lkey a ≠ lkey b)→(l.foldr insLk []).Perm l∧(l.foldr insLk []).Pairwise lkLt
 | [],_=>⟨.refl _,.nil⟩
 | a :: l,h=>by
  obtain ⟨h1,h2⟩:=List.pairwise_cons.1 h
  obtain ⟨p,s⟩:=sortLk_all l h2
  refine ⟨(insLk_perm a _).trans (p.cons a),insLk_sorted a _ s fun z hz=>?_⟩
  exact fun e=>h1 z (p.mem_iff.1 hz) e.symm
theorem sortedLk_ok {es:LMap} (hu:Tuniq es):LooksOf es (sortedLk es):=by
 obtain ⟨p,s⟩:=sortLk_all (lvL es) (lvL_keys hu)
 exact ⟨fun y=>by rw [← lvL_mem hu]; exact p.mem_iff,s⟩
theorem looksOf_eq {es:LMap} (hu:Tuniq es) {l:List Lk} (h:LooksOf es l):l=sortedLk es:=looksOf_uniq (fun _=>rfl) h (sortedLk_ok hu)
theorem sortedLk_len {es:LMap} (hu:Tuniq es):(sortedLk es).length ≤ es.length:=by
 unfold sortedLk
 rw [(sortLk_all (lvL es) (lvL_keys hu)).1.length_eq]
 exact List.length_filterMap_le _ _
structure RightOk (x:Sr) (js:List Jm) (fs:List Fa):Prop where
 story:StoryOk x
 jumps:JumpsOk x js
 facts:FactsOk x fs
def rightF (L:List Int) (k:Int):Sr × List Jm × List Fa × Int :=
 let x:=numR (storyF L k).1
 let j:=jumpsF L (storyF L k).2 x
 let f:=factsF L j.2 x
 (x,if jumpsR x j.1=0 then j.1 else [],if factsR x f.1=0 then f.1 else [],f.2)
theorem rightF_ok (L:List Int) (k:Int):RightOk (rightF L k).1 (rightF L k).2.1 (rightF L k).2.2.1∧k ≤ (rightF L k).2.2.2∧(rightF L k).2.2.2 ≤ k+50000:=by
 obtain ⟨hd,k1,k2⟩:=storyF_ok L k
 have hso:=story_ok hd
 have hlen:=hso.len
 obtain ⟨j1,j2,j3⟩:=jumpsF_bd L (storyF L k).2 (numR (storyF L k).1) (by omega)
 obtain ⟨f1,f2,f3⟩:=factsF_bd L (jumpsF L (storyF L k).2 (numR (storyF L k).1)).2 (numR (storyF L k).1)
 have fd:=factsF_dr L (jumpsF L (storyF L k).2 (numR (storyF L k).1)).2 hso
 unfold rightF
 refine ⟨⟨hso,?_,?_⟩,by simp only; omega,by simp only; omega⟩
 ·simp only
  split
  ·rename_i h; exact jumpsR_ok hso (by omega) h
  ·exact jumpsOk_nil _
 ·simp only
  split
  ·rename_i h; exact factsR_ok hso f3 fd h
  ·exact factsOk_nil _
set_option maxHeartbeats 4000000 in
theorem rightStory_mch {S:Std} (hS:LibR S) (L:List Int) (k:Int) (h3:0 ≤ k) (h4:k ≤ 400000) :
  McH Tryz.prog S 19 2 (str L k) [] (fun v s=>v=.tup [srA (rightF L k).1,.fz 4 ((rightF L k).2.1.map jmA),.fz 5 ((rightF L k).2.2.1.map faA)]∧s=str L (rightF L k).2.2.2):=by
 have hst:=storyX_mch hS.ok L k h3 (by omega)
 obtain ⟨hd,k1,k2⟩:=storyF_ok L k
 have hso:=story_ok hd
 have hlen:=hso.len
 unfold rightF
 generalize storyF L k=z at *
 obtain ⟨x0,kk⟩:=z
 simp only at hst hd k1 k2 hso hlen ⊢
 generalize numR x0=x at *
 have hju:=jumpsX_mc L kk x (by omega) (by omega) (by omega)
 obtain ⟨j1,j2,j3⟩:=jumpsF_bd L kk x (by omega)
 generalize jumpsF L kk x=jz at *
 obtain ⟨js,kj⟩:=jz
 simp only at hju j1 j2 j3 ⊢
 have hfa:=factsX_mc L kj x (by omega) (by omega) (by omega)
 obtain ⟨f1,f2,f3⟩:=factsF_bd L kj x
 have fd:=factsF_dr L kj hso
 generalize factsF L kj x=fz at *
 obtain ⟨fs,kf⟩:=fz
 simp only at hfa f1 f2 f3 fd ⊢
 have hjr:=jumpsR_pch hS x hso js (by omega)
 have hfr:=factsR_pch hS x hso fs (by omega) (fun f hf=>(fd f hf).sz)
 simp only [srA] at hst hju hfa hjr hfr ⊢
 refine cth_intro Tryz.func19 rfl Tryz.ntmps19 hB19 (by simp) fun h ρ w hg=>goB (N:=27) Tryz.ntmps19 300 ?_
 simp only [go_sem]
 refine mcallH hg (hst) rfl rfl (id:=0) rfl (N:=27) Tryz.ntmps19 rfl ?_
 rintro _ _ ⟨rfl,rfl⟩
 refine goB (N:=27) Tryz.ntmps19 300 ?_
 simp only [go_sem]
 repeat refine And.intro (by first | omega | rfl | kernel_rfl | exact .inl rfl | exact .inl trivial | (simp; done)) ?_
 refine adrawC [2,5] 0 [] mixed (by decide) (N:=27) Tryz.ntmps19 (by decide) 100 ?_
 simp only [go_sem,Go.Av.dxn,Go.Av.dxnc,↓Go.Av.dbrn_true,↓Go.Av.dbrn_false,Go.Av.dbrn]
 repeat refine And.intro (by first | omega | rfl | kernel_rfl | exact .inl rfl | exact .inl trivial | (simp; done)) ?_
 refine icc_mc hju rfl rfl rfl ⟨_,_,⟨rfl,rfl⟩,rfl⟩ ?_
 rintro _ _ ⟨rfl,rfl⟩
 simp only [go_sem,Go.Av.dxn,Go.Av.dxnc,↓Go.Av.dbrn_true,↓Go.Av.dbrn_false,Go.Av.dbrn]
 repeat refine And.intro (by first | omega | rfl | kernel_rfl | exact .inl rfl | exact .inl trivial | (simp; done)) ?_
 refine icc_mc hfa rfl rfl rfl ⟨_,_,⟨rfl,rfl⟩,rfl⟩ ?_
 rintro _ _ ⟨rfl,rfl⟩
 simp only [go_sem,Go.Av.dxn,Go.Av.dxnc,↓Go.Av.dbrn_true,↓Go.Av.dbrn_false,Go.Av.dbrn]
 repeat refine And.intro (by first | omega | rfl | kernel_rfl | exact .inl rfl | exact .inl trivial | (simp; done)) ?_
 refine goB (N:=27) Tryz.ntmps19 300 ?_
 simp only [go_sem]
 by_cases hj0:jumpsR x js=0
 ·have d1:(jumpsR x js != 0)=false:=by simpa using hj0
  simp only [if_pos hj0]
  refine pcallH1 hg (hjr) rfl (N:=27) Tryz.ntmps19 rfl (goB (N:=27) Tryz.ntmps19 300 ?_)
  simp only [go_sem,d1]
  by_cases hf0:factsR x fs=0
  ·have d2:(factsR x fs != 0)=false:=by simpa using hf0
   simp only [if_pos hf0]
   refine pcallH1 hg (hfr) rfl (N:=27) Tryz.ntmps19 rfl (goB (N:=27) Tryz.ntmps19 300 ?_)
   simp only [go_sem,d2]
   exact aretc [.cell 2 28,.tmp 3,.tmp 4] rfl [_,_,_] ⟨by simp only [go_sem,sideIs],by simp only [go_sem,sideIs,List.map_nil],by simp only [go_sem,sideIs,List.map_nil],trivial⟩ ⟨_,_,rfl,rfl,rfl,rfl,rfl⟩
  ·have d2:(factsR x fs != 0)=true:=by simpa using hf0
   simp only [if_neg hf0]
   refine pcallH1 hg (hfr) rfl (N:=27) Tryz.ntmps19 rfl (goB (N:=27) Tryz.ntmps19 300 ?_)
   simp only [go_sem,d2]
   refine ARet.shift (Shift.nilfz 4 5 rfl) ?_
   exact aretc [.cell 2 28,.tmp 3,.tmp 4] rfl [_,_,_] ⟨by simp only [go_sem,sideIs],by simp only [go_sem,sideIs,List.map_nil],by simp only [go_sem,sideIs,List.map_nil],trivial⟩ ⟨_,_,rfl,rfl,rfl,rfl,rfl⟩
 ·have d1:(jumpsR x js != 0)=true:=by simpa using hj0
  simp only [if_neg hj0]
  refine pcallH1 hg (hjr) rfl (N:=27) Tryz.ntmps19 rfl (goB (N:=27) Tryz.ntmps19 300 ?_)
  simp only [go_sem,d1]
  by_cases hf0:factsR x fs=0
  ·have d2:(factsR x fs != 0)=false:=by simpa using hf0
   simp only [if_pos hf0]
   refine pcallH1 hg (hfr) rfl (N:=27) Tryz.ntmps19 rfl (goB (N:=27) Tryz.ntmps19 300 ?_)
   simp only [go_sem,d2]
   refine ARet.shift (Shift.nilfz 3 4 rfl) ?_
   exact aretc [.cell 2 28,.tmp 3,.tmp 4] rfl [_,_,_] ⟨by simp only [go_sem,sideIs],by simp only [go_sem,sideIs,List.map_nil],by simp only [go_sem,sideIs,List.map_nil],trivial⟩ ⟨_,_,rfl,rfl,rfl,rfl,rfl⟩
  ·have d2:(factsR x fs != 0)=true:=by simpa using hf0
   simp only [if_neg hf0]
   refine pcallH1 hg (hfr) rfl (N:=27) Tryz.ntmps19 rfl (goB (N:=27) Tryz.ntmps19 300 ?_)
   simp only [go_sem,d2]
   refine ARet.shift (Shift.nilfz 3 4 rfl) ?_
   refine ARet.shift (Shift.nilfz 4 5 rfl) ?_
   exact aretc [.cell 2 28,.tmp 3,.tmp 4] rfl [_,_,_] ⟨by simp only [go_sem,sideIs],by simp only [go_sem,sideIs,List.map_nil],by simp only [go_sem,sideIs,List.map_nil],trivial⟩ ⟨_,_,rfl,rfl,rfl,rfl,rfl⟩
end Go.Proofs.YtnfkjpihaficbaaGreatDoor
