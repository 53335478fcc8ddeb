/- tag.Changes: the walk. Own work of this seat. -/
import Derived.Test.YtnfkjpihaficbaaGreatDoorC44
set_option maxRecDepth 100000
set_option linter.unusedSimpArgs false
set_option linter.unusedVariables false
namespace Go.Proofs.YtnfkjpihaficbaaGreatDoor
open Go Go.Av Go.RowKit
def looksL (x:Sr) (js:List Jm) (fs:List Fa) (k:Nat):List Lk:=sortedLk (looksAt x js fs k)
theorem looksAt_uniq (x:Sr) (js:List Jm) (fs:List Fa) (k:Nat):Tuniq (looksAt x js fs k):=lrun_uniq _
theorem looksL_len {x:Sr} (hx:StoryOk x) {js:List Jm} (hj:JumpsOk x js) {fs:List Fa} (hf:FactsOk x fs) (k:Nat):(looksL x js fs k).length ≤ 8:=by
 have h1:=sortedLk_len (looksAt_uniq x js fs k)
 have h2:=esAt_len (kfN x) fs (ordL x js) ((ordL_perm hx hj).symm.nodup List.nodup_range) ((ordL x js).idxOf k + 1)
 have h3:=hf.len
 unfold looksAt at h1
 unfold looksL looksAt
 omega
def ordA (x:Sr) (ks:List Nat):List AV:=ks.map fun k=>.str (noAt x k)
theorem ordA_get (x:Sr) (ks:List Nat) (i:Nat) (h:i < ks.length):(ordA x ks).getD i .any = .str (noAt x ks[i]):=by simp [ordA,List.getD,h]
theorem ordA_len (x:Sr) (ks:List Nat):(ordA x ks).length = ks.length:=by simp [ordA]
def chgI (F:Nat → List Lk) (ks:List Nat) (i:Nat):Nat:=changedN (F (ks.getD i 0)) (F (ks.getD (i + 1) 0))
def natA (n:Nat):AV:=.int .i64 (n:Int)
def chgL (F:Nat → List Lk) (ks:List Nat) (n:Nat):List AV:=((List.range n).map (chgI F ks)).map natA
theorem chgL_len (F:Nat → List Lk) (ks:List Nat) (n:Nat):(chgL F ks n).length = n:=by simp [chgL]
theorem chgL_succ (F:Nat → List Lk) (ks:List Nat) (n:Nat):chgL F ks (n + 1) = chgL F ks n ++ [.int .i64 (chgI F ks n:Nat)]:=by simp [chgL,List.range_succ,natA]
theorem natA_frz:∀ l:List Nat,(flat (l.map natA)).all Av.frozen = true
 | []=>rfl
 | a :: l=>by simp only [List.map_cons,flat,natA,cellsOf,List.cons_append,List.nil_append,List.all_cons,Av.frozen,natA_frz l,Bool.and_self]
theorem scM_no {x:Sr} (hx:StoryOk x) {k:Nat} (hk:k < x.scenes.length):mfind .string (.str (noAt x k)) (scMF 0 x.scenes) 0 = some (some (k,.int .i64 (k:Int))):=by
 rw [noAt_eq hk]
 exact scM_at hx hk rfl
set_option maxHeartbeats 8000000 in
theorem changes_pch {S:Std} (hS:LibOk S) (x:Sr) (hx:StoryOk x) (js:List Jm) (hj:JumpsOk x js) (fs:List Fa) (hf:FactsOk x fs) (ks:List Nat) (hk:∀ k ∈ ks,k < x.scenes.length) (hkl:ks.length ≤ 10) :
  PcH Tryz.prog S 24 [srA x,.fz 4 (js.map jmA),.fz 5 (fs.map faA),.fz 1 (ordA x ks)] (· = .tup [.fz 1 (chgL (looksL x js fs) ks (ks.length - 1)),.int .i64 0]):=by
 have hlen:=hx.len
 have hfl:=hf.len
 have hperm:=ordL_perm hx hj
 have hnd:(ordL x js).Nodup:=hperm.symm.nodup List.nodup_range
 have hol:(ordL x js).length = x.scenes.length:=by rw [hperm.length_eq,List.length_range]
 have h1:=follow_cth hS x hx js hj fs hf
 have hoa:=ordA_len x ks
 simp only [srA] at h1 ⊢
 refine pch_intro (cth_intro Tryz.func24 rfl Tryz.ntmps24 hB24 (by simp) fun h ρ w hg=>goB (N:=85) Tryz.ntmps24 300 ?_)
 simp only [go_sem]
 repeat refine And.intro (by first | omega | rfl | kernel_rfl | (simp; done) | (simp; omega)) ?_
 refine acallH hg (h1) (N:=85) Tryz.ntmps24 rfl ?_
 rintro _ _ ⟨gs,TG,rfl,rfl,hG⟩
 simp only [cont0]
 refine goB (N:=85) Tryz.ntmps24 300 ?_
 simp only [go_sem,hoa]
 repeat refine And.intro (by first | omega | rfl | kernel_rfl | (simp; done) | (simp; omega)) ?_
 refine aloop (ι:=Nat × List Nat) (fun y=>ks.length - y.1) (fun y=>[(34,.int .i64 y.1),(33,.int .i64 ks.length),(32,.fz 1 (ordA x ks)),(12,.ptr 5 1 0 0),(10,.ptr 3 1 0 0),(3,.fz 1 (ordA x ks))])
  (fun y=>[.arr 3 [.agg [.fz 1 ((ordL x js).map inA),.mp 1,.mp 2]],.mp (scMF 0 x.scenes),.mp (gfF gs),.arr 3 [.agg [.fz 1 ((ordL x js).map inA),.mp 1,.mp 2]],.mp (gmM trueG y.2),.arr 1 [.mp 4]])
  (fun y=>y.1 ≤ ks.length ∧ ∀ k,k ∈ y.2 ↔ k ∈ ks.take y.1) (0,[]) ⟨by simp,by simp⟩ ?_ ?_
 ·refine Shift.weakS ?_ rfl
  simp only [wk,go_sem]
 rintro ⟨i,W⟩ ⟨g1,g2⟩ J hJ
 simp only at g1 g2 hJ ⊢
 by_cases gi:i < ks.length
 ·have di:decide ((i:Int) < (ks.length:Int)) = true:=by simp; omega
  have p1:=ordA_get x ks i gi
  have hki:=hk _ (List.getElem_mem gi)
  have hm:=scM_no hx hki
  have htk:∀ k,k ∈ ks.take (i + 1) ↔ k ∈ ks.take i ∨ k = ks[i]:=fun k=>by
   rw [List.take_succ_eq_append_getElem gi,List.mem_append,List.mem_singleton]
  generalize ks[i] = q at *
  by_cases hq:q ∈ W
  ·have hfin:=hJ (i + 1,W) ⟨by simp only; omega,fun k=>by
    simp only
    rw [htk,← g2]
    constructor
    ·exact .inl
    ·rintro (h | rfl)
     ·exact h
     ·exact hq⟩ (by simp only; omega)
   obtain ⟨v,hv1,hv2⟩:=gm_some trueG q W 0 hq
   have hset:=gm_set trueG W v q hv1
   rw [Nat.zero_add] at hv2
   simp only [trueG] at hv2 hset
   refine goB (N:=85) Tryz.ntmps24 300 ?_
   simp only [go_sem,di,p1,hm,hv2,hset,hoa]
   repeat refine And.intro (by first | omega | rfl | kernel_rfl | (simp; done) | (simp; omega)) ?_
   rw [show (i:Int) + 1 = ((i + 1:Nat):Int) by omega]
   refine ainv hfin (Shift.weakS ?_ rfl)
   simp only [wk,go_sem]
  ·have hfin:=hJ (i + 1,W ++ [q]) ⟨by simp only; omega,fun k=>by
    simp only
    rw [htk,← g2,List.mem_append,List.mem_singleton]⟩ (by simp only; omega)
   have hv2:=gm_none trueG q W 0 hq
   have hset:=gm_push trueG W q
   rw [← hset] at hfin
   simp only [trueG] at hfin
   refine goB (N:=85) Tryz.ntmps24 300 ?_
   simp only [go_sem,di,p1,hm,hv2,hoa]
   repeat refine And.intro (by first | omega | rfl | kernel_rfl | (simp; done) | (simp; omega)) ?_
   rw [show (i:Int) + 1 = ((i + 1:Nat):Int) by omega]
   refine ainv hfin (Shift.weakS ?_ rfl)
   simp only [wk,go_sem]
 have di:decide ((i:Int) < (ks.length:Int)) = false:=by simp; omega
 rw [List.take_of_length_le (by omega)] at g2
 clear hJ
 refine goB (N:=85) Tryz.ntmps24 300 ?_
 simp only [go_sem,di]
 refine And.intro rfl ?_
 obtain ⟨F,hF⟩:∃ F,F = looksL x js fs:=⟨_,rfl⟩
 have hE:=each_cth (S:=S) (kfN x) fs (by omega) (ordL x js) (by omega) gs TG hG 1 2 9 (by omega) (by omega) 69 [.ptr 5 1 0 0,.ptr 7 1 0 0,.ptr 8 1 0 0] rfl
  (fun j T R=>T = [.arr 3 [.agg [.fz 1 ((ordL x js).map inA),.mp 1,.mp 2]],.mp (scMF 0 x.scenes),.mp (gfF gs),.arr 3 [.agg [.fz 1 ((ordL x js).map inA),.mp 1,.mp 2]],.mp (gmM trueG W),.arr 1 [.mp 4],.mp (gmM (lookG F) (((ordL x js).take j).filter fun k=>decide (k ∈ W))),.arr 1 [.mp 6],.arr 1 [.bool false]] ∧ R = [])
  (fun T R=>False)
  (by
   rintro j _ _ ⟨rfl,rfl⟩
   refine ⟨rfl,rfl,?_,rfl⟩
   simp only [List.all_cons,List.all_nil,low_scM,low_gfF,low_gm 9 (g:=trueG) (fun _=>rfl),low_gm 9 (g:=lookG F) (fun _=>rfl),Bool.and_true,Bool.true_and]
   rfl)
  (by
   rintro j hjl _ _ ⟨rfl,rfl⟩
   have hix:(ordL x js).idxOf (ordL x js)[j] = j:=hnd.idxOf_getElem j hjl
   have hni:(ordL x js)[j] ∉ ((ordL x js).take j).filter fun k=>decide (k ∈ W):=by
    intro h
    have h:=(List.mem_filter.1 h).1
    obtain ⟨a,ha,e⟩:=List.mem_take_iff_getElem.1 h
    exact List.pairwise_iff_getElem.1 hnd a j (by omega) hjl (by omega) e
   have hl1:=changes1_ct F (.arr 3 [.agg [.fz 1 ((ordL x js).map inA),.mp 1,.mp 2]]) (.mp (scMF 0 x.scenes)) (.mp (gfF gs)) (.arr 3 [.agg [.fz 1 ((ordL x js).map inA),.mp 1,.mp 2]]) (B0 (ordL x js) 1 2) (by
    simp only [List.mem_cons,List.not_mem_nil,or_false,forall_eq_or_imp,forall_eq,low_scM,low_gfF,true_and]
    exact ⟨rfl,rfl,rfl⟩) W (((ordL x js).take j).filter fun k=>decide (k ∈ W)) ((ordL x js)[j]) hni (esAt (kfN x) fs (ordL x js) (j + 1)) (esAt_uniq _ _ _ _) (Nat.le_trans (esAt_len _ _ _ hnd _) (by omega)) (by
     rw [hF]
     unfold looksL looksAt
     rw [hix])
   refine CtH.imp (hl1.toH (g:=S)) ?_
   rintro r s ⟨rfl,rfl⟩
   refine ⟨[.arr 3 [.agg [.fz 1 ((ordL x js).map inA),.mp 1,.mp 2]],.mp (scMF 0 x.scenes),.mp (gfF gs),.arr 3 [.agg [.fz 1 ((ordL x js).map inA),.mp 1,.mp 2]],.mp (gmM trueG W),.arr 1 [.mp 4],.mp (gmM (lookG F) (if (ordL x js)[j] ∈ W then ((ordL x js).take j).filter (fun k=>decide (k ∈ W)) ++ [(ordL x js)[j]] else ((ordL x js).take j).filter (fun k=>decide (k ∈ W)))),.arr 1 [.mp 6],.arr 1 [.bool false]],[],rfl,.inl ⟨rfl,?_,rfl⟩⟩
   rw [List.take_succ_eq_append_getElem hjl,List.filter_append]
   by_cases hw:(ordL x js)[j] ∈ W
   ·simp only [if_pos hw,List.filter_cons,List.filter_nil,hw,decide_true,if_true]
   ·simp only [if_neg hw,List.filter_cons,List.filter_nil,hw,decide_false,Bool.false_eq_true,if_false,List.append_nil])
  _ ⟨rfl,rfl⟩
 refine acallH hg (hE) (N:=85) Tryz.ntmps24 rfl ?_
 rintro _ _ ⟨rfl,T,R,es,rfl,(⟨rfl,rfl⟩ | hT)⟩
 rotate_left
 ·exact hT.elim
 rw [List.take_of_length_le (Nat.le_refl _)]
 have hall:∀ k ∈ ks,k ∈ (ordL x js).filter fun k=>decide (k ∈ W):=fun k hkk=>List.mem_filter.2 ⟨hperm.mem_iff.2 (List.mem_range.2 (hk k hkk)),by simpa using (g2 k).2 hkk⟩
 generalize (ordL x js).filter (fun k=>decide (k ∈ W)) = I at *
 simp only [List.cons_append,List.nil_append,B0]
 have hFl:∀ k,(F k).length ≤ 12:=fun k=>by
  rw [hF]
  have:=looksL_len hx hj hf k
  omega
 rw [← hF]
 clear hE hF
 generalize hO:(ordL x js).map inA = O at *
 refine goB (N:=85) Tryz.ntmps24 300 ?_
 simp only [go_sem]
 refine aloop (ι:=Nat) (fun i=>ks.length - i) (fun i=>[(20,.int .i64 (i + 1:Nat)),(19,.sl 11 0 i i),(17,.ptr 7 1 0 0),(10,.ptr 3 1 0 0),(3,.fz 1 (ordA x ks))])
  (fun i=>[.arr 3 [.agg [.fz 1 O,.mp 1,.mp 2]],.mp (scMF 0 x.scenes),.mp (gfF gs),.arr 3 [.agg [.fz 1 O,.mp 1,.mp 2]],.mp (gmM trueG W),.arr 1 [.mp 4],.mp (gmM (lookG F) I),.arr 1 [.mp 6],.arr 1 [.bool false],.arr 3 [.agg [.fz 1 O,.mp 1,.mp 2]],.mp es,.arr 1 (chgL F ks i)]) (fun i=>i ≤ ks.length - 1) 0 (by simp) ?_ ?_
 ·refine Shift.trans (Shift.nilsl 19 1 rfl) (Shift.weakS ?_ rfl)
  simp only [wk,go_sem,List.length_cons,List.length_nil]
  try rfl
 intro i g1 J hJ
 by_cases gi:i + 1 < ks.length
 ·have di:decide (((i + 1:Nat):Int) < (ks.length:Int)) = true:=by simp; omega
  have p1:=ordA_get x ks i (by omega)
  have p2:=ordA_get x ks (i + 1) gi
  have e1:(((i + 1:Nat):Int) - 1).toNat = i:=by omega
  have hfin:=hJ (i + 1) (by omega) (by omega)
  rw [chgL_succ] at hfin
  have hci:chgI F ks i = changedN (F ks[i]) (F ks[i + 1]):=by
   unfold chgI
   rw [List.getD_eq_getElem?_getD,List.getD_eq_getElem?_getD,List.getElem?_eq_getElem (by omega),List.getElem?_eq_getElem gi]
   rfl
  rw [hci] at hfin
  have ha:=hall _ (List.getElem_mem (show i < ks.length by omega))
  have hb:=hall _ (List.getElem_mem gi)
  have ma:=scM_no hx (hk _ (List.getElem_mem (show i < ks.length by omega)))
  have mb:=scM_no hx (hk _ (List.getElem_mem gi))
  generalize ks[i] = a at *
  generalize ks[i + 1] = b at *
  obtain ⟨qa,_,va⟩:=gm_some (lookG F) a I 0 ha
  obtain ⟨qb,_,vb⟩:=gm_some (lookG F) b I 0 hb
  have hc:=changed_pc (F a) (F b) (hFl a) (hFl b)
  simp only [lookG] at va vb
  have hcl:=chgL_len F ks i
  generalize chgL F ks i = C at *
  generalize changedN (F a) (F b) = m at *
  refine goB (N:=85) Tryz.ntmps24 300 ?_
  simp only [go_sem,di,hoa,List.length_map]
  repeat refine And.intro (by first | omega | rfl | kernel_rfl | exact .inl rfl | exact .inl trivial | (simp; done) | (simp; omega)) ?_
  refine adrawA (11) [.int .i64 (m:Nat)] mixed (by decide) (N:=85) Tryz.ntmps24 (by decide) 100 ?_
  simp only [go_sem,p1,p2,e1,ma,mb,va,vb,hcl,hoa,List.length_map,cka,isApp,appOk]
  repeat refine And.intro (by first | omega | rfl | kernel_rfl | exact hc.at | exact .inl rfl | exact .inl trivial | (simp; done) | (simp; omega)) ?_
  refine goB (N:=85) Tryz.ntmps24 300 ?_
  simp only [go_sem]
  repeat refine And.intro (by first | omega | rfl | kernel_rfl | exact hc.at | exact .inl rfl | exact .inl trivial | (simp; done) | (simp; omega)) ?_
  rw [show ((i + 1:Nat):Int) + 1 = ((i + 1 + 1:Nat):Int) by omega]
  refine ainv hfin (Shift.weakS ?_ rfl)
  simp only [wk,go_sem]
 have di:decide (((i + 1:Nat):Int) < (ks.length:Int)) = false:=by simp; omega
 have hi:i = ks.length - 1:=by omega
 clear hJ
 subst hi
 have hcl:=chgL_len F ks (ks.length - 1)
 have hcf:(flat (chgL F ks (ks.length - 1))).all Av.frozen = true:=natA_frz _
 refine goB (N:=85) Tryz.ntmps24 300 ?_
 simp only [go_sem,di,hoa]
 refine ARet.shift (Shift.freeze 8 (id:=11) (l:=chgL F ks (ks.length - 1)) rfl rfl (by simp [hcl]) (Nat.le_refl _) hcf) (aret [8,9] rfl ⟨?_,rfl⟩)
 simp only [resV,Av.get,Av.put,List.map_cons,List.map_nil,beq_self_eq_true,cond_true,List.drop_zero,Nat.reduceBEq,cond_false]
 rw [List.take_of_length_le (by omega)]
theorem getD_endP (s:List Blk) (b d:Blk):(s ++ [b]).getD s.length d = b:=by simp
theorem set_endP (s:List Blk) (b b':Blk):(s ++ [b]).set s.length b' = s ++ [b']:=by simp
theorem cloneS_ct (sto:List Blk) (l:List AV) (hs:∀ a ∈ l,∃ t,a = .str t) (hl:l.length ≤ 1000000) :
  Ct Tryz.prog 25 [.fz 1 l] sto (fun r s=>r = .sl sto.length 0 l.length l.length ∧ s = sto ++ [.arr 1 l]):=by
 cases l with
 | nil =>
  refine ct_intro Tryz.func25 rfl Tryz.ntmps25 hB25 (by simp) fun h ρ w=>go (N:=8) Tryz.ntmps25 300 ?_
  simp only [go_sem]
  intro b
  refine go (N:=8) Tryz.ntmps25 300 ?_
  cases b with
  | true =>
   simp only [go_sem,getD_endP,set_endP]
   refine ARet.shift (Shift.nilsl 2 1 rfl) (aret [2] rfl ⟨rfl,rfl⟩)
  | false =>
   simp only [go_sem,getD_endP,set_endP]
   exact ⟨.inl trivial,aret [2] rfl ⟨rfl,rfl⟩⟩
 | cons x ls =>
  refine ct_intro Tryz.func25 rfl Tryz.ntmps25 hB25 (by simp) fun h ρ w=>go (N:=8) Tryz.ntmps25 300 ?_
  simp only [go_sem,getD_endP,set_endP]
  refine ⟨by simp,by simp at hl ⊢; omega,by simp at hl ⊢; omega,aret [2] rfl ⟨by simp [resV,Av.get],rfl⟩⟩
def RevP (l q:List AV) (i:Nat):Prop:=q.length = l.length ∧ ∀ t,t < l.length → q[t]? = if t < i ∨ l.length ≤ t + i then l[l.length - 1 - t]? else l[t]?
theorem revP_step {l q:List AV} {i:Nat} (h:RevP l q i) (hi:i + 1 + i < l.length):RevP l ((q.set i (q.getD (l.length - 1 - i) .any)).set (l.length - 1 - i) (q.getD i .any)) (i + 1):=by
 obtain ⟨h1,h2⟩:=h
 refine ⟨by simp [h1],fun t ht=>?_⟩
 rw [List.getElem?_set,List.getElem?_set,List.length_set]
 by_cases e1:l.length - 1 - i = t
 ·rw [if_pos e1,if_pos (by omega),if_pos (by omega)]
  have:=h2 i (by omega)
  rw [if_neg (by omega)] at this
  rw [List.getD_eq_getElem?_getD,this,show l.length - 1 - t = i by omega,List.getElem?_eq_getElem (by omega)]
  rfl
 ·rw [if_neg e1]
  by_cases e2:i = t
  ·subst e2
   rw [if_pos rfl,if_pos (by omega),if_pos (by omega)]
   have:=h2 (l.length - 1 - i) (by omega)
   rw [if_neg (by omega)] at this
   rw [List.getD_eq_getElem?_getD,this,List.getElem?_eq_getElem (by omega)]
   rfl
  ·rw [if_neg e2,h2 t ht]
   by_cases e3:t < i ∨ l.length ≤ t + i
   ·rw [if_pos e3,if_pos (by omega)]
   ·rw [if_neg e3,if_neg (by omega)]
theorem revP_end {l q:List AV} {i:Nat} (h:RevP l q i) (hi:l.length ≤ i + 1 + i):q = l.reverse:=by
 apply List.ext_getElem?
 intro t
 by_cases ht:t < l.length
 ·rw [h.2 t ht,List.getElem?_reverse ht]
  by_cases e:t < i ∨ l.length ≤ t + i
  ·rw [if_pos e]
  ·rw [if_neg e,show l.length - 1 - t = t by omega]
 ·rw [List.getElem?_eq_none (by have:=h.1; omega),List.getElem?_eq_none (by simp; omega)]
theorem revP_str {l q:List AV} {i:Nat} (h:RevP l q i) (hs:∀ a ∈ l,∃ t,a = .str t) (t:Nat) (ht:t < l.length):∃ s,q.getD t .any = .str s:=by
 have:=h.2 t ht
 rw [List.getD_eq_getElem?_getD,this]
 split
 ·rw [List.getElem?_eq_getElem (by omega)]
  exact hs _ (List.getElem_mem _)
 ·rw [List.getElem?_eq_getElem ht]
  exact hs _ (List.getElem_mem _)
set_option maxHeartbeats 1000000 in
theorem reverseS_ct (l:List AV) (hs:∀ a ∈ l,∃ t,a = .str t) (s:List Blk) (bid:Nat) (hb:bid < s.length) (hl:l.length < 1000000) :
  Ct Tryz.prog 26 [.sl bid 0 l.length l.length] (s.set bid (.arr 1 l)) (fun r s'=>r = .tup [] ∧ s' = s.set bid (.arr 1 l.reverse)):=by
 have hg:∀ b,(s.set bid b).getD bid .dead = b:=set_getD hb
 have hss:∀ a b:Blk,(s.set bid a).set bid b = s.set bid b:=fun a b=>by simp
 refine ct_intro Tryz.func26 rfl Tryz.ntmps26 hB26 (by simp) fun h ρ w=>goB (N:=28) Tryz.ntmps26 300 ?_
 simp only [go_sem,hg]
 repeat refine And.intro (by first | omega | rfl | (simp; done) | (simp; omega)) ?_
 refine aloop (ι:=Nat × List AV) (fun y=>l.length - y.1) (fun y=>[(3,.int .i64 ((l.length:Int) - 1 - y.1)),(2,.int .i64 y.1),(0,.sl bid 0 l.length l.length)]) (fun y=>s.set bid (.arr 1 y.2)) (fun y=>y.1 ≤ l.length ∧ RevP l y.2 y.1) (0,l) ⟨by simp,rfl,fun t ht=>by simp; intro h; omega⟩ ?_ ?_
 ·refine Shift.weakS ?_ rfl
  simp only [wk,go_sem]
  simp
 rintro ⟨i,q⟩ ⟨g1,g2⟩ J hJ
 simp only at g1 g2 hJ ⊢
 by_cases gi:i + 1 + i < l.length
 ·have di:decide ((i:Int) < (l.length:Int) - 1 - (i:Int)) = true:=by simp; omega
  have hq:=g2.1
  have e1:((l.length:Int) - 1 - (i:Int)).toNat = l.length - 1 - i:=by omega
  have hfin:=hJ (i + 1,_) ⟨by simp only; omega,revP_step g2 gi⟩ (by simp only; omega)
  obtain ⟨u,hu⟩:=revP_str g2 hs i (by omega)
  obtain ⟨v,hv⟩:=revP_str g2 hs (l.length - 1 - i) (by omega)
  rw [hu,hv] at hfin
  have hz:∀ a:AV,(q.set i a).getD (l.length - 1 - i) .any = .str v:=fun a=>by
   rw [List.getD_eq_getElem?_getD,List.getElem?_set,if_neg (by omega),← List.getD_eq_getElem?_getD,hv]
  refine goB (N:=28) Tryz.ntmps26 300 ?_
  simp only [go_sem,di]
  refine adrawS [] mixed (by decide) (N:=28) Tryz.ntmps26 (by decide) 100 ?_
  simp only [go_sem,e1,hu,hv,hz,hg,hss,hq,List.length_set]
  repeat refine And.intro (by first | omega | rfl | exact .inl rfl | exact .inl trivial | (simp; done) | (simp; omega)) ?_
  refine goB (N:=28) Tryz.ntmps26 300 ?_
  simp only [go_sem]
  repeat refine And.intro (by first | omega | rfl | exact .inl rfl | exact .inl trivial | (simp; done) | (simp; omega)) ?_
  rw [show (l.length:Int) - 1 - (i:Int) - 1 = (l.length:Int) - 1 - ((i + 1:Nat):Int) by omega,show (i:Int) + 1 = ((i + 1:Nat):Int) by omega]
  refine ainv hfin (Shift.weakS ?_ rfl)
  simp only [wk,go_sem]
 ·have di:decide ((i:Int) < (l.length:Int) - 1 - (i:Int)) = false:=by simp; omega
  refine goB (N:=28) Tryz.ntmps26 300 ?_
  simp only [go_sem,di]
  exact aret [] rfl ⟨rfl,by rw [revP_end g2 (by omega)]⟩
theorem ordA_str (x:Sr) (ks:List Nat):∀ a ∈ ordA x ks,∃ t,a = .str t:=by
 intro a ha
 obtain ⟨k,_,rfl⟩:=List.mem_map.1 ha
 exact ⟨_,rfl⟩
theorem ordA_rev (x:Sr) (ks:List Nat):(ordA x ks).reverse = ordA x ks.reverse:=by simp [ordA]
theorem ordA_frz (x:Sr):∀ ks:List Nat,(flat (ordA x ks)).all Av.frozen = true
 | []=>rfl
 | a :: l=>by
  have:=ordA_frz x l
  unfold ordA at this ⊢
  simp only [List.map_cons,flat,cellsOf,List.cons_append,List.nil_append,List.all_cons,Av.frozen,this,Bool.and_self]
theorem chgL_get (F:Nat → List Lk) (ks:List Nat) (n i:Nat) (h:i < n):(chgL F ks n).getD i .any = .int .i64 (chgI F ks i:Nat):=by simp [chgL,List.getD,h,natA]
theorem looksL_keys (x:Sr) (js:List Jm) (fs:List Fa) (k:Nat):(looksL x js fs k).Pairwise fun a b=>lkey a ≠ lkey b:=keys_of (sortedLk_ok (looksAt_uniq x js fs k))
theorem chgI_rev {F:Nat → List Lk} (hF:∀ k,(F k).Pairwise fun a b=>lkey a ≠ lkey b) (ks:List Nat) (i:Nat) (h:i + 1 < ks.length):chgI F ks.reverse (ks.length - 1 - 1 - i) = chgI F ks i:=by
 unfold chgI
 have e:∀ j,j < ks.length → ks.reverse.getD j 0 = ks.getD (ks.length - 1 - j) 0:=fun j hj=>by
  rw [List.getD_eq_getElem?_getD,List.getD_eq_getElem?_getD,List.getElem?_reverse hj]
 rw [e _ (by omega),e _ (by omega),show ks.length - 1 - (ks.length - 1 - 1 - i) = i + 1 by omega,show ks.length - 1 - (ks.length - 1 - 1 - i + 1) = i by omega]
 exact changedN_symm (hF _) (hF _)
theorem chgI_same {F:Nat → List Lk} (hF:∀ k,(F k).Pairwise fun a b=>lkey a ≠ lkey b) (ks:List Nat) (i:Nat) (h:i + 1 < ks.length) (e:ks[i] = ks[i + 1]):chgI F ks i = 0:=by
 unfold chgI
 rw [List.getD_eq_getElem?_getD,List.getD_eq_getElem?_getD,List.getElem?_eq_getElem (by omega),List.getElem?_eq_getElem h,Option.getD_some,Option.getD_some,e]
 exact changedN_self (hF _)
set_option maxHeartbeats 8000000 in
theorem changesTurn_pch {S:Std} (hS:LibR S) (L:List Int):PcH Tryz.prog S 5 [.fz 1 (L.map (.int .i64))] (· = .bool true):=by
 obtain ⟨⟨hx,hj,hf⟩,k1,k2⟩:=rightF_ok L 0
 have hr:=rightStory_mch hS L 0 (by omega) (by omega)
 have ht:=tagsTrue_pch hS.ok
 generalize rightF L 0 = z at *
 obtain ⟨x,js,fs,k'⟩:=z
 simp only at hx hj hf k1 k2 hr
 have hxl:=hx.len
 have hfl:=hf.len
 have hch:=fun ks hk hkl=>changes_pch hS.ok x hx js hj fs hf ks hk hkl
 have hFk:=looksL_keys x js fs
 simp only [srA] at hr hch
 refine pch_intro (cth_intro Tryz.func5 rfl Tryz.ntmps5 hB5 (by simp) fun h ρ w hg=>goF (N:=123) Tryz.ntmps5 300 ?_)
 simp only [go_sem]
 refine mcallH hg (agg:=str L 0) hr rfl rfl (id:=0) rfl (N:=123) Tryz.ntmps5 rfl ?_
 rintro _ _ ⟨rfl,rfl⟩
 refine goF (N:=123) Tryz.ntmps5 300 ?_
 simp only [go_sem,List.length_map]
 refine mcall (agg:=str L k') (next_mc L k' 6 (by omega) (by omega) (by omega) (by omega)) rfl rfl (id:=0) rfl (N:=123) Tryz.ntmps5 rfl ?_
 rintro _ _ ⟨⟨v,rfl,v0,v1⟩,rfl,_,_⟩
 obtain ⟨v,rfl⟩:∃ n:Nat,v = n:=⟨v.toNat,by omega⟩
 refine goF (N:=123) Tryz.ntmps5 300 ?_
 simp only [go_sem]
 refine aloop (ι:=Nat × List Nat × Int) (fun y=>v - y.1) (fun y=>[(26,.int .i64 y.1),(25,.int .i64 v),(7,.sl 2 0 y.2.1.length y.2.1.length),(6,.fz 5 (fs.map faA)),(5,.fz 4 (js.map jmA)),(4,.ptr 1 1 0 0),(3,.ptr 0 1 0 0)])
  (fun y=>[.arr 2 [str L y.2.2],.arr 2 [.agg [.str x.title,.fz 5 (x.scenes.map scA)]],.arr 1 (ordA x y.2.1)])
  (fun y=>y.1 ≤ v ∧ (∀ k ∈ y.2.1,k < x.scenes.length) ∧ y.2.1.length ≤ y.1 ∧ k' + 1 ≤ y.2.2 ∧ y.2.2 ≤ k' + 1 + y.1) (0,[],k' + 1) ⟨by simp,by simp,by simp,by simp,by simp⟩ ?_ ?_
 ·refine Shift.trans (Shift.nilsl 7 1 rfl) (Shift.weakS ?_ rfl)
  simp only [wk,go_sem]
  try rfl
 rintro ⟨i,ks,kk⟩ ⟨g1,g2,g3,g4,g5⟩ J hJ
 simp only at g1 g2 g3 g4 g5 hJ ⊢
 have hol:=ordA_len x ks
 by_cases gi:i < v
 ·have di:decide ((i:Int) < (v:Int)) = true:=by simp; omega
  by_cases h0:x.scenes.length = 0
  ·have d0:decide ((x.scenes.length:Int) > 0) = false:=decide_eq_false (by omega)
   have hfin:=hJ (i + 1,ks,kk) ⟨by simp only; omega,g2,by simp only; omega,g4,by simp only; omega⟩ (by simp only; omega)
   refine goF (N:=123) Tryz.ntmps5 300 ?_
   simp only [go_sem,di,d0,List.length_map]
   repeat refine And.intro (by first | omega | rfl | kernel_rfl | exact .inl rfl | exact .inl trivial | (simp; done) | (simp; omega)) ?_
   rw [show (i:Int) + 1 = ((i + 1:Nat):Int) by omega]
   refine ainv hfin (Shift.weakS ?_ rfl)
   simp only [wk,go_sem]
  ·have d0:decide ((x.scenes.length:Int) > 0) = true:=decide_eq_true (by omega)
   refine goF (N:=123) Tryz.ntmps5 300 ?_
   simp only [go_sem,di,d0,List.length_map]
   repeat refine And.intro (by first | omega | rfl | kernel_rfl | exact .inl rfl | exact .inl trivial | (simp; done) | (simp; omega)) ?_
   refine adrawC [7] 0 [] mixed (by decide) (N:=123) Tryz.ntmps5 (by decide) 100 ?_
   simp only [go_sem,Go.Av.dxn,Go.Av.dxnc,↓Go.Av.dbrn_true,↓Go.Av.dbrn_false,Go.Av.dbrn,List.length_map]
   repeat refine And.intro (by first | omega | rfl | kernel_rfl | exact .inl rfl | exact .inl trivial | (simp; done) | (simp; omega)) ?_
   have n1:(1:Int) ≤ ((x.scenes.length:Nat):Int):=by omega
   have n2:((x.scenes.length:Nat):Int) ≤ 9223372036854775807:=by omega
   have n3:0 ≤ kk ∧ kk ≤ 1000000:=by omega
   refine icc_mc (next_mc L kk ((x.scenes.length:Nat):Int) n1 n2 n3.1 n3.2) rfl rfl rfl ⟨.int .i64 0,str L (kk + 1),⟨⟨0,rfl,Int.le_refl _,by omega⟩,rfl⟩,rfl⟩ ?_
   rintro _ _ ⟨⟨q,rfl,q0,q1⟩,rfl⟩
   obtain ⟨q,rfl⟩:∃ n:Nat,q = n:=⟨q.toNat,by omega⟩
   have hget:=scA_get x.scenes q (by omega)
   have hno:=noAt_eq (x:=x) (i:=q) (by omega)
   have hfin:=hJ (i + 1,ks ++ [q],kk + 1) ⟨by simp only; omega,fun k hk=>by
    rcases List.mem_append.1 hk with hk | hk
    ·exact g2 k hk
    ·rw [List.mem_singleton.1 hk]; omega,by simp; omega,by simp only; omega,by simp only; omega⟩ (by simp only; omega)
   have hpush:ordA x (ks ++ [q]) = ordA x ks ++ [.str (noAt x q)]:=by simp [ordA]
   rw [hpush,hno] at hfin
   simp only [List.length_append,List.length_cons,List.length_nil,Nat.zero_add] at hfin
   simp only [go_sem,Go.Av.dxn,Go.Av.dxnc,↓Go.Av.dbrn_true,↓Go.Av.dbrn_false,Go.Av.dbrn,hget,hol,List.length_map]
   repeat refine And.intro (by first | omega | rfl | kernel_rfl | exact .inl rfl | exact .inl trivial | (simp; done) | (simp; omega)) ?_
   refine goF (N:=123) Tryz.ntmps5 300 ?_
   simp only [go_sem]
   repeat refine And.intro (by first | omega | rfl | kernel_rfl | exact .inl rfl | exact .inl trivial | (simp; done) | (simp; omega)) ?_
   rw [show (i:Int) + 1 = ((i + 1:Nat):Int) by omega]
   refine ainv hfin (Shift.weakS ?_ rfl)
   simp only [wk,go_sem]
 have di:decide ((i:Int) < (v:Int)) = false:=by simp; omega
 clear hJ
 refine AWp.shift (Shift.trans (Shift.freeze 7 (id:=2) (l:=ordA x ks) rfl rfl (by simp [hol]) (Nat.le_refl _) (ordA_frz _ _)) (Shift.trans (Shift.low 2 (by simp) (by simp) (e':=(26,.int .i64 i) :: (25,.int .i64 v) :: [(7,.fz 1 (ordA x ks)),(6,.fz 5 (fs.map faA)),(5,.fz 4 (js.map jmA)),(4,.ptr 1 1 0 0)]) rfl ?_) (Shift.weakS (e':=(26,.int .i64 i) :: (25,.int .i64 v) :: [(7,.fz 1 (ordA x ks)),(6,.fz 5 (fs.map faA)),(5,.fz 4 (js.map jmA)),(4,.ptr 1 1 0 0)]) (s':=[.arr 2 [str L kk],.arr 2 [.agg [.str x.title,.fz 5 (x.scenes.map scA)]]]) ?_ rfl))) ?_
 ·simp only [wkl,lowV,lowC,Av.get,go_sem]
  rw [List.take_of_length_le (by omega)]
 ·simp only [wk,go_sem]
 have hkl:ks.length ≤ 10:=by omega
 have hc1:=hch ks g2 hkl
 have hc2:=hch ks.reverse (fun k hk=>g2 k (by simpa using hk)) (by simpa using hkl)
 rw [List.length_reverse] at hc2
 refine goF (N:=123) Tryz.ntmps5 300 ?_
 simp only [go_sem,di]
 refine pcallH1 hg (hc1) rfl (N:=123) Tryz.ntmps5 rfl (goF (N:=123) Tryz.ntmps5 300 ?_)
 simp only [go_sem]
 refine acall (cloneS_ct _ (ordA x ks) (ordA_str x ks) (by omega)) (N:=123) Tryz.ntmps5 rfl ?_
 rintro _ _ ⟨rfl,rfl⟩
 refine goF (N:=123) Tryz.ntmps5 300 ?_
 simp only [go_sem,hol]
 have hrv:=reverseS_ct (ordA x ks) (ordA_str x ks) [.arr 2 [str L kk],.arr 2 [.agg [.str x.title,.fz 5 (x.scenes.map scA)]],.arr 1 (ordA x ks)] 2 (by simp) (by omega)
 rw [ordA_rev,hol] at hrv
 refine acall hrv (N:=123) Tryz.ntmps5 rfl ?_
 rintro _ _ ⟨rfl,rfl⟩
 simp only [List.set_cons_succ,List.set_cons_zero]
 have holr:=ordA_len x ks.reverse
 refine AWp.shift (Shift.freeze 10 (id:=2) (l:=ordA x ks.reverse) rfl rfl (by simp [holr]) (Nat.le_refl _) (ordA_frz _ _)) ?_
 have htk:((ordA x ks.reverse).drop 0).take ks.length = ordA x ks.reverse:=by rw [List.drop_zero,List.take_of_length_le (by rw [holr]; simp)]
 rw [htk]
 refine goF (N:=123) Tryz.ntmps5 300 ?_
 simp only [go_sem]
 refine pcallH1 hg (hc2) rfl (N:=123) Tryz.ntmps5 rfl (goF (N:=123) Tryz.ntmps5 300 ?_)
 have hl1:=chgL_len (looksL x js fs) ks (ks.length - 1)
 have hl2:=chgL_len (looksL x js fs) ks.reverse (ks.length - 1)
 have hmx:(if (ks.length:Int) - 1 < 0 then (0:Int) else (ks.length:Int) - 1) = ((ks.length - 1:Nat):Int):=by split <;> omega
 have hne:(((ks.length - 1:Nat):Int) != ((ks.length - 1:Nat):Int)) = false:=by simp
 generalize hA:chgL (looksL x js fs) ks (ks.length - 1) = CA at *
 generalize hB:chgL (looksL x js fs) ks.reverse (ks.length - 1) = CB at *
 simp only [go_sem,hl1,hl2,hol,hmx,hne]
 repeat refine And.intro (by first | omega | rfl | kernel_rfl | exact .inl rfl | exact .inl trivial | (simp; done) | (simp; omega)) ?_
 refine aloop (ι:=Nat) (fun i=>ks.length - i) (fun i=>[(90,.int .i64 i),(89,.int .i64 (ks.length - 1:Nat)),(88,.fz 1 CA),(11,.fz 1 CB),(7,.fz 1 (ordA x ks))])
  (fun _=>[.arr 2 [str L kk],.arr 2 [.agg [.str x.title,.fz 5 (x.scenes.map scA)]],.dead]) (fun i=>i ≤ ks.length - 1) 0 (by simp) ?_ ?_
 ·refine Shift.weakS ?_ rfl
  simp only [wk,go_sem]
 intro j j1 J hJ
 by_cases gj:j < ks.length - 1
 ·have dj:decide ((j:Int) < ((ks.length - 1:Nat):Int)) = true:=by simp; omega
  have hfin:=hJ (j + 1) (by omega) (by omega)
  have p1:CA.getD j .any = .int .i64 (chgI (looksL x js fs) ks j:Nat):=by rw [← hA]; exact chgL_get _ _ _ _ gj
  have p2:CB.getD (ks.length - 1 - 1 - j) .any = .int .i64 (chgI (looksL x js fs) ks j:Nat):=by
   rw [← hB,chgL_get _ _ _ _ (by omega),chgI_rev hFk ks j (by omega)]
  have o1:=ordA_get x ks j (by omega)
  have o2:=ordA_get x ks (j + 1) (by omega)
  have e1:(((ks.length - 1:Nat):Int) - 1 - (j:Int)).toNat = ks.length - 1 - 1 - j:=by omega
  have e2:((j:Int) + 1).toNat = j + 1:=by omega
  have hsm:=chgI_same hFk ks j (by omega)
  have hq1:=g2 _ (List.getElem_mem (show j < ks.length by omega))
  have hq2:=g2 _ (List.getElem_mem (show j + 1 < ks.length by omega))
  clear hJ hA hB
  obtain ⟨m,hm⟩:∃ m,m = chgI (looksL x js fs) ks j:=⟨_,rfl⟩
  rw [← hm] at p1 p2 hsm
  clear hm
  obtain ⟨a,ha⟩:∃ a,a = ks[j]:=⟨_,rfl⟩
  obtain ⟨b,hb⟩:∃ b,b = ks[j + 1]:=⟨_,rfl⟩
  rw [← ha] at o1 hsm hq1
  rw [← hb] at o2 hsm hq2
  clear ha hb
  have hmm:((m:Int) != (m:Int)) = false:=by simp
  cases hab:noAt x a == noAt x b with
  | false =>
   refine goF (N:=123) Tryz.ntmps5 300 ?_
   simp only [go_sem,dj,p1,hl1]
   repeat refine And.intro (by first | omega | rfl | kernel_rfl | exact .inl rfl | exact .inl trivial | (simp; done) | (simp; omega)) ?_
   refine adraw [] mixed (by decide) (N:=123) Tryz.ntmps5 (by decide) 100 ?_
   simp only [go_sem,p2,o1,o2,e1,e2,hl1,hl2,hol,hab,hmm]
   repeat refine And.intro (by first | omega | rfl | kernel_rfl | exact .inl rfl | exact .inl trivial | (simp; done) | (simp; omega)) ?_
   refine goF (N:=123) Tryz.ntmps5 300 ?_
   simp only [go_sem]
   repeat refine And.intro (by first | omega | rfl | kernel_rfl | exact .inl rfl | exact .inl trivial | (simp; done) | (simp; omega)) ?_
   rw [show (j:Int) + 1 = ((j + 1:Nat):Int) by omega]
   refine ainv hfin (Shift.weakS ?_ rfl)
   simp only [wk,go_sem]
  | true =>
   have hm0:=hsm (by
    have h:=beq_iff_eq.1 hab
    rw [noAt_eq hq1,noAt_eq hq2] at h
    exact hx.inj hq1 hq2 h)
   subst hm0
   have h00:(((0:Nat):Int) != 0) = false:=rfl
   refine goF (N:=123) Tryz.ntmps5 300 ?_
   simp only [go_sem,dj,p1,hl1]
   repeat refine And.intro (by first | omega | rfl | kernel_rfl | exact .inl rfl | exact .inl trivial | (simp; done) | (simp; omega)) ?_
   refine adraw [] mixed (by decide) (N:=123) Tryz.ntmps5 (by decide) 100 ?_
   simp only [go_sem,p2,o1,o2,e1,e2,hl1,hl2,hol,hab,hmm,h00]
   repeat refine And.intro (by first | omega | rfl | kernel_rfl | exact .inl rfl | exact .inl trivial | (simp; done) | (simp; omega)) ?_
   refine goF (N:=123) Tryz.ntmps5 300 ?_
   simp only [go_sem]
   repeat refine And.intro (by first | omega | rfl | kernel_rfl | exact .inl rfl | exact .inl trivial | (simp; done) | (simp; omega)) ?_
   rw [show (j:Int) + 1 = ((j + 1:Nat):Int) by omega]
   refine ainv hfin (Shift.weakS ?_ rfl)
   simp only [wk,go_sem]
 ·have dj:decide ((j:Int) < ((ks.length - 1:Nat):Int)) = false:=by simp; omega
  refine goF (N:=123) Tryz.ntmps5 300 ?_
  simp only [go_sem,dj]
  refine pcallH1 hg (ht) rfl (N:=123) Tryz.ntmps5 rfl (goF (N:=123) Tryz.ntmps5 300 ?_)
  simp only [go_sem]
  exact aret [2] rfl ⟨rfl,rfl⟩
end Go.Proofs.YtnfkjpihaficbaaGreatDoor
