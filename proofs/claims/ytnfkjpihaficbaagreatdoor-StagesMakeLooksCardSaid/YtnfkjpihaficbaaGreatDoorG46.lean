/- slices.Clone and slices.DeleteFunc at looks. Own work of this seat. -/
import Derived.Test.YtnfkjpihaficbaaGreatDoorG45
set_option maxRecDepth 100000
set_option linter.unusedSimpArgs false
set_option linter.unusedVariables false
namespace Go.Proofs.YtnfkjpihaficbaaGreatDoor
open Go Go.Av Go.RowKit
theorem cloneL_ct (sto:List Blk) (l:List Lk) (hl:l.length ≤ 1000000) :
  Ct Tryz.prog 32 [.fz 4 (l.map lookA)] sto (fun r s=>r=.sl sto.length 0 l.length l.length∧s=sto++[.arr 4 (l.map lookA)]):=by
 cases l with
 | nil =>
  simp only [List.map_nil]
  refine ct_intro Tryz.func32 rfl Tryz.ntmps32 hB32 (by simp) fun h ρ w=>go (N:=8) Tryz.ntmps32 300 ?_
  simp only [go_sem]
  intro b
  refine go (N:=8) Tryz.ntmps32 300 ?_
  cases b with
  | true =>
   simp only [go_sem,getD_endP,set_endP]
   refine ARet.shift (Shift.nilsl 2 4 rfl) (aret [2] rfl ⟨rfl,rfl⟩)
  | false =>
   simp only [go_sem,getD_endP,set_endP]
   exact ⟨.inl trivial,aret [2] rfl ⟨rfl,rfl⟩⟩
 | cons x ls =>
  simp only [List.map_cons]
  have hL:(ls.map lookA).length=ls.length:=by simp
  generalize ls.map lookA=M at *
  generalize lookA x=X at *
  simp only [List.length_cons] at hl ⊢
  rw [← hL] at hl ⊢
  refine ct_intro Tryz.func32 rfl Tryz.ntmps32 hB32 (by simp) fun h ρ w=>go (N:=8) Tryz.ntmps32 300 ?_
  simp only [go_sem,getD_endP,set_endP]
  refine ⟨by simp,by simp at hl ⊢; omega,by simp at hl ⊢; omega,aret [2] rfl ⟨by simp [resV,Av.get],rfl⟩⟩
theorem smk1_ct (e:El) (y:Lk) (s:List Blk) (ke:Nat) (hke:s[ke]? = some (.arr 2 [elA e])):Ct Tryz.prog 33 [lookA y,.ptr ke 1 0 0] s (fun r s'=>r=.bool (!decide (y.el=e))∧s'=s):=by
 obtain ⟨⟨k1,k2⟩,y3,y4⟩:=y
 obtain ⟨e1,e2⟩:=e
 have hd:(!decide ((⟨k1,k2⟩:El)=⟨e1,e2⟩))=!(k1 == e1 && k2 == e2):=by
  congr 1
  rw [Bool.eq_iff_iff]
  simp
 have h0:=gt_old hke
 have h00:=gd_of hke
 simp only [lookA,elA] at h0 h00 ⊢
 rw [hd]
 refine ct_intro Tryz.func33 rfl Tryz.ntmps33 hB33 (by simp) fun h ρ w=>goB (N:=8) Tryz.ntmps33 300 ?_
 simp only [go_sem,h00,h0,hke]
 repeat refine And.intro (by first | omega | kernel_rfl | rfl | (simp; done) | (simp; omega)) ?_
 exact aret [3] rfl ⟨rfl,rfl⟩
theorem idxL_ct (e:El) (l:List Lk) (hl:l.length ≤ 12) (s:List Blk) (ke id:Nat) (hke:s[ke]? = some (.arr 2 [elA e])) (hid:s[id]? = some (.arr 4 (l.map lookA))) :
  Ct Tryz.prog 86 [.sl id 0 l.length l.length,.fn (.func 33) [.ptr ke 1 0 0]] s (fun r s'=>s'=s∧((r=.int .i64 (-1)∧∀ y ∈ l,y.el=e)∨∃ k,∃ hk:k < l.length,r=.int .i64 (k:Nat)∧(∀ y ∈ l.take k,y.el=e)∧l[k].el ≠ e)):=by
 have h0:=gt_old hid
 have h00:=gd_of hid
 have hml:(l.map lookA).length=l.length:=by simp
 refine ct_intro Tryz.func86 rfl Tryz.ntmps86 hB86 (by simp) fun h ρ w=>goB (N:=19) Tryz.ntmps86 300 ?_
 simp only [go_sem,h00]
 refine And.intro (by simp) ?_
 refine aloop (ι:=Nat) (fun i=>l.length - i) (fun i=>[(8,.int .i64 i),(7,.int .i64 l.length),(1,.fn (.func 33) [.ptr ke 1 0 0]),(0,.sl id 0 l.length l.length)])
  (fun _=>s) (fun i=>i ≤ l.length∧∀ y ∈ l.take i,y.el=e) 0 (by simp) ?_ ?_
 ·refine Shift.weakS ?_ rfl
  simp only [wk,go_sem]
 rintro i ⟨g1,g2⟩ J hJ
 by_cases gi:i < l.length
 ·have di:decide ((i:Int) < (l.length:Int))=true:=by simp; omega
  have hfin:=fun h=>hJ (i+1) ⟨by omega,h⟩ (by omega)
  have p1:=lookA_get l i gi
  have hc:=smk1_ct e l[i] s ke hke
  have hlk:(∀ y ∈ l.take (i+1),y.el=e) ↔ l[i].el=e:=by
   rw [List.take_succ_eq_append_getElem gi]
   simp only [List.mem_append,List.mem_singleton]
   constructor
   ·intro h; exact h _ (.inr rfl)
   ·rintro h y (hy | rfl)
    ·exact g2 y hy
    ·exact h
  rw [hlk] at hfin
  have hpost:=fun (h:¬ l[i].el=e)=>(⟨i,gi,rfl,g2,h⟩:∃ k,∃ hk:k < l.length,AV.int .i64 (i:Nat)=.int .i64 (k:Nat)∧(∀ y ∈ l.take k,y.el=e)∧l[k].el ≠ e)
  generalize l[i]=y at *
  clear hJ
  cases hd:decide (y.el=e) with
  | true =>
   have hfin:=hfin (by simpa using hd)
   rw [hd] at hc
   simp only [lookA] at hc p1
   refine goB (N:=19) Tryz.ntmps86 300 ?_
   simp only [go_sem,di,p1,h00]
   repeat refine And.intro (by first | omega | rfl | kernel_rfl | (simp; done) | (simp; omega)) ?_
   refine acall (hc) (N:=19) Tryz.ntmps86 rfl ?_
   rintro _ _ ⟨rfl,rfl⟩
   refine goB (N:=19) Tryz.ntmps86 300 ?_
   simp only [go_sem]
   repeat refine And.intro (by first | omega | rfl | kernel_rfl | (simp; done) | (simp; omega)) ?_
   rw [show (i:Int)+1=((i+1:Nat):Int) by omega]
   refine ainv hfin (Shift.weakS ?_ rfl)
   simp only [wk,go_sem]
  | false =>
   have hpost:=hpost (by simpa using hd)
   rw [hd] at hc
   simp only [lookA] at hc p1
   refine goB (N:=19) Tryz.ntmps86 300 ?_
   simp only [go_sem,di,p1,h00]
   repeat refine And.intro (by first | omega | rfl | kernel_rfl | (simp; done) | (simp; omega)) ?_
   refine acall (hc) (N:=19) Tryz.ntmps86 rfl ?_
   rintro _ _ ⟨rfl,rfl⟩
   refine goB (N:=19) Tryz.ntmps86 300 ?_
   simp only [go_sem]
   exact aret [4] rfl ⟨rfl,.inr hpost⟩
 ·have di:decide ((i:Int) < (l.length:Int))=false:=by simp; omega
  rw [List.take_of_length_le (by omega)] at g2
  refine goB (N:=19) Tryz.ntmps86 300 ?_
  simp only [go_sem,di]
  exact aret [4] rfl ⟨rfl,.inl ⟨rfl,g2⟩⟩
set_option maxHeartbeats 4000000 in
theorem delL_ct (e:El) (l:List Lk) (hl:l.length ≤ 12) (T:List Blk) (ke:Nat) (hke:T[ke]? = some (.arr 2 [elA e])) (hT:T.all (lowB T.length)=true) :
  Ct Tryz.prog 31 [.sl T.length 0 l.length l.length,.fn (.func 33) [.ptr ke 1 0 0]] (T++[.arr 4 (l.map lookA)]) (fun r s=>∃ Z,(flat Z).all Av.frozen=true∧((l.filter fun y=>decide (y.el=e)).map lookA++Z).length=l.length∧r=.sl T.length 0 (l.filter fun y=>decide (y.el=e)).length l.length∧s=T++[.arr 4 ((l.filter fun y=>decide (y.el=e)).map lookA++Z)]):=by
 have hkl:ke < T.length:=(List.getElem?_eq_some_iff.1 hke).1
 have hke2:∀ U:List Blk,(T++U)[ke]? = some (.arr 2 [elA e]):=fun U=>by rw [List.getElem?_append_left hkl,hke]
 have hix:=idxL_ct e l hl (T++[.arr 4 (l.map lookA)]) ke T.length (hke2 _) (by simp)
 refine ct_intro Tryz.func31 rfl Tryz.ntmps31 hB31 (by simp) fun h ρ w=>goB (N:=42) Tryz.ntmps31 300 ?_
 simp only [go_sem]
 refine acall (hix) (N:=42) Tryz.ntmps31 rfl ?_
 rintro _ _ ⟨rfl,(⟨rfl,hall⟩ | ⟨k,hk,rfl,hpre,hne⟩)⟩
 ·have hff:(l.filter fun y=>decide (y.el=e))=l:=List.filter_eq_self.2 fun y hy=>by simpa using hall y hy
  refine goB (N:=42) Tryz.ntmps31 300 ?_
  simp only [go_sem]
  exact aret [4] rfl ⟨[],rfl,by rw [hff]; simp,by rw [hff]; rfl,by rw [hff,List.append_nil]⟩
 refine goB (N:=42) Tryz.ntmps31 300 ?_
 simp only [go_sem]
 repeat refine And.intro (by first | omega | rfl | kernel_rfl | (simp; done) | (simp; omega)) ?_
 refine aloop (ι:=Nat × Nat × List Lk) (fun y=>l.length - y.2.1) (fun y=>[(6,.int .i64 y.2.1),(5,.int .i64 y.1),(1,.fn (.func 33) [.ptr ke 1 0 0]),(0,.sl T.length 0 l.length l.length)])
  (fun y=>T++[.arr 4 (y.2.2.map lookA)]) (fun y=>y.2.2.length=l.length∧y.1 < y.2.1∧y.2.1 ≤ l.length∧y.2.2.take y.1=(l.take y.2.1).filter (fun y=>decide (y.el=e))∧y.2.2.drop y.2.1=l.drop y.2.1) (k,k+1,l) ?_ ?_ ?_
 ·refine ⟨rfl,by simp,by simp only; omega,?_,rfl⟩
  simp only
  rw [List.take_succ_eq_append_getElem hk,List.filter_append,List.filter_eq_self.2 fun y hy=>by simpa using hpre y hy]
  simp [hne]
 ·refine Shift.weakS ?_ rfl
  simp only [wk,go_sem]
  rfl
 rintro ⟨i,j,Q⟩ ⟨g1,g2,g3,g4,g5⟩ J hJ
 simp only at g1 g2 g3 g4 g5 hJ ⊢
 have hml:(Q.map lookA).length=l.length:=by simp [g1]
 by_cases gj:j < l.length
 ·have dj:decide ((j:Int) < (l.length:Int))=true:=by simp; omega
  have hQj:Q[j]=l[j]:=by
   have:=congrArg (·[0]?) g5
   simp only [List.getElem?_drop,Nat.add_zero] at this
   rw [List.getElem?_eq_getElem (by omega),List.getElem?_eq_getElem gj] at this
   exact Option.some.inj this
  have p1:=lookA_get Q j (by omega)
  have p2:=lookA_get Q i (by omega)
  have hd1:Q.drop (j+1)=l.drop (j+1):=by
   rw [← List.drop_drop,← List.drop_drop,g5]
  have hQi:(Q.map lookA).set i (lookA Q[j])=(Q.set i Q[j]).map lookA:=by rw [List.map_set]
  have hdt:(Q.set i Q[j]).drop (j+1)=l.drop (j+1):=by
   rw [List.drop_set_of_lt (by omega),hd1]
  have htk:(Q.set i Q[j]).take (i+1)=(l.take j).filter (fun y=>decide (y.el=e))++[Q[j]]:=by
   rw [List.take_succ_eq_append_getElem (by simp; omega),List.take_set_of_le (by omega),g4]
   simp
  have hf1:(l.take (j+1)).filter (fun y=>decide (y.el=e))=(l.take j).filter (fun y=>decide (y.el=e))++if Q[j].el=e then [Q[j]] else []:=by
   rw [List.take_succ_eq_append_getElem gj,List.filter_append,hQj]
   congr 1
   split <;> simp [*]
  have hfa:=fun (h:Q[j].el=e)=>hJ (i+1,j+1,Q.set i Q[j]) ⟨by simp [g1],by simp only; omega,by simp only; omega,by simp only; rw [htk,hf1,if_pos h],by simp only; exact hdt⟩ (by simp only; omega)
  have hfb:=fun (h:¬ Q[j].el=e)=>hJ (i,j+1,Q) ⟨g1,by simp only; omega,by simp only; omega,by simp only; rw [g4,hf1,if_neg h,List.append_nil],by simp only; exact hd1⟩ (by simp only; omega)
  simp only at hfa hfb
  rw [← hQi] at hfa
  have hil:i < (Q.map lookA).length:=by simp; omega
  have hfz:(flat (Q.map lookA)).all Av.frozen=true:=lookA_frz _
  have hc:=fun U=>smk1_ct e Q[j] (T++U) ke (hke2 U)
  have hlf:lookA Q[j]=lookA Q[j]:=rfl
  have hfz2:(flat ((Q.map lookA).set i (lookA Q[j]))).all Av.frozen=true:=by rw [hQi]; exact lookA_frz _
  clear hJ htk hdt hd1 hf1 hQi g4 g5 hQj
  generalize Q[j]=y at *
  generalize Q[i]=yi at *
  generalize Q.map lookA=M at *
  have hlow:∀ M':List AV,(flat M').all Av.frozen=true→[Blk.arr 4 M'].all (lowB (T.length+[Blk.arr 4 M'].length))=true:=fun M' h=>by
   simp only [List.all_cons,List.all_nil,Bool.and_true]
   exact low_all h
  cases hd:decide (y.el=e) with
  | true =>
   have hfin:=hfa (by simpa using hd)
   rw [hd] at hc
   simp only [lookA] at hc p1 hfin
   refine goB (N:=42) Tryz.ntmps31 300 ?_
   simp only [go_sem,dj,p1,gt_at0,st_at0,gt_at,st_at,List.set_cons_succ,List.set_cons_zero,hml,List.append_assoc,List.cons_append,List.nil_append]
   repeat refine And.intro (by first | omega | rfl | kernel_rfl | (simp; done) | (simp; omega)) ?_
   refine acall (hc _) (N:=42) Tryz.ntmps31 rfl ?_
   rintro _ _ ⟨rfl,rfl⟩
   refine goB (N:=42) Tryz.ntmps31 300 ?_
   simp only [go_sem,p1,p2,gt_at0,st_at0,gt_at,st_at,List.set_cons_succ,List.set_cons_zero,hml,List.append_assoc,List.cons_append,List.nil_append]
   repeat refine And.intro (by first | omega | rfl | kernel_rfl | (simp; done) | (simp; omega)) ?_
   rw [show (j:Int)+1=((j+1:Nat):Int) by omega]
   rw [show (i:Int)+1=((i+1:Nat):Int) by omega]
   refine ainv hfin (shift_lowF T [_] [_] rfl (by simp) hT (hlow _ hfz2) ?_)
   simp only [wkl,lowV,lowC,Av.get,go_sem]
   repeat (first | rfl | (simp; done) | (simp; omega) | refine And.intro (by first | rfl | (simp; done) | (simp; omega)) ?_)
  | false =>
   have hfin:=hfb (by simpa using hd)
   rw [hd] at hc
   simp only [lookA] at hc p1
   refine goB (N:=42) Tryz.ntmps31 300 ?_
   simp only [go_sem,dj,p1,gt_at0,st_at0,gt_at,st_at,List.set_cons_succ,List.set_cons_zero,hml,List.append_assoc,List.cons_append,List.nil_append]
   repeat refine And.intro (by first | omega | rfl | kernel_rfl | (simp; done) | (simp; omega)) ?_
   refine acall (hc _) (N:=42) Tryz.ntmps31 rfl ?_
   rintro _ _ ⟨rfl,rfl⟩
   refine goB (N:=42) Tryz.ntmps31 300 ?_
   simp only [go_sem,p1,p2,gt_at0,st_at0,gt_at,st_at,List.set_cons_succ,List.set_cons_zero,hml,List.append_assoc,List.cons_append,List.nil_append]
   repeat refine And.intro (by first | omega | rfl | kernel_rfl | (simp; done) | (simp; omega)) ?_
   rw [show (j:Int)+1=((j+1:Nat):Int) by omega]
   refine ainv hfin (shift_lowF T [_] [_] rfl (by simp) hT (hlow _ hfz) ?_)
   simp only [wkl,lowV,lowC,Av.get,go_sem]
   repeat (first | rfl | (simp; done) | (simp; omega) | refine And.intro (by first | rfl | (simp; done) | (simp; omega)) ?_)
 have dj:decide ((j:Int) < (l.length:Int))=false:=by simp; omega
 refine goB (N:=42) Tryz.ntmps31 300 ?_
 simp only [go_sem,dj,gt_at0,st_at0,gt_at,hml]
 have hij:j=l.length:=by omega
 subst hij
 rw [List.take_of_length_le (Nat.le_refl _)] at g4
 have hfl:(l.filter fun y=>decide (y.el=e)).length=i:=by rw [← g4,List.length_take]; omega
 have hcat:(Q.map lookA).take i=(l.filter fun y=>decide (y.el=e)).map lookA:=by rw [← g4,List.map_take]
 have hdl:(Q.map lookA).drop (i+((l.length:Int) - (i:Int)).toNat)=[]:=List.drop_eq_nil_of_le (by simp; omega)
 have e1:((i:Int) - 0).toNat=i:=by omega
 repeat refine And.intro (by first | omega | (simp; done) | (simp; omega)) ?_
 refine aret [4] rfl ⟨List.replicate ((l.length:Int) - (i:Int)).toNat (.agg [.int .i64 0,.str [],.str [],.str []]),?_,by simp only [List.length_append,List.length_map,hfl,List.length_replicate]; omega,?_,?_⟩
 ·generalize ((l.length:Int) - (i:Int)).toNat=m
  induction m with
  | zero=>rfl
  | succ m ih =>
   rw [List.replicate_succ]
   simpa [flat,cellsOf,Av.frozen] using ih
 ·simp only [resV,Av.get,beq_self_eq_true,cond_true,hfl,e1,Nat.sub_zero]
 ·simp only [List.length_replicate,hdl,hcat,List.append_nil]
theorem story_pch {S:Std} (hS:LibOk S) (x:Sr) (hx:StoryOk x) (js:List Jm) (hj:JumpsOk x js):PcH Tryz.prog S 30 [srA x,.fz 4 (js.map jmA)] (· = .tup [.fz 1 ((ordL x js).map inA),.int .i64 0]):=by
 have h1:=checkJumps_pch hS x hx js hj
 have h3:=days_pch hS x hx js hj
 have h5:=ordX_pc hx hj
 simp only [srA] at h1 h3 ⊢
 refine pch_intro (cth_intro Tryz.func30 rfl Tryz.ntmps30 hB30 (by simp) fun h ρ w hg=>goB (N:=17) Tryz.ntmps30 300 ?_)
 simp only [go_sem]
 repeat refine And.intro (by first | omega | rfl | kernel_rfl | (simp; done) | (simp; omega)) ?_
 refine pcallH1 hg (h1) rfl (N:=17) Tryz.ntmps30 rfl (goB (N:=17) Tryz.ntmps30 300 ?_)
 simp only [go_sem]
 refine pcallH1 hg (h3) rfl (N:=17) Tryz.ntmps30 rfl (goB (N:=17) Tryz.ntmps30 300 ?_)
 simp only [go_sem]
 refine pcall1 (h5) rfl (N:=17) Tryz.ntmps30 rfl (goB (N:=17) Tryz.ntmps30 300 ?_)
 simp only [go_sem]
 exact aret [4,5] rfl ⟨rfl,rfl⟩
def ownL (x:Sr) (js:List Jm) (fs:List Fa) (e:El) (j:Nat):List Lk:=sortedLk (fltL e (esAt (kfN x) fs (ordL x js) (j+1)))
theorem ownL_eq (x:Sr) (js:List Jm) (fs:List Fa) (e:El) (hn:(ordL x js).Nodup) (j:Nat) (hj:j < (ordL x js).length):(looksL x js fs (ordL x js)[j]).filter (fun y=>decide (y.el=e))=ownL x js fs e j:=by
 unfold looksL ownL looksAt
 rw [hn.idxOf_getElem j hj,sortedLk_flt e (esAt_uniq _ _ _ _)]
theorem stgTo_succ (x:Sr) (js:List Jm) (fs:List Fa) (e:El) (j:Nat):stgTo x js fs e (j+1)=stg1 (stgTo x js fs e j) (noAt x ((ordL x js).getD j 0)) (ownL x js fs e j):=rfl
theorem stgTo_ext (x:Sr) (js:List Jm) (fs:List Fa) (e:El) (j:Nat):∀ d,∃ M:List Stg,(stgTo x js fs e (j+d)).1=(stgTo x js fs e j).1++M∧∀ s ∈ M,∃ t,j ≤ t∧t < j+d∧s.no=noAt x ((ordL x js).getD t 0)
 | 0=>⟨[],by simp,by simp⟩
 | d+1=>by
  obtain ⟨M,h1,h2⟩:=stgTo_ext x js fs e j d
  rw [← Nat.add_assoc,stgTo_succ]
  unfold stg1
  simp only
  split
  ·exact ⟨M,h1,fun s hs=>by
    obtain ⟨t,a,b,c⟩:=h2 s hs
    exact ⟨t,a,by omega,c⟩⟩
  ·refine ⟨M++[⟨noAt x ((ordL x js).getD (j+d) 0),ownL x js fs e (j+d)⟩],by rw [h1,List.append_assoc],fun s hs=>?_⟩
   rcases List.mem_append.1 hs with hs | hs
   ·obtain ⟨t,a,b,c⟩:=h2 s hs
    exact ⟨t,a,by omega,c⟩
   ·rw [List.mem_singleton.1 hs]
    exact ⟨j+d,by omega,by omega,rfl⟩
theorem stg_same {x:Sr} (hx:StoryOk x) {js:List Jm} (hj:JumpsOk x js) (fs:List Fa) (e:El) (j:Nat) (hjl:j < (ordL x js).length) (ho:ownL x js fs e j=(stgTo x js fs e j).2) :
  (stgTo x js fs e (j+1)).1=(stgTo x js fs e j).1∧∀ (h:(stgTo x js fs e j).1.length < (stagesL x js fs e).length),(stagesL x js fs e)[(stgTo x js fs e j).1.length].no ≠ noAt x ((ordL x js).getD j 0):=by
 have hs:(stgTo x js fs e (j+1)).1=(stgTo x js fs e j).1:=by
  rw [stgTo_succ]
  unfold stg1
  simp only
  rw [if_pos ho]
 refine ⟨hs,fun h=>?_⟩
 obtain ⟨M,h1,h2⟩:=stgTo_ext x js fs e (j+1) ((ordL x js).length - (j+1))
 rw [show j+1+((ordL x js).length - (j+1))=(ordL x js).length by omega,hs] at h1
 have hS:stagesL x js fs e=(stgTo x js fs e j).1++M:=h1
 simp only [hS] at h ⊢
 rw [List.getElem_append_right (Nat.le_refl _)]
 obtain ⟨t,a,b,c⟩:=h2 _ (List.getElem_mem (l:=M) (n:=(stgTo x js fs e j).1.length - (stgTo x js fs e j).1.length) (by simp at h ⊢; omega))
 rw [c]
 have hperm:=ordL_perm hx hj
 have hnd:(ordL x js).Nodup:=hperm.symm.nodup List.nodup_range
 have htl:t < (ordL x js).length:=by omega
 have hi:∀ k (hk:k < (ordL x js).length),(ordL x js)[k] < x.scenes.length:=fun k hk=>List.mem_range.1 (hperm.mem_iff.1 (List.getElem_mem hk))
 rw [List.getD_eq_getElem?_getD,List.getD_eq_getElem?_getD,List.getElem?_eq_getElem hjl,List.getElem?_eq_getElem htl,Option.getD_some,Option.getD_some,noAt_eq (hi _ _),noAt_eq (hi _ _)]
 intro he
 exact List.pairwise_iff_getElem.1 hnd j t hjl htl (by omega) (hx.inj (hi _ _) (hi _ _) he).symm
theorem stg_new {x:Sr} {js:List Jm} (fs:List Fa) (e:El) (j:Nat) (hjl:j < (ordL x js).length) (ho:¬ ownL x js fs e j=(stgTo x js fs e j).2) :
  (stgTo x js fs e (j+1)).1=(stgTo x js fs e j).1++[⟨noAt x ((ordL x js).getD j 0),ownL x js fs e j⟩]∧(stagesL x js fs e)[(stgTo x js fs e j).1.length]? = some ⟨noAt x ((ordL x js).getD j 0),ownL x js fs e j⟩:=by
 have hs:(stgTo x js fs e (j+1)).1=(stgTo x js fs e j).1++[⟨noAt x ((ordL x js).getD j 0),ownL x js fs e j⟩]:=by
  rw [stgTo_succ]
  unfold stg1
  simp only
  rw [if_neg ho]
 refine ⟨hs,?_⟩
 obtain ⟨M,h1,h2⟩:=stgTo_ext x js fs e (j+1) ((ordL x js).length - (j+1))
 rw [show j+1+((ordL x js).length - (j+1))=(ordL x js).length by omega,hs] at h1
 have hS:stagesL x js fs e=((stgTo x js fs e j).1++[⟨noAt x ((ordL x js).getD j 0),ownL x js fs e j⟩])++M:=h1
 rw [hS]
 simp
theorem stg_now (x:Sr) (js:List Jm) (fs:List Fa) (e:El) (j:Nat):(stgTo x js fs e (j+1)).2=ownL x js fs e j:=by
 rw [stgTo_succ]
 rfl
theorem stgA_get (l:List Stg) (i:Nat) (h:i < l.length):(l.map stgA).getD i .any=.agg [.str l[i].no,.fz 4 (l[i].looks.map lookA)]:=by simp [List.getD,h,stgA]
set_option maxHeartbeats 8000000 in
theorem stagesMake_pch {S:Std} (hS:LibR S) (L:List Int):PcH Tryz.prog S 6 [.fz 1 (L.map (.int .i64))] (· = .bool true):=by
 obtain ⟨⟨hx,hj,hf⟩,k1,k2⟩:=rightF_ok L 0
 have hr:=rightStory_mch hS L 0 (by omega) (by omega)
 have ht:=tagsTrue_pch hS.ok
 generalize rightF L 0=z at *
 obtain ⟨x,js,fs,k'⟩:=z
 simp only at hx hj hf k1 k2 hr
 have hxl:=hx.len
 have hfl:=hf.len
 have hel:=elX_mc L k' (by omega) (by omega)
 have hed:=elF_dr L k'
 have hek:=elF_ok L k'
 obtain ⟨e,k3,hE⟩:∃ e k3,elF L k'=(e,k3):=⟨_,_,rfl⟩
 rw [hE] at hel hed hek
 simp only at hel hed hek
 have her:=elR_pch hS e (by omega)
 have hsg:=fun h=>stages_pch hS.ok x hx js hj fs hf e (elT_pch hS.ok e h)
 have hst:=story_pch hS.ok x hx js hj
 simp only [srA,elA] at hr hsg hst hel her
 refine pch_intro (cth_intro Tryz.func6 rfl Tryz.ntmps6 hB6 (by simp) fun h ρ w hg=>goF (N:=115) Tryz.ntmps6 300 ?_)
 simp only [go_sem]
 refine mcallH hg (agg:=str L 0) hr rfl rfl (id:=0) rfl (N:=115) Tryz.ntmps6 rfl ?_
 rintro _ _ ⟨rfl,rfl⟩
 refine goF (N:=115) Tryz.ntmps6 300 ?_
 simp only [go_sem,List.length_map]
 refine mcall (agg:=str L k') hel rfl rfl (id:=0) rfl (N:=115) Tryz.ntmps6 rfl ?_
 rintro _ _ ⟨rfl,rfl,_,_⟩
 refine goF (N:=115) Tryz.ntmps6 300 ?_
 simp only [go_sem]
 by_cases h0:elR e=0
 rotate_left
 ·have hd0:(elR e != 0)=true:=by simpa using h0
  refine pcallH1 hg (her) rfl (N:=115) Tryz.ntmps6 rfl (goF (N:=115) Tryz.ntmps6 300 ?_)
  simp only [go_sem,hd0]
  refine pcallH1 hg (ht) rfl (N:=115) Tryz.ntmps6 rfl (goF (N:=115) Tryz.ntmps6 300 ?_)
  simp only [go_sem]
  exact aret [2] rfl ⟨rfl,rfl⟩
 have hsg:=hsg (elT_of hed h0)
 rw [h0] at her
 refine pcallH1 hg (her) rfl (N:=115) Tryz.ntmps6 rfl (goF (N:=115) Tryz.ntmps6 300 ?_)
 simp only [go_sem]
 refine pcallH1 hg (hsg) rfl (N:=115) Tryz.ntmps6 rfl (goF (N:=115) Tryz.ntmps6 300 ?_)
 simp only [go_sem]
 refine pcallH1 hg (hst) rfl (N:=115) Tryz.ntmps6 rfl (goF (N:=115) Tryz.ntmps6 300 ?_)
 simp only [go_sem]
 have hol:(ordL x js).length=x.scenes.length:=by rw [(ordL_perm hx hj).length_eq,List.length_range]
 have hnd:(ordL x js).Nodup:=(ordL_perm hx hj).symm.nodup List.nodup_range
 have hio:∀ k (hk:k < (ordL x js).length),(ordL x js)[k] < x.scenes.length:=fun k hk=>List.mem_range.1 ((ordL_perm hx hj).mem_iff.1 (List.getElem_mem hk))
 have hzl:=fun j=>(stgTo_len x js fs e hnd (by omega) j)
 have hzn:=hzl (ordL x js).length
 have hSl:(stagesL x js fs e).length ≤ 5:=by
  have:=hzn.1
  unfold stagesL
  omega
 refine aloop (ι:=Nat) (fun j=>(ordL x js).length - j) (fun j=>[(57,.int .i64 j),(56,.int .i64 (ordL x js).length),(55,.fz 1 ((ordL x js).map inA)),(13,.int .i64 (stgTo x js fs e j).1.length),(12,.fz 4 ((stgTo x js fs e j).2.map lookA)),(8,.fz 2 ((stagesL x js fs e).map stgA)),(7,.ptr 2 1 0 0),(6,.fz 5 (fs.map faA)),(5,.fz 4 (js.map jmA)),(4,.ptr 1 1 0 0)])
  (fun _=>[.arr 2 [str L k3],.arr 2 [.agg [.str x.title,.fz 5 (x.scenes.map scA)]],.arr 2 [.agg [.int .i64 e.kind,.str e.name]]]) (fun j=>j ≤ (ordL x js).length) 0 (by simp) ?_ ?_
 ·refine Shift.trans (Shift.nilfz 12 4 rfl) (Shift.weakS ?_ rfl)
  simp only [wk,go_sem,List.length_map]
  exact ⟨rfl,rfl⟩
 intro j g1 J hJ
 by_cases gj:j < (ordL x js).length
 ·have dj:decide ((j:Int) < ((ordL x js).length:Int))=true:=by simp; omega
  have hfin:=hJ (j+1) (by omega) (by omega)
  have p1:=inA_get (ordL x js) j gj
  have hq:=hio j gj
  have p2:=scA_get x.scenes (ordL x js)[j] hq
  have hno:=noAt_eq hq
  have hgd:(ordL x js).getD j 0=(ordL x js)[j]:=by simp [List.getD,gj]
  have hown:=ownL_eq x js fs e hnd j gj
  have hlk:=fun s=>looksN_cth hS.ok x hx js hj fs hf (ordL x js)[j] hq s
  have hll:=looksL_len hx hj hf (ordL x js)[j]
  have hlu:=looksAt_uniq x js fs (ordL x js)[j]
  have hnow:=stg_now x js fs e j
  have hsame:=stg_same hx hj fs e j gj
  have hnew:=stg_new fs e j gj
  rw [hgd] at hsame hnew
  obtain ⟨hzl1,hzl2⟩:=hzl j
  have hol2:(ownL x js fs e j).length ≤ 12:=by rw [← hown]; exact Nat.le_trans (List.length_filter_le _ _) (by omega)
  have heq:=eqLk_pc (ownL x js fs e j) (ownL x js fs e j) (by omega) (by omega)
  rw [decide_eq_true rfl] at heq
  rw [hnow] at hfin
  unfold looksL at hll hown
  simp only [srA] at hlk
  rw [← hno] at hlk p2
  clear hJ hzl hzn
  generalize ownL x js fs e j=own at *
  generalize (ordL x js)[j]=q at *
  generalize stgTo x js fs e j=zz at *
  obtain ⟨Z,Y⟩:=zz
  simp only at hzl1 hzl2 hsame hnew ⊢
  obtain ⟨n',hn'⟩:∃ n',n'=(stgTo x js fs e (j+1)).1.length:=⟨_,rfl⟩
  rw [← hn'] at hfin
  refine goF (N:=115) Tryz.ntmps6 38 ?_
  simp only [go_sem,dj,p1,p2,List.length_map]
  repeat refine And.intro (by first | omega | rfl | kernel_rfl | exact .inl rfl | exact .inl trivial | (simp; done) | (simp; omega)) ?_
  refine acut (ι:=Unit) (fun _=>[(16,.str (noAt x q)),(57,.int .i64 j),(56,.int .i64 (ordL x js).length),(55,.fz 1 ((ordL x js).map inA)),(13,.int .i64 n'),(12,.fz 4 (own.map lookA)),(8,.fz 2 ((stagesL x js fs e).map stgA)),(7,.ptr 2 1 0 0),(6,.fz 5 (fs.map faA)),(5,.fz 4 (js.map jmA)),(4,.ptr 1 1 0 0)]) (fun _=>[.arr 2 [str L k3],.arr 2 [.agg [.str x.title,.fz 5 (x.scenes.map scA)]],.arr 2 [.agg [.int .i64 e.kind,.str e.name]]]) (fun _=>True) ?_ ?_
  ·intro J2 hJ2
   have hfin2:=hJ2 () trivial
   clear hfin hJ2 hlk p1 p2
   by_cases ho:own=Y
   ·obtain ⟨s1,s2⟩:=hsame ho
    rw [s1] at hn'
    by_cases hlt:Z.length < (stagesL x js fs e).length
    ·have s2:=s2 hlt
     have dl:decide ((Z.length:Int) < ((stagesL x js fs e).length:Int))=true:=by simp; omega
     have p3:=stgA_get (stagesL x js fs e) Z.length hlt
     have hb:((stagesL x js fs e)[Z.length].no == noAt x q)=false:=by simpa using s2
     generalize (stagesL x js fs e)[Z.length]=y at *
     clear hsame hnew
     subst ho
     subst hn'
     refine goF (N:=115) Tryz.ntmps6 300 ?_
     simp only [go_sem,dl,p3,hb,List.length_map]
     repeat refine And.intro (by first | omega | rfl | kernel_rfl | exact .inl rfl | exact .inl trivial | (simp; done) | (simp; omega)) ?_
     refine ainv hfin2 (Shift.weakS ?_ rfl)
     simp only [wk,go_sem]
    ·have dl:decide ((Z.length:Int) < ((stagesL x js fs e).length:Int))=false:=by simp; omega
     clear hsame hnew
     subst ho
     subst hn'
     refine goF (N:=115) Tryz.ntmps6 300 ?_
     simp only [go_sem,dl,List.length_map]
     repeat refine And.intro (by first | omega | rfl | kernel_rfl | exact .inl rfl | exact .inl trivial | (simp; done) | (simp; omega)) ?_
     refine ainv hfin2 (Shift.weakS ?_ rfl)
     simp only [wk,go_sem]
   ·obtain ⟨s1,s2⟩:=hnew ho
    obtain ⟨hlt,s2⟩:=List.getElem?_eq_some_iff.1 s2
    rw [s1] at hn'
    have dl:decide ((Z.length:Int) < ((stagesL x js fs e).length:Int))=true:=by simp; omega
    have p3:=stgA_get (stagesL x js fs e) Z.length hlt
    rw [s2] at p3
    simp only at p3
    have hn2:n'=Z.length+1:=by rw [hn']; simp
    clear hsame hnew hn'
    subst hn2
    refine goF (N:=115) Tryz.ntmps6 300 ?_
    simp only [go_sem,dl,p3,beq_self_eq_true,List.length_map]
    repeat refine And.intro (by first | omega | rfl | kernel_rfl | exact .inl rfl | exact .inl trivial | (simp; done) | (simp; omega)) ?_
    rw [show (Z.length:Int)+1=((Z.length+1:Nat):Int) by omega]
    refine ainv hfin2 (Shift.weakS ?_ rfl)
    simp only [wk,go_sem]
  rintro _ _
  clear hsame hnew hn' p1 p2
  refine goF (N:=115) Tryz.ntmps6 300 ?_
  simp only [go_sem]
  repeat refine And.intro (by first | omega | rfl | kernel_rfl | exact .inl rfl | exact .inl trivial | (simp; done) | (simp; omega)) ?_
  refine acallH hg (hlk _) (N:=115) Tryz.ntmps6 rfl ?_
  rintro _ _ ⟨l,hl,rfl,rfl⟩
  have hls:=looksOf_eq hlu hl
  rw [← hls] at hll hown
  clear hl hls hlu
  simp only [List.cons_append,List.nil_append,List.length_cons,List.length_nil,Nat.zero_add]
  refine goF (N:=115) Tryz.ntmps6 11 ?_
  simp only [go_sem]
  refine AWp.shift (Shift.trans (Shift.freeze 17 (id:=3) (l:=l.map lookA) rfl rfl (by simp) (Nat.le_refl _) (lookA_frz _)) (Shift.trans (Shift.low 3 (by simp) (by simp) (e':=[(17,.fz 4 (l.map lookA)),(18,.int .i64 0),(16,.str (noAt x q)),(57,.int .i64 j),(56,.int .i64 (ordL x js).length),(55,.fz 1 ((ordL x js).map inA)),(13,.int .i64 n'),(12,.fz 4 (own.map lookA)),(8,.fz 2 ((stagesL x js fs e).map stgA)),(7,.ptr 2 1 0 0),(6,.fz 5 (fs.map faA)),(5,.fz 4 (js.map jmA)),(4,.ptr 1 1 0 0)]) rfl ?_) (Shift.weakS (e':=[(17,.fz 4 (l.map lookA)),(18,.int .i64 0),(16,.str (noAt x q)),(57,.int .i64 j),(56,.int .i64 (ordL x js).length),(55,.fz 1 ((ordL x js).map inA)),(13,.int .i64 n'),(12,.fz 4 (own.map lookA)),(8,.fz 2 ((stagesL x js fs e).map stgA)),(7,.ptr 2 1 0 0),(6,.fz 5 (fs.map faA)),(5,.fz 4 (js.map jmA)),(4,.ptr 1 1 0 0)]) (s':=[.arr 2 [str L k3],.arr 2 [.agg [.str x.title,.fz 5 (x.scenes.map scA)]],.arr 2 [.agg [.int .i64 e.kind,.str e.name]]]) ?_ rfl))) ?_
  ·simp only [wkl,lowV,lowC,Av.get,go_sem]
   rw [List.take_of_length_le (by simp)]
  ·simp only [wk,go_sem]
  refine goF (N:=115) Tryz.ntmps6 300 ?_
  simp only [go_sem]
  refine acall (cloneL_ct _ l (by omega)) (N:=115) Tryz.ntmps6 rfl ?_
  rintro _ _ ⟨rfl,rfl⟩
  simp only [List.cons_append,List.nil_append,List.length_cons,List.length_nil,Nat.zero_add]
  refine goF (N:=115) Tryz.ntmps6 300 ?_
  simp only [go_sem]
  repeat refine And.intro (by first | omega | rfl | kernel_rfl | exact .inl rfl | exact .inl trivial | (simp; done) | (simp; omega)) ?_
  have hdl:=delL_ct e l (by omega) [.arr 2 [str L k3],.arr 2 [.agg [.str x.title,.fz 5 (x.scenes.map scA)]],.arr 2 [.agg [.int .i64 e.kind,.str e.name]]] 2 rfl rfl
  simp only [List.cons_append,List.nil_append,List.length_cons,List.length_nil,Nat.zero_add] at hdl
  rw [hown] at hdl
  refine acall hdl (N:=115) Tryz.ntmps6 rfl ?_
  rintro _ _ ⟨Z2,hZf,hZl,rfl,rfl⟩
  have hff:(flat (own.map lookA++Z2)).all Av.frozen=true:=by rw [flat_append,List.all_append,lookA_frz,hZf]; rfl
  refine goF (N:=115) Tryz.ntmps6 3 ?_
  simp only [go_sem]
  refine AWp.shift (Shift.trans (Shift.freeze 19 (id:=3) (l:=own.map lookA++Z2) rfl rfl (by rw [hZl]; simp) (by simp at hZl; omega) hff) (Shift.trans (Shift.low 3 (by simp) (by simp) (e':=[(19,.fz 4 (own.map lookA)),(18,.int .i64 0),(16,.str (noAt x q)),(57,.int .i64 j),(56,.int .i64 (ordL x js).length),(55,.fz 1 ((ordL x js).map inA)),(13,.int .i64 n'),(12,.fz 4 (own.map lookA)),(8,.fz 2 ((stagesL x js fs e).map stgA)),(7,.ptr 2 1 0 0),(6,.fz 5 (fs.map faA)),(5,.fz 4 (js.map jmA)),(4,.ptr 1 1 0 0)]) rfl ?_) (Shift.weakS (e':=[(19,.fz 4 (own.map lookA)),(18,.int .i64 0),(16,.str (noAt x q)),(57,.int .i64 j),(56,.int .i64 (ordL x js).length),(55,.fz 1 ((ordL x js).map inA)),(13,.int .i64 n'),(12,.fz 4 (own.map lookA)),(8,.fz 2 ((stagesL x js fs e).map stgA)),(7,.ptr 2 1 0 0),(6,.fz 5 (fs.map faA)),(5,.fz 4 (js.map jmA)),(4,.ptr 1 1 0 0)]) (s':=[.arr 2 [str L k3],.arr 2 [.agg [.str x.title,.fz 5 (x.scenes.map scA)]],.arr 2 [.agg [.int .i64 e.kind,.str e.name]]]) ?_ rfl))) ?_
  ·have hto:(own.map lookA++Z2).take own.length=own.map lookA:=List.take_left' (by simp)
   simp only [wkl,lowV,lowC,Av.get,go_sem,List.drop_zero,hto]
  ·simp only [wk,go_sem]
  refine goF (N:=115) Tryz.ntmps6 300 ?_
  simp only [go_sem]
  refine pcall1 (heq) rfl (N:=115) Tryz.ntmps6 rfl (goF (N:=115) Tryz.ntmps6 300 ?_)
  simp only [go_sem]
  repeat refine And.intro (by first | omega | rfl | kernel_rfl | exact .inl rfl | exact .inl trivial | (simp; done) | (simp; omega)) ?_
  rw [show (j:Int)+1=((j+1:Nat):Int) by omega]
  refine ainv hfin (Shift.weakS ?_ rfl)
  simp only [wk,go_sem]
 ·have dj:decide ((j:Int) < ((ordL x js).length:Int))=false:=by simp; omega
  have hje:j=(ordL x js).length:=by omega
  clear hJ
  subst hje
  have hSe:(stgTo x js fs e (ordL x js).length).1.length=(stagesL x js fs e).length:=rfl
  rw [hSe]
  refine goF (N:=115) Tryz.ntmps6 300 ?_
  simp only [go_sem,dj]
  refine pcallH1 hg (ht) rfl (N:=115) Tryz.ntmps6 rfl (goF (N:=115) Tryz.ntmps6 300 ?_)
  simp only [go_sem,List.length_map]
  exact aret [2] rfl ⟨rfl,rfl⟩
end Go.Proofs.YtnfkjpihaficbaaGreatDoor
