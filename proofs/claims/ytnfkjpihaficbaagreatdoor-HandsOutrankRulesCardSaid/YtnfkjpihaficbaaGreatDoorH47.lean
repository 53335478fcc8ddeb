/- maps.Values, slices.AppendSeq, Collect, SortedFunc at needs. Own work of this seat. -/
import Derived.Test.YtnfkjpihaficbaaGreatDoorH46
set_option maxRecDepth 100000
set_option linter.unusedSimpArgs false
set_option linter.unusedVariables false
namespace Go.Proofs.YtnfkjpihaficbaaGreatDoor
open Go Go.Av Go.RowKit
theorem valuesFn_ct (mid:Nat) (s:List Blk):Ct Tryz.prog 53 [.mp mid] s (fun r s'=>r=.fn (.func 110) [.ptr s.length 1 0 0]∧s'=s++[.arr 1 [.mp mid]]):=by
 refine ct_intro Tryz.func53 rfl Tryz.ntmps53 hB53 (by simp) fun h ρ w=>goF (N:=4) Tryz.ntmps53 300 ?_
 simp only [go_sem]
 exact aret [2] rfl ⟨rfl,rfl⟩
theorem low_itU (mid n m:Nat) (h:mid < m) (q:Option (List Nat)):(itU mid n q).all (lowB (m+(itU mid n q).length))=true:=by
 cases q with
 | none=>rfl
 | some s =>
  simp only [itU,List.all_cons,List.all_nil,Bool.and_true,lowB,decide_eq_true_eq]
  omega
def apT (T:List Blk) (j:List AV):List Blk:=T++[.arr 1 [.sl (T.length+1) 0 j.length j.length],.arr 4 j]
theorem apT_len (T:List Blk) (j:List AV):(apT T j).length=T.length+2:=by simp [apT]
theorem apT_low {T:List Blk} (hT:T.all (lowB T.length)=true) (l:List Nd):(apT T (l.map ndA)).all (lowB (T.length+2))=true:=by
 unfold apT
 rw [List.all_append,List.all_cons,List.all_cons,List.all_nil,Bool.and_true,Bool.and_eq_true,Bool.and_eq_true]
 refine ⟨?_,?_,low_all (ndA_frz l)⟩
 ·rw [List.all_eq_true] at hT ⊢
  exact fun b hb=>low_mono (by omega) (hT b hb)
 ·simp only [lowB,flat,cellsOf,List.append_nil,List.all_cons,List.all_nil,Bool.and_true,lowC,decide_eq_true_eq]
  omega
set_option maxHeartbeats 2000000 in
theorem appendSeq_cth {S:Std} (es:NMap) (hl:es.length < 1000000) (T:List Blk) (bx mid:Nat) (hbx:T[bx]? = some (.arr 1 [.mp mid])) (hmid:T[mid]? = some (.mp (ndM es))) (hT:T.all (lowB T.length)=true) :
  CtH Tryz.prog S 158 [.raw (.slice none 0 0),.fn (.func 110) [.ptr bx 1 0 0]] T
   (fun r s'=>∃ seen,LiveAll es seen∧r=.sl (T.length+1) 0 (ndAt es seen).length (ndAt es seen).length∧s'=apT T ((ndAt es seen).map ndA)):=by
 have hml:=(List.getElem?_eq_some_iff.1 hmid).1
 have hit:=values_ita (St:=S) (apT T) (T.length+2) bx mid es (fun j=>apT_len T j) (fun j=>by
   unfold apT
   rw [List.getElem?_append_left (List.getElem?_eq_some_iff.1 hbx).1,hbx]) (fun j=>by
   unfold apT
   rw [List.getElem?_append_left hml,hmid]) (fun y hy=>by
   rw [ndAt_map es y hy]
   exact apT_low hT _)
 refine cthM_intro Tryz.func158 rfl Tryz.ntmps158 hB158 (by simp) fun h ρ w hg=>?_
 refine goFR (N:=13) Tryz.ntmps158 300 ?_
 simp only [go_sem,runR,contR,brR,step1R,resNR,stopNR,exitNR,dxk,dxkc,dbrk,↓brR_true,↓brR_false,↓dbrk_true,↓dbrk_false]
 refine AWpR.shift (Shift.cells T.length 4 (es:=1) (l:=[.raw (.slice none 0 0)]) [.sl (T++[Blk.arr 1 [.raw (.slice none 0 0)]]).length 0 0 0] gt_at0 rfl (by simp [cellsOf]) ⟨.sl,trivial⟩) ?_
 rw [List.append_assoc,st_at0]
 simp only [List.cons_append,List.nil_append,List.set_cons_zero,List.length_append,List.length_cons,List.length_nil,Nat.zero_add]
 refine arangeA (σ:=Option (List Nat)) (S:=fun j q=>apT T j++itU mid es.length q) (q0:=none) hg rfl ?_ hit (by decide) (fun j q x=>[(2,.ptr T.length 1 0 0),(5,.ptr (apT T j++itU mid es.length q).length 1 0 0)]) (fun j q x=>(apT T j++itU mid es.length q)++[.arr 4 [x]]) (fun j q x=>apT T (j++[x])++(itU mid es.length q++[.arr 4 [x]])) ?_ ?_ ?_ ?_
 ·simp only [apT,itU,List.append_nil,List.length_nil]
 ·rintro j q x c ⟨seen,i,y,h1,rfl,h3,h4,rfl⟩ hc
  refine shift_lowF (apT T (seen.map (vAt es)++[ndV y.1 y.2])) (itU mid es.length q) [_] rfl ?_ ?_ ?_ trivial
  ·rw [hc,List.length_append,apT_len,apT_len]
   exact Nat.le_refl _
  ·rw [apT_len]
   have hv:seen.map (vAt es)++[ndV y.1 y.2]=((ndAt es seen)++[(⟨y.1,y.2.1,y.2.2⟩:Nd)]).map ndA:=by
    rw [List.map_append,ndAt_map es seen h1]
    rfl
   rw [hv]
   exact apT_low hT _
  ·rw [apT_len]
   exact low_itU _ _ _ (by omega) q
 ·rintro j q x h1 ρ1 w1 L id J ⟨seen,i,y,a1,rfl,a3,a4,rfl⟩ hg hJ
  obtain ⟨⟨k1,k2⟩,v1,v2⟩:=y
  simp only [ndV,ndA] at hJ ⊢
  generalize apT T (seen.map (vAt es))++itU mid es.length q=V at *
  refine goFR (N:=13) Tryz.ntmps158 300 ?_
  simp only [go_sem,runR,contR,brR,step1R,resNR,stopNR,exitNR,dxk,dxkc,dbrk,↓brR_true,↓brR_false,↓dbrk_true,↓dbrk_false,gt_at0,st_at0,List.set_cons_zero,List.getD_cons_zero]
  repeat refine And.intro (by first | omega | rfl | kernel_rfl | exact .inl rfl | exact .inl trivial | (simp; done) | (simp; omega)) ?_
  refine ainvR hJ (Shift.weak ?_)
  simp only [wk,go_sem]
 ·rintro j q x h1 ρ1 w1 L id J ⟨seen,i,y,a1,rfl,a3,a4,rfl⟩ hg hJ
  obtain ⟨⟨k1,k2⟩,v1,v2⟩:=y
  simp only [ndV,ndA] at hJ ⊢
  have hvl:(seen.map (vAt es)).length=seen.length:=by simp
  generalize seen.map (vAt es)=j at *
  obtain ⟨U,hU⟩:∃ U,U=itU mid es.length q++[Blk.arr 4 [.agg [.int .i64 k1,.str k2,.int .i64 v1,.bool v2]]]:=⟨_,rfl⟩
  have e1:(apT T j++itU mid es.length q)++[Blk.arr 4 [.agg [.int .i64 k1,.str k2,.int .i64 v1,.bool v2]]]=T++(.arr 1 [.sl (T.length+1) 0 j.length j.length] :: .arr 4 j :: U):=by
   rw [hU,apT]
   simp
  have e2:apT T (j++[.agg [.int .i64 k1,.str k2,.int .i64 v1,.bool v2]])++(itU mid es.length q++[Blk.arr 4 [.agg [.int .i64 k1,.str k2,.int .i64 v1,.bool v2]]])=T++(.arr 1 [.sl (T.length+1) 0 (j.length+1) (j.length+1)] :: .arr 4 (j++[.agg [.int .i64 k1,.str k2,.int .i64 v1,.bool v2]]) :: U):=by
   rw [hU,apT]
   simp
  have e3:(apT T j++itU mid es.length q).length=T.length+(2+(itU mid es.length q).length):=by
   rw [List.length_append,apT_len]
   omega
  have e4:∀ d,(T++(.arr 1 [.sl (T.length+1) 0 j.length j.length] :: .arr 4 j :: U)).getD (T.length+(2+(itU mid es.length q).length)) d=.arr 4 [.agg [.int .i64 k1,.str k2,.int .i64 v1,.bool v2]]:=fun d=>by
   rw [gt_at,show 2+(itU mid es.length q).length=(itU mid es.length q).length+1+1 by omega,List.getD_cons_succ,List.getD_cons_succ,hU]
   simp [List.getD]
  rw [e1] at hJ ⊢
  rw [e2] at hJ
  rw [e3]
  clear e1 e2 e3 hU
  refine goFR (N:=13) Tryz.ntmps158 300 ?_
  simp only [go_sem,runR,contR,brR,step1R,resNR,stopNR,exitNR,dxk,dxkc,dbrk,↓brR_true,↓brR_false,↓dbrk_true,↓dbrk_false,e4,gt_at,gt_at0,st_at,st_at0,List.set_cons_zero,List.set_cons_succ,List.getD_cons_zero,List.getD_cons_succ]
  repeat refine And.intro (by first | omega | rfl | kernel_rfl | exact .inl rfl | exact .inl trivial | (simp; done) | (simp; omega)) ?_
  refine ainvR hJ (Shift.weak ?_)
  simp only [wk,go_sem]
 ·rintro _ ⟨seen,hLA,rfl⟩ D q hD
  have hsl:=hLA.2.1
  rw [ndAt_map es seen hsl]
  refine AWpR.shift (shift_lowE (e':=[(2,.ptr T.length 1 0 0)]) (apT T ((ndAt es seen).map ndA)) [] (itU mid es.length q) (by rw [List.nil_append]) (by rw [apT_len]; show T.length ≤ _; omega) (by rw [apT_len]; exact apT_low hT _) rfl (by
   rw [apT_len]
   simp only [wkl,lowV,lowC,Av.get,go_sem,List.length_nil]
   simp)) ?_
  rw [List.append_nil]
  unfold apT
  refine goFR (N:=13) Tryz.ntmps158 300 ?_
  simp only [go_sem,runR,contR,brR,step1R,resNR,stopNR,exitNR,dxk,dxkc,dbrk,↓brR_true,↓brR_false,↓dbrk_true,↓dbrk_false,gt_at,gt_at0,List.getD_cons_zero,List.getD_cons_succ]
  exact aretM (.inr rfl) hD [4] rfl ⟨seen,hLA,by simp only [resV,Av.get,Av.put,beq_self_eq_true,cond_true,List.length_map],rfl⟩
theorem collect_cth {S:Std} (es:NMap) (hl:es.length < 1000000) (T:List Blk) (bx mid:Nat) (hbx:T[bx]? = some (.arr 1 [.mp mid])) (hmid:T[mid]? = some (.mp (ndM es))) (hT:T.all (lowB T.length)=true) :
  CtH Tryz.prog S 108 [.fn (.func 110) [.ptr bx 1 0 0]] T
   (fun r s'=>∃ seen,LiveAll es seen∧r=.sl (T.length+1) 0 (ndAt es seen).length (ndAt es seen).length∧s'=apT T ((ndAt es seen).map ndA)):=by
 have h1:=appendSeq_cth (S:=S) es hl T bx mid hbx hmid hT
 refine cth_intro Tryz.func108 rfl Tryz.ntmps108 hB108 (by simp) fun h ρ w hg=>goF (N:=5) Tryz.ntmps108 300 ?_
 simp only [go_sem]
 refine acallH hg (h1) (N:=5) Tryz.ntmps108 rfl ?_
 rintro _ _ ⟨seen,a1,rfl,rfl⟩
 refine goF (N:=5) Tryz.ntmps108 300 ?_
 simp only [go_sem]
 exact aret [2] rfl ⟨seen,a1,rfl,rfl⟩
theorem sortedFunc_cth {S:Std} (es:NMap) (hu:Tuniq es) (hl:es.length < 1000000) (h12:(lvN es).length ≤ 12) (T:List Blk) (bx mid:Nat) (hbx:T[bx]? = some (.arr 1 [.mp mid])) (hmid:T[mid]? = some (.mp (ndM es))) (hT:T.all (lowB T.length)=true) :
  CtH Tryz.prog S 52 [.fn (.func 110) [.ptr bx 1 0 0],.fn (.func 54) []] T
   (fun r s'=>∃ l,NeedsOf es l∧l.length ≤ 12∧r=.sl (T.length+1) 0 l.length l.length∧s'=apT T (l.map ndA)):=by
 have h1:=collect_cth (S:=S) es hl T bx mid hbx hmid hT
 refine cth_intro Tryz.func52 rfl Tryz.ntmps52 hB52 (by simp) fun h ρ w hg=>goF (N:=12) Tryz.ntmps52 300 ?_
 simp only [go_sem]
 refine acallH hg (h1) (N:=12) Tryz.ntmps52 rfl ?_
 rintro _ _ ⟨seen,a1,rfl,rfl⟩
 have hp:=ndAt_all a1
 have hle:=hp.length_eq
 have hs:=sortNd (ndAt es seen) (apT T ((ndAt es seen).map ndA)) (T.length+1) (by rw [apT_len]; omega) (by omega)
 unfold SortedNd apT at hs
 simp only [st_at,List.set_cons_succ,List.set_cons_zero] at hs
 unfold apT
 refine goF (N:=12) Tryz.ntmps52 300 ?_
 simp only [go_sem]
 refine acall (hs) (N:=12) Tryz.ntmps52 rfl ?_
 rintro _ _ ⟨rfl,l',rfl,h2,h3⟩
 refine goF (N:=12) Tryz.ntmps52 300 ?_
 simp only [go_sem]
 have e:((ndAt es seen).map ndA).length=(l'.map ndA).length:=by simp [h2.length_eq]
 exact aret [4] rfl ⟨l',needsOf_sorted hu (h2.trans hp) h3,by rw [h2.length_eq]; omega,by simp only [resV,Av.get,Av.put,beq_self_eq_true,cond_true,h2.length_eq],by rw [e]⟩
theorem cuesN_len (ps:List Pa):∀ j,(cuesN ps j).length ≤ j
 | 0=>by simp [cuesN]
 | j+1=>by
  have ih:=cuesN_len ps j
  by_cases hj:j < ps.length
  ·rw [cuesN_step ps j hj]
   unfold cueN
   split
   ·have:=tput_len (es:=cuesN ps j) (k:=(⟨11,ps[j].text⟩:El)) (v:=((1:Int),false))
    omega
   ·omega
  ·have:cuesN ps (j+1)=cuesN ps j:=by
    unfold cuesN
    rw [List.take_of_length_le (by omega),List.take_of_length_le (by omega)]
   rw [this]
   omega
theorem getD_le {N:List NMap} {m:Nat} (h:∀ es ∈ N,es.length ≤ m) (i:Nat):(N.getD i []).length ≤ m:=getD_all (P:=fun es=>es.length ≤ m) (Nat.zero_le _) h i
theorem needM_len {x:Sr} (hp:∀ y ∈ x.scenes,y.paras.length < 100000) (rs:List Ru):∀ k,∀ es ∈ needM x rs k,es.length ≤ 100000+k
 | 0,es,he=>by
  obtain ⟨y,hy,rfl⟩:=List.mem_map.1 (show es ∈ needC x from he)
  have:=cuesN_len y.paras y.paras.length
  have:=hp y hy
  omega
 | k+1,es,he=>by
  have ih:=needM_len hp rs k
  by_cases hk:k < (mnAll rs x).length
  ·rw [needM_step x rs k hk] at he
   rcases List.mem_or_eq_of_mem_set he with he | rfl
   ·have:=ih es he
    omega
   ·have h1:=getD_le ih (mnAll rs x)[k].scene
    have h2:=tput_len (es:=(needM x rs k).getD (mnAll rs x)[k].scene []) (k:=(rs.getD (mnAll rs x)[k].rule ru00).el) (v:=(if ((tval (rs.getD (mnAll rs x)[k].rule ru00).el ((needM x rs k).getD (mnAll rs x)[k].scene [])).getD (0,false)).1 < (mnAll rs x)[k].c then (mnAll rs x)[k].c else ((tval (rs.getD (mnAll rs x)[k].rule ru00).el ((needM x rs k).getD (mnAll rs x)[k].scene [])).getD (0,false)).1,false))
    unfold mnStep
    omega
  ·have:needM x rs (k+1)=needM x rs k:=by
    unfold needM
    rw [List.take_of_length_le (by omega),List.take_of_length_le (by omega)]
   rw [this] at he
   have:=ih es he
   omega
theorem needA_len {x:Sr} (hp:∀ y ∈ x.scenes,y.paras.length < 100000) (rs:List Ru) (ts:List Tg):∀ k,∀ es ∈ needA x rs ts k,es.length ≤ 100000+(mnAll rs x).length+k
 | 0,es,he=>needM_len hp rs _ es he
 | k+1,es,he=>by
  have ih:=needA_len hp rs ts k
  by_cases hk:k < ts.length
  ·rw [needA_step x rs ts k hk] at he
   rcases List.mem_or_eq_of_mem_set he with he | rfl
   ·have:=ih es he
    omega
   ·have h1:=getD_le ih (noIx x ts[k].scene)
    have h2:=tput_len (es:=(needA x rs ts k).getD (noIx x ts[k].scene) []) (k:=ts[k].el) (v:=(ts[k].n,true))
    unfold tgStep
    split
    ·rw [tdel_len]
     omega
    ·omega
  ·have:needA x rs ts (k+1)=needA x rs ts k:=by
    unfold needA
    rw [List.take_of_length_le (by omega),List.take_of_length_le (by omega)]
   rw [this] at he
   have:=ih es he
   omega
theorem tb_app {T:List Blk} {k:Nat} {b:Blk} (h:T[k]? = some b) (U:List Blk):(T++U)[k]? = some b:=by
 rw [List.getElem?_append_left (List.getElem?_eq_some_iff.1 h).1]; exact h
theorem tb_set {T:List Blk} {k j:Nat} {b:Blk} (h:T[k]? = some b) (hj:j ≠ k) (y:Blk):(T.set j y)[k]? = some b:=by
 rw [List.getElem?_set_ne hj]; exact h
theorem tb_self {T:List Blk} {k:Nat} (h:k < T.length) (y:Blk):(T.set k y)[k]? = some y:=by
 rw [List.getElem?_set_self h]
theorem tb_lt {T:List Blk} {k:Nat} {b:Blk} (h:T[k]? = some b):k < T.length:=(List.getElem?_eq_some_iff.1 h).1
theorem tb_ne {T:List Blk} {j k:Nat} {a b:Blk} (h1:T[j]? = some a) (h2:T[k]? = some b) (h:a ≠ b):j ≠ k:=fun e=>by
 subst e
 rw [h1] at h2
 exact h (Option.some.inj h2)
def Ext (T0 T:List Blk):Prop:=∀ (k:Nat) (b:Blk),T0[k]? = some b→T[k]? = some b
theorem Ext.app {T0 T:List Blk} (h:Ext T0 T) (U:List Blk):Ext T0 (T++U):=fun k b e=>tb_app (h k b e) U
theorem Ext.set {T0 T:List Blk} (h:Ext T0 T) {j:Nat} (hj:T0.length ≤ j) (y:Blk):Ext T0 (T.set j y):=fun k b e=>tb_set (h k b e) (by have:=tb_lt e; omega) y
theorem Ext.len {T0 T:List Blk} (h:Ext T0 T):T0.length ≤ T.length:=by
 by_cases h0:T0.length=0
 ·omega
 ·have:=tb_lt (h (T0.length - 1) T0[T0.length - 1] (by rw [List.getElem?_eq_getElem]))
  omega
theorem low_more2 {T U:List Blk} (h:T.all (lowB T.length)=true) (hU:U.all (lowB (T.length+U.length))=true):(T++U).all (lowB (T++U).length)=true:=low_app h hU
def cellsN (ids:List Nat) (n:Nat):List AV:=ids.map AV.mp++List.replicate (n - ids.length) (.raw (.map none))
theorem cellsN_len {ids:List Nat} {n:Nat} (h:ids.length ≤ n):(cellsN ids n).length=n:=by simp [cellsN]; omega
theorem cellsN_at {ids:List Nat} {n i:Nat} (h:i < ids.length):(cellsN ids n).getD i .any=.mp ids[i]:=by
 unfold cellsN
 rw [List.getD_eq_getElem?_getD,List.getElem?_append_left (by simpa using h)]
 simp [h]
theorem cellsN_nil {ids:List Nat} {n:Nat} (h:ids.length < n):(cellsN ids n).getD ids.length .any=.raw (.map none):=by
 unfold cellsN
 obtain ⟨m,hm⟩:∃ m,n - ids.length=m+1:=⟨n - ids.length - 1,by omega⟩
 rw [List.getD_eq_getElem?_getD,List.getElem?_append_right (by simp),List.length_map,Nat.sub_self,hm]
 simp [List.replicate_succ]
theorem set_gt {T U:List Blk} {b:Nat} {X d:Blk}:(T.set b X++U).getD T.length d=U.getD 0 d:=by
 have h:=gt_at0 (T:=T.set b X) (U:=U) (d:=d)
 rwa [List.length_set] at h
theorem cellsN_push {ids:List Nat} {n:Nat} (h:ids.length < n) (v:Nat):(cellsN ids n).set ids.length (.mp v)=cellsN (ids++[v]) n:=by
 unfold cellsN
 rw [List.set_append_right _ _ (by simp),List.length_map,Nat.sub_self]
 obtain ⟨m,hm⟩:∃ m,n - ids.length=m+1:=⟨n - ids.length - 1,by omega⟩
 rw [hm,List.length_append,List.length_singleton,show n - (ids.length+1)=m by omega]
 simp [List.replicate_succ]
theorem low_cellsN {m:Nat} {ids:List Nat} (h:∀ id ∈ ids,id < m) (n:Nat):lowB m (.arr 1 (cellsN ids n))=true:=by
 have key:∀ l:List AV,(∀ x ∈ l,cellsOf x=[x])→flat l=l:=by
  intro l
  induction l with
  | nil=>intro _; rfl
  | cons a l ih=>intro h; rw [flat,h a (by simp),ih fun x hx=>h x (by simp [hx])]; rfl
 simp only [lowB]
 rw [key,cellsN,List.all_append,Bool.and_eq_true]
 ·refine ⟨?_,?_⟩
  ·rw [List.all_map,List.all_eq_true]
   intro id hid
   simp only [Function.comp,lowC,decide_eq_true_eq]
   exact h id hid
  ·rw [List.all_eq_true]
   intro x hx
   rw [(List.mem_replicate.1 hx).2]
   rfl
 ·intro x hx
  unfold cellsN at hx
  rcases List.mem_append.1 hx with hx | hx
  ·obtain ⟨id,_,rfl⟩:=List.mem_map.1 hx
   rfl
  ·rw [(List.mem_replicate.1 hx).2]
   rfl
structure NI (T0 T:List Blk) (b n:Nat) (ids:List Nat) (N:List NMap):Prop where
 ext:Ext T0 T
 arr:T[b]? = some (.arr 1 (cellsN ids n))
 len:N.length=ids.length
 few:ids.length ≤ n
 nd:ids.Nodup
 newb:T0.length ≤ b
 newi:∀ id ∈ ids,T0.length ≤ id
 maps:∀ (k id:Nat),ids[k]? = some id→T[id]? = some (.mp (ndM (N.getD k [])))
 low:T.all (lowB T.length)=true
theorem NI.lt {T0 T b n ids N} (h:NI T0 T b n ids N):∀ id ∈ ids,id < T.length:=fun id hid=>by
 obtain ⟨k,hk⟩:=List.getElem?_of_mem hid
 exact tb_lt (h.maps k id hk)
theorem NI.app {T0 T b n ids N} (h:NI T0 T b n ids N) {U:List Blk} (hU:U.all (lowB (T.length+U.length))=true):NI T0 (T++U) b n ids N :=
 ⟨h.ext.app U,tb_app h.arr U,h.len,h.few,h.nd,h.newb,h.newi,fun k id e=>tb_app (h.maps k id e) U,low_more2 h.low hU⟩
theorem NI.more {T0 T b n ids N} (h:NI T0 T b n ids N) {y:Blk} (hy:∀ m,lowB m y=true):NI T0 (T++[y]) b n ids N :=
 h.app (U:=[y]) (by simp only [List.all_cons,List.all_nil,hy,Bool.and_true])
theorem NI.put {T0 T b n ids N} (h:NI T0 T b n ids N) {k id:Nat} (hk:ids[k]? = some id) (es:NMap):NI T0 (T.set id (.mp (ndM es))) b n ids (N.set k es):=by
 have hm:=List.mem_of_getElem? hk
 have hid:=tb_lt (h.maps k id hk)
 refine ⟨h.ext.set (h.newi id hm) _,tb_set h.arr (tb_ne (h.maps k id hk) h.arr (by simp)) _,by rw [List.length_set]; exact h.len,h.few,h.nd,h.newb,h.newi,fun j id2 e=>?_,low_set h.low (low_ndM _ _)⟩
 by_cases hjk:j=k
 ·subst hjk
  rw [hk] at e
  cases e
  have hjl:j < N.length:=by rw [h.len]; exact (List.getElem?_eq_some_iff.1 hk).1
  rw [tb_self hid]
  simp [List.getD,hjl]
 ·have hne:id ≠ id2:=fun e2=>by
   subst e2
   obtain ⟨h1,h2⟩:=List.getElem?_eq_some_iff.1 hk
   obtain ⟨h3,h4⟩:=List.getElem?_eq_some_iff.1 e
   have hp:=List.pairwise_iff_getElem.1 h.nd
   rcases Nat.lt_or_gt_of_ne hjk with hlt | hlt
   ·exact hp j k h3 h1 hlt (h4.trans h2.symm)
   ·exact hp k j h1 h3 hlt (h2.trans h4.symm)
  rw [tb_set (h.maps j id2 e) hne]
  have:(N.set k es).getD j []=N.getD j []:=by simp [List.getD,List.getElem?_set_ne (Ne.symm hjk)]
  rw [this]
theorem NI.other {T0 T b n ids N} (h:NI T0 T b n ids N) {o e:Nat} {l l':List AV} (ho:T[o]? = some (.arr e l)) (he:e ≠ 1) (hn:T0.length ≤ o) (hl:lowB T.length (.arr e l')=true):NI T0 (T.set o (.arr e l')) b n ids N :=
 ⟨h.ext.set hn _,tb_set h.arr (tb_ne ho h.arr (by simp [he])) _,h.len,h.few,h.nd,h.newb,h.newi,fun k id q=>tb_set (h.maps k id q) (tb_ne ho (h.maps k id q) (by simp)) _,low_set h.low hl⟩
theorem NI.push {T0 T b n ids N} (h:NI T0 T b n ids N) (hn:ids.length < n) {y:Blk} (hy:∀ m,lowB m y=true) :
  NI T0 (T.set b (.arr 1 ((cellsN ids n).set ids.length (.mp (T.length+1))))++[y,.mp []]) b n (ids++[T.length+1]) (N++[[]]):=by
 have hb:=tb_lt h.arr
 rw [cellsN_push hn]
 refine ⟨(h.ext.set h.newb _).app _,?_,by simp [h.len],by simp; omega,?_,h.newb,?_,?_,?_⟩
 ·exact tb_app (tb_self hb _) _
 ·rw [List.nodup_append]
  exact ⟨h.nd,by simp,fun a ha c hc e=>by rw [List.mem_singleton.1 hc] at e; have:=h.lt a ha; omega⟩
 ·intro id hid
  rcases List.mem_append.1 hid with hid | hid
  ·exact h.newi id hid
  ·rw [List.mem_singleton.1 hid]
   have:=h.newb
   omega
 ·intro k id e
  by_cases hk:k < ids.length
  ·rw [List.getElem?_append_left hk] at e
   have h1:=h.maps k id e
   have:(N++[[]]).getD k []=N.getD k []:=by
    rw [List.getD_eq_getElem?_getD,List.getElem?_append_left (by rw [h.len]; exact hk),List.getD_eq_getElem?_getD]
   rw [this]
   exact tb_app (tb_set h1 (tb_ne h.arr h1 (by simp)) _) _
  ·have hk2:k=ids.length:=by
    have:=(List.getElem?_eq_some_iff.1 e).1
    simp at this
    omega
   subst hk2
   rw [List.getElem?_append_right (Nat.le_refl _)] at e
   simp only [Nat.sub_self,List.getElem?_cons_zero,Option.some.injEq] at e
   subst e
   have:(N++[[]]).getD ids.length []=[]:=by
    rw [List.getD_eq_getElem?_getD,← h.len]
    simp
   rw [this,List.getElem?_append_right (by rw [List.length_set]; omega),List.length_set]
   simp [ndM]
 ·have hlen:(T.set b (.arr 1 (cellsN (ids++[T.length+1]) n))++[y,.mp []]).length=T.length+2:=by simp
  rw [hlen,List.all_append,Bool.and_eq_true]
  refine ⟨?_,?_⟩
  ·rw [List.all_eq_true]
   intro z hz
   rcases List.mem_or_eq_of_mem_set hz with hz | rfl
   ·exact low_mono (by omega) (List.all_eq_true.1 h.low z hz)
   ·refine low_cellsN (fun id hid=>?_) n
    rcases List.mem_append.1 hid with hid | hid
    ·have:=h.lt id hid; omega
    ·rw [List.mem_singleton.1 hid]; omega
  ·simp only [List.all_cons,List.all_nil,hy,Bool.and_true,Bool.true_and]
   rfl
structure Shr where
 no:List UInt8
 l:List Nd
 id:Nat
def shRow (q:Shr):AV:=.agg [.str q.no,.sl q.id 0 q.l.length q.l.length]
structure OI (T0 T:List Blk) (o:Nat) (R:List Shr):Prop where
 out:T[o]? = some (.arr 2 (R.map shRow))
 new:T0.length ≤ o
 rows:∀ q ∈ R,T0.length ≤ q.id∧T[q.id]? = some (.arr 4 (q.l.map ndA))
theorem OI.app {T0 T o R} (h:OI T0 T o R) (U:List Blk):OI T0 (T++U) o R:=⟨tb_app h.out U,h.new,fun q hq=>⟨(h.rows q hq).1,tb_app (h.rows q hq).2 U⟩⟩
theorem OI.push {T0 T o R} (h:OI T0 T o R) {q:Shr} (hn:T0.length ≤ q.id) (hq:T[q.id]? = some (.arr 4 (q.l.map ndA))):OI T0 (T.set o (.arr 2 (R.map shRow++[shRow q]))) o (R++[q]):=by
 refine ⟨by rw [tb_self (tb_lt h.out),List.map_append,List.map_cons,List.map_nil],h.new,fun p hp=>?_⟩
 rcases List.mem_append.1 hp with hp | hp
 ·exact ⟨(h.rows p hp).1,tb_set (h.rows p hp).2 (tb_ne h.out (h.rows p hp).2 (by simp)) _⟩
 ·rw [List.mem_singleton.1 hp]
  exact ⟨hn,tb_set hq (tb_ne h.out hq (by simp)) _⟩
theorem low_rows {m:Nat}:∀ {R:List Shr},(∀ q ∈ R,q.id < m)→lowB m (.arr 2 (R.map shRow))=true
 | [],_=>rfl
 | q :: R,h=>by
  have ih:=low_rows (R:=R) fun p hp=>h p (by simp [hp])
  have h1:=h q (by simp)
  simp only [lowB] at ih ⊢
  rw [List.map_cons,flat,List.all_append,ih,Bool.and_true]
  simp only [shRow,cellsOf,List.all_cons,List.all_nil,lowC,Av.frozen,Bool.and_true,Bool.true_and,decide_eq_true_eq]
  exact h1
end Go.Proofs.YtnfkjpihaficbaaGreatDoor
