/- slices.Equal at looks. Own work of this seat. -/
import Derived.Test.YtnfkjpihaficbaaGreatDoorL42
import Derived.Test.YtnfkjpihaficbaaGreatDoorL44
set_option maxRecDepth 100000
set_option linter.unusedSimpArgs false
set_option linter.unusedVariables false
namespace Go.Proofs.YtnfkjpihaficbaaGreatDoor
open Go Go.Av Go.RowKit
set_option maxHeartbeats 1000000 in
theorem eqLk_pc (a b:List Lk) (ha:a.length < 100000) (hb:b.length < 100000):Pc Tryz.prog 22 [.fz 4 (a.map lookA),.fz 4 (b.map lookA)] (· = .bool (decide (a = b))):=by
 by_cases hlen:a.length = b.length
 ·have d0:((a.length:Int) != (b.length:Int)) = false:=by simp [hlen]
  refine pc_intro (ct_intro Tryz.func22 rfl Tryz.ntmps22 hB22 (by simp) fun h ρ w=>goB (N:=26) Tryz.ntmps22 300 ?_)
  simp only [go_sem,d0,List.length_map]
  refine aloop (ι:=Nat) (fun i=>a.length - i) (fun i=>[(13,.int .i64 i),(12,.int .i64 a.length),(1,.fz 4 (b.map lookA)),(0,.fz 4 (a.map lookA))]) (fun _=>[]) (fun i=>i ≤ a.length ∧ a.take i = b.take i) 0 ⟨by simp,rfl⟩ ?_ ?_
  ·refine Shift.weak ?_
   simp only [wk,go_sem]
  ·rintro i ⟨g1,g2⟩ J hJ
   by_cases gi:i < a.length
   ·have di:decide ((i:Int) < (a.length:Int)) = true:=by simp; omega
    have gb:i < b.length:=by omega
    have h1:=lookA_get a i gi
    have h2:=lookA_get b i gb
    by_cases he:a[i] = b[i]
    ·have hfin:=hJ (i + 1) ⟨by omega,by rw [List.take_succ_eq_append_getElem gi,List.take_succ_eq_append_getElem gb,g2,he]⟩ (by omega)
     rw [he] at h1
     generalize b[i] = e at *
     refine goB (N:=26) Tryz.ntmps22 300 ?_
     simp only [go_sem,di]
     refine adraw [] mixed (by decide) (N:=26) Tryz.ntmps22 (by decide) 100 ?_
     simp only [go_sem,h1,h2,beq_self_eq_true,Bool.and_self,Bool.not_true,List.length_map]
     repeat refine And.intro (by first | omega | rfl | kernel_rfl | (simp; done) | (simp; omega)) ?_
     refine goB (N:=26) Tryz.ntmps22 300 ?_
     simp only [go_sem]
     repeat refine And.intro (by first | omega | (simp; done) | (simp; omega)) ?_
     rw [show (i:Int) + 1 = ((i + 1:Nat):Int) by omega]
     refine ainv hfin (Shift.weak ?_)
     simp only [wk,go_sem]
    ·have hne:a ≠ b:=fun h=>he (by subst h; rfl)
     have hx:((a[i].el.kind == b[i].el.kind && a[i].el.name == b[i].el.name) && (a[i].facet == b[i].facet && a[i].value == b[i].value)) = false:=by
      cases hq:((a[i].el.kind == b[i].el.kind && a[i].el.name == b[i].el.name) && (a[i].facet == b[i].facet && a[i].value == b[i].value)) with
      | false=>rfl
      | true =>
       exfalso
       apply he
       simp only [Bool.and_eq_true,beq_iff_eq] at hq
       obtain ⟨⟨q1,q2⟩,q3,q4⟩:=hq
       generalize a[i] = x at *
       generalize b[i] = y at *
       obtain ⟨⟨_,_⟩,_,_⟩:=x
       obtain ⟨⟨_,_⟩,_,_⟩:=y
       simp_all
     generalize a[i] = x at *
     generalize b[i] = y at *
     refine goB (N:=26) Tryz.ntmps22 300 ?_
     simp only [go_sem,di]
     refine adraw [] mixed (by decide) (N:=26) Tryz.ntmps22 (by decide) 100 ?_
     simp only [go_sem,h1,h2,hx,List.length_map]
     repeat refine And.intro (by first | omega | rfl | kernel_rfl | (simp; done) | (simp; omega)) ?_
     refine goB (N:=26) Tryz.ntmps22 300 ?_
     simp only [go_sem]
     exact aret [4] rfl ⟨by simp [resV,Av.get,Av.put,hne],rfl⟩
   ·have di:decide ((i:Int) < (a.length:Int)) = false:=by simp; omega
    rw [List.take_of_length_le (by omega),List.take_of_length_le (by omega)] at g2
    refine goB (N:=26) Tryz.ntmps22 300 ?_
    simp only [go_sem,di]
    exact aret [4] rfl ⟨by simp [resV,Av.get,Av.put,g2],rfl⟩
 ·have d0:((a.length:Int) != (b.length:Int)) = true:=by simp; omega
  have hne:a ≠ b:=fun h=>hlen (by rw [h])
  refine pc_intro (ct_intro Tryz.func22 rfl Tryz.ntmps22 hB22 (by simp) fun h ρ w=>goB (N:=26) Tryz.ntmps22 300 ?_)
  simp only [go_sem,d0,List.length_map]
  exact aret [4] rfl ⟨by simp [resV,Av.get,Av.put,hne],rfl⟩
theorem sameFa_iff (a b:Fa):sameFa a b = true ↔ a.scene = b.scene ∧ fkey a = fkey b:=by
 obtain ⟨a1,⟨a2,a3⟩,a4,a5⟩:=a
 obtain ⟨b1,⟨b2,b3⟩,b4,b5⟩:=b
 simp only [sameFa,fkey,Bool.and_eq_true,beq_iff_eq,decide_eq_true_eq,Prod.mk.injEq,El.mk.injEq]
 try constructor
 all_goals simp_all
theorem facts_dist {x:Sr} {fs:List Fa} (h:FactsOk x fs):FDist fs:=h.dist.imp fun {a b} hab=>by
 intro e
 have:=(sameFa_iff a b).2 e
 rw [this] at hab
 cases hab
theorem factsOk_perm {x:Sr} {fs gs:List Fa} (h:FactsOk x fs) (hp:gs.Perm fs):FactsOk x gs:=by
 refine ⟨by rw [hp.length_eq]; exact h.len,fun f hf=>h.fa f (hp.mem_iff.1 hf),fun f hf=>h.at' f (hp.mem_iff.1 hf),?_⟩
 refine hp.symm.pairwise h.dist fun {a b} hab=>?_
 cases hq:sameFa b a with
 | false=>rfl
 | true =>
  have h1:=(sameFa_iff b a).1 hq
  have:=(sameFa_iff a b).2 ⟨h1.1.symm,h1.2.symm⟩
  rw [this] at hab
  cases hab
theorem esAt_inOrder {x:Sr} (hx:StoryOk x) {fs:List Fa} (hf:FactsOk x fs) (ord:List Nat) (ho:∀ i ∈ ord,i < x.scenes.length) (j:Nat):esAt (kfN x) fs ord j = lrun (inOrder (noAt x) (ord.take j) fs):=by
 unfold esAt inOrder
 congr 1
 have:∀ l:List Nat,(∀ i ∈ l,i < x.scenes.length) → l.flatMap (factsAt (kfN x) fs) = l.flatMap fun i=>fs.filter fun f=>f.scene == noAt x i:=by
  intro l
  induction l with
  | nil=>intro _; rfl
  | cons a l ih =>
   intro h
   rw [List.flatMap_cons,List.flatMap_cons,ih fun i hi=>h i (by simp [hi])]
   congr 1
   exact filter_kfN hx hf (h a (by simp))
 exact this _ fun i hi=>ho i (List.mem_of_mem_take hi)
theorem looksAt_perm {x:Sr} (hx:StoryOk x) {js:List Jm} (hj:JumpsOk x js) {fs gs:List Fa} (hf:FactsOk x fs) (hp:gs.Perm fs) (n:Nat) (k:LKey):tval k (looksAt x js fs n) = tval k (looksAt x js gs n):=by
 have ho:∀ i ∈ ordL x js,i < x.scenes.length:=fun i hi=>List.mem_range.1 ((ordL_perm hx hj).mem_iff.1 hi)
 unfold looksAt
 rw [esAt_inOrder hx hf _ ho,esAt_inOrder hx (factsOk_perm hf hp) _ ho,lrun_val,lrun_val]
 exact looks_perm _ _ hp.symm (facts_dist hf) _
theorem sh_looks (n:Nat):∀ l:List Lk,(l.map lookA).map (shC n) = l.map lookA
 | []=>rfl
 | a :: l=>by
  rw [List.map_cons,List.map_cons,sh_looks n l]
  rfl
theorem looksN_cth {S:Std} (hS:LibOk S) (x:Sr) (hx:StoryOk x) (js:List Jm) (hj:JumpsOk x js) (fs:List Fa) (hf:FactsOk x fs) (n:Nat) (hn:n < x.scenes.length) (s:List Blk) :
  CtH Tryz.prog S 21 [srA x,.fz 4 (js.map jmA),.fz 5 (fs.map faA),.str x.scenes[n].no] s (fun r s'=>∃ l,LooksOf (looksAt x js fs n) l ∧ r = .tup [.sl s.length 0 l.length l.length,.int .i64 0] ∧ s' = s ++ [.arr 4 (l.map lookA)]) :=
 CtH.imp ((looks_cth hS x hx js hj fs hf n hn).liftN rfl (by rintro _ _ ⟨l,_,_,rfl⟩; rfl) s) (by
  rintro _ _ ⟨_,_,⟨l,hl,rfl,rfl⟩,rfl,rfl⟩
  refine ⟨l,hl,?_,?_⟩
  ·show AV.tup [.sl (0 + s.length) 0 l.length l.length,.int .i64 0] = _
   rw [Nat.zero_add]
  ·show s ++ [Blk.arr 4 ((l.map lookA).map (shC s.length))] = _
   rw [sh_looks])
def fa00:Fa:=⟨[],⟨0,[]⟩,[],[]⟩
theorem turned_perm (fs:List Fa) {o:List Nat} (ho:o.Perm (List.range fs.length)):(o.map fun k=>fs.getD k fa00).Perm fs:=by
 refine (ho.map _).trans (.of_eq ?_)
 apply List.ext_getElem
 ·simp
 ·intro i h1 h2
  simp [List.getD,h2]
theorem looksOf_len {es:LMap} (hu:Tuniq es) {l:List Lk} (h:LooksOf es l):l.length ≤ es.length:=by
 have hp:l.Perm (lvL es):=by
  rw [List.perm_ext_iff_of_nodup]
  ·intro y; rw [h.1,lvL_mem hu]
  ·exact h.2.imp fun {a b} hab e=>by subst e; exact kO.irrefl _ hab
  ·exact (lvL_keys hu).imp fun {a b} hab e=>hab (by rw [e])
 rw [hp.length_eq]
 exact List.length_filterMap_le _ _
set_option maxHeartbeats 8000000 in
theorem looksHang_pch {S:Std} (hS:LibR S) (L:List Int):PcH Tryz.prog S 4 [.fz 1 (L.map (.int .i64))] (· = .bool true):=by
 obtain ⟨⟨hx,hj,hf⟩,k1,k2⟩:=rightF_ok L 0
 have hr:=rightStory_mch hS L 0 (by omega) (by omega)
 have ht:=tagsTrue_pch hS.ok
 generalize rightF L 0 = z at *
 obtain ⟨x,js,fs,k'⟩:=z
 simp only at hx hj hf k1 k2 hr
 have hxl:=hx.len
 have hfl:=hf.len
 have ho:=order_mc L k' fs.length (by omega) (by omega) (by omega)
 have hlk:=fun gs hg s n hn=>looksN_cth hS.ok x hx js hj gs hg n hn s
 simp only [srA] at hr hlk
 refine pch_intro (cth_intro Tryz.func4 rfl Tryz.ntmps4 hB4 (by simp) fun h ρ w hg=>goF (N:=81) Tryz.ntmps4 300 ?_)
 simp only [go_sem]
 refine mcallH hg (agg:=str L 0) hr rfl rfl (id:=0) rfl (N:=81) Tryz.ntmps4 rfl ?_
 rintro _ _ ⟨rfl,rfl⟩
 refine goF (N:=81) Tryz.ntmps4 300 ?_
 simp only [go_sem,List.length_map]
 refine mcall (agg:=str L k') ho rfl rfl (id:=0) rfl (N:=81) Tryz.ntmps4 rfl ?_
 rintro _ _ ⟨o,k3,rfl,hperm,rfl,_,_⟩
 have hol:o.length = fs.length:=by rw [hperm.length_eq,List.length_range]
 refine goF (N:=81) Tryz.ntmps4 300 ?_
 simp only [go_sem,List.length_map]
 obtain ⟨G,hG⟩:∃ G,G = o.map fun k=>fs.getD k fa00:=⟨_,rfl⟩
 have hGp:G.Perm fs:=by rw [hG]; exact turned_perm fs hperm
 have hGl:G.length = o.length:=by rw [hG,List.length_map]
 refine aloop (ι:=Nat) (fun i=>o.length - i) (fun i=>[(30,.int .i64 i),(29,.int .i64 o.length),(28,.fz 1 (o.map inA)),(7,.sl 2 0 i i),(6,.fz 5 (fs.map faA)),(5,.fz 4 (js.map jmA)),(4,.ptr 1 1 0 0)])
  (fun i=>[.arr 2 [str L k3],.arr 2 [.agg [.str x.title,.fz 5 (x.scenes.map scA)]],.arr 5 ((G.take i).map faA)]) (fun i=>i ≤ o.length) 0 (by simp) ?_ ?_
 ·refine Shift.trans (Shift.nilsl 7 5 rfl) (Shift.weakS ?_ rfl)
  simp only [wk,go_sem]
  try rfl
 intro i g1 J hJ
 by_cases gi:i < o.length
 ·have di:decide ((i:Int) < (o.length:Int)) = true:=by simp; omega
  have p1:=inA_get o i gi
  have hoi:o[i] < fs.length:=List.mem_range.1 (hperm.mem_iff.1 (List.getElem_mem gi))
  have p2:=faA_get fs o[i] hoi
  have hGi:(G.take (i + 1)).map faA = (G.take i).map faA ++ [.agg [.str (fs[o[i]]).scene,.int .i64 (fs[o[i]]).el.kind,.str (fs[o[i]]).el.name,.str (fs[o[i]]).facet,.str (fs[o[i]]).value]]:=by
   rw [List.take_succ_eq_append_getElem (by omega),List.map_append]
   congr 1
   subst hG
   simp [List.getD,hoi,faA]
  have htl:((G.take i).map faA).length = i:=by simp; omega
  have hfin:=hJ (i + 1) (by omega) (by omega)
  rw [hGi] at hfin
  generalize o[i] = q at *
  generalize (G.take i).map faA = T at *
  refine goF (N:=81) Tryz.ntmps4 300 ?_
  simp only [go_sem,di,p1,p2,htl,List.length_map]
  repeat refine And.intro (by first | omega | rfl | kernel_rfl | exact .inl rfl | exact .inl trivial | (simp; done) | (simp; omega)) ?_
  rw [show (i:Int) + 1 = ((i + 1:Nat):Int) by omega]
  refine ainv hfin (Shift.weakS ?_ rfl)
  simp only [wk,go_sem]
 have di:decide ((i:Int) < (o.length:Int)) = false:=by simp; omega
 have hio:i = o.length:=by omega
 clear hJ
 subst hio
 rw [List.take_of_length_le (by omega)]
 refine AWp.shift (Shift.trans (Shift.freeze 7 (id:=2) (l:=G.map faA) rfl rfl (by simp [hGl]) (Nat.le_refl _) (fa_frz _)) (Shift.trans (Shift.low 2 (by simp) (by simp) (e':=[(30,.int .i64 o.length),(29,.int .i64 o.length),(28,.fz 1 (o.map inA)),(7,.fz 5 (G.map faA)),(6,.fz 5 (fs.map faA)),(5,.fz 4 (js.map jmA)),(4,.ptr 1 1 0 0)]) rfl ?_) (Shift.weakS (e':=[(30,.int .i64 o.length),(29,.int .i64 o.length),(28,.fz 1 (o.map inA)),(7,.fz 5 (G.map faA)),(6,.fz 5 (fs.map faA)),(5,.fz 4 (js.map jmA)),(4,.ptr 1 1 0 0)]) (s':=[.arr 2 [str L k3],.arr 2 [.agg [.str x.title,.fz 5 (x.scenes.map scA)]]]) ?_ rfl))) ?_
 ·simp only [wkl,lowV,lowC,Av.get,go_sem]
  rw [List.take_of_length_le (by simp [hGl])]
 ·simp only [wk,go_sem]
 refine goF (N:=81) Tryz.ntmps4 300 ?_
 simp only [go_sem,di,List.length_map]
 have hGok:=factsOk_perm hf hGp
 refine aloop (ι:=Nat) (fun i=>x.scenes.length - i) (fun i=>[(45,.int .i64 i),(44,.int .i64 x.scenes.length),(43,.fz 5 (x.scenes.map scA)),(7,.fz 5 (G.map faA)),(6,.fz 5 (fs.map faA)),(5,.fz 4 (js.map jmA)),(4,.ptr 1 1 0 0)])
  (fun i=>[.arr 2 [str L k3],.arr 2 [.agg [.str x.title,.fz 5 (x.scenes.map scA)]]]) (fun i=>i ≤ x.scenes.length) 0 (by simp) ?_ ?_
 ·refine Shift.weakS ?_ rfl
  simp only [wk,go_sem]
 intro i g1 J hJ
 by_cases gi:i < x.scenes.length
 ·have di:decide ((i:Int) < (x.scenes.length:Int)) = true:=by simp; omega
  have hget:=scA_get x.scenes i gi
  have hfin:=hJ (i + 1) (by omega) (by omega)
  have hl1:=fun s=>hlk fs hf s i gi
  have hl2:=fun s=>hlk G hGok s i gi
  have huq:=fun la lb=>looksOf_uniq (l:=la) (m:=lb) (looksAt_perm hx hj hf hGp i)
  generalize x.scenes[i] = y at *
  clear hJ
  refine goF (N:=81) Tryz.ntmps4 300 ?_
  simp only [go_sem,di,hget,List.length_map]
  repeat refine And.intro (by first | omega | rfl | kernel_rfl | exact .inl rfl | exact .inl trivial | (simp; done) | (simp; omega)) ?_
  refine acallH hg (hl1 _) (N:=81) Tryz.ntmps4 rfl ?_
  rintro _ _ ⟨la,hla,rfl,rfl⟩
  refine goF (N:=81) Tryz.ntmps4 300 ?_
  simp only [go_sem]
  repeat refine And.intro (by first | omega | rfl | kernel_rfl | exact .inl rfl | exact .inl trivial | (simp; done) | (simp; omega)) ?_
  refine acallH hg (hl2 _) (N:=81) Tryz.ntmps4 rfl ?_
  rintro _ _ ⟨lb,hlb,rfl,rfl⟩
  have hab:=huq la lb hla hlb
  subst hab
  have hll:=looksOf_len (esAt_uniq _ _ _ _) hla
  have hel:=esAt_len (kfN x) fs (ordL x js) ((ordL_perm hx hj).symm.nodup List.nodup_range) ((ordL x js).idxOf i + 1)
  have heq:=eqLk_pc la la (by omega) (by omega)
  rw [decide_eq_true rfl] at heq
  refine goF (N:=81) Tryz.ntmps4 11 ?_
  simp only [go_sem]
  refine AWp.shift (Shift.trans (Shift.freeze 12 (id:=3) (l:=la.map lookA) rfl rfl (by simp) (Nat.le_refl _) (lookA_frz _)) (Shift.trans (Shift.freeze 14 (id:=4) (l:=la.map lookA) rfl rfl (by simp) (Nat.le_refl _) (lookA_frz _))
   (Shift.trans (Shift.low 2 (by simp) (by simp) (e':=[(12,.fz 4 (la.map lookA)),(13,.int .i64 0),(14,.fz 4 (la.map lookA)),(15,.int .i64 0),(45,.int .i64 i),(44,.int .i64 x.scenes.length),(43,.fz 5 (x.scenes.map scA)),(7,.fz 5 (G.map faA)),(6,.fz 5 (fs.map faA)),(5,.fz 4 (js.map jmA)),(4,.ptr 1 1 0 0)]) rfl ?_) (Shift.weakS (e':=[(12,.fz 4 (la.map lookA)),(13,.int .i64 0),(14,.fz 4 (la.map lookA)),(15,.int .i64 0),(45,.int .i64 i),(44,.int .i64 x.scenes.length),(43,.fz 5 (x.scenes.map scA)),(7,.fz 5 (G.map faA)),(6,.fz 5 (fs.map faA)),(5,.fz 4 (js.map jmA)),(4,.ptr 1 1 0 0)]) (s':=[.arr 2 [str L k3],.arr 2 [.agg [.str x.title,.fz 5 (x.scenes.map scA)]]]) ?_ rfl)))) ?_
  ·simp only [wkl,lowV,lowC,Av.get,go_sem]
   rw [List.take_of_length_le (by simp)]
  ·simp only [wk,go_sem]
  refine goF (N:=81) Tryz.ntmps4 300 ?_
  simp only [go_sem]
  refine pcall1 (heq) rfl (N:=81) Tryz.ntmps4 rfl (goB (N:=81) Tryz.ntmps4 300 ?_)
  simp only [go_sem]
  repeat refine And.intro (by first | omega | rfl | kernel_rfl | exact .inl rfl | exact .inl trivial | (simp; done) | (simp; omega)) ?_
  rw [show (i:Int) + 1 = ((i + 1:Nat):Int) by omega]
  refine ainv hfin (Shift.weakS ?_ rfl)
  simp only [wk,go_sem]
 ·have di:decide ((i:Int) < (x.scenes.length:Int)) = false:=by simp; omega
  refine goF (N:=81) Tryz.ntmps4 300 ?_
  simp only [go_sem,di]
  refine pcallH1 hg (ht) rfl (N:=81) Tryz.ntmps4 rfl (goB (N:=81) Tryz.ntmps4 300 ?_)
  simp only [go_sem]
  exact aret [2] rfl ⟨rfl,rfl⟩
end Go.Proofs.YtnfkjpihaficbaaGreatDoor
