/- tag.follow: the continuity of a script. Own work of this seat. -/
import Derived.Test.YtnfkjpihaficbaaGreatDoorG39
set_option maxRecDepth 100000
set_option linter.unusedSimpArgs false
set_option linter.unusedVariables false
namespace Go.Proofs.YtnfkjpihaficbaaGreatDoor
open Go Go.Av Go.RowKit
theorem faM_frz1 (id:Nat) (L:List AV):∀ l:List Fa,(l.map faA).map (frzC id 5 L)=l.map faA
 | []=>rfl
 | a :: l=>by
  rw [List.map_cons,List.map_cons,faM_frz1 id L l]
  rfl
theorem freeze_allF {c:Cx} (hc:c.sto.length ≤ 4) (E0:Env) (hE:∀ id l,frzE (id+4) 5 l E0=E0) (hw:wkl 4 E0 E0) (b0 b1 b3:Blk) (h0:∀ id l,frzB (id+4) 5 l b0=b0) (h1:∀ id l,frzB (id+4) 5 l b1=b1) (h3:∀ id l,frzB (id+4) 5 l b3=b3)
  (hl:lowB 4 b0=true∧lowB 4 b1=true∧lowB 4 b3=true):∀ (gs done:List Gf) (S:List Blk),(∀ g ∈ gs,S[g.at']? = some (.arr 5 (g.ds.map faA)))→gs.Pairwise (fun x y=>x.at' ≠ y.at') →
  Shift c E0 (b0 :: b1 :: .mp (gfF done++gfM 4 gs) :: b3 :: S) E0 [b0,b1,.mp (gfF (done++gs)),b3]
 | [],done,S,_,_=>by
  rw [show gfM 4 []=[] from rfl,List.append_nil,List.append_nil]
  refine Shift.low 4 hc (by simp) ?_ hw
  simp only [List.take_succ_cons,List.take_zero,List.all_cons,List.all_nil,Bool.and_true,hl.1,hl.2.1,hl.2.2,low_gfF,Bool.and_self]
 | g :: r,done,S,hb,hn=>by
  have hg:=hb g (by simp)
  rw [List.pairwise_cons] at hn
  have hs:(b0 :: b1 :: Blk.mp (gfF done++gfM 4 (g :: r)) :: b3 :: S).getD (g.at'+4) .dead=.arr 5 (g.ds.map faA):=by
   simp only [List.getD_cons_succ]
   rw [List.getD_eq_getElem?_getD,hg]; rfl
  have sh:=Shift.frz (c:=c) (en:=E0) (g.at'+4) hs (fa_frz _)
  rw [hE] at sh
  have e1:((b0 :: b1 :: Blk.mp (gfF done++gfM 4 (g :: r)) :: b3 :: S).set (g.at'+4) .dead).map (frzB (g.at'+4) 5 (g.ds.map faA))=b0 :: b1 :: .mp (gfF (done++[g])++gfM 4 r) :: b3 :: (S.set g.at' .dead).map (frzB (g.at'+4) 5 (g.ds.map faA)):=by
   simp only [List.set_cons_succ,List.map_cons,h0,h1,h3]
   congr 3
   simp only [frzB,List.map_append,gfF_frz]
   congr 1
   have e2:gfM 4 (g :: r)=(.int .i64 (g.key:Int),.sl (g.at'+4) 0 g.ds.length g.ds.length) :: gfM 4 r:=rfl
   have e3:gfF (done++[g])=gfF done++[(.int .i64 (g.key:Int),.fz 5 (g.ds.map faA))]:=by simp [gfF]
   rw [e2,e3,List.map_cons,gfM_frz _ _ _ _ (fun y hy=>Ne.symm (hn.1 y hy)),List.append_assoc]
   congr 1
   simp only [frz,frz1,beq_self_eq_true,List.length_map,Nat.zero_add,decide_true,Nat.le_refl,Bool.and_self,cond_true,List.drop_zero,List.cons_append,List.nil_append]
   rw [List.take_of_length_le (by simp)]
  rw [e1] at sh
  have ih:=freeze_allF hc E0 hE hw b0 b1 b3 h0 h1 h3 hl r (done++[g]) ((S.set g.at' .dead).map (frzB (g.at'+4) 5 (g.ds.map faA))) (fun y hy=>by
   rw [List.getElem?_map,List.getElem?_set_ne (hn.1 y hy),hb y (by simp [hy])]
   simp only [Option.map_some,frzB,faM_frz1]) hn.2
  rw [List.append_assoc] at ih
  exact Shift.trans sh ih
theorem sh_scMF (n:Nat):∀ (xs:List Sc) (k:Nat),shB n (.mp (scMF k xs))=.mp (scMF k xs)
 | [],_=>rfl
 | y :: r,k=>by
  have:=sh_scMF n r (k+1)
  simp only [shB,Blk.mp.injEq] at this ⊢
  rw [scMF,List.map_cons,this]
  rfl
theorem ren_scMF (σ:List Nat):∀ (xs:List Sc) (k:Nat),(scMF k xs).map (fun x=>(x.1,renV σ x.2))=scMF k xs
 | [],_=>rfl
 | y :: r,k=>by
  rw [scMF,List.map_cons,ren_scMF σ r (k+1)]
  rfl
theorem Ct.imp {P:Program} {f:FuncId} {args:List AV} {s:List Blk} {p q:AV→List Blk→Prop} (h:Ct P f args s p) (hpq:∀ r s',p r s'→q r s'):Ct P f args s q :=
 ⟨h.1,fun hh ρ w vs m r=>(h.2 hh ρ w vs m r).mono fun en w' ⟨v,r,s1,h',ρ',e,hp,rest⟩=>⟨v,r,s1,h',ρ',e,hpq _ _ hp,rest⟩⟩
theorem CtH.imp {P:Program} {g:Std} {f:FuncId} {args:List AV} {s:List Blk} {p q:AV→List Blk→Prop} (h:CtH P g f args s p) (hpq:∀ r s',p r s'→q r s'):CtH P g f args s q :=
 ⟨h.1,fun hh ρ w vs hg m r=>(h.2 hh ρ w vs hg m r).mono fun en w' ⟨v,r,s1,h',ρ',e,hp,rest⟩=>⟨v,r,s1,h',ρ',e,hpq _ _ hp,rest⟩⟩
theorem places_ct (x:Sr) (hx:StoryOk x) (s:List Blk):Ct Tryz.prog 51 [srA x] s (fun r s'=>r=.mp s.length∧s'=s++[.mp (scMF 0 x.scenes)]) :=
 Ct.imp ((places_ct0 x hx).liftN rfl (by rintro _ _ ⟨_,rfl⟩; rfl) s) (by
  rintro _ _ ⟨_,_,⟨rfl,rfl⟩,rfl,rfl⟩
  refine ⟨?_,by rw [List.map_cons,sh_scMF]; rfl⟩
  show AV.mp (0+s.length)=_
  rw [Nat.zero_add])
theorem kfN_pos {x:Sr} (hx:StoryOk x) {fs:List Fa} (hf:FactsOk x fs) {f:Fa} (hm:f ∈ fs):∃ j,j < x.scenes.length∧kfN x f=j∧mfind .string (.str f.scene) (scMF 0 x.scenes) 0=some (some (j,.int .i64 (j:Int))):=by
 obtain ⟨j,hj,he⟩:=hf.at' f hm
 refine ⟨j,hj,?_,scM_at hx hj he⟩
 have h:=kfN_at hx hf hm hj
 rw [noAt_eq hj,he,beq_self_eq_true] at h
 exact beq_iff_eq.1 h
def cont0 (x:Sr) (js:List Jm):AV:=.agg [.fz 1 ((ordL x js).map inA),.mp 1,.mp 2]
set_option maxHeartbeats 8000000 in
theorem follow_cth {S:Std} (hS:LibOk S) (x:Sr) (hx:StoryOk x) (js:List Jm) (hj:JumpsOk x js) (fs:List Fa) (hf:FactsOk x fs) :
  CtH Tryz.prog S 64 [srA x,.fz 4 (js.map jmA),.fz 5 (fs.map faA)] [] (fun r s=>∃ (gs:List Gf) (T:List Blk),r=.tup [cont0 x js,.int .i64 0]∧s=[.arr 3 [cont0 x js],.mp (scMF 0 x.scenes),.mp (gfF gs)]∧GfOk (kfN x) fs gs T):=by
 have hlen:=hx.len
 have h1:=checkJumps_pch hS x hx js hj
 have h2:=checkFacts_pch hS x hx fs hf
 have h3:=days_pch hS x hx js hj
 have h5:=ordX_pc hx hj
 have h4:=places_ct x hx
 simp only [srA] at h1 h2 h3 h4 ⊢
 refine cth_intro Tryz.func64 rfl Tryz.ntmps64 hB64 (by simp) fun h ρ w hg=>goB (N:=61) Tryz.ntmps64 300 ?_
 simp only [go_sem]
 repeat refine And.intro (by first | omega | rfl | kernel_rfl | (simp; done) | (simp; omega)) ?_
 refine pcallH1 hg (h1) rfl (N:=61) Tryz.ntmps64 rfl (goB (N:=61) Tryz.ntmps64 300 ?_)
 simp only [go_sem]
 refine pcallH1 hg (h2) rfl (N:=61) Tryz.ntmps64 rfl (goB (N:=61) Tryz.ntmps64 300 ?_)
 simp only [go_sem]
 refine acut (ι:=Unit) (fun _=>[(10,.ptr 3 1 0 0),(6,.ptr 0 1 0 0),(2,.fz 5 (fs.map faA))]) (fun _=>[.arr 3 [.agg [.raw (.slice none 0 0),.raw (.map none),.raw (.map none)]],.mp (scMF 0 x.scenes),.mp [],.arr 3 [cont0 x js]]) (fun _=>True) ?_ ?_
 ·intro J hJ
  refine adrawV [5,6,8] [] 100 [[0,1,2,3,4,5,6,7,8,9],[0,1,2,3,4,5,8,6,7,9],[0,1,2,3,4,6,5,7,8,9],[0,1,2,3,4,6,8,5,7,9],[0,1,2,3,4,8,5,6,7,9],[0,1,2,3,4,8,6,5,7,9]]
   (fun i=>bif i == 2 then .fz 3 ((daysF x js).map sdA) else .fz 1 ((ordL x js).map inA)) (fun _ s=>(.mp s.length,s++[.mp (scMF 0 x.scenes)])) mixed (by decide) (by decide) (by decide) (N:=61) Tryz.ntmps64 (by decide) 100 ?_
  simp only [List.mem_cons,List.not_mem_nil,or_false,forall_eq_or_imp,forall_eq]
  refine ⟨?_,?_,?_,?_,?_,?_⟩
  ·simp only [go_sem,Go.Av.dxv,Go.Av.dxvc,Go.Av.pix,Go.Av.gOnB,Go.Av.yldD,↓Go.Av.dbrv_true,↓Go.Av.dbrv_false,Go.Av.dbrv,List.filterMap_cons,List.getElem?_cons_zero,List.getElem?_cons_succ,List.filterMap_nil]
   repeat refine And.intro (by first | exact PcH.at hg h3 | exact h5.at | exact Agr.push' (by simp) _ | rfl | (simp; done)) ?_
   refine icc (h4 _) ⟨_,_,rfl,rfl⟩ ?_
   rintro _ _ ⟨rfl,rfl⟩
   refine ⟨Agr.push' (by simp) _,rfl,?_⟩
   simp only [go_sem,Go.Av.dxv,Go.Av.dxvc,Go.Av.pix,Go.Av.gOnB,Go.Av.yldD,↓Go.Av.dbrv_true,↓Go.Av.dbrv_false,Go.Av.dbrv]
   repeat refine And.intro (by first | exact PcH.at hg h3 | exact h5.at | exact Agr.push' (by simp) _ | rfl | (simp; done)) ?_
   refine ainv (hJ () trivial) (Shift.weakS ?_ rfl)
   exact ⟨rfl,rfl,rfl,trivial⟩
  ·simp only [go_sem,Go.Av.dxv,Go.Av.dxvc,Go.Av.pix,Go.Av.gOnB,Go.Av.yldD,↓Go.Av.dbrv_true,↓Go.Av.dbrv_false,Go.Av.dbrv,List.filterMap_cons,List.getElem?_cons_zero,List.getElem?_cons_succ,List.filterMap_nil]
   repeat refine And.intro (by first | exact PcH.at hg h3 | exact h5.at | exact Agr.push' (by simp) _ | rfl | (simp; done)) ?_
   refine icc (h4 _) ⟨_,_,rfl,rfl⟩ ?_
   rintro _ _ ⟨rfl,rfl⟩
   refine ⟨Agr.push' (by simp) _,rfl,?_⟩
   simp only [go_sem,Go.Av.dxv,Go.Av.dxvc,Go.Av.pix,Go.Av.gOnB,Go.Av.yldD,↓Go.Av.dbrv_true,↓Go.Av.dbrv_false,Go.Av.dbrv]
   repeat refine And.intro (by first | exact PcH.at hg h3 | exact h5.at | exact Agr.push' (by simp) _ | rfl | (simp; done)) ?_
   refine ainv (hJ () trivial) (Shift.trans (Shift.ren [0,1,3,2] rfl) (Shift.weakS ?_ (by simp only [renS,List.map_cons,List.map_nil,List.getD_cons_zero,List.getD_cons_succ,renB,ren_scMF]; rfl)))
   exact ⟨rfl,rfl,rfl,trivial⟩
  ·simp only [go_sem,Go.Av.dxv,Go.Av.dxvc,Go.Av.pix,Go.Av.gOnB,Go.Av.yldD,↓Go.Av.dbrv_true,↓Go.Av.dbrv_false,Go.Av.dbrv,List.filterMap_cons,List.getElem?_cons_zero,List.getElem?_cons_succ,List.filterMap_nil]
   repeat refine And.intro (by first | exact PcH.at hg h3 | exact h5.at | exact Agr.push' (by simp) _ | rfl | (simp; done)) ?_
   refine icc (h4 _) ⟨_,_,rfl,rfl⟩ ?_
   rintro _ _ ⟨rfl,rfl⟩
   refine ⟨Agr.push' (by simp) _,rfl,?_⟩
   simp only [go_sem,Go.Av.dxv,Go.Av.dxvc,Go.Av.pix,Go.Av.gOnB,Go.Av.yldD,↓Go.Av.dbrv_true,↓Go.Av.dbrv_false,Go.Av.dbrv]
   repeat refine And.intro (by first | exact PcH.at hg h3 | exact h5.at | exact Agr.push' (by simp) _ | rfl | (simp; done)) ?_
   refine ainv (hJ () trivial) (Shift.trans (Shift.ren [0,2,1,3] rfl) (Shift.weakS ?_ (by simp only [renS,List.map_cons,List.map_nil,List.getD_cons_zero,List.getD_cons_succ,renB,ren_scMF]; rfl)))
   exact ⟨rfl,rfl,rfl,trivial⟩
  ·simp only [go_sem,Go.Av.dxv,Go.Av.dxvc,Go.Av.pix,Go.Av.gOnB,Go.Av.yldD,↓Go.Av.dbrv_true,↓Go.Av.dbrv_false,Go.Av.dbrv,List.filterMap_cons,List.getElem?_cons_zero,List.getElem?_cons_succ,List.filterMap_nil]
   repeat refine And.intro (by first | exact PcH.at hg h3 | exact h5.at | exact Agr.push' (by simp) _ | rfl | (simp; done)) ?_
   refine icc (h4 _) ⟨_,_,rfl,rfl⟩ ?_
   rintro _ _ ⟨rfl,rfl⟩
   refine ⟨Agr.push' (by simp) _,rfl,?_⟩
   simp only [go_sem,Go.Av.dxv,Go.Av.dxvc,Go.Av.pix,Go.Av.gOnB,Go.Av.yldD,↓Go.Av.dbrv_true,↓Go.Av.dbrv_false,Go.Av.dbrv]
   repeat refine And.intro (by first | exact PcH.at hg h3 | exact h5.at | exact Agr.push' (by simp) _ | rfl | (simp; done)) ?_
   refine ainv (hJ () trivial) (Shift.trans (Shift.ren [0,3,1,2] rfl) (Shift.weakS ?_ (by simp only [renS,List.map_cons,List.map_nil,List.getD_cons_zero,List.getD_cons_succ,renB,ren_scMF]; rfl)))
   exact ⟨rfl,rfl,rfl,trivial⟩
  ·simp only [go_sem,Go.Av.dxv,Go.Av.dxvc,Go.Av.pix,Go.Av.gOnB,Go.Av.yldD,↓Go.Av.dbrv_true,↓Go.Av.dbrv_false,Go.Av.dbrv,List.filterMap_cons,List.getElem?_cons_zero,List.getElem?_cons_succ,List.filterMap_nil]
   repeat refine And.intro (by first | exact PcH.at hg h3 | exact h5.at | exact Agr.push' (by simp) _ | rfl | (simp; done)) ?_
   refine icc (h4 _) ⟨_,_,rfl,rfl⟩ ?_
   rintro _ _ ⟨rfl,rfl⟩
   refine ⟨Agr.push' (by simp) _,rfl,?_⟩
   simp only [go_sem,Go.Av.dxv,Go.Av.dxvc,Go.Av.pix,Go.Av.gOnB,Go.Av.yldD,↓Go.Av.dbrv_true,↓Go.Av.dbrv_false,Go.Av.dbrv]
   repeat refine And.intro (by first | exact PcH.at hg h3 | exact h5.at | exact Agr.push' (by simp) _ | rfl | (simp; done)) ?_
   refine ainv (hJ () trivial) (Shift.trans (Shift.ren [0,2,3,1] rfl) (Shift.weakS ?_ (by simp only [renS,List.map_cons,List.map_nil,List.getD_cons_zero,List.getD_cons_succ,renB,ren_scMF]; rfl)))
   exact ⟨rfl,rfl,rfl,trivial⟩
  ·simp only [go_sem,Go.Av.dxv,Go.Av.dxvc,Go.Av.pix,Go.Av.gOnB,Go.Av.yldD,↓Go.Av.dbrv_true,↓Go.Av.dbrv_false,Go.Av.dbrv,List.filterMap_cons,List.getElem?_cons_zero,List.getElem?_cons_succ,List.filterMap_nil]
   repeat refine And.intro (by first | exact PcH.at hg h3 | exact h5.at | exact Agr.push' (by simp) _ | rfl | (simp; done)) ?_
   refine icc (h4 _) ⟨_,_,rfl,rfl⟩ ?_
   rintro _ _ ⟨rfl,rfl⟩
   refine ⟨Agr.push' (by simp) _,rfl,?_⟩
   simp only [go_sem,Go.Av.dxv,Go.Av.dxvc,Go.Av.pix,Go.Av.gOnB,Go.Av.yldD,↓Go.Av.dbrv_true,↓Go.Av.dbrv_false,Go.Av.dbrv]
   repeat refine And.intro (by first | exact PcH.at hg h3 | exact h5.at | exact Agr.push' (by simp) _ | rfl | (simp; done)) ?_
   refine ainv (hJ () trivial) (Shift.trans (Shift.ren [0,3,2,1] rfl) (Shift.weakS ?_ (by simp only [renS,List.map_cons,List.map_nil,List.getD_cons_zero,List.getD_cons_succ,renB,ren_scMF]; rfl)))
   exact ⟨rfl,rfl,rfl,trivial⟩
 rintro _ _
 have hfl:=hf.len
 simp only [cont0]
 generalize hord:(ordL x js).map inA=O
 refine goB (N:=61) Tryz.ntmps64 300 ?_
 simp only [go_sem,List.length_map]
 refine aloop (ι:=Nat × List Gf × List Blk) (fun y=>fs.length - y.1) (fun y=>[(37,.int .i64 y.1),(36,.int .i64 fs.length),(35,.fz 5 (fs.map faA)),(10,.ptr 3 1 0 0),(6,.ptr 0 1 0 0)])
  (fun y=>.arr 3 [.agg [.raw (.slice none 0 0),.raw (.map none),.raw (.map none)]] :: .mp (scMF 0 x.scenes) :: .mp (gfM 4 y.2.1) :: .arr 3 [.agg [.fz 1 O,.mp 1,.mp 2]] :: y.2.2)
  (fun y=>y.1 ≤ fs.length∧GfOk (kfN x) (fs.take y.1) y.2.1 y.2.2∧∀ g ∈ y.2.1,g.ds.length ≤ y.1) (0,[],[]) ⟨by simp,⟨by simp,by simp,by simp,.nil,.nil⟩,by simp⟩ ?_ ?_
 ·refine Shift.weakS ?_ rfl
  simp only [wk,go_sem]
 rintro ⟨i,gs,T⟩ ⟨g1,g2,g3⟩ J hJ
 simp only at g1 g2 g3 hJ ⊢
 by_cases gi:i < fs.length
 ·have di:decide ((i:Int) < (fs.length:Int))=true:=by simp; omega
  have p1:=faA_get fs i gi
  have hmem:=List.getElem_mem gi
  have htk:fs.take (i+1)=fs.take i++[fs[i]]:=List.take_succ_eq_append_getElem gi
  obtain ⟨j,hj,hk,hm⟩:=kfN_pos hx hf hmem
  have hfa:faA fs[i]=.agg [.str fs[i].scene,.int .i64 fs[i].el.kind,.str fs[i].el.name,.str fs[i].facet,.str fs[i].value]:=rfl
  rcases gfM_find 4 j gs 0 with ⟨m1,mne⟩ | ⟨q,g,m1,m2,m3⟩
  ·have hfin:=hJ (i+1,gs++[⟨kfN x fs[i],T.length+1,[fs[i]]⟩],T++[.arr 5 [faA fs[i]]]++[.arr 5 [faA fs[i]]]) ⟨by simp only; omega,by simp only; rw [htk]; exact g2.push _ _ (by rw [hk]; exact mne),by
    simp only
    intro g hg
    rcases List.mem_append.1 hg with hg | hg
    ·have:=g3 g hg; omega
    ·rw [List.mem_singleton.1 hg]; simp⟩ (by simp only; omega)
   rw [← gfM_push,hfa,hk] at hfin
   simp only [List.length_cons,List.length_nil,Nat.zero_add] at hfin
   refine goB (N:=61) Tryz.ntmps64 300 ?_
   simp only [go_sem,di,p1,List.length_map,gt_at0,st_at0]
   repeat refine And.intro (by first | omega | rfl | kernel_rfl | exact .inl rfl | exact .inl trivial | (simp; done) | (simp; omega)) ?_
   refine adrawA ((T.length+5)) [] mixed (by decide) (N:=61) Tryz.ntmps64 (by decide) 100 ?_
   simp only [go_sem,hm,m1,List.length_map,gt_at0,st_at0,List.length_append,cka,isApp,appOk]
   repeat refine And.intro (by first | omega | rfl | kernel_rfl | exact .inl rfl | exact .inl trivial | (simp; done) | (simp; omega)) ?_
   refine goB (N:=61) Tryz.ntmps64 300 ?_
   simp only [go_sem]
   repeat refine And.intro (by first | omega | rfl | kernel_rfl | exact .inl rfl | exact .inl trivial | (simp; done) | (simp; omega)) ?_
   rw [show (i:Int)+1=((i+1:Nat):Int) by omega]
   refine ainv hfin (Shift.weakS ?_ rfl)
   simp only [wk,go_sem]
  ·have hgm:=List.mem_of_getElem? m2
   have hlt:=g2.lt hgm
   have hgl:=g3 g hgm
   have b0:=g2.blk g hgm
   have hfin:=hJ (i+1,gs.set q ⟨g.key,g.at',g.ds++[fs[i]]⟩,(T++[Blk.arr 5 [faA fs[i]]]).set g.at' (Blk.arr 5 ((g.ds++[fs[i]]).map faA))) ⟨by simp only; omega,by simp only; rw [htk]; exact g2.put _ m2 _ (by rw [hk,m3]),by
    simp only
    intro y hy
    rcases List.mem_or_eq_of_mem_set hy with hy | rfl
    ·have:=g3 y hy; omega
    ·simp; omega⟩ (by simp only; omega)
   rw [← gfM_set,m3] at hfin
   simp only [List.length_append,List.length_cons,List.length_nil,List.map_append,List.map_cons,List.map_nil,Nat.zero_add,hfa] at hfin
   have b1:∀ x:Blk,(T++[x]).getD g.at' .dead=.arr 5 (g.ds.map faA):=fun x=>by
    rw [List.getD_eq_getElem?_getD,List.getElem?_append_left hlt,b0]; rfl
   rw [Nat.zero_add] at m1
   refine goB (N:=61) Tryz.ntmps64 300 ?_
   simp only [go_sem,di,p1,List.length_map,gt_at0,st_at0]
   repeat refine And.intro (by first | omega | rfl | kernel_rfl | exact .inl rfl | exact .inl trivial | (simp; done) | (simp; omega)) ?_
   refine adrawA ((g.at'+4)) [] mixed (by decide) (N:=61) Tryz.ntmps64 (by decide) 100 ?_
   simp only [go_sem,hm,m1,b1,List.length_map,gt_at0,st_at0,List.length_append,cka,isApp,appOk]
   repeat refine And.intro (by first | omega | rfl | kernel_rfl | exact .inl rfl | exact .inl trivial | (simp; done) | (simp; omega)) ?_
   refine goB (N:=61) Tryz.ntmps64 300 ?_
   simp only [go_sem]
   repeat refine And.intro (by first | omega | rfl | kernel_rfl | exact .inl rfl | exact .inl trivial | (simp; done) | (simp; omega)) ?_
   rw [show (i:Int)+1=((i+1:Nat):Int) by omega]
   refine ainv hfin (Shift.weakS ?_ rfl)
   simp only [wk,go_sem]
 ·have di:decide ((i:Int) < (fs.length:Int))=false:=by simp; omega
  clear hJ
  rw [List.take_of_length_le (by omega)] at g2
  refine AWp.shift (Shift.trans (Shift.weakS (e':=[(37,.int .i64 i),(36,.int .i64 fs.length),(35,.fz 5 (fs.map faA)),(10,.ptr 3 1 0 0),(6,.ptr 0 1 0 0)]) ?_ rfl) (freeze_allF (by simp) _ (fun _ _=>rfl) (by simp only [wkl,lowV,lowC,Av.get,go_sem]) _ _ _ (fun _ _=>rfl) (fun id l=>by simp only [frzB,scMF_frz]) (fun _ _=>rfl) ⟨rfl,low_scM _ _ _,rfl⟩ gs [] T g2.blk g2.ne)) ?_
  ·simp only [wk,go_sem]
  rw [List.nil_append]
  refine goB (N:=61) Tryz.ntmps64 300 ?_
  simp only [go_sem,di]
  refine ARet.shift (Shift.trans (Shift.low 3 (by simp) (by simp) (e':=[(7,.int .i64 0),(6,.ptr 0 1 0 0)]) ?_ ?_) (Shift.weakS (e':=[(7,.int .i64 0),(6,.ptr 0 1 0 0)]) (s':=[.arr 3 [.agg [.fz 1 O,.mp 1,.mp 2]],.mp (scMF 0 x.scenes),.mp (gfF gs)]) ?_ rfl)) (aretc [.cell 6 141,.tmp 7] rfl [.agg [.fz 1 O,.mp 1,.mp 2],.int .i64 0] ⟨by simp only [go_sem,sideIs],rfl,trivial⟩ ⟨gs,T,rfl,rfl,g2⟩)
  ·simp only [List.take_succ_cons,List.take_zero,List.all_cons,List.all_nil,Bool.and_true,low_scM,low_gfF,Bool.true_and]
   rfl
  ·simp only [wkl,lowV,lowC,Av.get,go_sem]
  ·simp only [wk,go_sem]
def lkE:Option ((El × List UInt8) × List UInt8)→AV × AV
 | some x=>(lkA x.1,.str x.2)
 | none=>tomb
def lkM (es:LMap):List (AV × AV):=es.map lkE
theorem lkM_find (k:El × List UInt8):∀ (es:LMap) (n:Nat),mfindT Tryz.prog 160 (lkA k) (lkM es) n=(match tix k es with | some i=>some (some (n+i,.str ((tval k es).getD []))) | none=>some none)
 | [],n=>rfl
 | none :: r,n=>by
  have e:mfindT Tryz.prog 160 (lkA k) (lkM (none :: r)) n=mfindT Tryz.prog 160 (lkA k) (lkM r) (n+1):=rfl
  rw [e,lkM_find k r (n+1)]
  simp only [tix,tval]
  cases tix k r with
  | none=>rfl
  | some i=>simp only [Option.map_some,show n+1+i=n+(i+1) by omega]
 | some x :: r,n=>by
  have e:mfindT Tryz.prog 160 (lkA k) (lkM (some x :: r)) n=(match keyEqT Tryz.prog 160 (lkA k) (lkA x.1) with | some true=>some (some (n,.str x.2)) | some false=>mfindT Tryz.prog 160 (lkA k) (lkM r) (n+1) | none=>none):=rfl
  rw [e,keyLk]
  by_cases h:x.1=k
  ·subst h
   simp [tix,tval]
  ·have h1:(k == x.1)=false:=by simpa using Ne.symm h
   simp only [h1]
   rw [lkM_find k r (n+1)]
   have t1:tix k (some x :: r)=(tix k r).map (· + 1):=by simp only [tix,if_neg h]
   have t2:tval k (some x :: r)=tval k r:=by simp only [tval,if_neg h]
   rw [t1,t2]
   cases tix k r with
   | none=>rfl
   | some i=>simp only [Option.map_some,show n+1+i=n+(i+1) by omega]
theorem lkM_put (es:LMap) (k:El × List UInt8) (v:List UInt8):lkM (tput es k v)=(match tix k es with | some i=>(lkM es).set i (lkA k,.str v) | none=>lkM es++[(lkA k,.str v)]):=by
 unfold tput
 cases tix k es with
 | none=>simp [lkM,lkE]
 | some i=>simp only [lkM,List.map_set,lkE]
theorem lkM_del (es:LMap) (k:El × List UInt8):lkM (tdel es k)=(match tix k es with | some i=>(lkM es).set i tomb | none=>lkM es):=by
 unfold tdel
 cases tix k es with
 | none=>rfl
 | some i=>simp only [lkM,List.map_set,lkE]
theorem low_lkM (n:Nat) (es:LMap):lowB n (.mp (lkM es))=true:=by
 show (lkM es).all _=true
 rw [lkM,List.all_map,List.all_eq_true]
 intro x hx
 cases x <;> rfl
end Go.Proofs.YtnfkjpihaficbaaGreatDoor
namespace Go.Proofs.YtnfkjpihaficbaaGreatDoor
open Go Go.Av Go.RowKit
theorem cb_val:∀ a b:List UInt8,Lib.compareBytes a b=(if bytesLess a b then -1 else if bytesLess b a then 1 else 0)
 | [],[]=>rfl
 | [],_ :: _=>rfl
 | _ :: _,[]=>rfl
 | a :: x,b :: y=>by
  have ih:=cb_val x y
  simp only [Lib.compareBytes,bytesLess,Bool.or_eq_true,decide_eq_true_eq,Bool.and_eq_true,beq_iff_eq]
  by_cases h1:a < b
  ·simp [h1]
  ·by_cases h2:b < a
   ·have h3:¬ a=b:=fun e=>by subst e; exact h1 h2
    simp [h1,h2,h3]
   ·have h3:a=b:=by
     have e1:=UInt8.not_lt.1 h1
     have e2:=UInt8.not_lt.1 h2
     exact UInt8.le_antisymm e2 e1
    subst h3
    simp [UInt8.lt_irrefl,ih]
theorem bl_irrefl:∀ a:List UInt8,bytesLess a a=false
 | []=>rfl
 | a :: x=>by simp [bytesLess,bl_irrefl x]
theorem bl_trans:∀ a b c:List UInt8,bytesLess a b=true→bytesLess b c=true→bytesLess a c=true
 | [],[],c,h1,_=>by cases h1
 | _,_ :: _,[],_,h2=>by cases h2
 | _ :: _,[],_,h1,_=>by cases h1
 | [],_ :: _,_ :: _,_,_=>rfl
 | a :: x,b :: y,c :: z,h1,h2=>by
  simp only [bytesLess,Bool.or_eq_true,decide_eq_true_eq,Bool.and_eq_true,beq_iff_eq] at h1 h2 ⊢
  rcases h1 with h1 | ⟨e1,h1⟩
  ·rcases h2 with h2 | ⟨e2,h2⟩
   ·exact .inl (UInt8.lt_trans h1 h2)
   ·subst e2; exact .inl h1
  ·subst e1
   rcases h2 with h2 | ⟨e2,h2⟩
   ·exact .inl h2
   ·subst e2; exact .inr ⟨rfl,bl_trans x y z h1 h2⟩
theorem bl_total:∀ a b:List UInt8,bytesLess a b=false→bytesLess b a=false→a=b
 | [],[],_,_=>rfl
 | [],_ :: _,h1,_=>by cases h1
 | _ :: _,[],_,h2=>by cases h2
 | a :: x,b :: y,h1,h2=>by
  simp only [bytesLess,Bool.or_eq_false_iff,decide_eq_false_iff_not,Bool.and_eq_false_imp,beq_iff_eq] at h1 h2
  have h3:a=b:=UInt8.le_antisymm (UInt8.not_lt.1 h2.1) (UInt8.not_lt.1 h1.1)
  subst h3
  rw [bl_total x y (h1.2 rfl) (h2.2 rfl)]
theorem cb_lt {a b:List UInt8}:Lib.compareBytes a b < 0 ↔ bytesLess a b=true:=by
 rw [cb_val]
 cases bytesLess a b with
 | true=>simp
 | false=>cases bytesLess b a <;> simp
theorem cb_zero {a b:List UInt8}:Lib.compareBytes a b=0 ↔ a=b:=by
 rw [cb_val]
 cases h1:bytesLess a b with
 | true =>
  simp only [if_true]
  constructor
  ·intro h; cases h
  ·rintro rfl; rw [bl_irrefl] at h1; cases h1
 | false =>
  cases h2:bytesLess b a with
  | true =>
   simp only [if_true,Bool.false_eq_true,if_false]
   constructor
   ·intro h; cases h
   ·rintro rfl; rw [bl_irrefl] at h2; cases h2
  | false=>simpa using bl_total a b h1 h2
theorem cmpI_lt {a b:Int}:cmpI a b < 0 ↔ a < b:=by
 unfold cmpI
 by_cases h1:a < b
 ·simp [h1]
 ·by_cases h2:b < a
  ·simp [h1,h2]
  ·simp [h1,h2]
theorem cmpI_zero {a b:Int}:cmpI a b=0 ↔ a=b:=by
 unfold cmpI
 by_cases h1:a < b
 ·simp [h1]; omega
 ·by_cases h2:b < a
  ·simp [h1,h2]; omega
  ·simp [h1,h2]; omega
structure Ordr {α:Type} (lt:α→α→Prop):Prop where
 irrefl:∀ x,¬ lt x x
 trans:∀ x y z,lt x y→lt y z→lt x z
 total:∀ x y,¬ lt x y→¬ lt y x→x=y
section
variable {α:Type} {lt:α→α→Prop} (O:Ordr lt)
include O
theorem Ordr.asymm {x y:α} (h:lt x y):¬ lt y x:=fun h'=>O.irrefl x (O.trans _ _ _ h h')
theorem Ordr.ntrans {x y z:α} (h1:¬ lt y x) (h2:¬ lt z y):¬ lt z x:=fun h=>by
 by_cases h3:lt x y
 ·exact h2 (O.trans _ _ _ h h3)
 ·have:=O.total x y h3 h1
  subst this
  exact h2 h
theorem Ordr.uniq:∀ {l m:List α},l.Pairwise lt→m.Pairwise lt→(∀ x,x ∈ l ↔ x ∈ m)→l=m
 | [],[],_,_,_=>rfl
 | [],y :: m,_,_,h=>by have:=(h y).2 (by simp); cases this
 | x :: l,[],_,_,h=>by have:=(h x).1 (by simp); cases this
 | x :: l,y :: m,h1,h2,h=>by
  obtain ⟨a1,a2⟩:=List.pairwise_cons.1 h1
  obtain ⟨b1,b2⟩:=List.pairwise_cons.1 h2
  have e:x=y:=by
   rcases List.mem_cons.1 ((h x).1 (by simp)) with e | e
   ·exact e
   ·rcases List.mem_cons.1 ((h y).2 (by simp)) with e2 | e2
    ·exact e2.symm
    ·exact absurd (a1 y e2) (O.asymm (b1 x e))
  subst e
  rw [Ordr.uniq a2 b2 fun z=>?_]
  constructor
  ·intro hz
   rcases List.mem_cons.1 ((h z).1 (by simp [hz])) with e | e
   ·subst e; exact absurd (a1 z hz) (O.irrefl z)
   ·exact e
  ·intro hz
   rcases List.mem_cons.1 ((h z).2 (by simp [hz])) with e | e
   ·subst e; exact absurd (b1 z hz) (O.irrefl z)
   ·exact e
end
section
variable {α:Type} (lt:α→α→Prop) (d:α)
def Sorted0 (q:List α) (i:Nat):Prop:=∀ x y,x < y→y < i→¬ lt (q.getD y d) (q.getD x d)
def InsI (q:List α) (i j:Nat):Prop:=∀ x y,x < y→y ≤ i→y ≠ j→¬ lt (q.getD y d) (q.getD x d)
variable {lt d}
theorem ins_start {q:List α} {i:Nat} (h:Sorted0 lt d q i):InsI lt d q i i:=fun x y h1 h2 h3=>h x y h1 (by omega)
theorem ins_stop0 {q:List α} {i:Nat} (h:InsI lt d q i 0):Sorted0 lt d q (i+1):=fun x y h1 h2=>h x y h1 (by omega) (by omega)
theorem ins_stop (nt:∀ x y z:α,¬ lt y x→¬ lt z y→¬ lt z x) {q:List α} {i j:Nat} (h:InsI lt d q i j) (hj:0 < j) (hs:¬ lt (q.getD j d) (q.getD (j - 1) d)):Sorted0 lt d q (i+1):=fun x y h1 h2=>by
 by_cases hy:y=j
 ·subst hy
  by_cases hx:x=y - 1
  ·subst hx; exact hs
  ·exact nt _ _ _ (h x (y - 1) (by omega) (by omega) (by omega)) hs
 ·exact h x y h1 (by omega) hy
theorem getD_swap {q:List α} {j:Nat} (hj:0 < j) (hl:j < q.length) (t:Nat):((q.set j (q.getD (j - 1) d)).set (j - 1) (q.getD j d)).getD t d=if t=j - 1 then q.getD j d else if t=j then q.getD (j - 1) d else q.getD t d:=by
 simp only [List.getD_eq_getElem?_getD,List.getElem?_set,List.length_set]
 by_cases h1:j - 1=t
 ·subst h1
  simp [show j - 1 < q.length by omega]
 ·by_cases h2:j=t
  ·subst h2
   have:¬ j=j - 1:=by omega
   simp [h1,hl,this]
  ·simp [h1,h2,Ne.symm h1,Ne.symm h2]
theorem ins_swap (has:∀ x y:α,lt x y→¬ lt y x) {q:List α} {i j:Nat} (h:InsI lt d q i j) (hj:0 < j) (hl:j < q.length) (hs:lt (q.getD j d) (q.getD (j - 1) d)):InsI lt d ((q.set j (q.getD (j - 1) d)).set (j - 1) (q.getD j d)) i (j - 1):=fun x y h1 h2 h3=>by
 rw [getD_swap hj hl,getD_swap hj hl]
 rw [if_neg h3]
 by_cases hy:y=j
 ·subst hy
  rw [if_pos rfl]
  by_cases hx:x=y - 1
  ·rw [if_pos hx]; exact has _ _ hs
  ·rw [if_neg hx,if_neg (by omega)]
   exact h x (y - 1) (by omega) (by omega) (by omega)
 ·rw [if_neg hy]
  by_cases hx:x=j - 1
  ·rw [if_pos hx]
   exact h j y (by omega) h2 hy
  ·rw [if_neg hx]
   by_cases hx2:x=j
   ·rw [if_pos hx2]
    exact h (j - 1) y (by omega) h2 hy
   ·rw [if_neg hx2]
    exact h x y h1 h2 hy
theorem sorted0_one (q:List α):Sorted0 lt d q 1:=fun x y h1 h2=>by omega
theorem sorted0_all {q:List α} {n:Nat} (h:Sorted0 lt d q n) (hn:q.length ≤ n):q.Pairwise fun x y=>¬ lt y x:=by
 rw [List.pairwise_iff_getElem]
 intro i j hi hj hij
 have:=h i j hij (by omega)
 simpa [List.getD,hi,hj] using this
end
def elLt (a b:El):Prop:=a.kind < b.kind∨(a.kind=b.kind∧bytesLess a.name b.name=true)
def elCmp (a b:El):Int:=orI (cmpI a.kind b.kind) (Lib.compareBytes a.name b.name)
theorem elCmp_lt {a b:El}:elCmp a b < 0 ↔ elLt a b:=by
 unfold elCmp elLt orI
 by_cases h:cmpI a.kind b.kind=0
 ·rw [if_pos h,cb_lt]
  have h2:=cmpI_zero.1 h
  simp [h2]
 ·rw [if_neg h,cmpI_lt]
  have h2:=mt cmpI_zero.2 h
  simp [h2]
theorem elCmp_zero {a b:El}:elCmp a b=0 ↔ a=b:=by
 unfold elCmp orI
 by_cases h:cmpI a.kind b.kind=0
 ·rw [if_pos h,cb_zero]
  have h2:=cmpI_zero.1 h
  cases a; cases b
  simp only [El.mk.injEq] at h2 ⊢
  simp [h2]
 ·rw [if_neg h]
  have h2:=mt cmpI_zero.2 h
  constructor
  ·intro e; exact absurd e h
  ·rintro rfl; exact absurd rfl h2
theorem elO:Ordr elLt:=by
 refine ⟨fun x h=>?_,fun x y z h1 h2=>?_,fun x y h1 h2=>?_⟩
 ·rcases h with h | ⟨_,h⟩
  ·omega
  ·rw [bl_irrefl] at h; cases h
 ·rcases h1 with h1 | ⟨e1,h1⟩ <;> rcases h2 with h2 | ⟨e2,h2⟩
  ·exact .inl (by omega)
  ·exact .inl (by omega)
  ·exact .inl (by omega)
  ·exact .inr ⟨e1.trans e2,bl_trans _ _ _ h1 h2⟩
 ·unfold elLt at h1 h2
  simp only [not_or,Bool.not_eq_true,not_and,Int.not_lt] at h1 h2
  have e:x.kind=y.kind:=by omega
  have e2:=bl_total _ _ (h1.2 e) (h2.2 e.symm)
  cases x; cases y
  simp_all
abbrev LKey:=El × List UInt8
def kLt (a b:LKey):Prop:=elLt a.1 b.1∨(a.1=b.1∧bytesLess a.2 b.2=true)
def kCmp (a b:LKey):Int:=orI (elCmp a.1 b.1) (Lib.compareBytes a.2 b.2)
theorem kCmp_lt {a b:LKey}:kCmp a b < 0 ↔ kLt a b:=by
 unfold kCmp kLt orI
 by_cases h:elCmp a.1 b.1=0
 ·rw [if_pos h,cb_lt]
  have h2:=elCmp_zero.1 h
  have h3:¬ elLt a.1 b.1:=by rw [h2]; exact elO.irrefl _
  simp [h2,elO.irrefl]
 ·rw [if_neg h,elCmp_lt]
  have h2:=mt elCmp_zero.2 h
  simp [h2]
theorem kO:Ordr kLt:=by
 refine ⟨fun x h=>?_,fun x y z h1 h2=>?_,fun x y h1 h2=>?_⟩
 ·rcases h with h | ⟨_,h⟩
  ·exact elO.irrefl _ h
  ·rw [bl_irrefl] at h; cases h
 ·rcases h1 with h1 | ⟨e1,h1⟩ <;> rcases h2 with h2 | ⟨e2,h2⟩
  ·exact .inl (elO.trans _ _ _ h1 h2)
  ·exact .inl (by rw [← e2]; exact h1)
  ·exact .inl (by rw [e1]; exact h2)
  ·exact .inr ⟨e1.trans e2,bl_trans _ _ _ h1 h2⟩
 ·unfold kLt at h1 h2
  simp only [not_or,Bool.not_eq_true,not_and] at h1 h2
  have e:=elO.total _ _ h1.1 h2.1
  have e2:=bl_total _ _ (h1.2 e) (h2.2 e.symm)
  exact Prod.ext e e2
def lkey (y:Lk):LKey:=(y.el,y.facet)
def lkLt (a b:Lk):Prop:=kLt (lkey a) (lkey b)
theorem lk_ntrans (x y z:Lk) (h1:¬ lkLt y x) (h2:¬ lkLt z y):¬ lkLt z x:=kO.ntrans h1 h2
theorem lk_asymm (x y:Lk) (h:lkLt x y):¬ lkLt y x:=kO.asymm h
def lvL (es:LMap):List Lk:=es.filterMap fun x=>x.map fun y=>⟨y.1.1,y.1.2,y.2⟩
def LooksOf (es:LMap) (l:List Lk):Prop:=(∀ y:Lk,y ∈ l ↔ tval (lkey y) es=some y.value)∧l.Pairwise lkLt
theorem lvL_mem {es:LMap} (hu:Tuniq es) (y:Lk):y ∈ lvL es ↔ tval (lkey y) es=some y.value:=by
 rw [tval_mem hu]
 unfold lvL lkey
 rw [List.mem_filterMap]
 constructor
 ·rintro ⟨x,hx,e⟩
  cases x with
  | none=>cases e
  | some x =>
   simp only [Option.map_some,Option.some.injEq] at e
   subst e
   exact hx
 ·intro h
  exact ⟨_,h,by cases y; rfl⟩
theorem lvL_keys:∀ {es:LMap},Tuniq es→(lvL es).Pairwise fun a b=>lkey a ≠ lkey b
 | [],_=>.nil
 | none :: es,h=>lvL_keys (es:=es) (List.pairwise_cons.1 h).2
 | some x :: es,h=>by
  obtain ⟨h1,h2⟩:=List.pairwise_cons.1 h
  show List.Pairwise _ ((⟨x.1.1,x.1.2,x.2⟩:Lk) :: lvL es)
  refine List.pairwise_cons.2 ⟨fun b hb=>?_,lvL_keys h2⟩
  obtain ⟨z,hz,e⟩:=List.mem_filterMap.1 hb
  cases z with
  | none=>cases e
  | some z =>
   simp only [Option.map_some,Option.some.injEq] at e
   subst e
   exact h1 _ hz x z rfl rfl
theorem looksOf_sorted {es:LMap} (hu:Tuniq es) {l:List Lk} (hp:l.Perm (lvL es)) (hs:l.Pairwise fun x y=>¬ lkLt y x):LooksOf es l:=by
 refine ⟨fun y=>by rw [hp.mem_iff,lvL_mem hu],?_⟩
 have hk:l.Pairwise fun a b=>lkey a ≠ lkey b:=hp.symm.pairwise (lvL_keys hu) fun h e=>h e.symm
 refine (hs.and hk).imp fun {a b} h=>?_
 by_cases hl:lkLt a b
 ·exact hl
 ·exact absurd (kO.total _ _ hl h.1) h.2
theorem looksOf_uniq {es fs:LMap} (h:∀ k,tval k es=tval k fs) {l m:List Lk} (hl:LooksOf es l) (hm:LooksOf fs m):l=m:=by
 have inj:∀ a b:Lk,a ∈ l→b ∈ l→lkey a=lkey b→a=b:=fun a b ha hb e=>by
  have h1:=(hl.1 a).1 ha
  have h2:=(hl.1 b).1 hb
  rw [e,h2] at h1
  simp only [Option.some.injEq] at h1
  cases a; cases b
  simp only [lkey,Prod.mk.injEq] at e
  simp_all
 have hmem:∀ y,y ∈ l ↔ y ∈ m:=fun y=>by rw [hl.1,hm.1,h]
 have hk:l.map lkey=m.map lkey:=by
  refine kO.uniq (List.pairwise_map.2 hl.2) (List.pairwise_map.2 hm.2) fun x=>?_
  simp only [List.mem_map]
  exact ⟨fun ⟨y,h1,h2⟩=>⟨y,(hmem y).1 h1,h2⟩,fun ⟨y,h1,h2⟩=>⟨y,(hmem y).2 h1,h2⟩⟩
 have hlen:l.length=m.length:=by simpa using congrArg List.length hk
 refine List.ext_getElem hlen fun i h1 h2=>?_
 refine inj _ _ (List.getElem_mem h1) ((hmem _).2 (List.getElem_mem h2)) ?_
 have:=congrArg (fun l=>l[i]?) hk
 simpa [h1,h2] using this
end Go.Proofs.YtnfkjpihaficbaaGreatDoor
