/- Draws of the tags' rows: numbers, elements, orders. Own work of this seat. -/
import Derived.Test.YtnfkjpihaficbaaGreatDoorG28
set_option maxRecDepth 100000
set_option linter.unusedSimpArgs false
set_option linter.unusedVariables false
namespace Go.Proofs.YtnfkjpihaficbaaGreatDoor
open Go Go.Av Go.RowKit
def NoL:List (List UInt8):=[[],[49],[50],[57],[49,50],[49,50,66],[49,50,65,66],[49,50,66,66],[49,50,90,90,90,90,90],[49,51],[48,66],[48,65,66],[48,65,65,65,65,66],[57,57,57],[57,57,57,66],[57,57,57,90,90,90,90,90],[57,57,56,90,90,90,90,90],[49,65],[48],[48,49],[49,98],[49,48,48,48]]
theorem noL_len:∀ s ∈ NoL,s.length < 10:=by decide
theorem noDX_mc (L:List Int) (k:Int) (h3:0 ≤ k) (h4:k ≤ 900000):Mc Tryz.prog 101 2 (str L k) [] (fun r s=>r=.str (oneF L k NoL)∧s=str L (k+1)):=by
 refine ct_intro Tryz.func101 rfl Tryz.ntmps101 hB101 (by simp) fun h ρ w=>goB (N:=6) Tryz.ntmps101 300 ?_
 simp only [go_sem]
 refine mcall (oneX_mc L k NoL (by decide) (by decide) h3 (by omega)) rfl rfl (id:=0) rfl (N:=6) Tryz.ntmps101 rfl ?_
 rintro _ _ ⟨rfl,rfl⟩
 refine goB (N:=6) Tryz.ntmps101 300 ?_
 simp only [go_sem]
 exact aret [2] rfl ⟨_,_,rfl,rfl,rfl,rfl,rfl⟩
def noF (L:List Int) (k:Int) (x:Sr):List UInt8 × Int :=
 if x.scenes.length=0 then (oneF L k NoL,k+1)
 else if flipF L k 12 then (oneF L (k+1) NoL,k+1+1)
 else ((x.scenes.map (·.no)).getD (nx L (k+1) x.scenes.length).toNat [],k+1+1)
theorem noF_bd (L:List Int) (k:Int) (x:Sr):k ≤ (noF L k x).2∧(noF L k x).2 ≤ k+2:=by
 unfold noF
 split
 ·exact ⟨by simp only; omega,by simp only; omega⟩
 ·split <;> exact ⟨by simp only; omega,by simp only; omega⟩
theorem noX_mc (L:List Int) (k:Int) (x:Sr) (hl:x.scenes.length ≤ 1000) (h3:0 ≤ k) (h4:k ≤ 850000):Mc Tryz.prog 47 2 (str L k) [srA x] (fun r s=>r=.str (noF L k x).1∧s=str L (noF L k x).2):=by
 unfold noF
 simp only [srA]
 by_cases h0:x.scenes.length=0
 ·rw [if_pos h0]
  have d0:((x.scenes.length:Int) == 0)=true:=by rw [h0]; rfl
  refine ct_intro Tryz.func47 rfl Tryz.ntmps47 hB47 (by simp) fun h ρ w=>goB (N:=25) Tryz.ntmps47 300 ?_
  simp only [go_sem,d0,List.length_map]
  refine mcall (noDX_mc L k h3 (by omega)) rfl rfl (id:=0) rfl (N:=25) Tryz.ntmps47 rfl ?_
  rintro _ _ ⟨rfl,rfl⟩
  refine goB (N:=25) Tryz.ntmps47 300 ?_
  simp only [go_sem]
  exact aret [4] rfl ⟨_,_,rfl,rfl,rfl,rfl,rfl⟩
 ·rw [if_neg h0]
  have d0:((x.scenes.length:Int) == 0)=false:=by rw [beq_eq_false_iff_ne]; omega
  have hfl:=flipX_mc L k 12 (by decide) (by decide) h3 (by omega)
  generalize flipF L k 12=b at *
  have hb:=nx_bd L (k+1) x.scenes.length (by omega)
  have hnx:=nextX_mc L (k+1) x.scenes.length (by omega) (by omega) (by omega) (by omega)
  generalize nx L (k+1) x.scenes.length=v at *
  obtain ⟨b1,b2⟩:=hb
  refine ct_intro Tryz.func47 rfl Tryz.ntmps47 hB47 (by simp) fun h ρ w=>goB (N:=25) Tryz.ntmps47 300 ?_
  simp only [go_sem,d0,List.length_map]
  refine mcall (hfl) rfl rfl (id:=0) rfl (N:=25) Tryz.ntmps47 rfl ?_
  rintro _ _ ⟨rfl,rfl⟩
  cases b with
  | true =>
   refine goB (N:=25) Tryz.ntmps47 300 ?_
   simp only [go_sem]
   refine mcall (noDX_mc L (k+1) (by omega) (by omega)) rfl rfl (id:=0) rfl (N:=25) Tryz.ntmps47 rfl ?_
   rintro _ _ ⟨rfl,rfl⟩
   refine goB (N:=25) Tryz.ntmps47 300 ?_
   simp only [go_sem]
   exact aret [4] rfl ⟨_,_,rfl,rfl,rfl,rfl,rfl⟩
  | false =>
   obtain ⟨i,rfl⟩:∃ i:Nat,v=i:=⟨v.toNat,by omega⟩
   have hi:i < x.scenes.length:=by omega
   have hget:=scA_get x.scenes i (by omega)
   have hno:(x.scenes.map (·.no)).getD ((i:Int)).toNat []=(x.scenes[i]'(by omega)).no:=by simp [List.getD,show i < x.scenes.length by omega]
   simp only [Bool.false_eq_true,if_false,hno]
   refine goB (N:=25) Tryz.ntmps47 300 ?_
   simp only [go_sem]
   refine adrawC [6] 0 [] mixed (by decide) (N:=25) Tryz.ntmps47 (by decide) 100 ?_
   simp only [go_sem,Go.Av.dxn,Go.Av.dxnc,↓Go.Av.dbrn_true,↓Go.Av.dbrn_false,Go.Av.dbrn,List.length_map,Array.toList_append]
   repeat refine And.intro (by first | omega | rfl | (simp; done) | (simp; omega)) ?_
   refine icc_mc hnx rfl rfl rfl ⟨_,_,⟨rfl,rfl⟩,rfl⟩ ?_
   rintro _ _ ⟨rfl,rfl⟩
   simp only [go_sem,Go.Av.dxn,Go.Av.dxnc,↓Go.Av.dbrn_true,↓Go.Av.dbrn_false,Go.Av.dbrn,hget,List.length_map]
   repeat refine And.intro (by first | omega | rfl | (simp; done) | (simp; omega)) ?_
   refine goB (N:=25) Tryz.ntmps47 300 ?_
   simp only [go_sem]
   exact aret [4] rfl ⟨_,_,rfl,rfl,rfl,rfl,rfl⟩
def ElA:List (List UInt8):=[[],[71,117,110,115],[32,97],[97,32,32,98],[97,110,110],[110,110,110,110,110,110,110,110,110,110,110,110,110,110,110,110,110,110,110,110,110,110,110,110,110,110,110,110,110,110,110,110,110,110,110,110,110,110,110,110],[110,110,110,110,110,110,110,110,110,110,110,110,110,110,110,110,110,110,110,110,110,110,110,110,110,110,110,110,110,110,110,110,110,110,110,110,110,110,110,110,110]]
def ElB:List (List UInt8):=[[103,117,110,115],[114,101,100,32,99,97,114],[49,50]]
def elF (L:List Int) (k:Int):El × Int :=
 if flipF L k 12 then (⟨rangeF L (k+1) 0 12,oneF L (k+1+1) ElA⟩,k+1+1+1)
 else if flipF L (k+1) 3 then (⟨11,oneF L (k+1+1) NameL⟩,k+1+1+1)
 else (⟨pickF L (k+1+1) [1,2,2,3,6,10],oneF L (k+1+1+1) ElB⟩,k+1+1+1+1)
theorem elF_bd (L:List Int) (k:Int):k ≤ (elF L k).2∧(elF L k).2 ≤ k+4:=by
 unfold elF
 split
 ·exact ⟨by simp only; omega,by simp only; omega⟩
 ·split <;> exact ⟨by simp only; omega,by simp only; omega⟩
theorem elF_ok (L:List Int) (k:Int):0 ≤ (elF L k).1.kind∧(elF L k).1.kind ≤ 12∧(elF L k).1.name.length ≤ 41:=by
 have h1:∀ s ∈ ElA,s.length ≤ 41:=by decide
 have h2:∀ s ∈ NameL,s.length ≤ 41:=by decide
 have h3:∀ s ∈ ElB,s.length ≤ 41:=by decide
 have h4:∀ n ∈ [(1:Int),2,2,3,6,10],0 ≤ n∧n ≤ 12:=by decide
 unfold elF
 split
 ·have:=nx_bd L (k+1) (12 - 0+1) (by decide)
  exact ⟨by simp only [rangeF]; omega,by simp only [rangeF]; omega,h1 _ (oneF_mem (by decide))⟩
 ·split
  ·exact ⟨by simp only; omega,by simp only; omega,h2 _ (oneF_mem (by decide))⟩
  ·have:=h4 _ (pickF_mem (L:=L) (k:=k+1+1) (ls:=[1,2,2,3,6,10]) (by decide))
   exact ⟨this.1,this.2,h3 _ (oneF_mem (by decide))⟩
def elA (e:El):AV:=.agg [.int .i64 e.kind,.str e.name]
set_option maxHeartbeats 2000000 in
theorem elX_mc (L:List Int) (k:Int) (h3:0 ≤ k) (h4:k ≤ 900000):Mc Tryz.prog 27 2 (str L k) [] (fun r s=>r=elA (elF L k).1∧s=str L (elF L k).2):=by
 have hf1:=flipX_mc L k 12 (by decide) (by decide) h3 (by omega)
 have hf2:=flipX_mc L (k+1) 3 (by decide) (by decide) (by omega) (by omega)
 have hra:=rangeX_mc L (k+1) 0 12 (by decide) (by decide) (by decide) (by omega) (by omega)
 have hoa:=oneX_mc L (k+1+1) ElA (by decide) (by decide) (by omega) (by omega)
 have hon:=oneX_mc L (k+1+1) NameL (by decide) (by decide) (by omega) (by omega)
 have hpi:=pickX_mc L (k+1+1) [1,2,2,3,6,10] (by decide) (by decide) (by omega) (by omega)
 have hob:=oneX_mc L (k+1+1+1) ElB (by decide) (by decide) (by omega) (by omega)
 have hr1:=repeat_pc [110] 40 (by decide) (by decide)
 have hr2:=repeat_pc [110] 41 (by decide) (by decide)
 unfold elF
 generalize flipF L k 12=b1 at *
 generalize flipF L (k+1) 3=b2 at *
 generalize rangeF L (k+1) 0 12=v1 at *
 generalize oneF L (k+1+1) ElA=v2 at *
 generalize oneF L (k+1+1) NameL=v3 at *
 generalize pickF L (k+1+1) [1,2,2,3,6,10]=v4 at *
 generalize oneF L (k+1+1+1) ElB=v5 at *
 refine ct_intro Tryz.func27 rfl Tryz.ntmps27 hB27 (by simp) fun h ρ w=>goB (N:=26) Tryz.ntmps27 300 ?_
 simp only [go_sem]
 refine mcall (hf1) rfl rfl (id:=0) rfl (N:=26) Tryz.ntmps27 rfl ?_
 rintro _ _ ⟨rfl,rfl⟩
 cases b1 with
 | true =>
  refine goB (N:=26) Tryz.ntmps27 300 ?_
  simp only [go_sem]
  refine mcall (hra) rfl rfl (id:=0) rfl (N:=26) Tryz.ntmps27 rfl ?_
  rintro _ _ ⟨rfl,rfl⟩
  refine goB (N:=26) Tryz.ntmps27 300 ?_
  simp only [go_sem]
  refine pcall1 (hr1) rfl (N:=26) Tryz.ntmps27 rfl (goB (N:=26) Tryz.ntmps27 300 ?_)
  simp only [go_sem]
  refine pcall1 (hr2) rfl (N:=26) Tryz.ntmps27 rfl (goB (N:=26) Tryz.ntmps27 300 ?_)
  simp only [go_sem]
  refine mcall (hoa) rfl rfl (id:=0) rfl (N:=26) Tryz.ntmps27 rfl ?_
  rintro _ _ ⟨rfl,rfl⟩
  refine goB (N:=26) Tryz.ntmps27 300 ?_
  simp only [go_sem]
  exact aretc [.cell 2 44] rfl [_] ⟨by simp only [go_sem,sideIs,elA],trivial⟩ ⟨_,_,rfl,rfl,rfl,rfl,rfl⟩
 | false =>
  refine goB (N:=26) Tryz.ntmps27 300 ?_
  simp only [go_sem]
  refine mcall (hf2) rfl rfl (id:=0) rfl (N:=26) Tryz.ntmps27 rfl ?_
  rintro _ _ ⟨rfl,rfl⟩
  cases b2 with
  | true =>
   refine goB (N:=26) Tryz.ntmps27 300 ?_
   simp only [go_sem]
   refine pcall1 (names_pc) rfl (N:=26) Tryz.ntmps27 rfl (goB (N:=26) Tryz.ntmps27 300 ?_)
   simp only [go_sem]
   refine mcall (hon) rfl rfl (id:=0) rfl (N:=26) Tryz.ntmps27 rfl ?_
   rintro _ _ ⟨rfl,rfl⟩
   refine goB (N:=26) Tryz.ntmps27 300 ?_
   simp only [go_sem]
   exact aretc [.cell 2 44] rfl [_] ⟨by simp only [go_sem,sideIs,elA],trivial⟩ ⟨_,_,rfl,rfl,rfl,rfl,rfl⟩
  | false =>
   refine goB (N:=26) Tryz.ntmps27 300 ?_
   simp only [go_sem]
   refine mcall (hpi) rfl rfl (id:=0) rfl (N:=26) Tryz.ntmps27 rfl ?_
   rintro _ _ ⟨rfl,rfl⟩
   refine goB (N:=26) Tryz.ntmps27 300 ?_
   simp only [go_sem]
   refine mcall (hob) rfl rfl (id:=0) rfl (N:=26) Tryz.ntmps27 rfl ?_
   rintro _ _ ⟨rfl,rfl⟩
   refine goB (N:=26) Tryz.ntmps27 300 ?_
   simp only [go_sem]
   exact aretc [.cell 2 44] rfl [_] ⟨by simp only [go_sem,sideIs,elA],trivial⟩ ⟨_,_,rfl,rfl,rfl,rfl,rfl⟩
end Go.Proofs.YtnfkjpihaficbaaGreatDoor
