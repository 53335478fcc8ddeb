/- The document's checks of elements, jumps and facts. Own work of this seat. -/
import Derived.Test.YtnfkjpihaficbaaGreatDoorG32
set_option maxRecDepth 100000
set_option linter.unusedSimpArgs false
set_option linter.unusedVariables false
namespace Go.Proofs.YtnfkjpihaficbaaGreatDoor
open Go Go.Av Go.RowKit
def smallSet:List UInt8:=[97,98,99,100,101,102,103,104,105,106,107,108,109,110,111,112,113,114,115,116,117,118,119,120,121,122]
def thingSet:List UInt8:=[97,98,99,100,101,102,103,104,105,106,107,108,109,110,111,112,113,114,115,116,117,118,119,120,121,122,48,49,50,51,52,53,54,55,56,57,32]
def thingR (s:List UInt8):Bool:=longR s 1 40 && (plainR s && madeR s thingSet)
def elR (e:El):Int:=if e.kind < 1∨e.kind > 11 then 4 else if e.kind=11 then (if nameR e.name then 0 else 5) else if thingR e.name then 0 else 5
set_option maxHeartbeats 2000000 in
theorem elR_pch {S:Std} (hS:LibR S) (e:El) (hl:e.name.length < 1000):PcH Tryz.prog S 28 [elA e] (· = .int .i64 (elR e)):=by
 have hn:=nameR_pch hS e.name (by omega)
 have hp:=plainR_pch hS e.name (by omega)
 have hm:=madeR_pc e.name thingSet (by omega) (by decide) (by unfold asciiL thingSet; decide)
 have hlo:=longR_pc e.name 1 40
 unfold elR thingR
 simp only [elA]
 obtain ⟨ek,en⟩:=e
 simp only at hn hp hm hlo ⊢
 by_cases h1:ek < 1
 ·have d1:decide (ek < 1)=true:=by simpa using h1
  rw [if_pos (.inl h1)]
  refine pch_intro (cth_intro Tryz.func28 rfl Tryz.ntmps28 hB28 (by simp) fun h ρ w hg=>goB (N:=37) Tryz.ntmps28 300 ?_)
  simp only [go_sem,d1]
  exact aret [2] rfl ⟨rfl,rfl⟩
 have d1:decide (ek < 1)=false:=by simpa using h1
 by_cases h2:ek > 11
 ·have d2:decide (ek > 11)=true:=by simpa using h2
  rw [if_pos (.inr h2)]
  refine pch_intro (cth_intro Tryz.func28 rfl Tryz.ntmps28 hB28 (by simp) fun h ρ w hg=>goB (N:=37) Tryz.ntmps28 300 ?_)
  simp only [go_sem,d1,d2]
  exact aret [2] rfl ⟨rfl,rfl⟩
 have d2:decide (ek > 11)=false:=by simpa using h2
 rw [if_neg (by omega)]
 by_cases h3:ek=11
 ·have d3:(ek == 11)=true:=by simpa using h3
  rw [if_pos h3]
  generalize nameR en=b at *
  refine pch_intro (cth_intro Tryz.func28 rfl Tryz.ntmps28 hB28 (by simp) fun h ρ w hg=>goB (N:=37) Tryz.ntmps28 300 ?_)
  simp only [go_sem,d1,d2,d3]
  refine pcallH1 hg (hn) rfl (N:=37) Tryz.ntmps28 rfl (goB (N:=37) Tryz.ntmps28 300 ?_)
  cases b with
  | true =>
   simp only [go_sem]
   exact aret [2] rfl ⟨rfl,rfl⟩
  | false =>
   simp only [go_sem]
   exact aret [2] rfl ⟨rfl,rfl⟩
 have d3:(ek == 11)=false:=by simpa using h3
 rw [if_neg h3]
 generalize longR en 1 40=b1 at *
 generalize plainR en=b2 at *
 unfold thingSet at hm
 generalize hmm:madeR en _=b3 at hm
 have hmm2:madeR en thingSet=b3:=hmm
 rw [hmm2]
 refine pch_intro (cth_intro Tryz.func28 rfl Tryz.ntmps28 hB28 (by simp) fun h ρ w hg=>goB (N:=37) Tryz.ntmps28 300 ?_)
 simp only [go_sem,d1,d2,d3]
 refine pcall1 (hlo) rfl (N:=37) Tryz.ntmps28 rfl (goB (N:=37) Tryz.ntmps28 300 ?_)
 cases b1 with
 | false =>
  simp only [go_sem]
  exact aret [2] rfl ⟨rfl,rfl⟩
 | true =>
  simp only [go_sem]
  refine pcallH1 hg (hp) rfl (N:=37) Tryz.ntmps28 rfl (goB (N:=37) Tryz.ntmps28 300 ?_)
  cases b2 with
  | false =>
   simp only [go_sem]
   exact aret [2] rfl ⟨rfl,rfl⟩
  | true =>
   simp only [go_sem]
   refine pcall1 (hm) rfl (N:=37) Tryz.ntmps28 rfl (goB (N:=37) Tryz.ntmps28 300 ?_)
   cases b3 with
   | false =>
    simp only [go_sem]
    exact aret [2] rfl ⟨rfl,rfl⟩
   | true =>
    simp only [go_sem]
    exact aret [2] rfl ⟨rfl,rfl⟩
def facetR (s:List UInt8):Bool:=longR s 1 20 && madeR s smallSet
theorem facetR_pc (s:List UInt8) (hl:s.length < 1000):Pc Tryz.prog 169 [.str s] (· = .bool (facetR s)):=by
 have hm:=madeR_pc s smallSet (by omega) (by decide) (by unfold asciiL smallSet; decide)
 have hlo:=longR_pc s 1 20
 unfold facetR
 generalize longR s 1 20=b1 at *
 unfold smallSet at hm
 generalize hmm:madeR s _=b3 at hm
 have hmm2:madeR s smallSet=b3:=hmm
 rw [hmm2]
 refine pc_intro (ct_intro Tryz.func169 rfl Tryz.ntmps169 hB169 (by simp) fun h ρ w=>goB (N:=9) Tryz.ntmps169 300 ?_)
 simp only [go_sem]
 refine pcall1 (hlo) rfl (N:=9) Tryz.ntmps169 rfl (goB (N:=9) Tryz.ntmps169 300 ?_)
 cases b1 with
 | false =>
  simp only [go_sem]
  exact aret [2] rfl ⟨rfl,rfl⟩
 | true =>
  simp only [go_sem]
  refine pcall1 (hm) rfl (N:=9) Tryz.ntmps169 rfl (goB (N:=9) Tryz.ntmps169 300 ?_)
  simp only [go_sem]
  exact aret [2] rfl ⟨by simp [resV,Av.get,Av.put],rfl⟩
def faR (f:Fa):Int:=if elR f.el ≠ 0 then elR f.el else if facetR f.facet then (if plainR f.value then (if f.value.length > 60 then 3 else 0) else 3) else 5
structure FaSz (f:Fa):Prop where
 name:f.el.name.length < 1000
 facet:f.facet.length < 1000
 value:f.value.length < 1000
 scene:f.scene.length < 1000
set_option maxHeartbeats 2000000 in
theorem faR_pch {S:Std} (hS:LibR S) (f:Fa) (hz:FaSz f):PcH Tryz.prog S 119 [faA f] (· = .int .i64 (faR f)):=by
 have h1:=elR_pch hS f.el hz.name
 have h2:=facetR_pc f.facet hz.facet
 have h3:=plainR_pch hS f.value (by have:=hz.value; omega)
 unfold faR
 simp only [faA,elA] at h1 ⊢
 generalize elR f.el=n at *
 generalize facetR f.facet=b2 at *
 generalize plainR f.value=b3 at *
 refine pch_intro (cth_intro Tryz.func119 rfl Tryz.ntmps119 hB119 (by simp) fun h ρ w hg=>goB (N:=26) Tryz.ntmps119 300 ?_)
 simp only [go_sem]
 refine pcallH1 hg (h1) rfl (N:=26) Tryz.ntmps119 rfl (goB (N:=26) Tryz.ntmps119 300 ?_)
 by_cases hn:n=0
 ·have dn:(n != 0)=false:=by simpa using hn
  rw [if_neg (by simpa using hn)]
  simp only [go_sem,dn]
  refine pcall1 (h2) rfl (N:=26) Tryz.ntmps119 rfl (goB (N:=26) Tryz.ntmps119 300 ?_)
  cases b2 with
  | false =>
   simp only [go_sem]
   exact aret [2] rfl ⟨rfl,rfl⟩
  | true =>
   simp only [go_sem]
   refine pcallH1 hg (h3) rfl (N:=26) Tryz.ntmps119 rfl (goB (N:=26) Tryz.ntmps119 300 ?_)
   cases b3 with
   | false =>
    simp only [go_sem]
    exact aret [2] rfl ⟨rfl,rfl⟩
   | true =>
    by_cases hv:f.value.length > 60
    ·have dv:decide ((f.value.length:Int) > 60)=true:=by simp; omega
     simp only [if_true,if_pos hv]
     simp only [go_sem,dv]
     exact aret [2] rfl ⟨rfl,rfl⟩
    ·have dv:decide ((f.value.length:Int) > 60)=false:=by simp; omega
     simp only [if_true,if_neg hv]
     simp only [go_sem,dv]
     exact aret [2] rfl ⟨rfl,rfl⟩
 ·have dn:(n != 0)=true:=by simpa using hn
  rw [if_pos hn]
  simp only [go_sem,dn]
  exact aret [2] rfl ⟨rfl,rfl⟩
def factsGo (x:Sr) (pre:List Fa):List Fa→Int
 | []=>0
 | f :: r=>if sceneIx x f.scene < 0 then 8 else if faR f ≠ 0 then faR f else if pre.any (fun y=>sameFa y f) then 6 else factsGo x (pre++[f]) r
def factsR (x:Sr) (l:List Fa):Int:=if scriptR x ≠ 0 then scriptR x else factsGo x [] l
theorem factsGo_at (x:Sr) (l:List Fa) (i:Nat) (h:i < l.length):factsGo x (l.take i) (l.drop i)=if sceneIx x l[i].scene < 0 then 8 else if faR l[i] ≠ 0 then faR l[i] else if (l.take i).any (fun y=>sameFa y l[i]) then 6 else factsGo x (l.take (i+1)) (l.drop (i+1)):=by
 rw [List.drop_eq_getElem_cons h,factsGo,List.take_add_one,List.getElem?_eq_getElem h]
 rfl
def jumpR (j:Jm):Int:=if decide (j.by' < 0) || (decide (j.by' > 1000) || (decide (j.to' < -1000) || decide (j.to' > 1000))) then 1 else if ((j.by' != 0) && (j.to' != 0)) || (j.flash && (j.to' == 0)) then 3 else 0
set_option maxHeartbeats 2000000 in
theorem jumpR_pc (j:Jm):Pc Tryz.prog 118 [jmA j] (· = .int .i64 (jumpR j)):=by
 obtain ⟨js,jb,jt,jf⟩:=j
 simp only [jmA,jumpR]
 generalize d1:decide (jb < 0)=b1
 generalize d2:decide (jb > 1000)=b2
 generalize d3:decide (jt < -1000)=b3
 generalize d4:decide (jt > 1000)=b4
 generalize d5:(jb != 0)=b5
 have d7:(jt == 0)=!(jt != 0):=by simp [bne]
 rw [d7]
 generalize d6:(jt != 0)=b6
 rw [d6] at d7
 cases b1 with
 | true =>
  refine pc_intro (ct_intro Tryz.func118 rfl Tryz.ntmps118 hB118 (by simp) fun h ρ w=>goB (N:=38) Tryz.ntmps118 300 ?_)
  simp only [go_sem,d1,d2,d3,d4]
  exact aret [2] rfl ⟨rfl,rfl⟩
 | false =>
  cases b2 with
  | true =>
   refine pc_intro (ct_intro Tryz.func118 rfl Tryz.ntmps118 hB118 (by simp) fun h ρ w=>goB (N:=38) Tryz.ntmps118 300 ?_)
   simp only [go_sem,d1,d2,d3,d4]
   exact aret [2] rfl ⟨rfl,rfl⟩
  | false =>
   cases b3 with
   | true =>
    refine pc_intro (ct_intro Tryz.func118 rfl Tryz.ntmps118 hB118 (by simp) fun h ρ w=>goB (N:=38) Tryz.ntmps118 300 ?_)
    simp only [go_sem,d1,d2,d3,d4]
    exact aret [2] rfl ⟨rfl,rfl⟩
   | false =>
    cases b4 with
    | true =>
     refine pc_intro (ct_intro Tryz.func118 rfl Tryz.ntmps118 hB118 (by simp) fun h ρ w=>goB (N:=38) Tryz.ntmps118 300 ?_)
     simp only [go_sem,d1,d2,d3,d4]
     exact aret [2] rfl ⟨rfl,rfl⟩
    | false =>
     cases b5 <;> cases b6 <;> cases jf
     ·refine pc_intro (ct_intro Tryz.func118 rfl Tryz.ntmps118 hB118 (by simp) fun h ρ w=>goB (N:=38) Tryz.ntmps118 300 ?_)
      simp only [go_sem,d1,d2,d3,d4,d5,d6,d7]
      exact aret [2] rfl ⟨rfl,rfl⟩
     ·refine pc_intro (ct_intro Tryz.func118 rfl Tryz.ntmps118 hB118 (by simp) fun h ρ w=>goB (N:=38) Tryz.ntmps118 300 ?_)
      simp only [go_sem,d1,d2,d3,d4,d5,d6,d7]
      exact aret [2] rfl ⟨rfl,rfl⟩
     ·refine pc_intro (ct_intro Tryz.func118 rfl Tryz.ntmps118 hB118 (by simp) fun h ρ w=>goB (N:=38) Tryz.ntmps118 300 ?_)
      simp only [go_sem,d1,d2,d3,d4,d5,d6,d7]
      exact aret [2] rfl ⟨rfl,rfl⟩
     ·refine pc_intro (ct_intro Tryz.func118 rfl Tryz.ntmps118 hB118 (by simp) fun h ρ w=>goB (N:=38) Tryz.ntmps118 300 ?_)
      simp only [go_sem,d1,d2,d3,d4,d5,d6,d7]
      exact aret [2] rfl ⟨rfl,rfl⟩
     ·refine pc_intro (ct_intro Tryz.func118 rfl Tryz.ntmps118 hB118 (by simp) fun h ρ w=>goB (N:=38) Tryz.ntmps118 300 ?_)
      simp only [go_sem,d1,d2,d3,d4,d5,d6,d7]
      exact aret [2] rfl ⟨rfl,rfl⟩
     ·refine pc_intro (ct_intro Tryz.func118 rfl Tryz.ntmps118 hB118 (by simp) fun h ρ w=>goB (N:=38) Tryz.ntmps118 300 ?_)
      simp only [go_sem,d1,d2,d3,d4,d5,d6,d7]
      exact aret [2] rfl ⟨rfl,rfl⟩
     ·refine pc_intro (ct_intro Tryz.func118 rfl Tryz.ntmps118 hB118 (by simp) fun h ρ w=>goB (N:=38) Tryz.ntmps118 300 ?_)
      simp only [go_sem,d1,d2,d3,d4,d5,d6,d7]
      exact aret [2] rfl ⟨rfl,rfl⟩
     ·refine pc_intro (ct_intro Tryz.func118 rfl Tryz.ntmps118 hB118 (by simp) fun h ρ w=>goB (N:=38) Tryz.ntmps118 300 ?_)
      simp only [go_sem,d1,d2,d3,d4,d5,d6,d7]
      exact aret [2] rfl ⟨rfl,rfl⟩
set_option maxHeartbeats 2000000 in
theorem jumpT_pc (j:Jm):Pc Tryz.prog 135 [jmA j] (· = .int .i64 (jumpR j)):=by
 obtain ⟨js,jb,jt,jf⟩:=j
 simp only [jmA,jumpR]
 generalize d1:decide (jb < 0)=b1
 generalize d2:decide (jb > 1000)=b2
 generalize d3:decide (jt < -1000)=b3
 generalize d4:decide (jt > 1000)=b4
 generalize d5:(jb != 0)=b5
 have d7:(jt == 0)=!(jt != 0):=by simp [bne]
 rw [d7]
 generalize d6:(jt != 0)=b6
 rw [d6] at d7
 cases b1 with
 | true =>
  refine pc_intro (ct_intro Tryz.func135 rfl Tryz.ntmps135 hB135 (by simp) fun h ρ w=>goB (N:=38) Tryz.ntmps135 300 ?_)
  simp only [go_sem,d1,d2,d3,d4]
  exact aret [2] rfl ⟨rfl,rfl⟩
 | false =>
  cases b2 with
  | true =>
   refine pc_intro (ct_intro Tryz.func135 rfl Tryz.ntmps135 hB135 (by simp) fun h ρ w=>goB (N:=38) Tryz.ntmps135 300 ?_)
   simp only [go_sem,d1,d2,d3,d4]
   exact aret [2] rfl ⟨rfl,rfl⟩
  | false =>
   cases b3 with
   | true =>
    refine pc_intro (ct_intro Tryz.func135 rfl Tryz.ntmps135 hB135 (by simp) fun h ρ w=>goB (N:=38) Tryz.ntmps135 300 ?_)
    simp only [go_sem,d1,d2,d3,d4]
    exact aret [2] rfl ⟨rfl,rfl⟩
   | false =>
    cases b4 with
    | true =>
     refine pc_intro (ct_intro Tryz.func135 rfl Tryz.ntmps135 hB135 (by simp) fun h ρ w=>goB (N:=38) Tryz.ntmps135 300 ?_)
     simp only [go_sem,d1,d2,d3,d4]
     exact aret [2] rfl ⟨rfl,rfl⟩
    | false =>
     cases b5 <;> cases b6 <;> cases jf
     ·refine pc_intro (ct_intro Tryz.func135 rfl Tryz.ntmps135 hB135 (by simp) fun h ρ w=>goB (N:=38) Tryz.ntmps135 300 ?_)
      simp only [go_sem,d1,d2,d3,d4,d5,d6,d7]
      exact aret [2] rfl ⟨rfl,rfl⟩
     ·refine pc_intro (ct_intro Tryz.func135 rfl Tryz.ntmps135 hB135 (by simp) fun h ρ w=>goB (N:=38) Tryz.ntmps135 300 ?_)
      simp only [go_sem,d1,d2,d3,d4,d5,d6,d7]
      exact aret [2] rfl ⟨rfl,rfl⟩
     ·refine pc_intro (ct_intro Tryz.func135 rfl Tryz.ntmps135 hB135 (by simp) fun h ρ w=>goB (N:=38) Tryz.ntmps135 300 ?_)
      simp only [go_sem,d1,d2,d3,d4,d5,d6,d7]
      exact aret [2] rfl ⟨rfl,rfl⟩
     ·refine pc_intro (ct_intro Tryz.func135 rfl Tryz.ntmps135 hB135 (by simp) fun h ρ w=>goB (N:=38) Tryz.ntmps135 300 ?_)
      simp only [go_sem,d1,d2,d3,d4,d5,d6,d7]
      exact aret [2] rfl ⟨rfl,rfl⟩
     ·refine pc_intro (ct_intro Tryz.func135 rfl Tryz.ntmps135 hB135 (by simp) fun h ρ w=>goB (N:=38) Tryz.ntmps135 300 ?_)
      simp only [go_sem,d1,d2,d3,d4,d5,d6,d7]
      exact aret [2] rfl ⟨rfl,rfl⟩
     ·refine pc_intro (ct_intro Tryz.func135 rfl Tryz.ntmps135 hB135 (by simp) fun h ρ w=>goB (N:=38) Tryz.ntmps135 300 ?_)
      simp only [go_sem,d1,d2,d3,d4,d5,d6,d7]
      exact aret [2] rfl ⟨rfl,rfl⟩
     ·refine pc_intro (ct_intro Tryz.func135 rfl Tryz.ntmps135 hB135 (by simp) fun h ρ w=>goB (N:=38) Tryz.ntmps135 300 ?_)
      simp only [go_sem,d1,d2,d3,d4,d5,d6,d7]
      exact aret [2] rfl ⟨rfl,rfl⟩
     ·refine pc_intro (ct_intro Tryz.func135 rfl Tryz.ntmps135 hB135 (by simp) fun h ρ w=>goB (N:=38) Tryz.ntmps135 300 ?_)
      simp only [go_sem,d1,d2,d3,d4,d5,d6,d7]
      exact aret [2] rfl ⟨rfl,rfl⟩
def jumpsGo (x:Sr) (last:Int):List Jm→Int
 | []=>0
 | j :: r=>if sceneIx x j.scene < 0 then 8 else if sceneIx x j.scene ≤ last then 7 else if jumpR j ≠ 0 then jumpR j else jumpsGo x (sceneIx x j.scene) r
def jumpsR (x:Sr) (l:List Jm):Int:=if scriptR x ≠ 0 then scriptR x else jumpsGo x (-1) l
theorem jmA_get (l:List Jm) (i:Nat) (h:i < l.length):List.getD (List.map jmA l) i .any=jmA l[i]:=by simp [List.getD,h]
set_option maxHeartbeats 2000000 in
theorem jumpsR_pch {S:Std} (hS:LibR S) (x:Sr) (hx:StoryOk x) (l:List Jm) (hl:l.length ≤ 1000):PcH Tryz.prog S 62 [srA x,.fz 4 (l.map jmA)] (· = .int .i64 (jumpsR x l)):=by
 have h1:=storyR_pch hS x hx
 have h2:=fun no=>sceneAt_pc x no hx.len
 have h3:=jumpR_pc
 unfold jumpsR
 simp only [srA] at h1 h2 ⊢
 refine pch_intro (cth_intro Tryz.func62 rfl Tryz.ntmps62 hB62 (by simp) fun h ρ w hg=>goB (N:=38) Tryz.ntmps62 300 ?_)
 simp only [go_sem]
 refine pcallH1 hg (h1) rfl (N:=38) Tryz.ntmps62 rfl (goB (N:=38) Tryz.ntmps62 300 ?_)
 cases e1:scriptR x != 0 with
 | true =>
  rw [if_pos (by simpa using e1)]
  simp only [go_sem,e1]
  exact aret [4] rfl ⟨rfl,rfl⟩
 | false =>
  rw [if_neg (by simpa using e1)]
  simp only [go_sem,e1,List.length_map]
  refine aloop (ι:=Nat × Int) (fun y=>l.length - y.1)
   (fun y=>[(18,.int .i64 y.1),(17,.int .i64 l.length),(6,.int .i64 y.2),(2,.pin 2 [.agg [.str x.title,.fz 5 (x.scenes.map scA)]] 0 0),(16,.fz 4 (l.map jmA))])
   (fun y=>[]) (fun y=>y.1 ≤ l.length ∧ -1 ≤ y.2∧y.2 < 5∧jumpsGo x y.2 (l.drop y.1)=jumpsGo x (-1) l) (0,-1) ⟨by simp,by simp,by simp,rfl⟩ ?_ ?_
  ·refine Shift.weakS ?_ rfl
   simp only [wk,go_sem,List.length_map]
  ·rintro ⟨i,last⟩ ⟨g1,g3,g4,g2⟩ J hJ
   try simp only at g1 g2 g3 g4
   by_cases gi:i < l.length
   ·have di:decide ((i:Int) < (l.length:Int))=true:=by simp; omega
    have hget:=jmA_get l i gi
    rw [List.drop_eq_getElem_cons gi,jumpsGo] at g2
    have hfin:=fun q h=>hJ (i+1,q) h (by simp; omega)
    have bd:=sceneIx_bd x l[i].scene
    have hxl:=hx.len
    generalize l[i]=j at *
    have h2j:=h2 j.scene
    have h3j:=h3 j
    have hja:jmA j=.agg [.str j.scene,.int .i64 j.by',.int .i64 j.to',.bool j.flash]:=rfl
    generalize sceneIx x j.scene=n at *
    generalize jumpR j=m at *
    rw [hja] at hget h3j
    refine goB (N:=38) Tryz.ntmps62 300 ?_
    simp only [go_sem,di,hget,List.length_map]
    repeat refine And.intro (by first | omega | rfl | (simp; done) | (simp; omega)) ?_
    refine pcall1 (h2j) rfl (N:=38) Tryz.ntmps62 rfl (goB (N:=38) Tryz.ntmps62 300 ?_)
    by_cases hn:n < 0
    ·have dn:decide (n < 0)=true:=by simpa using hn
     rw [if_pos hn] at g2
     simp only [go_sem,dn]
     exact aret [4] rfl ⟨by rw [← g2]; rfl,rfl⟩
    have dn:decide (n < 0)=false:=by simpa using hn
    rw [if_neg hn] at g2
    by_cases hq:n ≤ last
    ·have dq:decide (n ≤ last)=true:=by simpa using hq
     rw [if_pos hq] at g2
     simp only [go_sem,dn,dq]
     exact aret [4] rfl ⟨by rw [← g2]; rfl,rfl⟩
    have dq:decide (n ≤ last)=false:=by simpa using hq
    rw [if_neg hq] at g2
    simp only [go_sem,dn,dq]
    refine pcall1 (h3j) rfl (N:=38) Tryz.ntmps62 rfl (goB (N:=38) Tryz.ntmps62 300 ?_)
    by_cases hm:m=0
    ·have dm:(m != 0)=false:=by simpa using hm
     rw [if_neg (by simpa using hm)] at g2
     simp only [go_sem,dm]
     repeat refine And.intro (by first | omega | rfl | (simp; done) | (simp; omega)) ?_
     rw [show (i:Int)+1=((i+1:Nat):Int) by omega]
     refine ainv (hfin n ⟨by omega,by omega,by omega,g2⟩) (Shift.low 0 (by simp) (by simp) rfl ?_)
     simp only [wkl,lowV,lowC,Av.get,go_sem]
    ·have dm:(m != 0)=true:=by simpa using hm
     rw [if_pos (by simpa using hm)] at g2
     simp only [go_sem,dm]
     exact aret [4] rfl ⟨by rw [← g2]; rfl,rfl⟩
   ·have di:decide ((i:Int) < (l.length:Int))=false:=by simp; omega
    rw [List.drop_eq_nil_of_le (by omega)] at g2
    refine goB (N:=38) Tryz.ntmps62 300 ?_
    simp only [go_sem,di]
    exact aret [4] rfl ⟨by rw [← g2]; rfl,rfl⟩
set_option maxHeartbeats 2000000 in
theorem factsR_pch {S:Std} (hS:LibR S) (x:Sr) (hx:StoryOk x) (l:List Fa) (hl:l.length ≤ 1000) (hz:∀ f ∈ l,FaSz f):PcH Tryz.prog S 63 [srA x,.fz 5 (l.map faA)] (· = .int .i64 (factsR x l)):=by
 have h1:=storyR_pch hS x hx
 have h2:=fun no=>sceneAt_pc x no hx.len
 unfold factsR
 simp only [srA] at h1 h2 ⊢
 refine pch_intro (cth_intro Tryz.func63 rfl Tryz.ntmps63 hB63 (by simp) fun h ρ w hg=>goB (N:=40) Tryz.ntmps63 300 ?_)
 simp only [go_sem]
 refine pcallH1 hg (h1) rfl (N:=40) Tryz.ntmps63 rfl (goB (N:=40) Tryz.ntmps63 300 ?_)
 cases e1:scriptR x != 0 with
 | true =>
  rw [if_pos (by simpa using e1)]
  simp only [go_sem,e1]
  exact aret [4] rfl ⟨rfl,rfl⟩
 | false =>
  rw [if_neg (by simpa using e1)]
  have d1:decide ((l.length:Int) > 3000)=false:=by simp; omega
  simp only [go_sem,e1,d1,List.length_map]
  refine aloop (ι:=Nat) (fun y=>l.length - y)
   (fun y=>[(19,.int .i64 y),(18,.int .i64 l.length),(2,.pin 2 [.agg [.str x.title,.fz 5 (x.scenes.map scA)]] 0 0),(17,.fz 5 (l.map faA)),(1,.fz 5 (l.map faA))])
   (fun y=>[]) (fun y=>y ≤ l.length∧factsGo x (l.take y) (l.drop y)=factsGo x [] l) 0 ⟨by simp,rfl⟩ ?_ ?_
  ·refine Shift.weakS ?_ rfl
   simp only [wk,go_sem,List.length_map]
  ·rintro i ⟨g1,g2⟩ J hJ
   by_cases gi:i < l.length
   ·have di:decide ((i:Int) < (l.length:Int))=true:=by simp; omega
    have hget:=faA_get l i gi
    rw [factsGo_at x l i gi] at g2
    have hfin:=fun h=>hJ (i+1) h (by omega)
    have h3:=faR_pch hS l[i] (hz _ (List.getElem_mem gi))
    have h4:=anyFa_pc 120 [.pin 5 [faA l[i]] 0 0] rfl (fun y=>sameFa y l[i]) (l.take i) (by simp; omega) (fun y _=>faFnR_pc y l[i])
    rw [List.map_take] at h4
    have hbor:=Ct.borrowF (P:=Tryz.prog) (f:=114) (args:=[.fz 5 (List.take i (l.map faA)),.fn (.func 120) [.ptr 0 1 0 0]]) 1 [.arr 5 [faA l[i]]] h4 (by rintro r rfl; rfl)
    have hj:∀ j:Fa,faA j=.agg [.str j.scene,.int .i64 j.el.kind,.str j.el.name,.str j.facet,.str j.value]:=fun _=>rfl
    have hk2:decide ((i:Int) ≤ (l.length:Int))=true:=by simp; omega
    rw [hj] at h3 hbor
    clear h4
    generalize l[i]=j at *
    have h2j:=h2 j.scene
    generalize sceneIx x j.scene=n at *
    generalize faR j=m at *
    refine goB (N:=40) Tryz.ntmps63 300 ?_
    simp only [go_sem,di,hget,List.length_map]
    repeat refine And.intro (by first | omega | rfl | (simp; done) | (simp; omega)) ?_
    refine pcall1 (h2j) rfl (N:=40) Tryz.ntmps63 rfl (goB (N:=40) Tryz.ntmps63 300 ?_)
    by_cases hn:n < 0
    ·have dn:decide (n < 0)=true:=by simpa using hn
     rw [if_pos hn] at g2
     simp only [go_sem,dn]
     exact aret [4] rfl ⟨by rw [← g2]; rfl,rfl⟩
    have dn:decide (n < 0)=false:=by simpa using hn
    rw [if_neg hn] at g2
    simp only [go_sem,dn]
    refine pcallH1 hg (h3) rfl (N:=40) Tryz.ntmps63 rfl (goB (N:=40) Tryz.ntmps63 300 ?_)
    by_cases hm:m=0
    ·have dm:(m != 0)=false:=by simpa using hm
     rw [if_neg (by simpa using hm)] at g2
     simp only [go_sem,dm,hk2,List.length_map]
     repeat refine And.intro (by first | omega | rfl | (simp; done) | (simp; omega)) ?_
     refine acall (hbor) (N:=40) Tryz.ntmps63 rfl ?_
     rintro _ _ ⟨rfl,rfl⟩
     refine goB (N:=40) Tryz.ntmps63 300 ?_
     cases e2:((l.take i).any fun y=>sameFa y j) with
     | true =>
      rw [if_pos e2] at g2
      simp only [go_sem]
      exact aret [4] rfl ⟨by rw [← g2]; rfl,rfl⟩
     | false =>
      rw [if_neg (by rw [e2]; simp)] at g2
      simp only [go_sem]
      repeat refine And.intro (by first | omega | rfl | (simp; done) | (simp; omega)) ?_
      rw [show (i:Int)+1=((i+1:Nat):Int) by omega]
      refine ainv (hfin ⟨by omega,g2⟩) (Shift.low 0 (by simp) (by simp) rfl ?_)
      simp only [wkl,lowV,lowC,Av.get,go_sem]
    ·have dm:(m != 0)=true:=by simpa using hm
     rw [if_pos (by simpa using hm)] at g2
     simp only [go_sem,dm]
     exact aret [4] rfl ⟨by rw [← g2]; rfl,rfl⟩
   ·have di:decide ((i:Int) < (l.length:Int))=false:=by simp; omega
    rw [List.drop_eq_nil_of_le (by omega)] at g2
    refine goB (N:=40) Tryz.ntmps63 300 ?_
    simp only [go_sem,di]
    exact aret [4] rfl ⟨by rw [← g2]; rfl,rfl⟩
def smI (n:Int):Bool:=decide (n ≥ 97) && decide (n ≤ 122)
theorem tagDigit_pc (n:Int):Pc Tryz.prog 187 [.int .u8 n] (· = .bool (digI n)):=by
 refine pc_intro (ct_intro Tryz.func187 rfl Tryz.ntmps187 hB187 (by simp) fun h ρ w=>go (N:=9) Tryz.ntmps187 300 ?_)
 by_cases h1:n ≥ 48
 ·have d1:decide (n ≥ 48)=true:=by simpa using h1
  simp only [go_sem,d1]
  exact aret [2] rfl ⟨by simp [resV,Av.get,digI,h1],rfl⟩
 ·have d1:decide (n ≥ 48)=false:=by simpa using h1
  simp only [go_sem,d1]
  exact aret [2] rfl ⟨by simp [resV,Av.get,digI,h1],rfl⟩
theorem tagSmall_pc (n:Int):Pc Tryz.prog 189 [.int .u8 n] (· = .bool (smI n)):=by
 refine pc_intro (ct_intro Tryz.func189 rfl Tryz.ntmps189 hB189 (by simp) fun h ρ w=>go (N:=9) Tryz.ntmps189 300 ?_)
 by_cases h1:n ≥ 97
 ·have d1:decide (n ≥ 97)=true:=by simpa using h1
  simp only [go_sem,d1]
  exact aret [2] rfl ⟨by simp [resV,Av.get,smI,h1],rfl⟩
 ·have d1:decide (n ≥ 97)=false:=by simpa using h1
  simp only [go_sem,d1]
  exact aret [2] rfl ⟨by simp [resV,Av.get,smI,h1],rfl⟩
def thB (c:UInt8):Bool:=smI c.toNat || (digI c.toNat || (c.toNat:Int) == 32)
def isThingL (s:List UInt8):Bool:=decide (1 ≤ s.length) && (decide (s.length ≤ 40) && (plainL s && s.all thB))
theorem isThing_pch {S:Std} (hS:LibOk S) (s:List UInt8) (h:isThingL s=true):PcH Tryz.prog S 133 [.str s] (· = .bool true):=by
 simp only [isThingL,Bool.and_eq_true,decide_eq_true_eq] at h
 obtain ⟨h1,h2,h3,h4⟩:=h
 have d1:decide ((s.length:Int) < 1)=false:=by simp; omega
 have d2:decide ((s.length:Int) > 40)=false:=by simp; omega
 have hp:=plain_pch hS s (by omega)
 rw [h3] at hp
 refine pch_intro (cth_intro Tryz.func133 rfl Tryz.ntmps133 hB133 (by simp) fun h ρ w hg=>go (N:=41) Tryz.ntmps133 300 ?_)
 simp only [go_sem,d1,d2]
 refine pcallH1 hg (hp) rfl (N:=41) Tryz.ntmps133 rfl (go (N:=41) Tryz.ntmps133 300 ?_)
 simp only [go_sem]
 refine aloop (ι:=Nat) (fun i=>s.length - i) (fun i=>[(19,.int .i64 i),(18,.int .i64 s.length),(0,.str s)]) (fun _=>[]) (fun i=>i ≤ s.length) 0 (by omega) ?_ ?_
 ·refine Shift.weak ?_
  simp only [wk,go_sem]
 ·rintro i g1 J hJ
  refine go (N:=41) Tryz.ntmps133 300 ?_
  by_cases hi:(i:Int) < s.length
  ·have hil:i < s.length:=by omega
   have hgd:s.getD i 0=s[i]:=by simp [List.getD,hil]
   have hc:=List.all_eq_true.1 h4 _ (List.getElem_mem hil)
   have hfin:=hJ (i+1) (by omega) (by omega)
   simp only [thB] at hc
   simp only [go_sem,hi,hgd]
   repeat refine And.intro (by omega) ?_
   refine pcall1 (tagSmall_pc _) rfl (N:=41) Tryz.ntmps133 rfl (go (N:=41) Tryz.ntmps133 300 ?_)
   cases c1:smI (s[i].toNat:Int) with
   | true =>
    simp only [go_sem]
    rw [show (i:Int)+1=((i+1:Nat):Int) by omega]
    repeat refine And.intro (by omega) ?_
    refine ainv hfin (Shift.weak ?_)
    simp only [wk,go_sem]
   | false =>
    rw [c1] at hc
    simp only [go_sem,hi,hgd]
    repeat refine And.intro (by omega) ?_
    refine pcall1 (tagDigit_pc _) rfl (N:=41) Tryz.ntmps133 rfl (go (N:=41) Tryz.ntmps133 300 ?_)
    cases c2:digI (s[i].toNat:Int) with
    | true =>
     simp only [go_sem]
     rw [show (i:Int)+1=((i+1:Nat):Int) by omega]
     repeat refine And.intro (by omega) ?_
     refine ainv hfin (Shift.weak ?_)
     simp only [wk,go_sem]
    | false =>
     rw [c2] at hc
     have c3:((s[i].toNat:Int) != 32)=false:=by simpa using hc
     simp only [go_sem,hi,hgd,c3]
     rw [show (i:Int)+1=((i+1:Nat):Int) by omega]
     repeat refine And.intro (by omega) ?_
     refine ainv hfin (Shift.weak ?_)
     simp only [wk,go_sem]
  ·simp only [go_sem,hi]
   exact aret [2] rfl ⟨rfl,rfl⟩
def nmB (c:UInt8):Bool:=(!decide ((c.toNat:Int) < 65) && !decide ((c.toNat:Int) > 90)) || (digI c.toNat || !decide (Lib.indexByte [32,39,46,45] c < 0))
def isNameL (s:List UInt8):Bool:=decide (1 ≤ s.length) && (decide (s.length ≤ 30) && (!decide (((s.getD 0 0).toNat:Int) < 65) && (!decide (((s.getD 0 0).toNat:Int) > 90) && (plainL s && s.all nmB))))
theorem isNameT_pch {S:Std} (hS:LibOk S) (s:List UInt8) (h:isNameL s=true):PcH Tryz.prog S 132 [.str s] (· = .bool true):=by
 simp only [isNameL,Bool.and_eq_true,Bool.not_eq_true',decide_eq_true_eq] at h
 obtain ⟨h1,h2,k1,k2,h3,h4⟩:=h
 have d1:decide ((s.length:Int) < 1)=false:=by simp; omega
 have d2:decide ((s.length:Int) > 30)=false:=by simp; omega
 have hp:=plain_pch hS s (by omega)
 rw [h3] at hp
 refine pch_intro (cth_intro Tryz.func132 rfl Tryz.ntmps132 hB132 (by simp) fun h ρ w hg=>go (N:=57) Tryz.ntmps132 300 ?_)
 simp only [go_sem,d1,d2,k1,k2]
 repeat refine And.intro (by omega) ?_
 refine pcallH1 hg (hp) rfl (N:=57) Tryz.ntmps132 rfl (go (N:=57) Tryz.ntmps132 300 ?_)
 simp only [go_sem]
 refine aloop (ι:=Nat) (fun i=>s.length - i) (fun i=>[(29,.int .i64 i),(28,.int .i64 s.length),(0,.str s)]) (fun _=>[]) (fun i=>i ≤ s.length) 0 (by omega) ?_ ?_
 ·refine Shift.weak ?_
  simp only [wk,go_sem]
 ·rintro i g1 J hJ
  refine go (N:=57) Tryz.ntmps132 300 ?_
  by_cases hi:(i:Int) < s.length
  ·have hil:i < s.length:=by omega
   have hgd:s.getD i 0=s[i]:=by simp [List.getD,hil]
   have hc:=List.all_eq_true.1 h4 _ (List.getElem_mem hil)
   have hfin:=hJ (i+1) (by omega) (by omega)
   simp only [nmB] at hc
   have fin2:∀ b:Bool,b=false→b=false:=fun _ h=>h
   cases c0:(!decide ((s[i].toNat:Int) < 65) && !decide ((s[i].toNat:Int) > 90)) with
   | true =>
    simp only [Bool.and_eq_true,Bool.not_eq_true'] at c0
    simp only [go_sem,hi,hgd,c0.1,c0.2]
    repeat refine And.intro (by omega) ?_
    rw [show (i:Int)+1=((i+1:Nat):Int) by omega]
    repeat refine And.intro (by omega) ?_
    refine ainv hfin (Shift.weak ?_)
    simp only [wk,go_sem]
   | false =>
    rw [c0] at hc
    have c0':decide ((s[i].toNat:Int) < 65)=true∨(decide ((s[i].toNat:Int) < 65)=false∧decide ((s[i].toNat:Int) > 90)=true):=by
     cases h1:decide ((s[i].toNat:Int) < 65) <;> cases h2:decide ((s[i].toNat:Int) > 90) <;> simp_all
    have hb:((s[i].toNat:Int)).toNat.toUInt8=s[i]:=by simp
    rcases c0' with c0' | ⟨c0',c9⟩
    ·cases c2:digI (s[i].toNat:Int) with
     | true =>
      simp only [go_sem,hi,hgd,c0']
      repeat refine And.intro (by omega) ?_
      refine pcall1 (tagDigit_pc _) rfl (N:=57) Tryz.ntmps132 rfl (go (N:=57) Tryz.ntmps132 300 ?_)
      rw [c2]
      simp only [go_sem]
      rw [show (i:Int)+1=((i+1:Nat):Int) by omega]
      repeat refine And.intro (by omega) ?_
      refine ainv hfin (Shift.weak ?_)
      simp only [wk,go_sem]
     | false =>
      rw [c2] at hc
      have c3:decide (Lib.indexByte [32,39,46,45] s[i] < 0)=false:=by simpa using hc
      simp only [go_sem,hi,hgd,c0']
      repeat refine And.intro (by omega) ?_
      refine pcall1 (tagDigit_pc _) rfl (N:=57) Tryz.ntmps132 rfl (go (N:=57) Tryz.ntmps132 300 ?_)
      rw [c2]
      simp only [go_sem,hi,hgd]
      repeat refine And.intro (by omega) ?_
      refine pcall1 (indexByte_pc [32,39,46,45] (s[i].toNat:Int)) rfl (N:=57) Tryz.ntmps132 rfl (go (N:=57) Tryz.ntmps132 300 ?_)
      rw [hb]
      simp only [go_sem,c3]
      rw [show (i:Int)+1=((i+1:Nat):Int) by omega]
      repeat refine And.intro (by omega) ?_
      refine ainv hfin (Shift.weak ?_)
      simp only [wk,go_sem]
    ·cases c2:digI (s[i].toNat:Int) with
     | true =>
      simp only [go_sem,hi,hgd,c0',c9]
      repeat refine And.intro (by omega) ?_
      refine pcall1 (tagDigit_pc _) rfl (N:=57) Tryz.ntmps132 rfl (go (N:=57) Tryz.ntmps132 300 ?_)
      rw [c2]
      simp only [go_sem]
      rw [show (i:Int)+1=((i+1:Nat):Int) by omega]
      repeat refine And.intro (by omega) ?_
      refine ainv hfin (Shift.weak ?_)
      simp only [wk,go_sem]
     | false =>
      rw [c2] at hc
      have c3:decide (Lib.indexByte [32,39,46,45] s[i] < 0)=false:=by simpa using hc
      simp only [go_sem,hi,hgd,c0',c9]
      repeat refine And.intro (by omega) ?_
      refine pcall1 (tagDigit_pc _) rfl (N:=57) Tryz.ntmps132 rfl (go (N:=57) Tryz.ntmps132 300 ?_)
      rw [c2]
      simp only [go_sem,hi,hgd]
      repeat refine And.intro (by omega) ?_
      refine pcall1 (indexByte_pc [32,39,46,45] (s[i].toNat:Int)) rfl (N:=57) Tryz.ntmps132 rfl (go (N:=57) Tryz.ntmps132 300 ?_)
      rw [hb]
      simp only [go_sem,c3]
      rw [show (i:Int)+1=((i+1:Nat):Int) by omega]
      repeat refine And.intro (by omega) ?_
      refine ainv hfin (Shift.weak ?_)
      simp only [wk,go_sem]
  ·simp only [go_sem,hi]
   exact aret [2] rfl ⟨rfl,rfl⟩
theorem isFacet_pc (s:List UInt8) (hh:s.all (fun c=>smI c.toNat)=true) (h1:1 ≤ s.length) (h2:s.length ≤ 20):Pc Tryz.prog 225 [.str s] (· = .bool true):=by
 have d1:decide ((s.length:Int) ≥ 1)=true:=by simp; omega
 have d2:decide ((s.length:Int) ≤ 20)=true:=by simp; omega
 refine pc_intro (ct_intro Tryz.func225 rfl Tryz.ntmps225 hB225 (by simp) fun h ρ w=>go (N:=23) Tryz.ntmps225 300 ?_)
 simp only [go_sem]
 refine aloop (ι:=Nat) (fun i=>s.length - i) (fun i=>[(6,.int .i64 i),(5,.int .i64 s.length),(0,.str s)]) (fun _=>[]) (fun i=>i ≤ s.length) 0 (by omega) ?_ ?_
 ·refine Shift.weak ?_
  simp only [wk,go_sem]
 ·rintro i g1 J hJ
  refine go (N:=23) Tryz.ntmps225 300 ?_
  by_cases hi:(i:Int) < s.length
  ·have hil:i < s.length:=by omega
   have hgd:s.getD i 0=s[i]:=by simp [List.getD,hil]
   have hc:=List.all_eq_true.1 hh _ (List.getElem_mem hil)
   have hfin:=hJ (i+1) (by omega) (by omega)
   simp only [go_sem,hi,hgd]
   repeat refine And.intro (by omega) ?_
   refine pcall1 (tagSmall_pc _) rfl (N:=23) Tryz.ntmps225 rfl (go (N:=23) Tryz.ntmps225 300 ?_)
   rw [hc]
   simp only [go_sem]
   rw [show (i:Int)+1=((i+1:Nat):Int) by omega]
   repeat refine And.intro (by omega) ?_
   refine ainv hfin (Shift.weak ?_)
   simp only [wk,go_sem]
  ·simp only [go_sem,hi,d1,d2]
   exact aret [2] rfl ⟨rfl,rfl⟩
def elT (e:El):Bool:=decide (1 ≤ e.kind) && (decide (e.kind ≤ 11) && (if e.kind=11 then isNameL e.name else isThingL e.name))
theorem elT_pch {S:Std} (hS:LibOk S) (e:El) (h:elT e=true):PcH Tryz.prog S 78 [elA e] (· = .int .i64 0):=by
 obtain ⟨ek,en⟩:=e
 simp only [elT,Bool.and_eq_true,decide_eq_true_eq] at h
 obtain ⟨h1,h2,h3⟩:=h
 have d1:decide (ek < 1)=false:=by simp; omega
 have d2:decide (ek > 11)=false:=by simp; omega
 simp only [elA]
 by_cases hk:ek=11
 ·have d3:(ek == 11)=true:=by simpa using hk
  have d4:(ek != 11)=false:=by simpa using hk
  rw [if_pos hk] at h3
  have hn:=isNameT_pch hS en h3
  refine pch_intro (cth_intro Tryz.func78 rfl Tryz.ntmps78 hB78 (by simp) fun h ρ w hg=>goB (N:=31) Tryz.ntmps78 300 ?_)
  simp only [go_sem,d1,d2,d3]
  refine pcallH1 hg (hn) rfl (N:=31) Tryz.ntmps78 rfl (goB (N:=31) Tryz.ntmps78 300 ?_)
  simp only [go_sem,d4]
  exact aret [2] rfl ⟨rfl,rfl⟩
 ·have d3:(ek == 11)=false:=by simpa using hk
  have d4:(ek != 11)=true:=by simpa using hk
  rw [if_neg hk] at h3
  have hn:=isThing_pch hS en h3
  refine pch_intro (cth_intro Tryz.func78 rfl Tryz.ntmps78 hB78 (by simp) fun h ρ w hg=>goB (N:=31) Tryz.ntmps78 300 ?_)
  simp only [go_sem,d1,d2,d3,d4]
  refine pcallH1 hg (hn) rfl (N:=31) Tryz.ntmps78 rfl (goB (N:=31) Tryz.ntmps78 300 ?_)
  simp only [go_sem]
  exact aret [2] rfl ⟨rfl,rfl⟩
def faT (f:Fa):Bool:=elT f.el && (f.facet.all (fun c=>smI c.toNat) && (decide (1 ≤ f.facet.length) && (decide (f.facet.length ≤ 20) && (plainL f.value && decide (f.value.length ≤ 60)))))
theorem faT_pch {S:Std} (hS:LibOk S) (f:Fa) (h:faT f=true):PcH Tryz.prog S 170 [faA f] (· = .int .i64 0):=by
 simp only [faT,Bool.and_eq_true,decide_eq_true_eq] at h
 obtain ⟨h1,h2,h3,h4,h5,h6⟩:=h
 have c1:=elT_pch hS f.el h1
 have c2:=isFacet_pc f.facet h2 h3 h4
 have c3:=plain_pch hS f.value (by omega)
 rw [h5] at c3
 have dv:decide ((f.value.length:Int) > 60)=false:=by simp; omega
 simp only [faA,elA] at c1 ⊢
 refine pch_intro (cth_intro Tryz.func170 rfl Tryz.ntmps170 hB170 (by simp) fun h ρ w hg=>goB (N:=26) Tryz.ntmps170 300 ?_)
 simp only [go_sem]
 refine pcallH1 hg (c1) rfl (N:=26) Tryz.ntmps170 rfl (goB (N:=26) Tryz.ntmps170 300 ?_)
 simp only [go_sem]
 refine pcall1 (c2) rfl (N:=26) Tryz.ntmps170 rfl (goB (N:=26) Tryz.ntmps170 300 ?_)
 simp only [go_sem]
 refine pcallH1 hg (c3) rfl (N:=26) Tryz.ntmps170 rfl (goB (N:=26) Tryz.ntmps170 300 ?_)
 simp only [go_sem,dv]
 exact aret [2] rfl ⟨rfl,rfl⟩
end Go.Proofs.YtnfkjpihaficbaaGreatDoor
