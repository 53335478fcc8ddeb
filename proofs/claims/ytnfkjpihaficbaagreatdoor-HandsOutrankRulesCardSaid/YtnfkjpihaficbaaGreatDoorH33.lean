/- Words and items of patterns, exact: the program's isWord, the document's wordOf, itemOf, PatternFault. Own work of this seat. -/
import Derived.Test.YtnfkjpihaficbaaGreatDoorH32
set_option maxRecDepth 100000
set_option linter.unusedSimpArgs false
set_option linter.unusedVariables false
namespace Go.Proofs.YtnfkjpihaficbaaGreatDoor
open Go Go.Av Go.RowKit
theorem mSplitK_le (sep:List UInt8):∀ (k:Nat) (s:List UInt8),∀ x ∈ Lib.splitK sep 0 k s,x.length ≤ s.length
 | 0,s,x,hx=>by
  rw [Lib.splitK,List.mem_singleton] at hx
  subst hx
  exact Nat.le_refl _
 | k+1,s,x,hx=>by
  rw [Lib.splitK] at hx
  split at hx
  ·rw [List.mem_singleton] at hx
   subst hx
   exact Nat.le_refl _
  ·rcases List.mem_cons.1 hx with rfl | hx
   ·rw [List.length_take]
    exact Nat.min_le_right ..
   ·have:=mSplitK_le sep k _ x hx
    simp only [List.length_drop] at this
    omega
theorem mSplitK_len (sep:List UInt8):∀ (k:Nat) (s:List UInt8),(Lib.splitK sep 0 k s).length ≤ k+1
 | 0,s=>by simp [Lib.splitK]
 | k+1,s=>by
  rw [Lib.splitK]
  split
  ·simp
  ·have:=mSplitK_len sep k (s.drop ((Lib.index s sep).toNat+sep.length))
   simp only [List.length_cons]; omega
theorem mSplitL_eq (s:List UInt8) (c:UInt8):splitL s [c]=Lib.splitK [c] 0 (Lib.count s [c]) s:=by
 unfold splitL
 rw [Lib.splitB_data]
 try rfl
theorem splitC_le (s:List UInt8) (c:UInt8):∀ x ∈ splitL s [c],x.length ≤ s.length:=by
 rw [mSplitL_eq]
 exact mSplitK_le _ _ _
theorem isWordX_pc (s:List UInt8) (hl:s.length < 1000000):Pc Tryz.prog 209 [.str s] (· = .bool (isWordL s)):=by
 cases hw:isWordL s with
 | true=>exact isWord_pc s hw
 | false =>
 have hp:=trim_pc s [39] (by omega) (by decide) (by unfold asciiL; decide)
 by_cases h1:1 ≤ s.length
 rotate_left
 ·have d1:decide ((s.length:Int) < 1)=true:=by simp; omega
  refine pc_intro (ct_intro Tryz.func209 rfl Tryz.ntmps209 hB209 (by simp) fun h ρ w=>go (N:=41) Tryz.ntmps209 300 ?_)
  simp only [go_sem,d1]
  exact aret [2] rfl ⟨rfl,rfl⟩
 have d1:decide ((s.length:Int) < 1)=false:=by simp; omega
 by_cases h2:s.length ≤ 20
 rotate_left
 ·have d2:decide ((s.length:Int) > 20)=true:=by simp; omega
  refine pc_intro (ct_intro Tryz.func209 rfl Tryz.ntmps209 hB209 (by simp) fun h ρ w=>go (N:=41) Tryz.ntmps209 300 ?_)
  simp only [go_sem,d1,d2]
  exact aret [2] rfl ⟨rfl,rfl⟩
 have d2:decide ((s.length:Int) > 20)=false:=by simp; omega
 by_cases h3:Lib.trimS s [39]=[]
 ·have d3:(Lib.trimS s [39] == [])=true:=by simpa using h3
  refine pc_intro (ct_intro Tryz.func209 rfl Tryz.ntmps209 hB209 (by simp) fun h ρ w=>go (N:=41) Tryz.ntmps209 300 ?_)
  simp only [go_sem,d1,d2]
  refine pcall1 (hp) rfl (N:=41) Tryz.ntmps209 rfl (go (N:=41) Tryz.ntmps209 300 ?_)
  simp only [go_sem,d3]
  exact aret [2] rfl ⟨rfl,rfl⟩
 have d3:(Lib.trimS s [39] == [])=false:=by simpa using h3
 have h4:s.all wdB=false:=by
  simp only [isWordL,h1,h2,decide_true,Bool.true_and] at hw
  have:(Lib.trimS s [39] != [])=true:=by simpa using h3
  rw [this,Bool.true_and] at hw
  exact hw
 refine pc_intro (ct_intro Tryz.func209 rfl Tryz.ntmps209 hB209 (by simp) fun h ρ w=>go (N:=41) Tryz.ntmps209 300 ?_)
 simp only [go_sem,d1,d2]
 refine pcall1 (hp) rfl (N:=41) Tryz.ntmps209 rfl (go (N:=41) Tryz.ntmps209 300 ?_)
 simp only [go_sem,d3]
 refine aloop (ι:=Nat) (fun i=>s.length - i) (fun i=>[(19,.int .i64 i),(18,.int .i64 s.length),(0,.str s)]) (fun _=>[]) (fun i=>i ≤ s.length∧(s.take i).all wdB=true) 0 (by simp) ?_ ?_
 ·refine Shift.weak ?_
  simp only [wk,go_sem]
 ·rintro i ⟨g1,g2⟩ J hJ
  refine go (N:=41) Tryz.ntmps209 300 ?_
  by_cases hi:(i:Int) < s.length
  ·have hil:i < s.length:=by omega
   have hgd:s.getD i 0=s[i]:=by simp [List.getD,hil]
   have hfin:=fun (h:wdB s[i]=true)=>hJ (i+1) ⟨by omega,by rw [List.take_succ_eq_append_getElem hil,List.all_append,g2]; simp [h]⟩ (by omega)
   simp only [wdB] at hfin
   simp only [go_sem,hi,hgd]
   repeat refine And.intro (by omega) ?_
   refine pcall1 (tagSmall_pc _) rfl (N:=41) Tryz.ntmps209 rfl (go (N:=41) Tryz.ntmps209 300 ?_)
   cases c1:smI (s[i].toNat:Int) with
   | true =>
    have hfin:=hfin (by rw [c1]; rfl)
    simp only [go_sem]
    rw [show (i:Int)+1=((i+1:Nat):Int) by omega]
    repeat refine And.intro (by omega) ?_
    refine ainv hfin (Shift.weak ?_)
    simp only [wk,go_sem]
   | false =>
    simp only [go_sem,hi,hgd]
    repeat refine And.intro (by omega) ?_
    refine pcall1 (tagDigit_pc _) rfl (N:=41) Tryz.ntmps209 rfl (go (N:=41) Tryz.ntmps209 300 ?_)
    cases c2:digI (s[i].toNat:Int) with
    | true =>
     have hfin:=hfin (by rw [c1,c2]; rfl)
     simp only [go_sem]
     rw [show (i:Int)+1=((i+1:Nat):Int) by omega]
     repeat refine And.intro (by omega) ?_
     refine ainv hfin (Shift.weak ?_)
     simp only [wk,go_sem]
    | false =>
     cases c3:((s[i].toNat:Int) != 39) with
     | false =>
      have hfin:=hfin (by rw [c1,c2]; simpa using c3)
      simp only [go_sem,hi,hgd,c3]
      rw [show (i:Int)+1=((i+1:Nat):Int) by omega]
      repeat refine And.intro (by omega) ?_
      refine ainv hfin (Shift.weak ?_)
      simp only [wk,go_sem]
     | true =>
      simp only [go_sem,hi,hgd,c3]
      repeat refine And.intro (by omega) ?_
      exact aret [2] rfl ⟨rfl,rfl⟩
  ·rw [List.take_of_length_le (by omega),h4] at g2
   cases g2
def wordSet:List UInt8:=[97,98,99,100,101,102,103,104,105,106,107,108,109,110,111,112,113,114,115,116,117,118,119,120,121,122,48,49,50,51,52,53,54,55,56,57,39]
def wordR (s:List UInt8):Bool:=longR s 1 20 && (madeR s wordSet && (Lib.trimS s [39] != []))
theorem wordR_pc (s:List UInt8) (hl:s.length < 1000000):Pc Tryz.prog 148 [.str s] (· = .bool (wordR s)):=by
 have hp:=trim_pc s [39] (by omega) (by decide) (by unfold asciiL; decide)
 have hm:=madeR_pc s wordSet (by omega) (by decide) (by unfold asciiL wordSet; decide)
 have hlo:=longR_pc s 1 20
 unfold wordR
 generalize longR s 1 20=b1 at *
 unfold wordSet at hm
 generalize hmm:madeR s _=b2 at hm
 have hmm2:madeR s wordSet=b2:=hmm
 rw [hmm2]
 refine pc_intro (ct_intro Tryz.func148 rfl Tryz.ntmps148 hB148 (by simp) fun h ρ w=>goB (N:=14) Tryz.ntmps148 300 ?_)
 simp only [go_sem]
 refine pcall1 (hlo) rfl (N:=14) Tryz.ntmps148 rfl (goB (N:=14) Tryz.ntmps148 300 ?_)
 cases b1 with
 | false =>
  simp only [go_sem]
  exact aret [2] rfl ⟨rfl,rfl⟩
 | true =>
  simp only [go_sem]
  refine pcall1 (hm) rfl (N:=14) Tryz.ntmps148 rfl (goB (N:=14) Tryz.ntmps148 300 ?_)
  cases b2 with
  | false =>
   simp only [go_sem]
   exact aret [2] rfl ⟨rfl,rfl⟩
  | true =>
   simp only [go_sem]
   refine pcall1 (hp) rfl (N:=14) Tryz.ntmps148 rfl (goB (N:=14) Tryz.ntmps148 300 ?_)
   simp only [go_sem]
   exact aret [2] rfl ⟨rfl,rfl⟩
def itemR (s:List UInt8):Bool × Bool:=if s=[63]∨s=[35] then (true,false) else if Lib.hasSuffix s [42] then (wordR (s.take (s.length - 1)),true) else ((splitL s [124]).all wordR,true)
set_option maxHeartbeats 1000000 in
theorem itemR_pch {S:Std} (hS:LibOk S) (s:List UInt8) (hl:s.length < 1000):PcH Tryz.prog S 100 [.str s] (· = .tup [.bool (itemR s).1,.bool (itemR s).2]):=by
 have hsf:=hasSuffix_pc s [42] (by omega)
 have hsp:=split_pch hS s [124] (by omega) (by decide)
 have hle:=splitC_le s 124
 have hlen:(splitL s [124]).length ≤ 100000:=by
  rw [mSplitL_eq]
  have:=Lib.count_le s [124]
  have:=mSplitK_len [124] (Lib.count s [124]) s
  omega
 unfold itemR
 by_cases h1:s=[63]
 ·subst h1
  refine pch_intro (cth_intro Tryz.func100 rfl Tryz.ntmps100 hB100 (by simp) fun h ρ w hg=>goB (N:=31) Tryz.ntmps100 300 ?_)
  simp only [go_sem]
  exact aret [2,3] rfl ⟨rfl,rfl⟩
 have d1:(s == [63])=false:=by simpa using h1
 by_cases h2:s=[35]
 ·subst h2
  have d3:(([35]:List UInt8) == [63])=false:=by decide
  refine pch_intro (cth_intro Tryz.func100 rfl Tryz.ntmps100 hB100 (by simp) fun h ρ w hg=>goB (N:=31) Tryz.ntmps100 300 ?_)
  simp only [go_sem,d3]
  exact aret [2,3] rfl ⟨rfl,rfl⟩
 have d2:(s == [35])=false:=by simpa using h2
 rw [if_neg (by simp [h1,h2])]
 cases h3:Lib.hasSuffix s [42] with
 | true =>
  rw [h3] at hsf
  have hw:=wordR_pc (s.take (s.length - 1)) (by rw [List.length_take]; omega)
  have hs1:1 ≤ s.length:=by
   cases s with
   | nil=>exact absurd h3 (by decide)
   | cons a b=>simp
  rw [if_pos rfl]
  refine pch_intro (cth_intro Tryz.func100 rfl Tryz.ntmps100 hB100 (by simp) fun h ρ w hg=>goB (N:=31) Tryz.ntmps100 300 ?_)
  simp only [go_sem,d1,d2]
  refine pcall1 (hsf) rfl (N:=31) Tryz.ntmps100 rfl (goB (N:=31) Tryz.ntmps100 300 ?_)
  simp only [go_sem]
  repeat refine And.intro (by omega) ?_
  rw [show ((s.length:Int) - 1).toNat=s.length - 1 by omega]
  refine pcall1 (hw) rfl (N:=31) Tryz.ntmps100 rfl (goB (N:=31) Tryz.ntmps100 300 ?_)
  simp only [go_sem]
  exact aret [2,3] rfl ⟨rfl,rfl⟩
 | false =>
  rw [h3] at hsf
  rw [if_neg (by simp)]
  generalize splitL s [124]=l at *
  refine pch_intro (cth_intro Tryz.func100 rfl Tryz.ntmps100 hB100 (by simp) fun h ρ w hg=>goB (N:=31) Tryz.ntmps100 300 ?_)
  simp only [go_sem,d1,d2]
  refine pcall1 (hsf) rfl (N:=31) Tryz.ntmps100 rfl (goB (N:=31) Tryz.ntmps100 300 ?_)
  simp only [go_sem]
  refine pcallH1 hg (hsp) rfl (N:=31) Tryz.ntmps100 rfl (goB (N:=31) Tryz.ntmps100 300 ?_)
  simp only [go_sem]
  have hg:∀ i (h:i < l.length),(l.map AV.str).getD i .any=.str l[i]:=fun i h=>by simp [List.getD,h]
  refine aloop (ι:=Nat) (fun i=>l.length - i) (fun i=>[(23,.int .i64 i),(22,.int .i64 l.length),(21,.fz 1 (l.map .str))]) (fun _=>[]) (fun i=>i ≤ l.length∧(l.take i).all wordR=true) 0 (by simp) ?_ ?_
  ·refine Shift.weak ?_
   simp only [wk,go_sem,List.length_map]
   try rfl
  rintro i ⟨g1,g2⟩ J hJ
  by_cases hi:i < l.length
  ·have di:decide ((i:Int) < (l.length:Int))=true:=by simp; omega
   have hfin:=fun (h:wordR l[i]=true)=>hJ (i+1) ⟨by omega,by rw [List.take_succ_eq_append_getElem hi,List.all_append,g2]; simp [h]⟩ (by omega)
   have p1:=hg i hi
   have hw:=wordR_pc l[i] (by have:=hle _ (List.getElem_mem hi); omega)
   have hbad:wordR l[i]=false→l.all wordR=false:=fun h=>by
    rw [List.all_eq_false]
    exact ⟨_,List.getElem_mem hi,by simp [h]⟩
   generalize l[i]=y at *
   cases hy:wordR y with
   | true =>
    have hfin:=hfin hy
    rw [hy] at hw
    refine goB (N:=31) Tryz.ntmps100 300 ?_
    simp only [go_sem,di,p1,List.length_map]
    repeat refine And.intro (by first | omega | rfl | (simp; done) | (simp; omega)) ?_
    refine pcall1 (hw) rfl (N:=31) Tryz.ntmps100 rfl (goB (N:=31) Tryz.ntmps100 300 ?_)
    simp only [go_sem]
    repeat refine And.intro (by first | omega | rfl | (simp; done) | (simp; omega)) ?_
    rw [show (i:Int)+1=((i+1:Nat):Int) by omega]
    refine ainv hfin (Shift.weak ?_)
    simp only [wk,go_sem]
   | false =>
    rw [hbad hy]
    rw [hy] at hw
    refine goB (N:=31) Tryz.ntmps100 300 ?_
    simp only [go_sem,di,p1,List.length_map]
    repeat refine And.intro (by first | omega | rfl | (simp; done) | (simp; omega)) ?_
    refine pcall1 (hw) rfl (N:=31) Tryz.ntmps100 rfl (goB (N:=31) Tryz.ntmps100 300 ?_)
    simp only [go_sem]
    exact aret [2,3] rfl ⟨rfl,rfl⟩
  ·have di:decide ((i:Int) < (l.length:Int))=false:=by simp; omega
   rw [List.take_of_length_le (by omega)] at g2
   rw [g2]
   refine goB (N:=31) Tryz.ntmps100 300 ?_
   simp only [go_sem,di]
   exact aret [2,3] rfl ⟨rfl,rfl⟩
def idxS (s:List UInt8) (l:List (List UInt8)):Int:=match l.findIdx? (· == s) with | some i=>i | none=>-1
theorem idxS_hit {s:List UInt8} {l:List (List UInt8)} {i:Nat} (h:i < l.length) (h1:(l.take i).all (· != s)=true) (h2:l[i]=s):idxS s l=i:=by
 unfold idxS
 have:l.findIdx? (· == s)=some i:=by
  rw [List.findIdx?_eq_some_iff_getElem]
  refine ⟨h,by simp [h2],fun j hj=>?_⟩
  have:=List.all_eq_true.1 h1 (l[j]'(by omega)) (by rw [List.mem_take_iff_getElem]; exact ⟨j,by omega,rfl⟩)
  simpa using this
 rw [this]
theorem idxS_none {s:List UInt8} {l:List (List UInt8)} (h1:l.all (· != s)=true):idxS s l=-1:=by
 unfold idxS
 have:l.findIdx? (· == s)=none:=by
  rw [List.findIdx?_eq_none_iff]
  intro x hx
  have:=List.all_eq_true.1 h1 x hx
  simpa using this
 rw [this]
theorem indexS_pc (l:List (List UInt8)) (s:List UInt8) (hl:l.length < 1000000):Pc Tryz.prog 262 [.fz 1 (l.map .str),.str s] (· = .int .i64 (idxS s l)):=by
 refine pc_intro (ct_intro Tryz.func262 rfl Tryz.ntmps262 hB262 (by simp) fun h ρ w=>goB (N:=19) Tryz.ntmps262 300 ?_)
 simp only [go_sem,List.length_map]
 refine aloop (ι:=Nat) (fun i=>l.length - i) (fun i=>[(8,.int .i64 i),(7,.int .i64 l.length),(1,.str s),(0,.fz 1 (l.map .str))]) (fun _=>[]) (fun i=>i ≤ l.length∧(l.take i).all (· != s)=true) 0 ⟨by omega,by simp⟩ ?_ ?_
 ·refine Shift.weak ?_
  simp only [wk,go_sem]
 ·rintro i ⟨g1,g2⟩ J hJ
  by_cases gi:i < l.length
  ·have di:decide ((i:Int) < (l.length:Int))=true:=by simp; omega
   have hget:List.getD (l.map AV.str) i .any=.str l[i]:=by simp [List.getD,gi]
   have hst:l[i] ≠ s→(l.take (i+1)).all (· != s)=true:=fun h=>by
    rw [List.take_succ_eq_append_getElem gi,List.all_append,g2]
    simpa using h
   cases e:s == l[i] with
   | true =>
    refine goB (N:=19) Tryz.ntmps262 300 ?_
    simp only [go_sem,di,hget,e,List.length_map]
    repeat refine And.intro (by first | omega | rfl | (simp; done) | (simp; omega)) ?_
    exact aret [4] rfl ⟨by rw [idxS_hit gi g2 (by simpa using (beq_iff_eq.1 e).symm)]; rfl,rfl⟩
   | false =>
    have hfin:=hJ (i+1) ⟨by omega,hst (fun h=>by rw [h] at e; simp at e)⟩ (by omega)
    refine goB (N:=19) Tryz.ntmps262 300 ?_
    simp only [go_sem,di,hget,e,List.length_map]
    repeat refine And.intro (by first | omega | rfl | (simp; done) | (simp; omega)) ?_
    rw [show (i:Int)+1=((i+1:Nat):Int) by omega]
    refine ainv hfin (Shift.weak ?_)
    simp only [wk,go_sem]
  ·have di:decide ((i:Int) < (l.length:Int))=false:=by simp; omega
   rw [List.take_of_length_le (by omega)] at g2
   refine goB (N:=19) Tryz.ntmps262 300 ?_
   simp only [go_sem,di]
   exact aret [4] rfl ⟨by rw [idxS_none g2]; rfl,rfl⟩
def numNames:List (List UInt8):=[[111,110,101],[116,119,111],[116,104,114,101,101],[102,111,117,114],[102,105,118,101],[115,105,120],[115,101,118,101,110],[101,105,103,104,116],[110,105,110,101],[116,101,110],[101,108,101,118,101,110],[116,119,101,108,118,101]]
set_option maxHeartbeats 2000000 in
theorem countedTwo_pc:Pc Tryz.prog 212 [.str [116,119,111]] (· = .int .i64 2):=by
 have hx:=indexS_pc numNames [116,119,111] (by decide)
 rw [show idxS [116,119,111] numNames=1 by decide] at hx
 simp only [numNames,List.map_cons,List.map_nil] at hx
 refine pc_intro (ct_intro Tryz.func212 rfl Tryz.ntmps212 hB212 (by simp) fun h ρ w=>goB (N:=46) Tryz.ntmps212 16 ?_)
 simp only [go_sem]
 refine AWp.shift (Shift.trans (Shift.frz 0 rfl rfl) (Shift.weakS (e':=[(3,.pin 12 [.agg (numNames.map .str)] 0 0),(0,.str [116,119,111])]) (s':=[.dead]) ⟨rfl,rfl,trivial⟩ rfl)) ?_
 simp only [numNames,List.map_cons,List.map_nil]
 refine goB (N:=46) Tryz.ntmps212 300 ?_
 simp only [go_sem]
 repeat refine And.intro (by first | rfl | decide) ?_
 refine pcall1 (hx) rfl (N:=46) Tryz.ntmps212 rfl (goB (N:=46) Tryz.ntmps212 300 ?_)
 simp only [go_sem]
 repeat refine And.intro (by first | rfl | decide) ?_
 exact aret [2] rfl ⟨rfl,rfl⟩
def itHashA:AV:=.agg [.bool false,.bool true,.bool false,.raw (.slice none 0 0)]
def itGunA:AV:=.agg [.bool false,.bool false,.bool true,.fz 1 [.str [103,117,110]]]
theorem matchHash_pc:Pc Tryz.prog 211 [itHashA,.str [116,119,111]] (· = .bool true):=by
 simp only [itHashA]
 refine pc_intro (ct_intro Tryz.func211 rfl Tryz.ntmps211 hB211 (by simp) fun h ρ w=>goB (N:=27) Tryz.ntmps211 300 ?_)
 simp only [go_sem]
 refine pcall1 (countedTwo_pc) rfl (N:=27) Tryz.ntmps211 rfl (goB (N:=27) Tryz.ntmps211 300 ?_)
 simp only [go_sem]
 exact aret [4] rfl ⟨rfl,rfl⟩
theorem matchGun_pc:Pc Tryz.prog 211 [itGunA,.str [103,117,110,115]] (· = .bool true):=by
 have hp:=hasPrefix_pc [103,117,110,115] [103,117,110]
 rw [show Lib.hasPrefix [103,117,110,115] [103,117,110]=true by decide] at hp
 simp only [itGunA]
 refine pc_intro (ct_intro Tryz.func211 rfl Tryz.ntmps211 hB211 (by simp) fun h ρ w=>goB (N:=27) Tryz.ntmps211 300 ?_)
 simp only [go_sem]
 repeat refine And.intro (by first | rfl | decide) ?_
 refine pcall1 (hp) rfl (N:=27) Tryz.ntmps211 rfl (goB (N:=27) Tryz.ntmps211 300 ?_)
 simp only [go_sem]
 exact aret [4] rfl ⟨rfl,rfl⟩
def hitA:AV:=.agg [.int .i64 0,.int .i64 2,.int .i64 2]
set_option maxHeartbeats 4000000 in
theorem hitAt_pc:Pc Tryz.prog 157 [.fz 4 [itHashA,itGunA],.fz 1 [.str [116,119,111],.str [103,117,110,115]],.int .i64 0] (· = .tup [hitA,.bool true]):=by
 have h1:=matchHash_pc
 have h2:=matchGun_pc
 simp only [itHashA,itGunA,hitA] at h1 h2 ⊢
 refine pc_intro (ct_intro Tryz.func157 rfl Tryz.ntmps157 hB157 (by simp) fun h ρ w=>goB (N:=61) Tryz.ntmps157 300 ?_)
 simp only [go_sem]
 repeat refine And.intro (by first | rfl | decide) ?_
 refine aenter (around ?_)
 refine goB (N:=61) Tryz.ntmps157 300 ?_
 simp only [go_sem]
 repeat refine And.intro (by first | rfl | decide) ?_
 refine adraw [.bool true] mixed (by decide) (N:=61) Tryz.ntmps157 (by decide) 100 ?_
 simp only [go_sem]
 repeat refine And.intro (by first | exact h1.at | rfl | decide) ?_
 refine goB (N:=61) Tryz.ntmps157 300 ?_
 simp only [go_sem]
 repeat refine And.intro (by first | rfl | decide) ?_
 refine pcall1 (countedTwo_pc) rfl (N:=61) Tryz.ntmps157 rfl (goB (N:=61) Tryz.ntmps157 300 ?_)
 simp only [go_sem]
 repeat refine And.intro (by first | rfl | decide | exact .inl rfl | exact .inl trivial) ?_
 refine aagain (around ?_)
 refine goB (N:=61) Tryz.ntmps157 300 ?_
 simp only [go_sem]
 repeat refine And.intro (by first | rfl | decide | exact .inl rfl | exact .inl trivial) ?_
 refine adraw [.bool true] mixed (by decide) (N:=61) Tryz.ntmps157 (by decide) 100 ?_
 simp only [go_sem]
 repeat refine And.intro (by first | exact h2.at | rfl | decide) ?_
 refine goB (N:=61) Tryz.ntmps157 300 ?_
 simp only [go_sem]
 repeat refine And.intro (by first | rfl | decide | exact .inl rfl | exact .inl trivial) ?_
 refine aagain (around ?_)
 refine goB (N:=61) Tryz.ntmps157 300 ?_
 simp only [go_sem]
 repeat refine And.intro (by first | rfl | decide | exact .inl rfl | exact .inl trivial) ?_
 exact aretc [.cell 6 130,.tmp 7] rfl [_,_] ⟨by simp only [go_sem,sideIs],rfl,trivial⟩ ⟨rfl,rfl⟩
theorem hits_pc:Pc Tryz.prog 107 [.fz 4 [itHashA,itGunA],.fz 1 [.str [116,119,111],.str [103,117,110,115]]] (· = .fz 3 [hitA]):=by
 have h1:=hitAt_pc
 simp only [hitA] at h1 ⊢
 refine pc_intro (ct_intro Tryz.func107 rfl Tryz.ntmps107 hB107 (by simp) fun h ρ w=>goB (N:=33) Tryz.ntmps107 300 ?_)
 simp only [go_sem]
 refine aenter (around ?_)
 refine goB (N:=33) Tryz.ntmps107 300 ?_
 simp only [go_sem]
 repeat refine And.intro (by first | rfl | decide | exact .inl rfl | exact .inl trivial) ?_
 refine pcall1 (h1) rfl (N:=33) Tryz.ntmps107 rfl (goB (N:=33) Tryz.ntmps107 300 ?_)
 simp only [go_sem]
 repeat refine And.intro (by first | rfl | decide | exact .inl rfl | exact .inl trivial) ?_
 refine aagain (around ?_)
 refine goB (N:=33) Tryz.ntmps107 300 ?_
 simp only [go_sem]
 repeat refine And.intro (by first | rfl | decide | exact .inl rfl | exact .inl trivial) ?_
 refine ARet.shift (Shift.freeze 4 (id:=1) (l:=[.agg [.int .i64 0,.int .i64 2,.int .i64 2]]) rfl rfl rfl (Nat.le_refl _) rfl) (aret [4] rfl ⟨rfl,rfl⟩)
theorem sHasSuffix_pc:Pc Tryz.prog 199 [.str [103,117,110,42],.str [42]] (· = .bool true):=by
 refine pc_intro (ct_intro Tryz.func199 rfl Tryz.ntmps199 hB199 (by simp) fun h ρ w=>goB (N:=21) Tryz.ntmps199 300 ?_)
 simp only [go_sem]
 repeat refine And.intro (by first | rfl | decide | exact .inl rfl | exact .inl trivial) ?_
 exact aret [4] rfl ⟨rfl,rfl⟩
theorem sCutSuffix_pc:Pc Tryz.prog 260 [.str [103,117,110,42],.str [42]] (· = .tup [.str [103,117,110],.bool true]):=by
 refine pc_intro (ct_intro Tryz.func260 rfl Tryz.ntmps260 hB260 (by simp) fun h ρ w=>goB (N:=18) Tryz.ntmps260 300 ?_)
 simp only [go_sem]
 refine pcall1 (sHasSuffix_pc) rfl (N:=18) Tryz.ntmps260 rfl (goB (N:=18) Tryz.ntmps260 300 ?_)
 simp only [go_sem]
 repeat refine And.intro (by first | rfl | decide | exact .inl rfl | exact .inl trivial) ?_
 exact aret [4,5] rfl ⟨rfl,rfl⟩
theorem cutSuffix_pc:Pc Tryz.prog 208 [.str [103,117,110,42],.str [42]] (· = .tup [.str [103,117,110],.bool true]):=by
 refine pc_intro (ct_intro Tryz.func208 rfl Tryz.ntmps208 hB208 (by simp) fun h ρ w=>goB (N:=11) Tryz.ntmps208 300 ?_)
 simp only [go_sem]
 refine pcall1 (sCutSuffix_pc) rfl (N:=11) Tryz.ntmps208 rfl (goB (N:=11) Tryz.ntmps208 300 ?_)
 simp only [go_sem]
 exact aret [4,5] rfl ⟨rfl,rfl⟩
theorem readHash_pc:Pc Tryz.prog 152 [.str [35]] (· = .tup [itHashA,.bool true]):=by
 have e1:(([35]:List UInt8) == [63])=false:=by decide
 simp only [itHashA]
 refine pc_intro (ct_intro Tryz.func152 rfl Tryz.ntmps152 hB152 (by simp) fun h ρ w=>goB (N:=42) Tryz.ntmps152 300 ?_)
 simp only [go_sem,e1]
 exact aretc [.cell 2 233,.tmp 3] rfl [_,_] ⟨by simp only [go_sem,sideIs],rfl,trivial⟩ ⟨rfl,rfl⟩
theorem readGun_pc:Pc Tryz.prog 152 [.str [103,117,110,42]] (· = .tup [itGunA,.bool true]):=by
 have hw:=isWord_pc [103,117,110] (by decide)
 have e1:(([103,117,110,42]:List UInt8) == [63])=false:=by decide
 have e2:(([103,117,110,42]:List UInt8) == [35])=false:=by decide
 simp only [itGunA]
 refine pc_intro (ct_intro Tryz.func152 rfl Tryz.ntmps152 hB152 (by simp) fun h ρ w=>goB (N:=42) Tryz.ntmps152 300 ?_)
 simp only [go_sem,e1,e2]
 refine pcall1 (cutSuffix_pc) rfl (N:=42) Tryz.ntmps152 rfl (goB (N:=42) Tryz.ntmps152 300 ?_)
 simp only [go_sem]
 repeat refine And.intro (by first | rfl | decide | exact .inl rfl | exact .inl trivial) ?_
 refine pcall1 (hw) rfl (N:=42) Tryz.ntmps152 rfl (goB (N:=42) Tryz.ntmps152 300 ?_)
 simp only [go_sem]
 repeat refine And.intro (by first | rfl | decide | exact .inl rfl | exact .inl trivial) ?_
 exact aretc [.cell 2 233,.tmp 3] rfl [_,_] ⟨by simp only [go_sem,sideIs],rfl,trivial⟩ ⟨rfl,rfl⟩
theorem match_pch {S:Std} (hr:PcH Tryz.prog S 104 [.str [35,32,103,117,110,42]] (· = .tup [.fz 4 [itHashA,itGunA],.bool true])):PcH Tryz.prog S 56 [.str [35,32,103,117,110,42],.str [116,119,111,32,103,117,110,115]] (· = .tup [.fz 3 [hitA],.int .i64 0]):=by
 have hw:=words_pc [116,119,111,32,103,117,110,115] (by decide)
 rw [show wordsL [116,119,111,32,103,117,110,115]=[[116,119,111],[103,117,110,115]] by decide] at hw
 simp only [List.map_cons,List.map_nil] at hw
 refine pch_intro (cth_intro Tryz.func56 rfl Tryz.ntmps56 hB56 (by simp) fun h ρ w hg=>goB (N:=19) Tryz.ntmps56 300 ?_)
 simp only [go_sem]
 refine pcallH1 hg (hr) rfl (N:=19) Tryz.ntmps56 rfl (goB (N:=19) Tryz.ntmps56 300 ?_)
 simp only [go_sem]
 refine pcall1 (hw) rfl (N:=19) Tryz.ntmps56 rfl (goB (N:=19) Tryz.ntmps56 300 ?_)
 simp only [go_sem]
 refine pcall1 (hits_pc) rfl (N:=19) Tryz.ntmps56 rfl (goB (N:=19) Tryz.ntmps56 300 ?_)
 simp only [go_sem]
 exact aret [4,5] rfl ⟨rfl,rfl⟩
theorem tags_pch {S:Std} (hr:PcH Tryz.prog S 104 [.str [35,32,103,117,110,42]] (· = .tup [.fz 4 [itHashA,itGunA],.bool true])):PcH Tryz.prog S 12 [] (· = .bool true):=by
 have hm:=match_pch hr
 simp only [hitA] at hm
 refine pch_intro (cth_intro Tryz.func12 rfl Tryz.ntmps12 hB12 (by simp) fun h ρ w hg=>goB (N:=21) Tryz.ntmps12 300 ?_)
 simp only [go_sem]
 refine pcallH1 hg (hm) rfl (N:=21) Tryz.ntmps12 rfl (goB (N:=21) Tryz.ntmps12 300 ?_)
 simp only [go_sem]
 repeat refine And.intro (by first | rfl | decide) ?_
 exact aret [0] rfl ⟨rfl,rfl⟩
end Go.Proofs.YtnfkjpihaficbaaGreatDoor
set_option linter.unusedSectionVars false
namespace Go.Av
open Go Go.RowKit
variable [Tr]
def stoD (d:Nat) (e:Env) (o:Oper):Prop:=match o.guard,o.op with
 | none,.store _ x _=>match ev e x with
  | .ptr i _ _ _=>i=d
  | _=>False
 | _,_=>False
def sck (ids lk:List (Nat × Nat)) (i:Nat) (e:Env) (s:List Blk) (o:Oper):Prop :=
 (match ids.lookup i with
  | some d=>stoD d e o
  | none=>True)∧(bif reader o.op && !blind o.op then ids.all (fun p=>lk.contains (i,p.1) || opOk s.length p.2 e o.op)=true else True)
theorem sto_does {c:Cx} {ops:Array Oper} {s s1:List Blk} {o:Oper} {cv v:AV} {e:Env} {d:Nat} (ho:stoD d e o) (h:Does c ops s o cv e v s1) :
  v=.raw undef∧∃ b,s1=s.set d b∧∀ s2 cv2,s2.getD d .dead=s.getD d .dead→Does c ops s2 o cv2 e v (s2.set d b):=by
 unfold stoD at ho
 split at ho
 ·rename_i t x u hg hop
  split at ho
  ·rename_i i n j off hx
   subst ho
   unfold Does at h ⊢
   rw [hg] at h ⊢
   simp only at h ⊢
   unfold DoesOp at h ⊢
   rw [hop] at h ⊢
   simp only [xop,hx,xstore] at h ⊢
   cases hb:s.getD i .dead with
   | arr es l =>
    rw [hb] at h
    simp only [xstoreB] at h
    obtain ⟨h1,h2,h3,h4⟩:=h
    refine ⟨h3,_,h4,fun s2 cv2 hs=>?_⟩
    rw [hs]
    simp only [xstoreB]
    exact ⟨h1,h2,h3,trivial⟩
   | mp es=>rw [hb] at h; exact h.elim
   | it a b c=>rw [hb] at h; exact h.elim
   | dead=>rw [hb] at h; exact h.elim
  ·exact ho.elim
 ·exact ho.elim
theorem stoD_agree {d:Nat} {e e':Env} {o:Oper} (h:∀ x ∈ o.op.operands,ev e x=ev e' x) (hs:stoD d e o):stoD d e' o:=by
 unfold stoD at hs ⊢
 cases hg:o.guard with
 | some x=>rw [hg] at hs; exact hs.elim
 | none =>
  rw [hg] at hs
  cases ho:o.op <;> rw [ho] at hs <;> simp only at hs ⊢
  rw [← h _ (by rw [ho]; simp [Op.operands])]
  exact hs
theorem sck_agree {ids lk:List (Nat × Nat)} {i:Nat} {e e':Env} {s s':List Blk} {o:Oper} (h:∀ x ∈ o.op.operands,ev e x=ev e' x) (hs:s.length=s'.length) (hp:sck ids lk i e s o):sck ids lk i e' s' o:=by
 obtain ⟨h1,h2⟩:=hp
 refine ⟨?_,?_⟩
 ·cases hl:ids.lookup i with
  | none=>trivial
  | some d =>
   rw [hl] at h1
   simp only at h1 ⊢
   exact stoD_agree h h1
 ·cases hb:(reader o.op && !blind o.op) with
  | false=>trivial
  | true =>
   rw [hb] at h2
   simp only [cond_true] at h2 ⊢
   rw [List.all_eq_true] at h2 ⊢
   intro p hp
   rw [← opOk_agree h,← hs]
   exact h2 p hp
theorem sck_ok {ids lk:List (Nat × Nat)} {i:Nat} {e:Env} {s:List Blk} {o:Oper} (hp:sck ids lk i e s o) (hr:reader o.op=true) (hb:blind o.op=false) {j d:Nat} (hj:ids.lookup j=some d) (hlk:lk.contains (i,j)=false):opOk s.length d e o.op=true:=by
 have h2:=hp.2
 rw [hr,hb] at h2
 simp only [Bool.not_false,Bool.and_self,cond_true,List.all_eq_true] at h2
 have:∀ {l:List (Nat × Nat)},l.lookup j=some d→(j,d) ∈ l:=by
  intro l
  induction l with
  | nil=>intro h; simp at h
  | cons p r ih =>
   intro h
   rw [List.lookup_cons] at h
   split at h
   ·rename_i hq
    have hq:j=p.1:=by simpa using hq
    simp only [Option.some.injEq] at h
    subst hq; subst h
    exact List.mem_cons_self
   ·exact List.mem_cons_of_mem _ (ih h)
 have h3:=h2 _ (this hj)
 rw [hlk,Bool.false_or] at h3
 exact h3
theorem sck_put {ids lk:List (Nat × Nat)} {i d:Nat} {e:Env} {s:List Blk} {o:Oper} (hp:sck ids lk i e s o) (hl:ids.lookup i=some d):stoD d e o:=by
 have:=hp.1
 rw [hl] at this
 exact this
def ChO (c:Cx) (ops:Array Oper) (ids lk:List (Nat × Nat)) (K:Env→List Blk→Prop):List Nat→Env→List Blk→Prop
 | [],e,s=>K e s
 | i :: r,e,s=>match ops[i]? with
  | some o=>sck ids lk i e s o∧∃ cv v s',Does c ops s o cv e v s'∧ChO c ops ids lk K r (put e o.dst v) s'
  | none=>False
def okSo (ops:List Oper) (ids lk:List (Nat × Nat)) (j i:Nat):Bool:=match ops[j]?,ops[i]? with
 | some oj,some oi=>oj.apart ops.toArray oi && (together oj oi || (match ids.lookup j,ids.lookup i with
  | some a,some b=>a != b
  | some _,none=>reader oi.op && !lk.contains (i,j)
  | none,some _=>reader oj.op && !lk.contains (j,i)
  | none,none=>false))
 | _,_=>false
section
variable {cx:Cx} {ops:Array Oper} {K:Env→List Blk→Prop} {ids lk:List (Nat × Nat)}
theorem ChO.congr (hK:∀ e e' s,Eqv e e'→K e s→K e' s):∀ {l:List Nat} {e e':Env} {s:List Blk},Eqv e e'→ChO cx ops ids lk K l e s→ChO cx ops ids lk K l e' s
 | [],e,e',s,h,c=>hK e e' s h c
 | i :: r,e,e',s,h,c=>by
  unfold ChO at c ⊢
  split at c
  ·rename_i o ho
   obtain ⟨h0,cv,v,s',h1,h2⟩:=c
   exact ⟨sck_agree (fun x _=>ev_agree fun t _=>h t) rfl h0,cv,v,s',h1.agree fun t _=>h t,ChO.congr hK (h.put _ _) h2⟩
  ·exact c.elim
theorem ChO.swap {opl:List Oper} (hops:ops=opl.toArray) (hK:∀ e e' s,Eqv e e'→K e s→K e' s) {i j:Nat} {r:List Nat} (hok:okSo opl ids lk j i=true) {e:Env} {s:List Blk} (c:ChO cx ops ids lk K (j :: i :: r) e s) :
  ChO cx ops ids lk K (i :: j :: r) e s:=by
 unfold okSo at hok
 split at hok
 rotate_left
 ·cases hok
 rename_i oj oi hj' hi'
 have hj:ops[j]? = some oj:=by rw [hops]; simpa using hj'
 have hi:ops[i]? = some oi:=by rw [hops]; simpa using hi'
 simp only [Bool.and_eq_true,Bool.or_eq_true] at hok
 obtain ⟨ha,hok⟩:=hok
 rw [← hops] at ha
 obtain ⟨a1,a2,a3⟩:=Oper.apart_spec ha
 simp only [ChO,hj,hi] at c ⊢
 obtain ⟨pj,cv,v,s1,h1,pi,cu,u,s2,h2,h3⟩:=c
 have gi:∀ (e:Env) (v:AV),Agree ops oi (put e oj.dst v) e:=fun e v t ht=>by
  rw [get_put,if_neg]; intro h; exact a1 t h ht
 have gj:∀ (e:Env) (v:AV),Agree ops oj e (put e oi.dst v):=fun e v t ht=>by
  rw [get_put,if_neg]; intro h; exact a3 t h ht
 have h2':Does cx ops s1 oi cu e u s2:=h2.agree (gi e v)
 have h1':∀ {z z'},Does cx ops z oj cv e v z'→Does cx ops z oj cv (put e oi.dst u) v z':=fun hd=>hd.agree (gj e u)
 have h3':=ChO.congr hK (put_swap a2) h3
 have pi':∀ s',s1.length=s'.length→sck ids lk i e s' oi:=fun s' hs=>sck_agree (agree_ops (gi e v)) hs pi
 have pj':∀ s',s.length=s'.length→sck ids lk j (put e oi.dst u) s' oj:=fun s' hs=>sck_agree (agree_ops (gj e u)) hs pj
 rcases hok with hok | hok
 ·simp only [together,Bool.or_eq_true,Bool.and_eq_true] at hok
  have blind_free:∀ {o:Oper} {k:Nat} {e:Env} {s s':List Blk},blind o.op=true→sck ids lk k e s o→sck ids lk k e s' o:=fun hb hp=>⟨hp.1,by simp [hb]⟩
  rcases hok with (⟨c1,c2⟩ | c1) | c1
  ·have e1:=h1.calm c1
   subst e1
   have e2:=h2.calm c2
   subst e2
   exact ⟨pi' _ rfl,cu,u,_,h2',pj' _ rfl,cv,v,_,h1' h1,h3'⟩
  ·have e1:=h1.calm (blind_calm c1)
   subst e1
   exact ⟨pi' _ rfl,cu,u,_,h2',blind_free c1 (pj' _ rfl),cv,v,_,h1' (h1.blind c1),h3'⟩
  ·have e2:=h2.calm (blind_calm c1)
   subst e2
   exact ⟨blind_free c1 (pi' _ rfl),cu,u,_,h2'.blind c1,pj' _ rfl,cv,v,_,h1' h1,h3'⟩
 split at hok
 ·rename_i a b hla hlb
  have hab:a ≠ b:=by simpa using hok
  obtain ⟨hv,bj,rfl,hdj⟩:=sto_does (sck_put pj hla) h1
  obtain ⟨hu,bi,rfl,hdi⟩:=sto_does (sck_put (pi' _ rfl) hlb) h2'
  have n1:(s.set b bi).getD a .dead=s.getD a .dead:=by simp only [List.getD,List.getElem?_set_ne (Ne.symm hab)]
  have n2:s.getD b .dead=(s.set a bj).getD b .dead:=by simp only [List.getD,List.getElem?_set_ne hab]
  refine ⟨pi' _ (by simp),cu,u,_,hdi s cu n2,pj' _ (by simp),cv,v,_,h1' (hdj _ cv n1),?_⟩
  rw [List.set_comm _ _ (Ne.symm hab)]
  exact h3'
 ·rename_i a hla hlb
  simp only [Bool.and_eq_true,Bool.not_eq_true'] at hok
  obtain ⟨hok,hlk⟩:=hok
  obtain ⟨hv,bj,rfl,hdj⟩:=sto_does (sck_put pj hla) h1
  have ok0:blind oi.op=false→opOk s.length a e oi.op=true:=fun hb=>sck_ok (pi' s (by simp)) hok hb hla hlk
  obtain ⟨e1,ds⟩:=does_reader hok ok0 ((Agr.set (s:=s) (id:=a) bj).symm) h2'
  subst e1
  exact ⟨pi' _ (by simp),cu,u,_,ds,pj' _ rfl,cv,v,_,h1' h1,h3'⟩
 ·rename_i b hla hlb
  simp only [Bool.and_eq_true,Bool.not_eq_true'] at hok
  obtain ⟨hok,hlk⟩:=hok
  have ok0:blind oj.op=false→opOk s.length b e oj.op=true:=fun hb=>sck_ok pj hok hb hlb hlk
  obtain ⟨rfl,_⟩:=does_reader hok ok0 (Agr.set (id:=b) .dead) h1
  obtain ⟨hu,bi,rfl,hdi⟩:=sto_does (sck_put (pi' _ rfl) hlb) h2'
  have hs:=(does_reader hok ok0 (Agr.set (id:=b) bi) h1).2
  exact ⟨pi' _ rfl,cu,u,_,h2',pj' _ (by simp),cv,v,_,h1' hs,h3'⟩
 ·cases hok
theorem ChO.front {opl:List Oper} (hops:ops=opl.toArray) (hK:∀ e e' s,Eqv e e'→K e s→K e' s) {i:Nat} {r:List Nat}:∀ {l:List Nat} {e:Env} {s:List Blk},(∀ j ∈ l,okSo opl ids lk j i=true) →
  ChO cx ops ids lk K (l++i :: r) e s→ChO cx ops ids lk K (i :: (l++r)) e s
 | [],_,_,_,c=>c
 | j :: l,e,s,h,c=>by
  refine ChO.swap hops hK (h j (by simp)) ?_
  simp only [List.cons_append,ChO] at c ⊢
  split at c
  ·rename_i o ho
   obtain ⟨h0,cv,v,s',h1,h2⟩:=c
   exact ⟨h0,cv,v,s',h1,ChO.front hops hK (fun k hk=>h k (by simp [hk])) h2⟩
  ·exact c.elim
end
section
variable {c:Cx} {k:List It} {e:Env} {s:List Blk}
end
end Go.Av
