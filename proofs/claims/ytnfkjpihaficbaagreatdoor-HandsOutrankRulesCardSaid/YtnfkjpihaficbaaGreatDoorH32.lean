/- Jumps and facts against the document's checks. Own work of this seat. -/
import Derived.Test.YtnfkjpihaficbaaGreatDoorH31
set_option maxRecDepth 100000
set_option linter.unusedSimpArgs false
set_option linter.unusedVariables false
namespace Go.Proofs.YtnfkjpihaficbaaGreatDoor
open Go Go.Av Go.RowKit
def jumpR (j:Jm):Int:=if decide (j.by' < 0) || (decide (j.by' > 1000) || (decide (j.to' < -1000) || decide (j.to' > 1000))) then 1 else if ((j.by' != 0) && (j.to' != 0)) || (j.flash && (j.to' == 0)) then 3 else 0
def smI (n:Int):Bool:=decide (n ≥ 97) && decide (n ≤ 122)
theorem tagDigit_pc (n:Int):Pc Tryz.prog 187 [.int .u8 n] (· = .bool (digI n)):=by
 refine pc_intro (ct_intro Tryz.func187 rfl Tryz.ntmps187 hB187 (by simp) fun h ρ w=>go (N:=9) Tryz.ntmps187 300 ?_)
 by_cases h1:n ≥ 48
 ·have d1:decide (n ≥ 48)=true:=by simpa using h1
  simp only [go_sem,d1]
  exact aret [2] rfl ⟨by simp [resV,Av.get,digI,h1],rfl⟩
 ·have d1:decide (n ≥ 48)=false:=by simpa using h1
  simp only [go_sem,d1]
  exact aret [2] rfl ⟨by simp [resV,Av.get,digI,h1],rfl⟩
theorem tagSmall_pc (n:Int):Pc Tryz.prog 189 [.int .u8 n] (· = .bool (smI n)):=by
 refine pc_intro (ct_intro Tryz.func189 rfl Tryz.ntmps189 hB189 (by simp) fun h ρ w=>go (N:=9) Tryz.ntmps189 300 ?_)
 by_cases h1:n ≥ 97
 ·have d1:decide (n ≥ 97)=true:=by simpa using h1
  simp only [go_sem,d1]
  exact aret [2] rfl ⟨by simp [resV,Av.get,smI,h1],rfl⟩
 ·have d1:decide (n ≥ 97)=false:=by simpa using h1
  simp only [go_sem,d1]
  exact aret [2] rfl ⟨by simp [resV,Av.get,smI,h1],rfl⟩
def thB (c:UInt8):Bool:=smI c.toNat || (digI c.toNat || (c.toNat:Int) == 32)
def isThingL (s:List UInt8):Bool:=decide (1 ≤ s.length) && (decide (s.length ≤ 40) && (plainL s && s.all thB))
theorem isThing_pch {S:Std} (hS:LibOk S) (s:List UInt8) (h:isThingL s=true):PcH Tryz.prog S 133 [.str s] (· = .bool true):=by
 simp only [isThingL,Bool.and_eq_true,decide_eq_true_eq] at h
 obtain ⟨h1,h2,h3,h4⟩:=h
 have d1:decide ((s.length:Int) < 1)=false:=by simp; omega
 have d2:decide ((s.length:Int) > 40)=false:=by simp; omega
 have hp:=plain_pch hS s (by omega)
 rw [h3] at hp
 refine pch_intro (cth_intro Tryz.func133 rfl Tryz.ntmps133 hB133 (by simp) fun h ρ w hg=>go (N:=41) Tryz.ntmps133 300 ?_)
 simp only [go_sem,d1,d2]
 refine pcallH1 hg (hp) rfl (N:=41) Tryz.ntmps133 rfl (go (N:=41) Tryz.ntmps133 300 ?_)
 simp only [go_sem]
 refine aloop (ι:=Nat) (fun i=>s.length - i) (fun i=>[(19,.int .i64 i),(18,.int .i64 s.length),(0,.str s)]) (fun _=>[]) (fun i=>i ≤ s.length) 0 (by omega) ?_ ?_
 ·refine Shift.weak ?_
  simp only [wk,go_sem]
 ·rintro i g1 J hJ
  refine go (N:=41) Tryz.ntmps133 300 ?_
  by_cases hi:(i:Int) < s.length
  ·have hil:i < s.length:=by omega
   have hgd:s.getD i 0=s[i]:=by simp [List.getD,hil]
   have hc:=List.all_eq_true.1 h4 _ (List.getElem_mem hil)
   have hfin:=hJ (i+1) (by omega) (by omega)
   simp only [thB] at hc
   simp only [go_sem,hi,hgd]
   repeat refine And.intro (by omega) ?_
   refine pcall1 (tagSmall_pc _) rfl (N:=41) Tryz.ntmps133 rfl (go (N:=41) Tryz.ntmps133 300 ?_)
   cases c1:smI (s[i].toNat:Int) with
   | true =>
    simp only [go_sem]
    rw [show (i:Int)+1=((i+1:Nat):Int) by omega]
    repeat refine And.intro (by omega) ?_
    refine ainv hfin (Shift.weak ?_)
    simp only [wk,go_sem]
   | false =>
    rw [c1] at hc
    simp only [go_sem,hi,hgd]
    repeat refine And.intro (by omega) ?_
    refine pcall1 (tagDigit_pc _) rfl (N:=41) Tryz.ntmps133 rfl (go (N:=41) Tryz.ntmps133 300 ?_)
    cases c2:digI (s[i].toNat:Int) with
    | true =>
     simp only [go_sem]
     rw [show (i:Int)+1=((i+1:Nat):Int) by omega]
     repeat refine And.intro (by omega) ?_
     refine ainv hfin (Shift.weak ?_)
     simp only [wk,go_sem]
    | false =>
     rw [c2] at hc
     have c3:((s[i].toNat:Int) != 32)=false:=by simpa using hc
     simp only [go_sem,hi,hgd,c3]
     rw [show (i:Int)+1=((i+1:Nat):Int) by omega]
     repeat refine And.intro (by omega) ?_
     refine ainv hfin (Shift.weak ?_)
     simp only [wk,go_sem]
  ·simp only [go_sem,hi]
   exact aret [2] rfl ⟨rfl,rfl⟩
def nmB (c:UInt8):Bool:=(!decide ((c.toNat:Int) < 65) && !decide ((c.toNat:Int) > 90)) || (digI c.toNat || !decide (Lib.indexByte [32,39,46,45] c < 0))
def isNameL (s:List UInt8):Bool:=decide (1 ≤ s.length) && (decide (s.length ≤ 30) && (!decide (((s.getD 0 0).toNat:Int) < 65) && (!decide (((s.getD 0 0).toNat:Int) > 90) && (plainL s && s.all nmB))))
theorem isNameT_pch {S:Std} (hS:LibOk S) (s:List UInt8) (h:isNameL s=true):PcH Tryz.prog S 132 [.str s] (· = .bool true):=by
 simp only [isNameL,Bool.and_eq_true,Bool.not_eq_true',decide_eq_true_eq] at h
 obtain ⟨h1,h2,k1,k2,h3,h4⟩:=h
 have d1:decide ((s.length:Int) < 1)=false:=by simp; omega
 have d2:decide ((s.length:Int) > 30)=false:=by simp; omega
 have hp:=plain_pch hS s (by omega)
 rw [h3] at hp
 refine pch_intro (cth_intro Tryz.func132 rfl Tryz.ntmps132 hB132 (by simp) fun h ρ w hg=>go (N:=57) Tryz.ntmps132 300 ?_)
 simp only [go_sem,d1,d2,k1,k2]
 repeat refine And.intro (by omega) ?_
 refine pcallH1 hg (hp) rfl (N:=57) Tryz.ntmps132 rfl (go (N:=57) Tryz.ntmps132 300 ?_)
 simp only [go_sem]
 refine aloop (ι:=Nat) (fun i=>s.length - i) (fun i=>[(29,.int .i64 i),(28,.int .i64 s.length),(0,.str s)]) (fun _=>[]) (fun i=>i ≤ s.length) 0 (by omega) ?_ ?_
 ·refine Shift.weak ?_
  simp only [wk,go_sem]
 ·rintro i g1 J hJ
  refine go (N:=57) Tryz.ntmps132 300 ?_
  by_cases hi:(i:Int) < s.length
  ·have hil:i < s.length:=by omega
   have hgd:s.getD i 0=s[i]:=by simp [List.getD,hil]
   have hc:=List.all_eq_true.1 h4 _ (List.getElem_mem hil)
   have hfin:=hJ (i+1) (by omega) (by omega)
   simp only [nmB] at hc
   have fin2:∀ b:Bool,b=false→b=false:=fun _ h=>h
   cases c0:(!decide ((s[i].toNat:Int) < 65) && !decide ((s[i].toNat:Int) > 90)) with
   | true =>
    simp only [Bool.and_eq_true,Bool.not_eq_true'] at c0
    simp only [go_sem,hi,hgd,c0.1,c0.2]
    repeat refine And.intro (by omega) ?_
    rw [show (i:Int)+1=((i+1:Nat):Int) by omega]
    repeat refine And.intro (by omega) ?_
    refine ainv hfin (Shift.weak ?_)
    simp only [wk,go_sem]
   | false =>
    rw [c0] at hc
    have c0':decide ((s[i].toNat:Int) < 65)=true∨(decide ((s[i].toNat:Int) < 65)=false∧decide ((s[i].toNat:Int) > 90)=true):=by
     cases h1:decide ((s[i].toNat:Int) < 65) <;> cases h2:decide ((s[i].toNat:Int) > 90) <;> simp_all
    have hb:((s[i].toNat:Int)).toNat.toUInt8=s[i]:=by simp
    rcases c0' with c0' | ⟨c0',c9⟩
    ·cases c2:digI (s[i].toNat:Int) with
     | true =>
      simp only [go_sem,hi,hgd,c0']
      repeat refine And.intro (by omega) ?_
      refine pcall1 (tagDigit_pc _) rfl (N:=57) Tryz.ntmps132 rfl (go (N:=57) Tryz.ntmps132 300 ?_)
      rw [c2]
      simp only [go_sem]
      rw [show (i:Int)+1=((i+1:Nat):Int) by omega]
      repeat refine And.intro (by omega) ?_
      refine ainv hfin (Shift.weak ?_)
      simp only [wk,go_sem]
     | false =>
      rw [c2] at hc
      have c3:decide (Lib.indexByte [32,39,46,45] s[i] < 0)=false:=by simpa using hc
      simp only [go_sem,hi,hgd,c0']
      repeat refine And.intro (by omega) ?_
      refine pcall1 (tagDigit_pc _) rfl (N:=57) Tryz.ntmps132 rfl (go (N:=57) Tryz.ntmps132 300 ?_)
      rw [c2]
      simp only [go_sem,hi,hgd]
      repeat refine And.intro (by omega) ?_
      refine pcall1 (indexByte_pc [32,39,46,45] (s[i].toNat:Int)) rfl (N:=57) Tryz.ntmps132 rfl (go (N:=57) Tryz.ntmps132 300 ?_)
      rw [hb]
      simp only [go_sem,c3]
      rw [show (i:Int)+1=((i+1:Nat):Int) by omega]
      repeat refine And.intro (by omega) ?_
      refine ainv hfin (Shift.weak ?_)
      simp only [wk,go_sem]
    ·cases c2:digI (s[i].toNat:Int) with
     | true =>
      simp only [go_sem,hi,hgd,c0',c9]
      repeat refine And.intro (by omega) ?_
      refine pcall1 (tagDigit_pc _) rfl (N:=57) Tryz.ntmps132 rfl (go (N:=57) Tryz.ntmps132 300 ?_)
      rw [c2]
      simp only [go_sem]
      rw [show (i:Int)+1=((i+1:Nat):Int) by omega]
      repeat refine And.intro (by omega) ?_
      refine ainv hfin (Shift.weak ?_)
      simp only [wk,go_sem]
     | false =>
      rw [c2] at hc
      have c3:decide (Lib.indexByte [32,39,46,45] s[i] < 0)=false:=by simpa using hc
      simp only [go_sem,hi,hgd,c0',c9]
      repeat refine And.intro (by omega) ?_
      refine pcall1 (tagDigit_pc _) rfl (N:=57) Tryz.ntmps132 rfl (go (N:=57) Tryz.ntmps132 300 ?_)
      rw [c2]
      simp only [go_sem,hi,hgd]
      repeat refine And.intro (by omega) ?_
      refine pcall1 (indexByte_pc [32,39,46,45] (s[i].toNat:Int)) rfl (N:=57) Tryz.ntmps132 rfl (go (N:=57) Tryz.ntmps132 300 ?_)
      rw [hb]
      simp only [go_sem,c3]
      rw [show (i:Int)+1=((i+1:Nat):Int) by omega]
      repeat refine And.intro (by omega) ?_
      refine ainv hfin (Shift.weak ?_)
      simp only [wk,go_sem]
  ·simp only [go_sem,hi]
   exact aret [2] rfl ⟨rfl,rfl⟩
def elT (e:El):Bool:=decide (1 ≤ e.kind) && (decide (e.kind ≤ 11) && (if e.kind=11 then isNameL e.name else isThingL e.name))
def faT (f:Fa):Bool:=elT f.el && (f.facet.all (fun c=>smI c.toNat) && (decide (1 ≤ f.facet.length) && (decide (f.facet.length ≤ 20) && (plainL f.value && decide (f.value.length ≤ 60)))))
def letB (n:Int):Bool:=capI n || (decide (n ≥ 97) && decide (n ≤ 122))
theorem isLetter_pc (n:Int):Pc Tryz.prog 153 [.int .u8 n] (· = .bool (letB n)):=by
 refine pc_intro (ct_intro Tryz.func153 rfl Tryz.ntmps153 hB153 (by simp) fun h ρ w=>go (N:=13) Tryz.ntmps153 300 ?_)
 simp only [go_sem]
 refine pcall1 (isCapital_pc n) rfl (N:=13) Tryz.ntmps153 rfl (go (N:=13) Tryz.ntmps153 300 ?_)
 unfold letB
 cases e:capI n with
 | true =>
  simp only [go_sem,e]
  exact aret [2] rfl ⟨rfl,rfl⟩
 | false =>
  cases e1:decide (n ≥ 97) with
  | true =>
   simp only [go_sem,e,e1]
   exact aret [2] rfl ⟨rfl,rfl⟩
  | false =>
   simp only [go_sem,e,e1]
   exact aret [2] rfl ⟨rfl,rfl⟩
structure Wst where
 letters:Bool
 word:List UInt8
 out:List (List UInt8)
def lowerC (c:UInt8):UInt8:=if capI c.toNat then c+32 else c
def wstep (s:Wst) (c:UInt8):Wst :=
 if letB c.toNat || digI c.toNat then ⟨true,s.word++[lowerC c],s.out⟩
 else if ((c.toNat:Int) == 39) then ⟨s.letters,s.word++[c],s.out⟩
 else ⟨false,[],if s.letters then s.out++[s.word] else s.out⟩
def wordsL (s:List UInt8):List (List UInt8):=((s++[32]).foldl wstep ⟨false,[],[]⟩).out
theorem lower_val {c:UInt8} (h:capI c.toNat=true):((lowerC c).toNat:Int)=c.toNat+32:=by
 simp only [lowerC,h,if_true]
 simp only [capI,Bool.and_eq_true,decide_eq_true_eq] at h
 rw [UInt8.toNat_add]
 have:c.toNat+(32:UInt8).toNat=c.toNat+32:=rfl
 omega
theorem frozen_bys (l:List UInt8):(flat (bys l)).all Av.frozen=true:=by
 induction l with
 | nil=>rfl
 | cons y l ih=>simpa [bys,flat,cellsOf,Av.frozen] using ih
theorem frozen_strs (l:List (List UInt8)):(flat (l.map AV.str)).all Av.frozen=true:=by
 induction l with
 | nil=>rfl
 | cons y l ih=>simpa [flat,cellsOf,Av.frozen] using ih
theorem low_bys (n:Nat) (l:List UInt8):lowB n (.arr 1 (bys l))=true:=low_all (frozen_bys l)
theorem low_strs (n:Nat) (l:List (List UInt8)):lowB n (.arr 1 (l.map .str))=true:=low_all (frozen_strs l)
theorem dry_strs (l:List (List UInt8)):dry (.arr 1 (l.map .str))=true:=frozen_strs l
set_option maxHeartbeats 2000000 in
theorem words_pc (s:List UInt8) (hs:s.length < 1000000):Pc Tryz.prog 105 [.str s] (· = .fz 1 ((wordsL s).map .str)):=by
 refine pc_intro (ct_intro Tryz.func105 rfl Tryz.ntmps105 hB105 (by simp) fun h ρ w=>go (N:=54) Tryz.ntmps105 300 ?_)
 simp only [go_sem]
 repeat refine And.intro (by first | omega | trivial | exact .inl trivial) ?_
 refine aloop (ι:=Nat × Wst) (fun y=>s.length+1 - y.1)
  (fun y=>[(12,.int .i64 y.1),(11,.int .i64 (s.length+1)),(5,.sl 2 0 y.2.word.length y.2.word.length),(4,.bool y.2.letters),(3,.sl 1 0 y.2.out.length y.2.out.length),(0,.str s)])
  (fun y=>[.dead,.arr 1 (y.2.out.map .str),.arr 1 (bys y.2.word)])
  (fun y=>y.1 ≤ s.length+1∧y.2.word.length ≤ y.1∧y.2.out.length ≤ y.1∧(((s++[32]).drop y.1).foldl wstep y.2).out=wordsL s) (0,⟨false,[],[]⟩) ⟨by simp,by simp,by simp,rfl⟩ ?_ ?_
 ·refine Shift.trans (Shift.nilsl 3 1 rfl) (Shift.trans (Shift.trim 5 (id:=0) rfl rfl rfl (Nat.le_refl _)) (Shift.weak ?_))
  simp only [wk,go_sem]
 ·rintro ⟨i,st⟩ ⟨g1,g2,g3,g4⟩ J hJ
  simp only at g1 g2 g3 g4 hJ ⊢
  by_cases gi:i < s.length+1
  ·have di:decide ((i:Int) < (s.length:Int)+1)=true:=by simp; omega
   have hi:i < (s++[32]).length:=by simpa using gi
   rw [List.drop_eq_getElem_cons hi,List.foldl_cons] at g4
   have hc:∃ c:UInt8,(s++[32])[i]=c:=⟨_,rfl⟩
   obtain ⟨c,hc⟩:=hc
   rw [hc] at g4
   have e1:(i:Int)+1=((i+1:Nat):Int):=by omega
   have app:∀ x:UInt8,bys st.word++[AV.int .u8 x.toNat]=bys (st.word++[x]):=fun x=>by simp [bys]
   have appl:∀ x:UInt8,st.word.length+1=(st.word++[x]).length:=fun x=>by simp
   have apo:List.map AV.str st.out++[AV.str st.word]=List.map AV.str (st.out++[st.word]):=by simp
   have apol:st.out.length+1=(st.out++[st.word]).length:=by simp
   by_cases hlt:i < s.length
   ·have d2:decide ((i:Int) < (s.length:Int))=true:=by simp; omega
    have hgd:s.getD i 0=c:=by rw [← hc]; simp [List.getD,hlt,List.getElem_append_left]
    refine go (N:=54) Tryz.ntmps105 300 ?_
    simp only [go_sem,di,d2,hgd]
    repeat refine And.intro (by first | omega | simpa using hlt) ?_
    refine pcall1 (isLetter_pc _) rfl (N:=54) Tryz.ntmps105 rfl (go (N:=54) Tryz.ntmps105 300 ?_)
    cases q1:letB c.toNat with
    | true =>
     simp only [go_sem]
     refine pcall1 (isCapital_pc _) rfl (N:=54) Tryz.ntmps105 rfl (go (N:=54) Tryz.ntmps105 300 ?_)
     cases q2:capI c.toNat with
     | true =>
      have hv:=lower_val q2
      have hw:wstep st c=⟨true,st.word++[lowerC c],st.out⟩:=by simp [wstep,q1]
      have hub:=(lowerC c).toNat_lt
      simp only [go_sem]
      rw [← hv]
      repeat refine And.intro (by first | omega | exact .inl trivial | (simp; done) | (simp; omega)) ?_
      rw [app,appl (lowerC c),e1]
      refine ainv (hJ (i+1,⟨true,st.word++[(lowerC c)],st.out⟩) ⟨by simp only; omega,by simp; omega,by simp only; omega,by rw [hw] at g4; exact g4⟩ (by simp only; omega)) (Shift.low 3 (by simp) (by simp) ?_ ?_)
      ·simp only [List.take_succ_cons,List.take_zero,List.all_cons,List.all_nil,↓low_bys,↓low_strs,lowB,Bool.and_self]
      ·simp only [wkl,lowV,lowC,Av.get,go_sem]
     | false =>
      have hv:lowerC c=c:=by simp [lowerC,q2]
      have hw:wstep st c=⟨true,st.word++[c],st.out⟩:=by simp [wstep,q1,hv]
      simp only [go_sem]
      repeat refine And.intro (by first | omega | exact .inl trivial | (simp; done) | (simp; omega)) ?_
      rw [app,appl c,e1]
      refine ainv (hJ (i+1,⟨true,st.word++[c],st.out⟩) ⟨by simp only; omega,by simp; omega,by simp only; omega,by rw [hw] at g4; exact g4⟩ (by simp only; omega)) (Shift.low 3 (by simp) (by simp) ?_ ?_)
      ·simp only [List.take_succ_cons,List.take_zero,List.all_cons,List.all_nil,↓low_bys,↓low_strs,lowB,Bool.and_self]
      ·simp only [wkl,lowV,lowC,Av.get,go_sem]
    | false =>
     simp only [go_sem]
     refine pcall1 (isDigit_pc _) rfl (N:=54) Tryz.ntmps105 rfl (go (N:=54) Tryz.ntmps105 300 ?_)
     cases q3:digI c.toNat with
     | true =>
      have q2:capI c.toNat=false:=by
       simp only [letB,Bool.or_eq_false_iff] at q1
       exact q1.1
      have hv:lowerC c=c:=by simp [lowerC,q2]
      have hw:wstep st c=⟨true,st.word++[c],st.out⟩:=by simp [wstep,q1,q3,hv]
      simp only [go_sem]
      refine pcall1 (isCapital_pc _) rfl (N:=54) Tryz.ntmps105 rfl (go (N:=54) Tryz.ntmps105 300 ?_)
      rw [q2]
      simp only [go_sem]
      repeat refine And.intro (by first | omega | exact .inl trivial | (simp; done) | (simp; omega)) ?_
      rw [app,appl c,e1]
      refine ainv (hJ (i+1,⟨true,st.word++[c],st.out⟩) ⟨by simp only; omega,by simp; omega,by simp only; omega,by rw [hw] at g4; exact g4⟩ (by simp only; omega)) (Shift.low 3 (by simp) (by simp) ?_ ?_)
      ·simp only [List.take_succ_cons,List.take_zero,List.all_cons,List.all_nil,↓low_bys,↓low_strs,lowB,Bool.and_self]
      ·simp only [wkl,lowV,lowC,Av.get,go_sem]
     | false =>
      cases q4:((c.toNat:Int) == 39) with
      | true =>
       have hw:wstep st c=⟨st.letters,st.word++[c],st.out⟩:=by simp [wstep,q1,q3,q4]
       simp only [go_sem,q4]
       repeat refine And.intro (by first | omega | exact .inl trivial | (simp; done) | (simp; omega)) ?_
       rw [app,appl c,e1]
       refine ainv (hJ (i+1,⟨st.letters,st.word++[c],st.out⟩) ⟨by simp only; omega,by simp; omega,by simp only; omega,by rw [hw] at g4; exact g4⟩ (by simp only; omega)) (Shift.low 3 (by simp) (by simp) ?_ ?_)
       ·simp only [List.take_succ_cons,List.take_zero,List.all_cons,List.all_nil,↓low_bys,↓low_strs,lowB,Bool.and_self]
       ·simp only [wkl,lowV,lowC,Av.get,go_sem]
      | false =>
       cases q5:st.letters with
       | true =>
        have hw:wstep st c=⟨false,[],st.out++[st.word]⟩:=by simp [wstep,q1,q3,q4,q5]
        simp only [go_sem,q4,q5]
        have htk:List.map Av.byteOf (List.take st.word.length (bys st.word))=st.word:=by
         rw [List.take_of_length_le (by simp)]; exact (bys_text st.word).2
        have hall:(List.take st.word.length (bys st.word)).all isByte=true:=by
         rw [List.take_of_length_le (by simp)]; exact (bys_text st.word).1
        rw [htk,hall]
        repeat refine And.intro (by first | omega | exact .inl trivial | (simp; done) | (simp; omega)) ?_
        rw [apo,apol]
        refine adraw [] mixed (by decide) (N:=54) Tryz.ntmps105 (by decide) 100 ?_
        simp only [go_sem]
        repeat refine And.intro (by first | omega | exact .inl trivial | (simp; done) | (simp; omega)) ?_
        simp only [Nat.sub_zero]
        refine go (N:=54) Tryz.ntmps105 300 ?_
        simp only [go_sem]
        repeat refine And.intro (by first | omega | exact .inl trivial | (simp; done) | (simp; omega)) ?_
        rw [e1]
        refine ainv (hJ (i+1,⟨false,[],st.out++[st.word]⟩) ⟨by simp only; omega,by simp,by simp; omega,by rw [hw] at g4; exact g4⟩ (by simp only; omega)) (Shift.trans (Shift.trim 5 (id:=2) rfl rfl (by simp) (Nat.zero_le _)) (Shift.only 2 4 (by simp) (by simp) rfl (by simp) rfl ?_ ?_))
        ·simp only [List.set_cons_succ,List.set_cons_zero,List.cons_append,List.nil_append,List.take_succ_cons,List.take_zero,List.all_cons,List.all_nil,↓dry_strs,dry,Bool.and_self]
        ·simp only [wkg,okg,Go.Av.put,Av.get,go_sem]
         simp
       | false =>
        have hw:wstep st c=⟨false,[],st.out⟩:=by simp [wstep,q1,q3,q4,q5]
        simp only [go_sem,q4,q5]
        refine adraw [] mixed (by decide) (N:=54) Tryz.ntmps105 (by decide) 100 ?_
        simp only [go_sem]
        repeat refine And.intro (by first | omega | exact .inl trivial | (simp; done) | (simp; omega)) ?_
        simp only [Nat.sub_zero]
        refine go (N:=54) Tryz.ntmps105 300 ?_
        simp only [go_sem]
        repeat refine And.intro (by first | omega | exact .inl trivial | (simp; done) | (simp; omega)) ?_
        rw [e1]
        refine ainv (hJ (i+1,⟨false,[],st.out⟩) ⟨by simp only; omega,by simp,by simp; omega,by rw [hw] at g4; exact g4⟩ (by simp only; omega)) (Shift.trans (Shift.trim 5 (id:=2) rfl rfl (by simp) (Nat.zero_le _)) (Shift.only 2 3 (by simp) (by simp) rfl (by simp) rfl ?_ ?_))
        ·simp only [List.set_cons_succ,List.set_cons_zero,List.cons_append,List.nil_append,List.take_succ_cons,List.take_zero,List.all_cons,List.all_nil,↓dry_strs,dry,Bool.and_self]
        ·simp only [wkg,okg,Go.Av.put,Av.get,go_sem]
         simp
   ·have d2:decide ((i:Int) < (s.length:Int))=false:=by simp; omega
    have hc32:c=32:=by rw [← hc]; rw [List.getElem_append_right (by omega)]; simp
    subst hc32
    refine go (N:=54) Tryz.ntmps105 300 ?_
    simp only [go_sem,di,d2]
    refine pcall1 (isLetter_pc 32) rfl (N:=54) Tryz.ntmps105 rfl (go (N:=54) Tryz.ntmps105 300 ?_)
    rw [show letB 32=false from rfl]
    simp only [go_sem]
    refine pcall1 (isDigit_pc 32) rfl (N:=54) Tryz.ntmps105 rfl (go (N:=54) Tryz.ntmps105 300 ?_)
    rw [show digI 32=false from rfl]
    cases q5:st.letters with
    | true =>
     have hw:wstep st 32=⟨false,[],st.out++[st.word]⟩:=by
      have:letB ((32:UInt8).toNat:Int)=false:=rfl
      have:digI ((32:UInt8).toNat:Int)=false:=rfl
      simp_all [wstep]
     simp only [go_sem,q5]
     have htk:List.map Av.byteOf (List.take st.word.length (bys st.word))=st.word:=by
      rw [List.take_of_length_le (by simp)]; exact (bys_text st.word).2
     have hall:(List.take st.word.length (bys st.word)).all isByte=true:=by
      rw [List.take_of_length_le (by simp)]; exact (bys_text st.word).1
     rw [htk,hall]
     repeat refine And.intro (by first | omega | exact .inl trivial | (simp; done) | (simp; omega)) ?_
     rw [apo,apol]
     refine adraw [] mixed (by decide) (N:=54) Tryz.ntmps105 (by decide) 100 ?_
     simp only [go_sem]
     repeat refine And.intro (by first | omega | exact .inl trivial | (simp; done) | (simp; omega)) ?_
     simp only [Nat.sub_zero]
     refine go (N:=54) Tryz.ntmps105 300 ?_
     simp only [go_sem]
     repeat refine And.intro (by first | omega | exact .inl trivial | (simp; done) | (simp; omega)) ?_
     rw [e1]
     refine ainv (hJ (i+1,⟨false,[],st.out++[st.word]⟩) ⟨by simp only; omega,by simp,by simp; omega,by rw [hw] at g4; exact g4⟩ (by simp only; omega)) (Shift.trans (Shift.trim 5 (id:=2) rfl rfl (by simp) (Nat.zero_le _)) (Shift.only 2 4 (by simp) (by simp) rfl (by simp) rfl ?_ ?_))
     ·simp only [List.set_cons_succ,List.set_cons_zero,List.cons_append,List.nil_append,List.take_succ_cons,List.take_zero,List.all_cons,List.all_nil,↓dry_strs,dry,Bool.and_self]
     ·simp only [wkg,okg,Go.Av.put,Av.get,go_sem]
      simp
    | false =>
     have hw:wstep st 32=⟨false,[],st.out⟩:=by
      have:letB ((32:UInt8).toNat:Int)=false:=rfl
      have:digI ((32:UInt8).toNat:Int)=false:=rfl
      simp_all [wstep]
     simp only [go_sem,q5]
     refine adraw [] mixed (by decide) (N:=54) Tryz.ntmps105 (by decide) 100 ?_
     simp only [go_sem]
     repeat refine And.intro (by first | omega | exact .inl trivial | (simp; done) | (simp; omega)) ?_
     simp only [Nat.sub_zero]
     refine go (N:=54) Tryz.ntmps105 300 ?_
     simp only [go_sem]
     repeat refine And.intro (by first | omega | exact .inl trivial | (simp; done) | (simp; omega)) ?_
     rw [e1]
     refine ainv (hJ (i+1,⟨false,[],st.out⟩) ⟨by simp only; omega,by simp,by simp; omega,by rw [hw] at g4; exact g4⟩ (by simp only; omega)) (Shift.trans (Shift.trim 5 (id:=2) rfl rfl (by simp) (Nat.zero_le _)) (Shift.only 2 3 (by simp) (by simp) rfl (by simp) rfl ?_ ?_))
     ·simp only [List.set_cons_succ,List.set_cons_zero,List.cons_append,List.nil_append,List.take_succ_cons,List.take_zero,List.all_cons,List.all_nil,↓dry_strs,dry,Bool.and_self]
     ·simp only [wkg,okg,Go.Av.put,Av.get,go_sem]
      simp
  ·have di:decide ((i:Int) < (s.length:Int)+1)=false:=by simp; omega
   have:i=s.length+1:=by omega
   subst this
   rw [List.drop_of_length_le (by simp)] at g4
   have hf:∀ l:List (List UInt8),(flat (l.map AV.str)).all Av.frozen=true:=fun l=>by
    induction l with
    | nil=>rfl
    | cons y l ih=>simpa [flat,cellsOf,Av.frozen] using ih
   refine go (N:=54) Tryz.ntmps105 300 ?_
   simp only [go_sem,di]
   refine ARet.shift (Shift.freeze 2 (id:=1) rfl rfl (by simp) (Nat.le_refl _) (hf _)) (aret [2] rfl ⟨?_,rfl⟩)
   rw [← g4]
   simp [resV,Av.get,Av.put,List.take_of_length_le]
def consW (c:UInt8):List (List UInt8)→List (List UInt8)
 | []=>[[c]]
 | w :: ws=>(c :: w) :: ws
def splitW:List UInt8→List (List UInt8)
 | []=>[[]]
 | c :: r=>if c == 32 then [] :: splitW r else consW c (splitW r)
theorem split_idx:∀ q:List UInt8,(Lib.index q [32]=-1∧splitW q=[q])∨∃ i:Nat,Lib.index q [32]=i∧i < q.length∧splitW q=q.take i :: splitW (q.drop (i+1))
 | []=>.inl ⟨rfl,rfl⟩
 | c :: r=>by
  by_cases hc:c=32
  ·subst hc
   exact .inr ⟨0,by simp [Lib.index],by simp,by simp [splitW]⟩
  ·have h1:(c == 32)=false:=by simpa using hc
   have h2:((32:UInt8) == c)=false:=by simpa using fun e=>hc e.symm
   rcases split_idx r with ⟨h3,h4⟩ | ⟨i,h3,h4,h5⟩
   ·refine .inl ⟨?_,by simp [splitW,h1,h4,consW]⟩
    simp [Lib.index,h3]
    exact fun e=>hc e.symm
   ·refine .inr ⟨i+1,?_,by simpa using h4,by simp [splitW,h1,h5,consW]⟩
    have:((i:Int) == -1)=false:=by rw [beq_eq_false_iff_ne]; omega
    simp [Lib.index,h3,this]
    exact fun e=>(hc e.symm).elim
theorem index_pch {S:Std} (hS:LibOk S) (s p:List UInt8) (hs:s.length < 4294967281):PcH Tryz.prog S 202 [.str s,.str p] (· = .int .i64 (Lib.index s p)) :=
 pch_lib [_,_] (.int .i64 (Lib.index s p)) hB202 (two_strs s p) (fun h=>.int _ _) fun w H=>(Any.strings_Index { Tryz.lays144 with } ⟨s.toArray⟩ ⟨p.toArray⟩ _ w hs (hS.cell.choose_spec w H)).mono fun e w' ⟨h1,h2⟩=>⟨h1,h2 ▸ .refl w⟩
theorem splitSeq_ct (sto:List Blk) (t p:List UInt8):Ct Tryz.prog 207 [.str t,.str p,.int .i64 0] sto (fun r s=>r=.fn (.func 259) [.ptr (sto.length+1) 1 0 0,.ptr sto.length 1 0 0,.ptr (sto.length+1+1) 1 0 0]∧s=sto++[.arr 1 [.str t]]++[.arr 1 [.str p]]++[.arr 1 [.int .i64 0]]):=by
 refine ct_intro Tryz.func207 rfl Tryz.ntmps207 hB207 (by simp) fun h ρ w=>go (N:=8) Tryz.ntmps207 300 ?_
 simp only [go_sem,List.length_append]
 exact aret [6] rfl ⟨rfl,rfl⟩
theorem splitSeqB_ct (sto:List Blk) (t p:List UInt8):Ct Tryz.prog 151 [.str t,.str p] sto (fun r s=>r=.fn (.func 259) [.ptr (sto.length+1) 1 0 0,.ptr sto.length 1 0 0,.ptr (sto.length+1+1) 1 0 0]∧s=sto++[.arr 1 [.str t]]++[.arr 1 [.str p]]++[.arr 1 [.int .i64 0]]):=by
 refine ct_intro Tryz.func151 rfl Tryz.ntmps151 hB151 (by simp) fun h ρ w=>go (N:=8) Tryz.ntmps151 300 ?_
 simp only [go_sem]
 refine acall (splitSeq_ct sto t p) (N:=8) Tryz.ntmps151 rfl ?_
 rintro _ _ ⟨rfl,rfl⟩
 refine go (N:=8) Tryz.ntmps151 300 ?_
 simp only [go_sem]
 exact aret [4] rfl ⟨rfl,rfl⟩
set_option maxHeartbeats 2000000 in
theorem splitSeq_it {St:Std} (hS:LibOk St) (text:List UInt8) (hl:text.length < 100000000) (S:Nat→List UInt8→List Blk) (ip is iz:Nat) (h1:∀ j q,(S j q).getD ip .dead=.arr 1 [.str [32]]) (h2:∀ j q,(S j q).getD is .dead=.arr 1 [.str q])
  (h3:∀ j q,(S j q).getD iz .dead=.arr 1 [.int .i64 0]) (h4:∀ j q q',(S j q).set is (.arr 1 [.str q'])=S j q') :
  ItC Tryz.prog St 259 [.ptr ip 1 0 0,.ptr is 1 0 0,.ptr iz 1 0 0] ((splitW text).map .str) S text:=by
 refine itc_intro Tryz.func259 rfl Tryz.ntmps259 hB259 rfl (by simp) fun l c out hP hfn hsto hg hY hfin=>?_
 obtain ⟨P,fn,h,ρ,sto,w,post,x,hx⟩:=c
 simp only at hP hfn hsto hg hY
 subst hP; subst hfn; subst hsto
 refine goR (N:=52) Tryz.ntmps259 300 ?_
 simp only [go_sem,runR,contR,brR,step1R,resNR,stopNR,exitNR,dxk,dxkc,dbrk,↓brR_true,↓brR_false,↓dbrk_true,↓dbrk_false,h1,h2,h3]
 refine aloopR (ι:=Nat × List UInt8) (fun y=>y.2.length) (fun _=>[(0,.raw (.func (.yield l) #[] #[])),(1,.ptr ip 1 0 0),(2,.ptr is 1 0 0),(3,.ptr iz 1 0 0)]) (fun y=>S y.1 y.2)
  (fun y=>(splitW text).drop y.1=splitW y.2∧y.2.length ≤ text.length) (0,text) ⟨rfl,Nat.le_refl _⟩ ?_ ?_
 ·refine Shift.weak ?_
  simp only [wk,go_sem]
 ·rintro ⟨j,q⟩ ⟨g1,g2⟩ J hJ
  simp only at g1 g2 hJ ⊢
  have hidx:=index_pch hS q [32] (by omega)
  have hat:∀ a r,splitW q=a :: r→(List.map AV.str (splitW text))[j]? = some (.str a):=fun a r e=>by
   rw [e] at g1
   have:(splitW text)[j]? = some a:=by
    have:=congrArg (·[0]?) g1
    simpa using this
   simp [this]
  rcases split_idx q with ⟨e1,e2⟩ | ⟨i,e1,e2,e3⟩
  ·rw [e1] at hidx
   have hn:(List.map AV.str (splitW text)).length=j+1:=by
    rw [e2] at g1
    have:=congrArg List.length g1
    simp at this ⊢; omega
   refine goR (N:=52) Tryz.ntmps259 300 ?_
   simp only [go_sem,runR,contR,brR,step1R,resNR,stopNR,exitNR,dxk,dxkc,dbrk,↓brR_true,↓brR_false,↓dbrk_true,↓dbrk_false,h1,h2,h3]
   refine pcallHR1 hg (hidx) rfl (N:=52) Tryz.ntmps259 rfl (goR (N:=52) Tryz.ntmps259 300 ?_)
   simp only [go_sem,runR,contR,brR,step1R,resNR,stopNR,exitNR,dxk,dxkc,dbrk,↓brR_true,↓brR_false,↓dbrk_true,↓dbrk_false,h1,h2,h3]
   refine ayield (f:=?f) (x:=?x) (ts:=?ts) (s':=S (j+1) q) (l:=l) ?ho ?hf ?_ ?_
   case ho=>rfl
   case hf=>rfl
   ·intro a1 a2 a3 a4 b1 b2 b3 b4
    exact hY j q (.str q) (hat q [] e2) a1 a2 a3 a4 b1 b2 b3 b4
   refine goR (N:=52) Tryz.ntmps259 300 ?_
   simp only [go_sem,runR,contR,brR,step1R,resNR,stopNR,exitNR,dxk,dxkc,dbrk,↓brR_true,↓brR_false,↓dbrk_true,↓dbrk_false]
   rw [← hn]
   exact AOut.shift (e':=[]) (Shift.weak trivial) (hfin .normal q (.inl rfl))
  ·rw [e1] at hidx
   have hlt:decide ((i:Int) < 0)=false:=by simp
   refine goR (N:=52) Tryz.ntmps259 300 ?_
   simp only [go_sem,runR,contR,brR,step1R,resNR,stopNR,exitNR,dxk,dxkc,dbrk,↓brR_true,↓brR_false,↓dbrk_true,↓dbrk_false,h1,h2,h3]
   refine pcallHR1 hg (hidx) rfl (N:=52) Tryz.ntmps259 rfl (goR (N:=52) Tryz.ntmps259 300 ?_)
   simp only [go_sem,runR,contR,brR,step1R,resNR,stopNR,exitNR,dxk,dxkc,dbrk,↓brR_true,↓brR_false,↓dbrk_true,↓dbrk_false,h1,h2,h3,hlt]
   repeat refine And.intro (by first | omega | exact .inl trivial | (simp; done) | (simp; omega)) ?_
   refine ayield (f:=?f2) (x:=?x2) (ts:=?ts2) (s':=S (j+1) q) (l:=l) ?ho2 ?hf2 ?_ ?_
   case ho2=>rfl
   case hf2=>rfl
   ·intro a1 a2 a3 a4 b1 b2 b3 b4
    exact hY j q (.str (q.take i)) (hat _ _ e3) a1 a2 a3 a4 b1 b2 b3 (by simpa [ev,Av.get,Av.put,cutL] using b4)
   refine goR (N:=52) Tryz.ntmps259 300 ?_
   simp only [go_sem,runR,contR,brR,step1R,resNR,stopNR,exitNR,dxk,dxkc,dbrk,↓brR_true,↓brR_false,↓dbrk_true,↓dbrk_false,h1,h2,h3,h4]
   repeat refine And.intro (by first | omega | exact .inl trivial | (simp; done) | (simp; omega)) ?_
   refine ainvR (hJ (j+1,q.drop (i+1)) ⟨?_,by simp; omega⟩ (by simp; omega)) (Shift.weak ?_)
   ·rw [e3] at g1
    rw [← List.drop_drop,g1]
    rfl
   ·simp only [wk,go_sem]
def wdB (c:UInt8):Bool:=smI c.toNat || (digI c.toNat || (c.toNat:Int) == 39)
def isWordL (s:List UInt8):Bool:=decide (1 ≤ s.length) && (decide (s.length ≤ 20) && (Lib.trimS s [39] != [] && s.all wdB))
theorem isWord_pc (s:List UInt8) (h:isWordL s=true):Pc Tryz.prog 209 [.str s] (· = .bool true):=by
 simp only [isWordL,Bool.and_eq_true,decide_eq_true_eq] at h
 obtain ⟨h1,h2,h3,h4⟩:=h
 have d1:decide ((s.length:Int) < 1)=false:=by simp; omega
 have d2:decide ((s.length:Int) > 20)=false:=by simp; omega
 have d3:(Lib.trimS s [39] == [])=false:=by simpa using h3
 have hp:=trim_pc s [39] (by omega) (by decide) (by unfold asciiL; decide)
 refine pc_intro (ct_intro Tryz.func209 rfl Tryz.ntmps209 hB209 (by simp) fun h ρ w=>go (N:=41) Tryz.ntmps209 300 ?_)
 simp only [go_sem,d1,d2]
 refine pcall1 (hp) rfl (N:=41) Tryz.ntmps209 rfl (go (N:=41) Tryz.ntmps209 300 ?_)
 simp only [go_sem,d3]
 refine aloop (ι:=Nat) (fun i=>s.length - i) (fun i=>[(19,.int .i64 i),(18,.int .i64 s.length),(0,.str s)]) (fun _=>[]) (fun i=>i ≤ s.length) 0 (by omega) ?_ ?_
 ·refine Shift.weak ?_
  simp only [wk,go_sem]
 ·rintro i g1 J hJ
  refine go (N:=41) Tryz.ntmps209 300 ?_
  by_cases hi:(i:Int) < s.length
  ·have hil:i < s.length:=by omega
   have hgd:s.getD i 0=s[i]:=by simp [List.getD,hil]
   have hc:=List.all_eq_true.1 h4 _ (List.getElem_mem hil)
   have hfin:=hJ (i+1) (by omega) (by omega)
   simp only [wdB] at hc
   simp only [go_sem,hi,hgd]
   repeat refine And.intro (by omega) ?_
   refine pcall1 (tagSmall_pc _) rfl (N:=41) Tryz.ntmps209 rfl (go (N:=41) Tryz.ntmps209 300 ?_)
   cases c1:smI (s[i].toNat:Int) with
   | true =>
    simp only [go_sem]
    rw [show (i:Int)+1=((i+1:Nat):Int) by omega]
    repeat refine And.intro (by omega) ?_
    refine ainv hfin (Shift.weak ?_)
    simp only [wk,go_sem]
   | false =>
    rw [c1] at hc
    simp only [go_sem,hi,hgd]
    repeat refine And.intro (by omega) ?_
    refine pcall1 (tagDigit_pc _) rfl (N:=41) Tryz.ntmps209 rfl (go (N:=41) Tryz.ntmps209 300 ?_)
    cases c2:digI (s[i].toNat:Int) with
    | true =>
     simp only [go_sem]
     rw [show (i:Int)+1=((i+1:Nat):Int) by omega]
     repeat refine And.intro (by omega) ?_
     refine ainv hfin (Shift.weak ?_)
     simp only [wk,go_sem]
    | false =>
     rw [c2] at hc
     have c3:((s[i].toNat:Int) != 39)=false:=by simpa using hc
     simp only [go_sem,hi,hgd,c3]
     rw [show (i:Int)+1=((i+1:Nat):Int) by omega]
     repeat refine And.intro (by omega) ?_
     refine ainv hfin (Shift.weak ?_)
     simp only [wk,go_sem]
  ·simp only [go_sem,hi]
   exact aret [2] rfl ⟨rfl,rfl⟩
structure Itm where
 any':Bool
 count:Bool
 begins:Bool
 words:List (List UInt8)
end Go.Proofs.YtnfkjpihaficbaaGreatDoor
