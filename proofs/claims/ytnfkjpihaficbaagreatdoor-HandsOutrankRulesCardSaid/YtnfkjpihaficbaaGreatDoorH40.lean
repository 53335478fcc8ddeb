/- The patterns of the rules that pass the check; tag.Mentions, exact (begun). Own work of this seat. -/
import Derived.Test.YtnfkjpihaficbaaGreatDoorH39
set_option maxRecDepth 100000
set_option linter.unusedSimpArgs false
set_option linter.unusedVariables false
namespace Go.Proofs.YtnfkjpihaficbaaGreatDoor
open Go Go.Av Go.RowKit
theorem splitK_ne (sep:List UInt8):∀ (k:Nat) (s:List UInt8),Lib.splitK sep 0 k s ≠ []
 | 0,s=>by simp [Lib.splitK]
 | k+1,s=>by
  rw [Lib.splitK]
  split <;> simp
theorem splitC_ne (s:List UInt8) (c:UInt8):splitL s [c] ≠ []:=by
 rw [mSplitL_eq]
 exact splitK_ne _ _ _
theorem splitW_ne (q:List UInt8):splitW q ≠ []:=by
 rcases split_idx q with ⟨_,e⟩ | ⟨i,_,_,e⟩
 ·rw [e]; simp
 ·rw [e]; simp
theorem readI_ok {s:List UInt8} (hl:s.length < 900) (h:(readI s).2=true):ItOk (readI s).1:=by
 unfold readI at h ⊢
 split
 ·exact ⟨.inl rfl,fun l hl=>by cases hl⟩
 rename_i h1
 rw [if_neg h1] at h
 split
 ·exact ⟨.inr (.inl rfl),fun l hl=>by cases hl⟩
 rename_i h2
 rw [if_neg h2] at h
 split
 ·exact ⟨.inr (.inr ⟨_,_,rfl⟩),fun l hl=>by cases hl; simp⟩
 rename_i h3
 rw [if_neg h3] at h
 split
 ·refine ⟨.inr (.inr ?_),fun l hl2=>?_⟩
  ·cases hq:splitL s [124] with
   | nil=>exact absurd hq (splitC_ne s 124)
   | cons a b=>exact ⟨a,b,rfl⟩
  ·cases hl2
   have:=splitC_len s 124
   omega
 ·rename_i h4
  rw [if_neg h4] at h
  cases h
theorem patT_ok {p:List UInt8} (hl:p.length < 900) (h:(patT p).2=true):∃ ps,(patT p).1=some ps∧1 ≤ ps.length∧ps.length ≤ 8∧∀ x ∈ ps,ItOk x:=by
 obtain ⟨_,hle⟩:=splitW_le p.length p (Nat.le_refl _)
 have hne:=splitW_ne p
 unfold patT at h ⊢
 generalize splitW p=l at *
 split at h
 ·cases h
 rename_i hb
 rw [if_neg hb]
 simp only [Bool.and_eq_true,decide_eq_true_eq] at h
 refine ⟨rdItems l,rfl,?_,by simp [rdItems]; omega,?_⟩
 ·cases l with
  | nil=>exact absurd rfl hne
  | cons a b=>simp [rdItems]
 ·intro x hx
  obtain ⟨s,hs,rfl⟩:=List.mem_map.1 hx
  refine readI_ok (by have:=hle s hs; omega) ?_
  have:badAt l=l.length:=Nat.le_antisymm List.findIdx_le_length (by omega)
  have h2:=List.findIdx_eq_length.1 (show l.findIdx (fun s=>!(readI s).2)=l.length from this) s hs
  simpa using h2
def itemsR (r:Ru):List It2:=((patT r.pat).1).getD []
theorem ruC_pat {r:Ru} (hr:RuOk r) (h:ruC r=0):(patT r.pat).2=true:=by
 unfold ruC at h
 cases h1:elC r.el != 0 with
 | true =>
  rw [h1,cond_true] at h
  rw [h] at h1
  cases h1
 | false =>
  rw [h1,cond_false] at h
  cases h2:r.el.kind == 11 with
  | true=>rw [h2,cond_true] at h; cases h
  | false =>
   rw [h2,cond_false] at h
   cases h3:(patT r.pat).2 with
   | true=>rfl
   | false=>rw [h3,Bool.not_false,cond_true] at h; cases h
theorem rusC_all {rs:List Ru} (h:rusC rs=0):rs.length ≤ 200∧∀ r ∈ rs,ruC r=0:=by
 unfold rusC at h
 cases h1:decide (rs.length > 200) with
 | true=>rw [h1,cond_true] at h; cases h
 | false =>
  rw [h1,cond_false] at h
  refine ⟨by have:=of_decide_eq_false h1; omega,fun r hr=>?_⟩
  cases h2:rs.find? (fun r=>ruC r != 0) with
  | none =>
   have:=List.find?_eq_none.1 h2 r hr
   simpa using this
  | some q =>
   rw [h2] at h
   have h3:=List.find?_some h2
   have h4:ruC q=0:=h
   simp [h4] at h3
theorem itemsR_ok {rs:List Ru} (hr:∀ r ∈ rs,RuOk r) (h:rusC rs=0):∀ r ∈ rs,(patT r.pat)=(some (itemsR r),true)∧1 ≤ (itemsR r).length∧(itemsR r).length ≤ 8∧∀ x ∈ itemsR r,ItOk x:=by
 intro r hm
 have h2:=ruC_pat (hr r hm) ((rusC_all h).2 r hm)
 obtain ⟨ps,a,b,c,d⟩:=patT_ok (hr r hm).pat h2
 have e:itemsR r=ps:=by unfold itemsR; rw [a]; rfl
 rw [e]
 refine ⟨?_,b,c,d⟩
 rw [← a,← h2]
def nilA:AV:=.raw (.slice none 0 0)
def patsTo (rs:List Ru) (i:Nat):List AV:=(rs.take i).map (fun r=>.fz 4 ((itemsR r).map itB))++List.replicate (rs.length - i) nilA
theorem patsTo_len (rs:List Ru) (i:Nat) (h:i ≤ rs.length):(patsTo rs i).length=rs.length:=by simp [patsTo]; omega
theorem patsTo_set (rs:List Ru) (i:Nat) (h:i < rs.length):(patsTo rs i).set i (.fz 4 ((itemsR rs[i]).map itB))=patsTo rs (i+1):=by
 unfold patsTo
 rw [List.take_succ_eq_append_getElem h,List.map_append,show rs.length - i=(rs.length - (i+1))+1 by omega,List.replicate_succ,List.set_append]
 have hl:((rs.take i).map fun r=>AV.fz 4 ((itemsR r).map itB)).length=i:=by simp; omega
 rw [if_neg (by omega),hl,Nat.sub_self,List.set_cons_zero]
 simp
theorem patsTo_frz (rs:List Ru) (i:Nat):(flat (patsTo rs i)).all Av.frozen=true:=by
 unfold patsTo
 rw [flat_append,List.all_append,Bool.and_eq_true]
 constructor
 ·induction rs.take i with
  | nil=>rfl
  | cons a l ih=>simpa [flat,cellsOf,Av.frozen] using ih
 ·induction rs.length - i with
  | zero=>rfl
  | succ n ih =>
   rw [List.replicate_succ]
   simpa [nilA,flat,cellsOf,Av.frozen] using ih
end Go.Proofs.YtnfkjpihaficbaaGreatDoor
