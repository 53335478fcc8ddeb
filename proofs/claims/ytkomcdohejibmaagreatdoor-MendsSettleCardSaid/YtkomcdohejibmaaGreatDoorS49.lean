/- Mend. Own work of this seat. -/
import Derived.Test.YtkomcdohejibmaaGreatDoorS48
import Derived.Test.YtkomcdohejibmaaGreatDoorS45
import Derived.Test.YtkomcdohejibmaaGreatDoorS23
import Derived.Test.YtkomcdohejibmaaGreatDoorS47
set_option maxRecDepth 100000
set_option linter.unusedSimpArgs false
set_option linter.unusedVariables false
namespace Go.Proofs.YtkomcdohejibmaaGreatDoor
open Go Go.Av Go.RowKit

theorem text_bytes {s : List UInt8} (h : isTextL s = true) : ∀ b ∈ s, txC b.toNat = true := fun b hb => by
  unfold isTextL at h
  rw [Bool.and_eq_true, List.all_eq_true] at h
  obtain ⟨i, hi, rfl⟩ := List.getElem_of_mem hb
  have := h.1 i (List.mem_range.2 hi)
  simpa [List.getD, hi] using this
theorem text_of {s : List UInt8} (h : ∀ b ∈ s, txC b.toNat = true) : isTextL s = Lib.hasSuffix s [10] :=
  isTextL_true fun i hi => by
    have := h s[i] (List.getElem_mem hi)
    simpa [List.getD, hi] using this
theorem body_text {k : Int} {p t pe : List UInt8} (h : bodyL k p t pe = 0) : t.length ≤ 20000 ∧ ∀ b ∈ t, txC b.toNat = true := by
  unfold bodyL at h
  split at h
  · cases h
  split at h
  · cases h
  split at h
  · cases h
  split at h
  · cases h
  rename_i h3 h4
  refine ⟨by omega, ?_⟩
  by_cases ht : t = []
  · subst ht
    intro b hb
    cases hb
  · refine text_bytes ?_
    cases hx : isTextL t with
    | true => rfl
    | false => exact absurd ⟨ht, .inr hx⟩ h4
theorem made_text {ls : List (List UInt8)} (h : ∀ x ∈ ls, ∀ b ∈ x, txC b.toNat = true) : isTextL (Lib.join ls [10] ++ [10]) = true := by
  rw [text_of]
  · unfold Lib.hasSuffix
    simp
  · intro b hb
    rcases List.mem_append.1 hb with hb | hb
    · rcases join_bytes hb with hb | ⟨x, hx, hb⟩
      · rw [List.mem_singleton.1 hb]; rfl
      · exact h x hx b hb
    · rw [List.mem_singleton.1 hb]; rfl
theorem isPutL_some {l : List De} {s : St} (h : isPutL l s = true) : ∃ d ∈ l, deedOfL l s = some d ∧ d.kind = 1 := by
  unfold isPutL at h
  cases hd : deedOfL l s with
  | none => rw [hd] at h; cases h
  | some d =>
    rw [hd] at h
    exact ⟨d, List.mem_of_find?_eq_some hd, rfl, by simpa using h⟩
/-- what Mend gives -/
def MendR (r : AV) : Prop := ∃ (t : List UInt8) (c : List (Nat × Nat)) (n : Int), r = .tup [.str t, .fz 2 (prs c), .int .i64 n] ∧ (n = 0 → t.length ≤ 20000 ∧ (t = [] ∨ isTextL t = true))
theorem mendR_no (n : Int) (h : n ≠ 0) : MendR (.tup [.str [], .fz 2 (prs []), .int .i64 n]) := ⟨[], [], n, rfl, fun e => absurd e h⟩
set_option maxHeartbeats 4000000 in
theorem mend_pch {S : Std} (hS : LibD S) (l : List De) (paper : List UInt8) (hl : SzL l) : PcH Tryz.prog S 26 [.fz 7 (l.map deA), .str paper] MendR := by
  have hpf := paperFault_pc l paper hl
  have hve := vers_pc l paper hl.sz
  have hvl0 : (versL l paper).length < 1000000 := by
    unfold versL
    rw [List.length_map]
    exact ((hl.sz.filter (verP paper)).filter (lastP _)).1
  obtain ⟨v, hv⟩ : ∃ v, versL l paper = v := ⟨_, rfl⟩
  rw [hv] at hve hvl0
  generalize hR : MendR = R
  have hno : ∀ n : Int, n ≠ 0 → R (.tup [.str [], .fz 2 (prs []), .int .i64 n]) := by rw [← hR]; exact mendR_no
  refine pch_intro (cth_intro Tryz.func26 rfl Tryz.ntmps26 hB26 (by simp) fun h ρ w hg => goF (N := 119) Tryz.ntmps26 300 ?_)
  simp only [go_sem]
  refine pcall (hpf) rfl (N := 119) Tryz.ntmps26 rfl ?_
  rintro _ ⟨n, rfl, hn⟩
  cases e0 : n != 0 with
  | true =>
    have e0' : n ≠ 0 := by simpa using e0
    refine goF (N := 119) Tryz.ntmps26 300 ?_
    simp only [go_sem, e0]
    exact ARet.shift (Shift.nilfz 5 2 rfl) (aret [4, 5, 6] rfl ⟨hno n e0', rfl⟩)
  | false =>
  have e0' : n = 0 := by simpa using e0
  have hck := (hn.1 e0').1
  refine goF (N := 119) Tryz.ntmps26 300 ?_
  simp only [go_sem, e0]
  refine pcall1 (hve) rfl (N := 119) Tryz.ntmps26 rfl (goF (N := 119) Tryz.ntmps26 300 ?_)
  cases ev : (v.length : Int) != 2 with
  | true =>
    simp only [go_sem, ev, List.length_map]
    exact ARet.shift (Shift.nilfz 5 2 rfl) (aret [4, 5, 6] rfl ⟨hno 10 (by decide), rfl⟩)
  | false =>
  have ev2 : (v.length : Int) = 2 := by simpa using ev
  have ev' : v.length = 2 := by omega
  obtain ⟨s0, s1, rfl⟩ : ∃ s0 s1, v = [s0, s1] := by
    match v, ev' with
    | [a, b], _ => exact ⟨a, b, rfl⟩
  have hp0 := isPut_pc l s0 hl.len
  have hp1 := isPut_pc l s1 hl.len
  have hd0 := deedOf_pc l s0 hl.len
  have hd1 := deedOf_pc l s1 hl.len
  simp only [List.map_cons, List.map_nil]
  cases i0 : isPutL l s0 with
  | false =>
    rw [i0] at hp0
    simp only [stA] at hp0 hp1 ⊢
    simp only [go_sem]
    refine pcall1 (hp0) rfl (N := 119) Tryz.ntmps26 rfl (goF (N := 119) Tryz.ntmps26 300 ?_)
    simp only [go_sem]
    exact ARet.shift (Shift.nilfz 5 2 rfl) (aret [4, 5, 6] rfl ⟨hno 10 (by decide), rfl⟩)
  | true =>
  rw [i0] at hp0
  obtain ⟨a, ha, da, ka⟩ := isPutL_some i0
  cases i1 : isPutL l s1 with
  | false =>
    rw [i1] at hp1
    simp only [stA] at hp0 hp1 ⊢
    simp only [go_sem]
    refine pcall1 (hp0) rfl (N := 119) Tryz.ntmps26 rfl (goF (N := 119) Tryz.ntmps26 300 ?_)
    simp only [go_sem]
    refine pcall1 (hp1) rfl (N := 119) Tryz.ntmps26 rfl (goF (N := 119) Tryz.ntmps26 300 ?_)
    simp only [go_sem]
    exact ARet.shift (Shift.nilfz 5 2 rfl) (aret [4, 5, 6] rfl ⟨hno 10 (by decide), rfl⟩)
  | true =>
  rw [i1] at hp1
  obtain ⟨b, hb, db, kb⟩ := isPutL_some i1
  rw [da] at hd0
  rw [db] at hd1
  have ta := body_text (hck.body ha)
  have tb := body_text (hck.body hb)
  have hch := chosen_pc 70 [.pin 7 [deA a] 0 0, .pin 7 [deA b] 0 0] rfl (fun x => knowsL a x.st && knowsL b x.st) l hl.sz fun x hx => mendFn_pc a b x (hl.all a ha).seen (hl.all b hb).seen
  obtain ⟨both, hbo⟩ : ∃ both, (l.filter fun x => knowsL a x.st && knowsL b x.st) = both := ⟨_, rfl⟩
  have hbl : SzL both := by rw [← hbo]; exact hl.filter _
  have hbm : ∀ d ∈ both, d ∈ l := by rw [← hbo]; exact fun d hd => (List.mem_filter.1 hd).1
  rw [hbo] at hch
  clear hbo
  simp only [stA] at hp0 hp1 hd0 hd1 ⊢
  simp only [optA, deA, Option.isSome] at hd0 hd1 hch
  simp only [go_sem]
  refine pcall1 (hp0) rfl (N := 119) Tryz.ntmps26 rfl (goF (N := 119) Tryz.ntmps26 300 ?_)
  simp only [go_sem]
  refine pcall1 (hp1) rfl (N := 119) Tryz.ntmps26 rfl (goF (N := 119) Tryz.ntmps26 300 ?_)
  simp only [go_sem]
  refine pcall1 (hd0) rfl (N := 119) Tryz.ntmps26 rfl (goF (N := 119) Tryz.ntmps26 300 ?_)
  simp only [go_sem]
  refine pcall (hd1) rfl (N := 119) Tryz.ntmps26 rfl ?_
  rintro _ rfl
  refine AWp.shift (Shift.frz 0 (es := 7) (l := [deA a]) rfl (deA_frz [a])) ?_
  simp only [go_sem, frzE, frz, frz1, frzB, List.map_cons, List.map_nil, List.set_cons_succ, List.set_cons_zero, Nat.reduceBEq, cond_true, cond_false, Bool.false_and, Bool.true_and, List.length_map, Nat.zero_add, decide_true, Nat.le_refl, List.drop_zero]
  refine goF (N := 119) Tryz.ntmps26 10 ?_
  simp only [go_sem]
  refine AWp.shift (Shift.frz 1 (es := 7) (l := [deA b]) rfl (deA_frz [b])) ?_
  simp only [go_sem, frzE, frz, frz1, frzB, List.map_cons, List.map_nil, List.set_cons_succ, List.set_cons_zero, Nat.reduceBEq, cond_true, cond_false, Bool.false_and, Bool.true_and, List.length_map, Nat.zero_add, decide_true, Nat.le_refl, List.drop_zero]
  refine goF (N := 119) Tryz.ntmps26 300 ?_
  simp only [go_sem, deA]
  refine pcall1 (hch) rfl (N := 119) Tryz.ntmps26 rfl (goF (N := 119) Tryz.ntmps26 300 ?_)
  simp only [go_sem]
  have hvb := vers_pc both paper hbl.sz
  have hbl0 : (versL both paper).length < 1000000 := by
    unfold versL
    rw [List.length_map]
    exact ((hbl.sz.filter (verP paper)).filter (lastP _)).1
  obtain ⟨u, hu⟩ : ∃ u, versL both paper = u := ⟨_, rfl⟩
  rw [hu] at hvb hbl0
  refine pcall1 (hvb) rfl (N := 119) Tryz.ntmps26 rfl (goF (N := 119) Tryz.ntmps26 300 ?_)
  cases eu : (u.length : Int) == 1 with
  | false =>
    simp only [go_sem, eu, List.length_map]
    refine AWp.shift (Shift.nilfz 14 1 rfl) ?_
    simp only [go_sem]
    refine adrawC [3, 6, 7] 0 [] mixed (by decide) (N := 119) Tryz.ntmps26 (by decide) 100 ?_
    simp only [go_sem, Go.Av.dxn, Go.Av.dxnc, ↓Go.Av.dbrn_true, ↓Go.Av.dbrn_false, Go.Av.dbrn]
    refine icc_pch hg (linesOf_pch hS a.text (by omega)) rfl ⟨_, [], rfl, by simp, by simp⟩ ?_
    rintro _ ⟨la, rfl, hla, hba⟩
    refine icc_pch hg (linesOf_pch hS b.text (by omega)) rfl ⟨_, [], rfl, by simp, by simp⟩ ?_
    rintro _ ⟨l2, rfl, hlb, hbb⟩
    refine icc_pc (mergeN_pc [] la l2) rfl ⟨_, [], [], 1, rfl, fun h => by cases h⟩ ?_
    rintro _ ⟨o, c, n2, rfl, hn2⟩
    simp only [go_sem, Go.Av.dxn, Go.Av.dxnc, ↓Go.Av.dbrn_true, ↓Go.Av.dbrn_false, Go.Av.dbrn]
    have hok : n2 = 0 → ∀ s ∈ o, s.length ≤ 20000 ∧ ∀ b ∈ s, txC b.toNat = true := fun e s hs => by
      rcases (hn2 e).2 s hs with h | h | h
      · exact by cases h
      · exact ⟨by have := (hba s h).1; omega, fun b hb => ta.2 b ((hba s h).2 b hb)⟩
      · exact ⟨by have := (hbb s h).1; omega, fun b hb => tb.2 b ((hbb s h).2 b hb)⟩
    cases e1 : n2 != 0 with
    | true =>
      have e1' : n2 ≠ 0 := by simpa using e1
      refine goF (N := 119) Tryz.ntmps26 300 ?_
      simp only [go_sem, e1]
      exact ARet.shift (Shift.nilfz 5 2 rfl) (aret [4, 5, 6] rfl ⟨hno n2 e1', rfl⟩)
    | false =>
    have e1' : n2 = 0 := by simpa using e1
    have hol := (hn2 e1').1
    have hok := hok e1'
    cases e2 : decide ((o.length : Int) > 0) with
    | false =>
      refine goF (N := 119) Tryz.ntmps26 300 ?_
      simp only [go_sem, e1, e2, List.length_map]
      exact aret [4, 5, 6] rfl ⟨by rw [← hR]; exact ⟨[], c, 0, rfl, fun _ => ⟨by simp, .inl rfl⟩⟩, rfl⟩
    | true =>
    have hjl := join_len (sep := [10]) fun x hx => (hok x hx).1
    have hjl : (Lib.join o [10]).length ≤ 3000 * 20001 := Nat.le_trans hjl (Nat.mul_le_mul_right _ hol)
    have hjo := djoin_pc o [10] (by omega) (by omega)
    have hmt := made_text fun x hx => (hok x hx).2
    refine goF (N := 119) Tryz.ntmps26 300 ?_
    simp only [go_sem, e1, e2, List.length_map]
    refine pcall1 (hjo) rfl (N := 119) Tryz.ntmps26 rfl (goF (N := 119) Tryz.ntmps26 300 ?_)
    generalize hT : Lib.join o [10] = T at *
    by_cases e3 : 20000 < ((T.length + 1 : Nat) : Int)
    · simp only [go_sem, e3]
      refine ⟨by omega, ?_⟩
      exact ARet.shift (Shift.nilfz 5 2 rfl) (aret [4, 5, 6] rfl ⟨hno 2 (by decide), rfl⟩)
    have e3' : (T ++ [10]).length ≤ 20000 := by
      rw [List.length_append, List.length_singleton]
      omega
    simp only [go_sem, e3]
    refine ⟨by omega, ?_⟩
    exact aret [4, 5, 6] rfl ⟨by rw [← hR]; exact ⟨T ++ [10], c, 0, rfl, fun _ => ⟨e3', .inr hmt⟩⟩, rfl⟩

  | true =>
  have eu2 : (u.length : Int) = 1 := by simpa using eu
  have eu' : u.length = 1 := by omega
  obtain ⟨s2, rfl⟩ : ∃ s2, u = [s2] := by
    match u, eu' with
    | [a], _ => exact ⟨a, rfl⟩
  have hp2 := isPut_pc both s2 hbl.len
  have hd2 := deedOf_pc both s2 hbl.len
  simp only [List.map_cons, List.map_nil]
  cases i2 : isPutL both s2 with
  | false =>
    rw [i2] at hp2
    simp only [stA] at hp2 ⊢
    simp only [go_sem]
    refine pcall1 (hp2) rfl (N := 119) Tryz.ntmps26 rfl (goF (N := 119) Tryz.ntmps26 300 ?_)
    simp only [go_sem]
    refine AWp.shift (Shift.nilfz 14 1 rfl) ?_
    simp only [go_sem]
    refine adrawC [3, 6, 7] 0 [] mixed (by decide) (N := 119) Tryz.ntmps26 (by decide) 100 ?_
    simp only [go_sem, Go.Av.dxn, Go.Av.dxnc, ↓Go.Av.dbrn_true, ↓Go.Av.dbrn_false, Go.Av.dbrn]
    refine icc_pch hg (linesOf_pch hS a.text (by omega)) rfl ⟨_, [], rfl, by simp, by simp⟩ ?_
    rintro _ ⟨la, rfl, hla, hba⟩
    refine icc_pch hg (linesOf_pch hS b.text (by omega)) rfl ⟨_, [], rfl, by simp, by simp⟩ ?_
    rintro _ ⟨l2, rfl, hlb, hbb⟩
    refine icc_pc (mergeN_pc [] la l2) rfl ⟨_, [], [], 1, rfl, fun h => by cases h⟩ ?_
    rintro _ ⟨o, c, n2, rfl, hn2⟩
    simp only [go_sem, Go.Av.dxn, Go.Av.dxnc, ↓Go.Av.dbrn_true, ↓Go.Av.dbrn_false, Go.Av.dbrn]
    have hok : n2 = 0 → ∀ s ∈ o, s.length ≤ 20000 ∧ ∀ b ∈ s, txC b.toNat = true := fun e s hs => by
      rcases (hn2 e).2 s hs with h | h | h
      · exact by cases h
      · exact ⟨by have := (hba s h).1; omega, fun b hb => ta.2 b ((hba s h).2 b hb)⟩
      · exact ⟨by have := (hbb s h).1; omega, fun b hb => tb.2 b ((hbb s h).2 b hb)⟩
    cases e1 : n2 != 0 with
    | true =>
      have e1' : n2 ≠ 0 := by simpa using e1
      refine goF (N := 119) Tryz.ntmps26 300 ?_
      simp only [go_sem, e1]
      exact ARet.shift (Shift.nilfz 5 2 rfl) (aret [4, 5, 6] rfl ⟨hno n2 e1', rfl⟩)
    | false =>
    have e1' : n2 = 0 := by simpa using e1
    have hol := (hn2 e1').1
    have hok := hok e1'
    cases e2 : decide ((o.length : Int) > 0) with
    | false =>
      refine goF (N := 119) Tryz.ntmps26 300 ?_
      simp only [go_sem, e1, e2, List.length_map]
      exact aret [4, 5, 6] rfl ⟨by rw [← hR]; exact ⟨[], c, 0, rfl, fun _ => ⟨by simp, .inl rfl⟩⟩, rfl⟩
    | true =>
    have hjl := join_len (sep := [10]) fun x hx => (hok x hx).1
    have hjl : (Lib.join o [10]).length ≤ 3000 * 20001 := Nat.le_trans hjl (Nat.mul_le_mul_right _ hol)
    have hjo := djoin_pc o [10] (by omega) (by omega)
    have hmt := made_text fun x hx => (hok x hx).2
    refine goF (N := 119) Tryz.ntmps26 300 ?_
    simp only [go_sem, e1, e2, List.length_map]
    refine pcall1 (hjo) rfl (N := 119) Tryz.ntmps26 rfl (goF (N := 119) Tryz.ntmps26 300 ?_)
    generalize hT : Lib.join o [10] = T at *
    by_cases e3 : 20000 < ((T.length + 1 : Nat) : Int)
    · simp only [go_sem, e3]
      refine ⟨by omega, ?_⟩
      exact ARet.shift (Shift.nilfz 5 2 rfl) (aret [4, 5, 6] rfl ⟨hno 2 (by decide), rfl⟩)
    have e3' : (T ++ [10]).length ≤ 20000 := by
      rw [List.length_append, List.length_singleton]
      omega
    simp only [go_sem, e3]
    refine ⟨by omega, ?_⟩
    exact aret [4, 5, 6] rfl ⟨by rw [← hR]; exact ⟨T ++ [10], c, 0, rfl, fun _ => ⟨e3', .inr hmt⟩⟩, rfl⟩

  | true =>
  rw [i2] at hp2
  obtain ⟨d, hd, dd, kd⟩ := isPutL_some i2
  rw [dd] at hd2
  have td := body_text (hck.body (hbm d hd))
  simp only [stA] at hp2 hd2 ⊢
  simp only [optA, deA, Option.isSome] at hd2
  simp only [go_sem]
  refine pcall1 (hp2) rfl (N := 119) Tryz.ntmps26 rfl (goF (N := 119) Tryz.ntmps26 300 ?_)
  simp only [go_sem]
  refine pcall1 (hd2) rfl (N := 119) Tryz.ntmps26 rfl (goF (N := 119) Tryz.ntmps26 300 ?_)
  simp only [go_sem]
  refine pcallH hg (linesOf_pch hS d.text (by omega)) rfl (N := 119) Tryz.ntmps26 rfl ?_
  rintro _ ⟨l0, rfl, hl0, hb0⟩
  refine goF (N := 119) Tryz.ntmps26 300 ?_
  simp only [go_sem]
  refine adrawC [3, 6, 7] 0 [] mixed (by decide) (N := 119) Tryz.ntmps26 (by decide) 100 ?_
  simp only [go_sem, Go.Av.dxn, Go.Av.dxnc, ↓Go.Av.dbrn_true, ↓Go.Av.dbrn_false, Go.Av.dbrn]
  refine icc_pch hg (linesOf_pch hS a.text (by omega)) rfl ⟨_, [], rfl, by simp, by simp⟩ ?_
  rintro _ ⟨la, rfl, hla, hba⟩
  refine icc_pch hg (linesOf_pch hS b.text (by omega)) rfl ⟨_, [], rfl, by simp, by simp⟩ ?_
  rintro _ ⟨l2, rfl, hlb, hbb⟩
  refine icc_pc (mergeN_pc l0 la l2) rfl ⟨_, [], [], 1, rfl, fun h => by cases h⟩ ?_
  rintro _ ⟨o, c, n2, rfl, hn2⟩
  simp only [go_sem, Go.Av.dxn, Go.Av.dxnc, ↓Go.Av.dbrn_true, ↓Go.Av.dbrn_false, Go.Av.dbrn]
  have hok : n2 = 0 → ∀ s ∈ o, s.length ≤ 20000 ∧ ∀ b ∈ s, txC b.toNat = true := fun e s hs => by
    rcases (hn2 e).2 s hs with h | h | h
    · exact ⟨by have := (hb0 s h).1; omega, fun b hb => td.2 b ((hb0 s h).2 b hb)⟩
    · exact ⟨by have := (hba s h).1; omega, fun b hb => ta.2 b ((hba s h).2 b hb)⟩
    · exact ⟨by have := (hbb s h).1; omega, fun b hb => tb.2 b ((hbb s h).2 b hb)⟩
  cases e1 : n2 != 0 with
  | true =>
    have e1' : n2 ≠ 0 := by simpa using e1
    refine goF (N := 119) Tryz.ntmps26 300 ?_
    simp only [go_sem, e1]
    exact ARet.shift (Shift.nilfz 5 2 rfl) (aret [4, 5, 6] rfl ⟨hno n2 e1', rfl⟩)
  | false =>
  have e1' : n2 = 0 := by simpa using e1
  have hol := (hn2 e1').1
  have hok := hok e1'
  cases e2 : decide ((o.length : Int) > 0) with
  | false =>
    refine goF (N := 119) Tryz.ntmps26 300 ?_
    simp only [go_sem, e1, e2, List.length_map]
    exact aret [4, 5, 6] rfl ⟨by rw [← hR]; exact ⟨[], c, 0, rfl, fun _ => ⟨by simp, .inl rfl⟩⟩, rfl⟩
  | true =>
  have hjl := join_len (sep := [10]) fun x hx => (hok x hx).1
  have hjl : (Lib.join o [10]).length ≤ 3000 * 20001 := Nat.le_trans hjl (Nat.mul_le_mul_right _ hol)
  have hjo := djoin_pc o [10] (by omega) (by omega)
  have hmt := made_text fun x hx => (hok x hx).2
  refine goF (N := 119) Tryz.ntmps26 300 ?_
  simp only [go_sem, e1, e2, List.length_map]
  refine pcall1 (hjo) rfl (N := 119) Tryz.ntmps26 rfl (goF (N := 119) Tryz.ntmps26 300 ?_)
  generalize hT : Lib.join o [10] = T at *
  by_cases e3 : 20000 < ((T.length + 1 : Nat) : Int)
  · simp only [go_sem, e3]
    refine ⟨by omega, ?_⟩
    exact ARet.shift (Shift.nilfz 5 2 rfl) (aret [4, 5, 6] rfl ⟨hno 2 (by decide), rfl⟩)
  have e3' : (T ++ [10]).length ≤ 20000 := by
    rw [List.length_append, List.length_singleton]
    omega
  simp only [go_sem, e3]
  refine ⟨by omega, ?_⟩
  exact aret [4, 5, 6] rfl ⟨by rw [← hR]; exact ⟨T ++ [10], c, 0, rfl, fun _ => ⟨e3', .inr hmt⟩⟩, rfl⟩

end Go.Proofs.YtkomcdohejibmaaGreatDoor
/- What a person has of a paper; who is late. Own work of this seat. -/
set_option maxRecDepth 100000
set_option linter.unusedSimpArgs false
set_option linter.unusedVariables false
namespace Go.Proofs.YtkomcdohejibmaaGreatDoor
open Go Go.Av Go.RowKit

end Go.Proofs.YtkomcdohejibmaaGreatDoor
/- Mail makes nobody late: the plain law. Own work of this seat. -/
set_option maxRecDepth 100000
set_option linter.unusedSimpArgs false
set_option linter.unusedVariables false
namespace Go.Proofs.YtkomcdohejibmaaGreatDoor
open Go Go.Av Go.RowKit

theorem body_key {k : Int} {p t pe : List UInt8} (h : bodyL k p t pe = 0) : keyL p = true := by
  unfold bodyL at h
  split at h
  · cases h
  split at h
  · cases h
  · rename_i h2
    simpa using h2
theorem there_put {l : List De} (h : CkOk l) {paper : List UInt8} (ht : thereL l paper = true) : ∃ v ∈ l, v.paper = paper ∧ v.kind = 1 := by
  unfold thereL at ht
  rw [rvers_vers h, List.any_eq_true] at ht
  obtain ⟨v, hv, hp⟩ := ht
  have h1 := List.mem_filter.1 (last_mem.1 hv).1
  unfold verP at h1
  unfold putP at hp
  refine ⟨v, h1.1, ?_, by simpa using hp⟩
  have := h1.2
  simp only [Bool.and_eq_true, beq_iff_eq] at this
  exact this.1
theorem there_key {l : List De} (h : CkOk l) {paper : List UInt8} (ht : thereL l paper = true) : keyL paper = true := by
  obtain ⟨v, hv, rfl, _⟩ := there_put h ht
  exact body_key (h.body hv)
end Go.Proofs.YtkomcdohejibmaaGreatDoor
/- Mends settle: the plain law. Own work of this seat. -/
set_option maxRecDepth 100000
set_option linter.unusedSimpArgs false
set_option linter.unusedVariables false
namespace Go.Proofs.YtkomcdohejibmaaGreatDoor
open Go Go.Av Go.RowKit

theorem body_put {p t : List UInt8} (h : keyL p = true) (h1 : t.length ≤ 20000) (h2 : t = [] ∨ isTextL t = true) : bodyL 1 p t [] = 0 := by
  have h3 : ¬ (t ≠ [] ∧ ((1 : Int) ≠ 1 ∨ isTextL t = false)) := by
    rintro ⟨h4, h5⟩
    rcases h2 with h2 | h2
    · exact h4 h2
    · rcases h5 with h5 | h5
      · exact h5 rfl
      · rw [h2] at h5; cases h5
  have h4 : ¬ (t.length > 20000) := by omega
  unfold bodyL
  rw [if_neg (by decide), if_neg (by simp [h]), if_neg h4, if_neg h3, if_neg (by simp [persB]), if_neg (by simp)]
theorem mend_law {all x : List De} {name dept t : List UInt8} (hok : CkOk all) (hkn : keyL name = true) (hk : keyL dept = true) (ht1 : t.length ≤ 20000) (ht2 : t = [] ∨ isTextL t = true) (hl : all.length < 500) (hx : Srt x) (hp : x.Perm (all ++ [addD all dept 1 name t []])) :
    ∃ d : De, CkOk x ∧ x.any (putOn name) = true ∧ versL x name = [d.st] ∧ deedOfL x d.st = some d ∧ d.kind = 1 ∧ d.text = t := by
  have ha := add_ok hok dept 1 name t []
  obtain ⟨d, hd⟩ : ∃ d, addD all dept 1 name t [] = d := ⟨_, rfl⟩
  have hdk : d.kind = 1 := by rw [← hd]; rfl
  have hdp : d.paper = name := by rw [← hd]; rfl
  have hdt : d.text = t := by rw [← hd]; rfl
  have hdd : d.st.dept = dept := by rw [← hd]; rfl
  have hbo : bodyL d.kind d.paper d.text d.person = 0 := by rw [← hd]; exact body_put hkn ht1 ht2
  rw [hd] at ha hp
  have hm : ∀ e, e ∈ x ↔ e ∈ all ∨ e = d := fun e => by rw [hp.mem_iff, List.mem_append, List.mem_singleton]
  have hck : CkOk x := add_law hok ha hl (by rw [hdd]; exact hk) hbo hx hm (by rw [hp.length_eq]; simp; omega)
  have hdx : d ∈ x := (hm d).2 (.inr rfl)
  refine ⟨d, hck, ?_, ?_, deedOf_mem hx hdx, hdk, hdt⟩
  · rw [List.any_eq_true]
    exact ⟨d, hdx, by simp [putOn, hdk, hdp]⟩
  · unfold versL
    rw [last_one (d := d) (srt_filter hx _) (List.mem_filter.2 ⟨hdx, by simp [verP, hdk, hdp]⟩) (fun y hy => ?_) (fun y hy hne => ?_)]
    · rfl
    · rcases (hm y).1 (List.mem_filter.1 hy).1 with h | rfl
      · exact ha.none y h
      · exact ha.self
    · rcases (hm y).1 (List.mem_filter.1 hy).1 with h | h
      · exact ha.all y h
      · exact absurd h hne
end Go.Proofs.YtkomcdohejibmaaGreatDoor
