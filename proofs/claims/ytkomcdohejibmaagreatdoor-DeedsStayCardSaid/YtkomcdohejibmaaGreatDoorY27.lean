/- The reference's contentFault, walked. Own work of this seat. -/
import Derived.Test.YtkomcdohejibmaaGreatDoorY26
import Derived.Test.YtkomcdohejibmaaGreatDoorY22
set_option maxRecDepth 100000
set_option linter.unusedSimpArgs false
set_option linter.unusedVariables false
namespace Go.Proofs.YtkomcdohejibmaaGreatDoor
open Go Go.Av Go.RowKit

set_option maxHeartbeats 8000000 in
theorem content_pch {S : Std} (hS : LibD S) (d : De) (h1 : d.paper.length < 1000000) (h2 : d.text.length < 1000000) (h3 : d.person.length < 1000000) : PcH Tryz.prog S 103 [deA d] (· = .int .i64 (contentL d.kind d.paper d.text d.person)) := by
  obtain ⟨st, seen, kind, paper, text, person⟩ := d
  simp only at h1 h2 h3
  simp only [deA]
  have kp := keyOf_pc paper h1
  have kq := keyOf_pc person h3
  have kn := noLf_pch hS text h2
  have kr := printable_pc (noLf text) (Nat.lt_of_le_of_lt (noLf_len _) h2)
  have ks := shasSuffix_pc text [10] (by omega)
  refine pch_intro (cth_intro Tryz.func103 rfl Tryz.ntmps103 hB103 (by simp) fun h ρ w hg => goB (N := 73) Tryz.ntmps103 300 ?_)
  by_cases k1 : kind < 1
  · have d1 : decide (kind < 1) = true := by simpa using k1
    have d3 : (kind == 3) = false := by simp; omega
    have d4 : (kind == 4) = false := by simp; omega
    simp only [go_sem, d1, d3, d4]
    exact aret [2] rfl ⟨by simp [contentL, k1]; rfl, rfl⟩
  by_cases k2 : kind > 5
  · have d1 : decide (kind < 1) = false := by simp; omega
    have d2 : decide (kind > 5) = true := by simpa using k2
    have d3 : (kind == 3) = false := by simp; omega
    have d4 : (kind == 4) = false := by simp; omega
    simp only [go_sem, d1, d2, d3, d4]
    exact aret [2] rfl ⟨by simp [contentL, k2]; rfl, rfl⟩
  have d1 : decide (kind < 1) = false := by simpa using k1
  have d2 : decide (kind > 5) = false := by simpa using k2
  have ko : ¬ (kind < 1 ∨ kind > 5) := by omega
  have hk : kind = 1 ∨ kind = 2 ∨ kind = 3 ∨ kind = 4 ∨ kind = 5 := by omega
  rcases hk with rfl | rfl | rfl | rfl | rfl
  · simp only [go_sem]
    refine pcall1 (kp) rfl (N := 73) Tryz.ntmps103 rfl (goB (N := 73) Tryz.ntmps103 300 ?_)
    cases hp : keyO paper with
    | false =>
      simp only [go_sem]
      exact aret [2] rfl ⟨by show AV.int _ _ = AV.int _ _; exact congrArg _ (Eq.symm (by simp [contentL, hp])), rfl⟩
    | true =>
      cases d5 : decide ((text.length : Int) > 20000) with
      | true =>
        have e5 : text.length > 20000 := by simp at d5; omega
        simp only [go_sem, d5]
        exact aret [2] rfl ⟨by show AV.int _ _ = AV.int _ _; exact congrArg _ (Eq.symm (by simp [contentL, hp, e5])), rfl⟩
      | false =>
        have e5 : ¬ text.length > 20000 := by simp at d5; omega
        cases d6 : text != [] with
        | true =>
          have e6 : text ≠ [] := by simpa using d6
          simp only [go_sem, d5, d6]
          refine pcallH1 hg (kn) rfl (N := 73) Tryz.ntmps103 rfl (goB (N := 73) Tryz.ntmps103 300 ?_)
          simp only [go_sem]
          refine pcall1 (kr) rfl (N := 73) Tryz.ntmps103 rfl (goB (N := 73) Tryz.ntmps103 300 ?_)
          cases hr : prL (noLf text) with
          | false =>
            have ht : txO text = true := by simp [txO, hr]
            simp only [go_sem]
            exact aret [2] rfl ⟨by show AV.int _ _ = AV.int _ _; exact congrArg _ (Eq.symm (by simp [contentL, hp, e5, ht, e6])), rfl⟩
          | true =>
            simp only [go_sem, d6]
            refine pcall1 (ks) rfl (N := 73) Tryz.ntmps103 rfl (goB (N := 73) Tryz.ntmps103 300 ?_)
            cases hs : Lib.hasSuffix text [10] with
            | false =>
              have ht : txO text = true := by simp [txO, hs, e6]
              simp only [go_sem]
              exact aret [2] rfl ⟨by show AV.int _ _ = AV.int _ _; exact congrArg _ (Eq.symm (by simp [contentL, hp, e5, ht, e6])), rfl⟩
            | true =>
              have ht : txO text = false := by simp [txO, hs, hr]
              cases d7 : person != [] with
              | true =>
                have e7 : person ≠ [] := by simpa using d7
                simp only [go_sem, d7]
                exact aret [2] rfl ⟨by show AV.int _ _ = AV.int _ _; exact congrArg _ (Eq.symm (by simp [contentL, hp, e5, ht, e7, persB])), rfl⟩
              | false =>
                have e7 : person = [] := by simpa using d7
                simp only [go_sem, d7]
                exact aret [2] rfl ⟨by show AV.int _ _ = AV.int _ _; exact congrArg _ (Eq.symm (by simp [contentL, hp, e5, ht, e7, persB])), rfl⟩
        | false =>
          have e6 : text = [] := by simpa using d6
          simp only [go_sem, d5, d6]
          refine pcallH1 hg (kn) rfl (N := 73) Tryz.ntmps103 rfl (goB (N := 73) Tryz.ntmps103 300 ?_)
          simp only [go_sem]
          refine pcall1 (kr) rfl (N := 73) Tryz.ntmps103 rfl (goB (N := 73) Tryz.ntmps103 300 ?_)
          cases hr : prL (noLf text) with
          | false =>
            have ht : txO text = true := by simp [txO, hr]
            simp only [go_sem]
            exact aret [2] rfl ⟨by show AV.int _ _ = AV.int _ _; exact congrArg _ (Eq.symm (by simp [contentL, hp, e5, ht])), rfl⟩
          | true =>
            have ht : txO [] = false := by decide
            cases d7 : person != [] with
            | true =>
              have e7 : person ≠ [] := by simpa using d7
              simp only [go_sem, d7, d6]
              exact aret [2] rfl ⟨by show AV.int _ _ = AV.int _ _; exact congrArg _ (Eq.symm (by simp [contentL, hp, e5, ht, e6, e7, persB])), rfl⟩
            | false =>
              have e7 : person = [] := by simpa using d7
              simp only [go_sem, d7, d6]
              exact aret [2] rfl ⟨by show AV.int _ _ = AV.int _ _; exact congrArg _ (Eq.symm (by simp [contentL, hp, e5, ht, e6, e7, persB])), rfl⟩
  · simp only [go_sem]
    refine pcall1 (kp) rfl (N := 73) Tryz.ntmps103 rfl (goB (N := 73) Tryz.ntmps103 300 ?_)
    cases hp : keyO paper with
    | false =>
      simp only [go_sem]
      exact aret [2] rfl ⟨by show AV.int _ _ = AV.int _ _; exact congrArg _ (Eq.symm (by simp [contentL, hp])), rfl⟩
    | true =>
      cases d5 : decide ((text.length : Int) > 20000) with
      | true =>
        have e5 : text.length > 20000 := by simp at d5; omega
        simp only [go_sem, d5]
        exact aret [2] rfl ⟨by show AV.int _ _ = AV.int _ _; exact congrArg _ (Eq.symm (by simp [contentL, hp, e5])), rfl⟩
      | false =>
        have e5 : ¬ text.length > 20000 := by simp at d5; omega
        cases d6 : text != [] with
        | true =>
          have e6 : text ≠ [] := by simpa using d6
          simp only [go_sem, d5, d6]
          exact aret [2] rfl ⟨by show AV.int _ _ = AV.int _ _; exact congrArg _ (Eq.symm (by simp [contentL, hp, e5, e6])), rfl⟩
        | false =>
          have e6 : text = [] := by simpa using d6
          simp only [go_sem, d5, d6]
          refine pcallH1 hg (kn) rfl (N := 73) Tryz.ntmps103 rfl (goB (N := 73) Tryz.ntmps103 300 ?_)
          simp only [go_sem]
          refine pcall1 (kr) rfl (N := 73) Tryz.ntmps103 rfl (goB (N := 73) Tryz.ntmps103 300 ?_)
          cases hr : prL (noLf text) with
          | false =>
            have ht : txO text = true := by simp [txO, hr]
            simp only [go_sem]
            exact aret [2] rfl ⟨by show AV.int _ _ = AV.int _ _; exact congrArg _ (Eq.symm (by simp [contentL, hp, e5, ht])), rfl⟩
          | true =>
            have ht : txO [] = false := by decide
            cases d7 : person != [] with
            | true =>
              have e7 : person ≠ [] := by simpa using d7
              simp only [go_sem, d7, d6]
              exact aret [2] rfl ⟨by show AV.int _ _ = AV.int _ _; exact congrArg _ (Eq.symm (by simp [contentL, hp, e5, ht, e6, e7, persB])), rfl⟩
            | false =>
              have e7 : person = [] := by simpa using d7
              simp only [go_sem, d7, d6]
              exact aret [2] rfl ⟨by show AV.int _ _ = AV.int _ _; exact congrArg _ (Eq.symm (by simp [contentL, hp, e5, ht, e6, e7, persB])), rfl⟩
  · simp only [go_sem]
    refine pcall1 (kp) rfl (N := 73) Tryz.ntmps103 rfl (goB (N := 73) Tryz.ntmps103 300 ?_)
    cases hp : keyO paper with
    | false =>
      simp only [go_sem]
      exact aret [2] rfl ⟨by show AV.int _ _ = AV.int _ _; exact congrArg _ (Eq.symm (by simp [contentL, hp])), rfl⟩
    | true =>
      cases d5 : decide ((text.length : Int) > 20000) with
      | true =>
        have e5 : text.length > 20000 := by simp at d5; omega
        simp only [go_sem, d5]
        exact aret [2] rfl ⟨by show AV.int _ _ = AV.int _ _; exact congrArg _ (Eq.symm (by simp [contentL, hp, e5])), rfl⟩
      | false =>
        have e5 : ¬ text.length > 20000 := by simp at d5; omega
        cases d6 : text != [] with
        | true =>
          have e6 : text ≠ [] := by simpa using d6
          simp only [go_sem, d5, d6]
          exact aret [2] rfl ⟨by show AV.int _ _ = AV.int _ _; exact congrArg _ (Eq.symm (by simp [contentL, hp, e5, e6])), rfl⟩
        | false =>
          have e6 : text = [] := by simpa using d6
          simp only [go_sem, d5, d6]
          refine pcallH1 hg (kn) rfl (N := 73) Tryz.ntmps103 rfl (goB (N := 73) Tryz.ntmps103 300 ?_)
          simp only [go_sem]
          refine pcall1 (kr) rfl (N := 73) Tryz.ntmps103 rfl (goB (N := 73) Tryz.ntmps103 300 ?_)
          cases hr : prL (noLf text) with
          | false =>
            have ht : txO text = true := by simp [txO, hr]
            simp only [go_sem]
            exact aret [2] rfl ⟨by show AV.int _ _ = AV.int _ _; exact congrArg _ (Eq.symm (by simp [contentL, hp, e5, ht])), rfl⟩
          | true =>
            have ht : txO [] = false := by decide
            simp only [go_sem, d6]
            refine pcall1 (kq) rfl (N := 73) Tryz.ntmps103 rfl (goB (N := 73) Tryz.ntmps103 300 ?_)
            cases hq : keyO person with
            | false =>
              simp only [go_sem]
              exact aret [2] rfl ⟨by show AV.int _ _ = AV.int _ _; exact congrArg _ (Eq.symm (by simp [contentL, hp, e5, ht, e6, hq, persB])), rfl⟩
            | true =>
              simp only [go_sem]
              exact aret [2] rfl ⟨by show AV.int _ _ = AV.int _ _; exact congrArg _ (Eq.symm (by simp [contentL, hp, e5, ht, e6, hq, persB])), rfl⟩
  · simp only [go_sem]
    refine pcall1 (kp) rfl (N := 73) Tryz.ntmps103 rfl (goB (N := 73) Tryz.ntmps103 300 ?_)
    cases hp : keyO paper with
    | false =>
      simp only [go_sem]
      exact aret [2] rfl ⟨by show AV.int _ _ = AV.int _ _; exact congrArg _ (Eq.symm (by simp [contentL, hp])), rfl⟩
    | true =>
      cases d5 : decide ((text.length : Int) > 20000) with
      | true =>
        have e5 : text.length > 20000 := by simp at d5; omega
        simp only [go_sem, d5]
        exact aret [2] rfl ⟨by show AV.int _ _ = AV.int _ _; exact congrArg _ (Eq.symm (by simp [contentL, hp, e5])), rfl⟩
      | false =>
        have e5 : ¬ text.length > 20000 := by simp at d5; omega
        cases d6 : text != [] with
        | true =>
          have e6 : text ≠ [] := by simpa using d6
          simp only [go_sem, d5, d6]
          exact aret [2] rfl ⟨by show AV.int _ _ = AV.int _ _; exact congrArg _ (Eq.symm (by simp [contentL, hp, e5, e6])), rfl⟩
        | false =>
          have e6 : text = [] := by simpa using d6
          simp only [go_sem, d5, d6]
          refine pcallH1 hg (kn) rfl (N := 73) Tryz.ntmps103 rfl (goB (N := 73) Tryz.ntmps103 300 ?_)
          simp only [go_sem]
          refine pcall1 (kr) rfl (N := 73) Tryz.ntmps103 rfl (goB (N := 73) Tryz.ntmps103 300 ?_)
          cases hr : prL (noLf text) with
          | false =>
            have ht : txO text = true := by simp [txO, hr]
            simp only [go_sem]
            exact aret [2] rfl ⟨by show AV.int _ _ = AV.int _ _; exact congrArg _ (Eq.symm (by simp [contentL, hp, e5, ht])), rfl⟩
          | true =>
            have ht : txO [] = false := by decide
            simp only [go_sem, d6]
            refine pcall1 (kq) rfl (N := 73) Tryz.ntmps103 rfl (goB (N := 73) Tryz.ntmps103 300 ?_)
            cases hq : keyO person with
            | false =>
              simp only [go_sem]
              exact aret [2] rfl ⟨by show AV.int _ _ = AV.int _ _; exact congrArg _ (Eq.symm (by simp [contentL, hp, e5, ht, e6, hq, persB])), rfl⟩
            | true =>
              simp only [go_sem]
              exact aret [2] rfl ⟨by show AV.int _ _ = AV.int _ _; exact congrArg _ (Eq.symm (by simp [contentL, hp, e5, ht, e6, hq, persB])), rfl⟩
  · simp only [go_sem]
    refine pcall1 (kp) rfl (N := 73) Tryz.ntmps103 rfl (goB (N := 73) Tryz.ntmps103 300 ?_)
    cases hp : keyO paper with
    | false =>
      simp only [go_sem]
      exact aret [2] rfl ⟨by show AV.int _ _ = AV.int _ _; exact congrArg _ (Eq.symm (by simp [contentL, hp])), rfl⟩
    | true =>
      cases d5 : decide ((text.length : Int) > 20000) with
      | true =>
        have e5 : text.length > 20000 := by simp at d5; omega
        simp only [go_sem, d5]
        exact aret [2] rfl ⟨by show AV.int _ _ = AV.int _ _; exact congrArg _ (Eq.symm (by simp [contentL, hp, e5])), rfl⟩
      | false =>
        have e5 : ¬ text.length > 20000 := by simp at d5; omega
        cases d6 : text != [] with
        | true =>
          have e6 : text ≠ [] := by simpa using d6
          simp only [go_sem, d5, d6]
          exact aret [2] rfl ⟨by show AV.int _ _ = AV.int _ _; exact congrArg _ (Eq.symm (by simp [contentL, hp, e5, e6])), rfl⟩
        | false =>
          have e6 : text = [] := by simpa using d6
          simp only [go_sem, d5, d6]
          refine pcallH1 hg (kn) rfl (N := 73) Tryz.ntmps103 rfl (goB (N := 73) Tryz.ntmps103 300 ?_)
          simp only [go_sem]
          refine pcall1 (kr) rfl (N := 73) Tryz.ntmps103 rfl (goB (N := 73) Tryz.ntmps103 300 ?_)
          cases hr : prL (noLf text) with
          | false =>
            have ht : txO text = true := by simp [txO, hr]
            simp only [go_sem]
            exact aret [2] rfl ⟨by show AV.int _ _ = AV.int _ _; exact congrArg _ (Eq.symm (by simp [contentL, hp, e5, ht])), rfl⟩
          | true =>
            have ht : txO [] = false := by decide
            cases d7 : person != [] with
            | true =>
              have e7 : person ≠ [] := by simpa using d7
              simp only [go_sem, d7, d6]
              exact aret [2] rfl ⟨by show AV.int _ _ = AV.int _ _; exact congrArg _ (Eq.symm (by simp [contentL, hp, e5, ht, e6, e7, persB])), rfl⟩
            | false =>
              have e7 : person = [] := by simpa using d7
              simp only [go_sem, d7, d6]
              exact aret [2] rfl ⟨by show AV.int _ _ = AV.int _ _; exact congrArg _ (Eq.symm (by simp [contentL, hp, e5, ht, e6, e7, persB])), rfl⟩
end Go.Proofs.YtkomcdohejibmaaGreatDoor
/- The reference's deedAt, seenFault. Own work of this seat. -/
set_option maxRecDepth 100000
set_option linter.unusedSimpArgs false
set_option linter.unusedVariables false
namespace Go.Proofs.YtkomcdohejibmaaGreatDoor
open Go Go.Av Go.RowKit

theorem find_step {α : Type} {p : α → Bool} {l : List α} {i : Nat} (hi : i < l.length) (h : ∀ j (hj : j < i), p (l[j]'(by omega)) = false) :
    (p l[i] = true → l.find? p = some l[i]) := fun hp => by
  rw [List.find?_eq_some_iff_getElem]
  exact ⟨hp, i, hi, rfl, fun j hj => by simp [h j hj]⟩
theorem find_past {α : Type} {p : α → Bool} {l : List α} (h : ∀ j (hj : j < l.length), p l[j] = false) : l.find? p = none := by
  rw [List.find?_eq_none]
  intro x hx
  obtain ⟨j, hj, rfl⟩ := List.getElem_of_mem hx
  simp [h j hj]

theorem deedAt_pc (l : List De) (s : St) (hl : l.length < 1000000) : Pc Tryz.prog 174 [.fz 7 (l.map deA), stA s] (· = .tup [optA (deedOfL l s), .bool (deedOfL l s).isSome]) := by
  unfold deedOfL
  simp only [stA]
  refine pc_intro (ct_intro Tryz.func174 rfl Tryz.ntmps174 hB174 (by simp) fun h ρ w => goB (N := 21) Tryz.ntmps174 300 ?_)
  simp only [go_sem]
  refine aloop (ι := Nat) (fun i => l.length - i) (fun i => [(10, .int .i64 i), (9, .int .i64 l.length), (8, .fz 7 (l.map deA)), (5, .bool false), (4, .ptr 0 1 0 0), (3, .pin 2 [.agg [.str s.dept, .int .i64 s.no]] 0 0)])
    (fun i => [.arr 7 [optA none]]) (fun i => i ≤ l.length ∧ ∀ j (hj : j < i) (hl : j < l.length), stB l[j].st s = false) 0 ⟨by simp, fun j hj => absurd hj (by omega)⟩ ?_ ?_
  · refine Shift.weak ?_
    simp only [wk, go_sem, List.length_map]
  · rintro i ⟨g1, g2⟩ J hJ
    by_cases gi : i < l.length
    · have di : decide ((i : Int) < (l.length : Int)) = true := by simp; omega
      have hf := find_step (p := fun d : De => stB d.st s) gi (fun j hj => g2 j hj (by omega))
      refine goB (N := 21) Tryz.ntmps174 300 ?_
      cases h1 : stB l[i].st s with
      | true =>
        have h2 := h1
        simp only [stB] at h2
        rw [hf h1]
        simp only [go_sem, di, deA_get l i gi, List.length_map, h2, optA]
        repeat refine And.intro (by first | omega | rfl | kernel_rfl | exact .inl rfl | exact .inl trivial | (simp; done) | (simp; omega)) ?_
        exact aretc [.cell 4 41, .tmp 5] rfl [optA (some l[i]), .bool true] (by simp only [ResOk, sideIs, go_sem, optA, deA]) ⟨by simp [resT]; rfl, rfl⟩
      | false =>
        have h2 := h1
        simp only [stB] at h2
        have hfin := hJ (i + 1) ⟨by omega, fun j hj hl => by
          rcases Nat.lt_or_ge j i with hh | hh
          · exact g2 j hh hl
          · have : j = i := by omega
            subst this; exact h1⟩ (by omega)
        simp only [go_sem, di, deA_get l i gi, List.length_map, h2, optA]
        repeat refine And.intro (by first | omega | rfl | kernel_rfl | exact .inl rfl | exact .inl trivial | (simp; done) | (simp; omega)) ?_
        rw [show (i : Int) + 1 = ((i + 1 : Nat) : Int) by omega]
        simp only [optA] at hfin
        refine ainv hfin (Shift.low 1 (by simp) (by simp) ?_ ?_)
        · simp only [List.take_succ_cons, List.take_zero, List.all_cons, List.all_nil, lowB, lowC, flat, cellsOf, go_sem]
        · simp only [wkl, lowV, lowC, Av.get, go_sem]
    · have di : decide ((i : Int) < (l.length : Int)) = false := by simp; omega
      rw [find_past (p := fun d : De => stB d.st s) (fun j hj => g2 j (by omega) hj)]
      refine goB (N := 21) Tryz.ntmps174 300 ?_
      simp only [go_sem, di, optA]
      repeat refine And.intro (by first | omega | rfl | kernel_rfl | exact .inl rfl | exact .inl trivial | (simp; done) | (simp; omega)) ?_
      exact aretc [.cell 4 41, .tmp 5] rfl [optA none, .bool false] (by simp only [ResOk, sideIs, go_sem, optA]) ⟨by simp [resT]; rfl, rfl⟩
end Go.Proofs.YtkomcdohejibmaaGreatDoor
/- The reference's seenFault. Own work of this seat. -/
set_option maxRecDepth 100000
set_option linter.unusedSimpArgs false
set_option linter.unusedVariables false
namespace Go.Proofs.YtkomcdohejibmaaGreatDoor
open Go Go.Av Go.RowKit

def seenAt (l : List De) (seen : List St) (own : List UInt8) (i : Nat) : Int :=
  if keyO (seen.getD i ⟨[], 0⟩).dept = false then 5
  else if ((seen.getD i ⟨[], 0⟩).dept == own) = true then 5
  else if 0 < i ∧ (bytesLess (seen.getD i ⟨[], 0⟩).dept (seen.getD (i - 1) ⟨[], 0⟩).dept || (seen.getD i ⟨[], 0⟩).dept == (seen.getD (i - 1) ⟨[], 0⟩).dept) = true then 7
  else if (deedOfL l (seen.getD i ⟨[], 0⟩)).isSome = false then 8
  else 0
def seenO (l : List De) (seen : List St) (own : List UInt8) : Int := (((List.range seen.length).map (seenAt l seen own)).find? (fun n => n != 0)).getD 0
theorem seenO_hit {l : List De} {seen : List St} {own : List UInt8} {i : Nat} (hi : i < seen.length) (h : ∀ j < i, seenAt l seen own j = 0) {n : Int} (hn : n ≠ 0) (e : seenAt l seen own i = n) : seenO l seen own = n := by
  unfold seenO
  have := find_step (p := fun n : Int => n != 0) (l := (List.range seen.length).map (seenAt l seen own)) (i := i) (by simpa using hi) (fun j hj => by simp [h j hj]) (by simp [e, hn])
  rw [this]
  simp [e]
theorem seenO_end {l : List De} {seen : List St} {own : List UInt8} (h : ∀ j < seen.length, seenAt l seen own j = 0) : seenO l seen own = 0 := by
  unfold seenO
  rw [find_past (fun j hj => by
    simp only [List.length_map, List.length_range] at hj
    simp [h j hj])]
  rfl

set_option maxHeartbeats 4000000 in
theorem seenFault_pc (l : List De) (seen : List St) (own : List UInt8) (hl : l.length < 1000000) (hd : seen.length < 1000000) (hk : ∀ s ∈ seen, s.dept.length < 1000000) :
    Pc Tryz.prog 132 [.fz 7 (l.map deA), .fz 2 (seen.map stA), .str own] (· = .int .i64 (seenO l seen own)) := by
  refine pc_intro (ct_intro Tryz.func132 rfl Tryz.ntmps132 hB132 (by simp) fun h ρ w => goB (N := 52) Tryz.ntmps132 300 ?_)
  simp only [go_sem]
  refine aloop (ι := Nat) (fun i => seen.length - i) (fun i => [(13, .int .i64 i), (12, .int .i64 seen.length), (11, .fz 2 (seen.map stA)), (2, .str own), (1, .fz 2 (seen.map stA)), (0, .fz 7 (l.map deA))])
    (fun i => []) (fun i => i ≤ seen.length ∧ ∀ j < i, seenAt l seen own j = 0) 0 ⟨by simp, fun j h => absurd h (by omega)⟩ ?_ ?_
  · refine Shift.weak ?_
    simp only [wk, go_sem, List.length_map]
  · rintro i ⟨g1, g2⟩ J hJ
    by_cases gi : i < seen.length
    · have di : decide ((i : Int) < (seen.length : Int)) = true := by simp; omega
      have hki := keyOf_pc seen[i].dept (hk _ (List.getElem_mem gi))
      have hda := deedAt_pc l seen[i] hl
      have hgd : seen.getD i ⟨[], 0⟩ = seen[i] := by simp [List.getD, gi]
      have hit : ∀ {n : Int}, n ≠ 0 → seenAt l seen own i = n → seenO l seen own = n := fun hn e => seenO_hit gi g2 hn e
      have hfin : seenAt l seen own i = 0 → ∀ a w, Sim _ _ _ a w → J a w := fun hc => hJ (i + 1) ⟨by omega, fun j h => by
        rcases Nat.lt_or_ge j i with h2 | h2
        · exact g2 j h2
        · have : j = i := by omega
          subst this; exact hc⟩ (by omega)
      unfold seenAt at hit hfin
      rw [hgd] at hit hfin
      simp only [stA] at hda
      refine goB (N := 52) Tryz.ntmps132 300 ?_
      simp only [go_sem, di, stA_get seen i gi, List.length_map]
      repeat refine And.intro (by first | omega | rfl | (simp; omega)) ?_
      refine pcall1 (hki) rfl (N := 52) Tryz.ntmps132 rfl (goB (N := 52) Tryz.ntmps132 300 ?_)
      cases hk1 : keyO seen[i].dept with
      | false =>
        simp only [go_sem]
        exact aret [6] rfl ⟨by simp only [resV, Av.get, Av.put, beq_self_eq_true, cond_true]; exact congrArg _ (hit (by decide) (by simp [hk1])).symm, rfl⟩
      | true =>
        cases hk2 : seen[i].dept == own with
        | true =>
          simp only [go_sem, hk2]
          repeat refine And.intro (by first | omega | rfl | (simp; omega)) ?_
          exact aret [6] rfl ⟨by simp only [resV, Av.get, Av.put, beq_self_eq_true, cond_true]; exact congrArg _ (hit (by decide) (by simp only [hk1, hk2]; rfl)).symm, rfl⟩
        | false =>
          by_cases hi0 : i = 0
          · have e0 : decide ((i : Int) > 0) = false := by simp; omega
            simp only [go_sem, hk2]
            repeat refine And.intro (by first | omega | rfl | (simp; omega)) ?_
            refine adraw [] mixed (by decide) (N := 52) Tryz.ntmps132 (by decide) 100 ?_
            simp only [go_sem, e0]
            repeat refine And.intro (by first | omega | rfl | (simp; omega)) ?_
            refine goB (N := 52) Tryz.ntmps132 300 ?_
            cases hx : deedOfL l seen[i] with
            | none =>
              rw [hx] at hda
              simp only [optA] at hda
              simp only [go_sem]
              refine pcall1 (hda) rfl (N := 52) Tryz.ntmps132 rfl (goB (N := 52) Tryz.ntmps132 300 ?_)
              simp only [go_sem]
              repeat refine And.intro (by first | rfl | kernel_rfl | omega | (simp; done)) ?_
              refine ARet.shift (Shift.low 0 (e' := [(6, .int .i64 8)]) (by simp) (by simp) rfl ?_) (aret [6] rfl ⟨by simp only [resV, Av.get, Av.put, beq_self_eq_true, cond_true]; exact congrArg _ (hit (by decide) (by rw [if_neg (by simp [hk1]), if_neg (by simp [hk2]), if_neg (fun h => absurd h.1 (by omega)), if_pos (by simp [hx])])).symm, rfl⟩)
              simp only [wkl, lowV, lowC, Av.get, go_sem]
            | some d =>
              rw [hx] at hda
              simp only [optA, deA] at hda
              simp only [go_sem]
              refine pcall1 (hda) rfl (N := 52) Tryz.ntmps132 rfl (goB (N := 52) Tryz.ntmps132 300 ?_)
              simp only [go_sem]
              repeat refine And.intro (by first | rfl | kernel_rfl | omega | (simp; done)) ?_
              rw [show (i : Int) + 1 = ((i + 1 : Nat) : Int) by omega]
              refine ainv (hfin (by rw [if_neg (by simp [hk1]), if_neg (by simp [hk2]), if_neg (fun h => absurd h.1 (by omega)), if_neg (by simp [hx])])) (Shift.low 0 (by simp) (by simp) rfl ?_)
              simp only [wkl, lowV, lowC, Av.get, go_sem]
          · have e0 : decide ((i : Int) > 0) = true := by simp; omega
            have e00 : 0 < i := by omega
            have hp : ((i : Int) - 1).toNat = i - 1 := by omega
            have hgp : seen.getD (i - 1) ⟨[], 0⟩ = seen[i - 1] := by simp [List.getD, show i - 1 < seen.length by omega]
            rw [hgp] at hfin hit
            cases e2 : bytesLess seen[i].dept seen[i - 1].dept || seen[i].dept == seen[i - 1].dept with
            | true =>
              simp only [go_sem, hk2]
              repeat refine And.intro (by first | omega | rfl | (simp; omega)) ?_
              refine adraw [] mixed (by decide) (N := 52) Tryz.ntmps132 (by decide) 100 ?_
              simp only [go_sem, e0, e2, hp, stA_get seen (i - 1) (by omega), List.length_map]
              repeat refine And.intro (by first | omega | rfl | (simp; omega)) ?_
              refine goB (N := 52) Tryz.ntmps132 300 ?_
              simp only [go_sem]
              refine ARet.shift (Shift.low 0 (e' := [(6, .int .i64 7)]) (by simp) (by simp) rfl ?_) (aret [6] rfl ⟨by simp only [resV, Av.get, Av.put, beq_self_eq_true, cond_true]; exact congrArg _ (hit (by decide) (by rw [if_neg (by simp [hk1]), if_neg (by simp [hk2]), if_pos ⟨e00, e2⟩])).symm, rfl⟩)
              simp only [wkl, lowV, lowC, Av.get, go_sem]
            | false =>
              simp only [go_sem, hk2]
              repeat refine And.intro (by first | omega | rfl | (simp; omega)) ?_
              refine adraw [] mixed (by decide) (N := 52) Tryz.ntmps132 (by decide) 100 ?_
              simp only [go_sem, e0, e2, hp, stA_get seen (i - 1) (by omega), List.length_map]
              repeat refine And.intro (by first | omega | rfl | (simp; omega)) ?_
              refine goB (N := 52) Tryz.ntmps132 300 ?_
              cases hx : deedOfL l seen[i] with
              | none =>
                rw [hx] at hda
                simp only [optA] at hda
                simp only [go_sem]
                refine pcall1 (hda) rfl (N := 52) Tryz.ntmps132 rfl (goB (N := 52) Tryz.ntmps132 300 ?_)
                simp only [go_sem]
                repeat refine And.intro (by first | rfl | kernel_rfl | omega | (simp; done)) ?_
                refine ARet.shift (Shift.low 0 (e' := [(6, .int .i64 8)]) (by simp) (by simp) rfl ?_) (aret [6] rfl ⟨by simp only [resV, Av.get, Av.put, beq_self_eq_true, cond_true]; exact congrArg _ (hit (by decide) (by rw [if_neg (by simp [hk1]), if_neg (by simp [hk2]), if_neg (fun h => absurd h.2 (by simp [e2])), if_pos (by simp [hx])])).symm, rfl⟩)
                simp only [wkl, lowV, lowC, Av.get, go_sem]
              | some d =>
                rw [hx] at hda
                simp only [optA, deA] at hda
                simp only [go_sem]
                refine pcall1 (hda) rfl (N := 52) Tryz.ntmps132 rfl (goB (N := 52) Tryz.ntmps132 300 ?_)
                simp only [go_sem]
                repeat refine And.intro (by first | rfl | kernel_rfl | omega | (simp; done)) ?_
                rw [show (i : Int) + 1 = ((i + 1 : Nat) : Int) by omega]
                refine ainv (hfin (by rw [if_neg (by simp [hk1]), if_neg (by simp [hk2]), if_neg (fun h => absurd h.2 (by simp [e2])), if_neg (by simp [hx])])) (Shift.low 0 (by simp) (by simp) rfl ?_)
                simp only [wkl, lowV, lowC, Av.get, go_sem]
    · have di : decide ((i : Int) < (seen.length : Int)) = false := by simp; omega
      rw [seenO_end fun j hj => g2 j (by omega)]
      refine goB (N := 52) Tryz.ntmps132 300 ?_
      simp only [go_sem, di]
      exact aret [6] rfl ⟨rfl, rfl⟩
end Go.Proofs.YtkomcdohejibmaaGreatDoor
