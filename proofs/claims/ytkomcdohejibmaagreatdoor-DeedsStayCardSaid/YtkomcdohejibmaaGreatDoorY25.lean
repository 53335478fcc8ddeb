/- Right deeds: keys, texts, what a deed says. Own work of this seat. -/
import Derived.Test.YtkomcdohejibmaaGreatDoorY24
import Derived.Test.YtkomcdohejibmaaGreatDoorY22
import Derived.Shelf.Strings.IndexAnyAll
import Derived.Shelf.Strings.SlTrimAscii
import Derived.Shelf.Strconv.AtoiErr
import Derived.Test.YtkomcdohejibmaaGreatDoorProg
import Derived.Shelf.Strings.Replace
import Derived.Shelf.Strings.OnBuilder
import Derived.Shelf.Strings.Prefix
set_option maxRecDepth 100000
set_option linter.unusedSimpArgs false
set_option linter.unusedVariables false
namespace Go.Proofs.YtkomcdohejibmaaGreatDoor
open Go Go.Av Go.RowKit

theorem shasSuffix_pc (s p : List UInt8) (hs : s.length ≤ 9223372036854775807) : Pc Tryz.prog 136 [.str s, .str p] (· = .bool (Lib.hasSuffix s p)) :=
  o_pc [_, _] (.bool (Lib.hasSuffix s p)) hB136 (o_two s p) (fun h => .bool _) fun w => (Any.strings_HasSuffix Tryz.lays100 ⟨s.toArray⟩ ⟨p.toArray⟩ w hs).mono fun e w' ⟨h1, h2⟩ => ⟨h1, h2 ▸ .refl w⟩

def keyC (i : Nat) (m : Nat) : Bool := (decide (97 ≤ m) && decide (m ≤ 122)) || (i != 0 && (m == 45 || (decide (48 ≤ m) && decide (m ≤ 57))))
def keyL (s : List UInt8) : Bool := (List.range s.length).all (fun i => keyC i (s.getD i 0).toNat) && (decide (1 ≤ s.length) && decide (s.length ≤ 20))
theorem keyL_false {s : List UInt8} {i : Nat} (hi : i < s.length) (h : keyC i (s.getD i 0).toNat = false) : keyL s = false := by
  unfold keyL
  have : (List.range s.length).all (fun i => keyC i (s.getD i 0).toNat) = false := by
    rw [List.all_eq_false]
    exact ⟨i, List.mem_range.2 hi, by simp only [h]; simp⟩
  rw [this, Bool.false_and]
theorem keyL_true {s : List UInt8} (h : ∀ i < s.length, keyC i (s.getD i 0).toNat = true) : keyL s = (decide (1 ≤ s.length) && decide (s.length ≤ 20)) := by
  unfold keyL
  have : (List.range s.length).all (fun i => keyC i (s.getD i 0).toNat) = true := by
    rw [List.all_eq_true]
    exact fun i hi => h i (List.mem_range.1 hi)
  rw [this, Bool.true_and]

theorem iskey_pc (s : List UInt8) (hl : s.length < 1000000) : Pc Tryz.prog 83 [.str s] (· = .bool (keyL s)) := by
  refine pc_intro (ct_intro Tryz.func83 rfl Tryz.ntmps83 hB83 (by simp) fun h ρ w => goB (N := 53) Tryz.ntmps83 300 ?_)
  simp only [go_sem]
  refine aloop (ι := Nat) (fun i => s.length - i) (fun i => [(7, .int .i64 i), (6, .int .i64 s.length), (0, .str s)]) (fun _ => []) (fun i => i ≤ s.length ∧ ∀ j < i, keyC j (s.getD j 0).toNat = true) 0 ⟨by simp, fun j h => absurd h (by omega)⟩ ?_ ?_
  · refine Shift.weak ?_
    simp only [wk, go_sem]
  · rintro i ⟨g1, g2⟩ J hJ
    by_cases gi : i < s.length
    · have di : decide ((i : Int) < (s.length : Int)) = true := by simp; omega
      have hn : (i : Int).toNat = i := by simp
      have hgo : keyC i (s.getD i 0).toNat = true → ∀ a w, Sim _ _ _ a w → J a w := fun hc => hJ (i + 1) ⟨by omega, fun j hj => by
        rcases Nat.lt_or_ge j i with h2 | h2
        · exact g2 j h2
        · have : j = i := by omega
          subst this; exact hc⟩ (by omega)
      have hno : keyC i (s.getD i 0).toNat = false → keyL s = false := fun hc => keyL_false gi hc
      obtain ⟨m, hm⟩ : ∃ m, (s.getD i 0).toNat = m := ⟨_, rfl⟩
      rw [hm] at hgo hno
      refine goB (N := 53) Tryz.ntmps83 300 ?_
      cases d1 : decide ((m : Int) ≥ 97) with
      | true =>
        cases d2 : decide ((m : Int) ≤ 122) with
        | true =>
          simp only [go_sem, di, hn, hm, d1, d2]
          repeat refine And.intro (by first | omega | rfl) ?_
          rw [show (i : Int) + 1 = ((i + 1 : Nat) : Int) by omega]
          refine ainv (hgo (by simp [keyC] at d1 d2 ⊢; omega)) (Shift.weak ?_)
          simp only [wk, go_sem]
        | false =>
          cases d3 : (i : Int) == 0 with
          | true =>
            simp only [go_sem, di, hn, hm, d1, d2, d3]
            repeat refine And.intro (by first | omega | rfl) ?_
            exact aret [2] rfl ⟨by rw [hno (by simp [keyC] at d1 d2 d3 ⊢; omega)]; rfl, rfl⟩
          | false =>
            cases d4 : (m : Int) != 45 with
            | true =>
              cases d5 : decide ((m : Int) < 48) with
              | true =>
                simp only [go_sem, di, hn, hm, d1, d2, d3, d4, d5]
                repeat refine And.intro (by first | omega | rfl) ?_
                exact aret [2] rfl ⟨by rw [hno (by simp [keyC] at d1 d2 d3 d4 d5 ⊢; omega)]; rfl, rfl⟩
              | false =>
                cases d6 : decide ((m : Int) > 57) with
                | true =>
                  simp only [go_sem, di, hn, hm, d1, d2, d3, d4, d5, d6]
                  repeat refine And.intro (by first | omega | rfl) ?_
                  exact aret [2] rfl ⟨by rw [hno (by simp [keyC] at d1 d2 d3 d4 d5 d6 ⊢; omega)]; rfl, rfl⟩
                | false =>
                  simp only [go_sem, di, hn, hm, d1, d2, d3, d4, d5, d6]
                  repeat refine And.intro (by first | omega | rfl) ?_
                  rw [show (i : Int) + 1 = ((i + 1 : Nat) : Int) by omega]
                  refine ainv (hgo (by simp [keyC] at d1 d2 d3 d4 d5 d6 ⊢; omega)) (Shift.weak ?_)
                  simp only [wk, go_sem]
            | false =>
              simp only [go_sem, di, hn, hm, d1, d2, d3, d4]
              repeat refine And.intro (by first | omega | rfl) ?_
              rw [show (i : Int) + 1 = ((i + 1 : Nat) : Int) by omega]
              refine ainv (hgo (by simp [keyC] at d1 d2 d3 d4 ⊢; omega)) (Shift.weak ?_)
              simp only [wk, go_sem]
      | false =>
        cases d3 : (i : Int) == 0 with
        | true =>
          simp only [go_sem, di, hn, hm, d1, d3]
          repeat refine And.intro (by first | omega | rfl) ?_
          exact aret [2] rfl ⟨by rw [hno (by simp [keyC] at d1 d3 ⊢; omega)]; rfl, rfl⟩
        | false =>
          cases d4 : (m : Int) != 45 with
          | true =>
            cases d5 : decide ((m : Int) < 48) with
            | true =>
              simp only [go_sem, di, hn, hm, d1, d3, d4, d5]
              repeat refine And.intro (by first | omega | rfl) ?_
              exact aret [2] rfl ⟨by rw [hno (by simp [keyC] at d1 d3 d4 d5 ⊢; omega)]; rfl, rfl⟩
            | false =>
              cases d6 : decide ((m : Int) > 57) with
              | true =>
                simp only [go_sem, di, hn, hm, d1, d3, d4, d5, d6]
                repeat refine And.intro (by first | omega | rfl) ?_
                exact aret [2] rfl ⟨by rw [hno (by simp [keyC] at d1 d3 d4 d5 d6 ⊢; omega)]; rfl, rfl⟩
              | false =>
                simp only [go_sem, di, hn, hm, d1, d3, d4, d5, d6]
                repeat refine And.intro (by first | omega | rfl) ?_
                rw [show (i : Int) + 1 = ((i + 1 : Nat) : Int) by omega]
                refine ainv (hgo (by simp [keyC] at d1 d3 d4 d5 d6 ⊢; omega)) (Shift.weak ?_)
                simp only [wk, go_sem]
          | false =>
            simp only [go_sem, di, hn, hm, d1, d3, d4]
            repeat refine And.intro (by first | omega | rfl) ?_
            rw [show (i : Int) + 1 = ((i + 1 : Nat) : Int) by omega]
            refine ainv (hgo (by simp [keyC] at d1 d3 d4 ⊢; omega)) (Shift.weak ?_)
            simp only [wk, go_sem]
    · have di : decide ((i : Int) < (s.length : Int)) = false := by simp; omega
      have hk := keyL_true (s := s) fun j hj => g2 j (by omega)
      refine goB (N := 53) Tryz.ntmps83 300 ?_
      cases e1 : decide ((s.length : Int) ≥ 1) with
      | true =>
        cases e2 : decide ((s.length : Int) ≤ 20) with
        | true =>
          simp only [go_sem, di, e1, e2]
          exact aret [2] rfl ⟨by rw [hk]; simp [resV, Av.get, Av.put] at e1 e2 ⊢; omega, rfl⟩
        | false =>
          simp only [go_sem, di, e1, e2]
          exact aret [2] rfl ⟨by rw [hk]; simp [resV, Av.get, Av.put] at e1 e2 ⊢; omega, rfl⟩
      | false =>
        simp only [go_sem, di, e1]
        exact aret [2] rfl ⟨by rw [hk]; simp [resV, Av.get, Av.put] at e1 ⊢; omega, rfl⟩
theorem isKey_pc (s : List UInt8) (hl : s.length < 1000000) : Pc Tryz.prog 31 [.str s] (· = .bool (keyL s)) := by
  refine pc_intro (ct_intro Tryz.func31 rfl Tryz.ntmps31 hB31 (by simp) fun h ρ w => goB (N := 5) Tryz.ntmps31 300 ?_)
  simp only [go_sem]
  refine pcall1 (iskey_pc s hl) rfl (N := 5) Tryz.ntmps31 rfl (goB (N := 5) Tryz.ntmps31 300 ?_)
  simp only [go_sem]
  exact aret [2] rfl ⟨rfl, rfl⟩
end Go.Proofs.YtkomcdohejibmaaGreatDoor
/- What a deed says is right. Own work of this seat. -/
set_option maxRecDepth 100000
set_option linter.unusedSimpArgs false
set_option linter.unusedVariables false
namespace Go.Proofs.YtkomcdohejibmaaGreatDoor
open Go Go.Av Go.RowKit

def txC (m : Nat) : Bool := m == 10 || (decide (32 ≤ m) && decide (m ≤ 126))
def isTextL (s : List UInt8) : Bool := (List.range s.length).all (fun i => txC (s.getD i 0).toNat) && Lib.hasSuffix s [10]
theorem isTextL_false {s : List UInt8} {i : Nat} (hi : i < s.length) (h : txC (s.getD i 0).toNat = false) : isTextL s = false := by
  unfold isTextL
  have : (List.range s.length).all (fun i => txC (s.getD i 0).toNat) = false := by
    rw [List.all_eq_false]
    exact ⟨i, List.mem_range.2 hi, by simp only [h]; simp⟩
  rw [this, Bool.false_and]
theorem isTextL_true {s : List UInt8} (h : ∀ i < s.length, txC (s.getD i 0).toNat = true) : isTextL s = Lib.hasSuffix s [10] := by
  unfold isTextL
  have : (List.range s.length).all (fun i => txC (s.getD i 0).toNat) = true := by
    rw [List.all_eq_true]
    exact fun i hi => h i (List.mem_range.1 hi)
  rw [this, Bool.true_and]

theorem isText_pc (s : List UInt8) (hl : s.length < 1000000) : Pc Tryz.prog 84 [.str s] (· = .bool (isTextL s)) := by
  refine pc_intro (ct_intro Tryz.func84 rfl Tryz.ntmps84 hB84 (by simp) fun h ρ w => goB (N := 28) Tryz.ntmps84 300 ?_)
  simp only [go_sem]
  refine aloop (ι := Nat) (fun i => s.length - i) (fun i => [(6, .int .i64 i), (5, .int .i64 s.length), (0, .str s)]) (fun _ => []) (fun i => i ≤ s.length ∧ ∀ j < i, txC (s.getD j 0).toNat = true) 0 ⟨by simp, fun j h => absurd h (by omega)⟩ ?_ ?_
  · refine Shift.weak ?_
    simp only [wk, go_sem]
  · rintro i ⟨g1, g2⟩ J hJ
    by_cases gi : i < s.length
    · have di : decide ((i : Int) < (s.length : Int)) = true := by simp; omega
      have hn : (i : Int).toNat = i := by simp
      have hgo : txC (s.getD i 0).toNat = true → ∀ a w, Sim _ _ _ a w → J a w := fun hc => hJ (i + 1) ⟨by omega, fun j hj => by
        rcases Nat.lt_or_ge j i with h2 | h2
        · exact g2 j h2
        · have : j = i := by omega
          subst this; exact hc⟩ (by omega)
      have hno : txC (s.getD i 0).toNat = false → isTextL s = false := fun hc => isTextL_false gi hc
      obtain ⟨m, hm⟩ : ∃ m, (s.getD i 0).toNat = m := ⟨_, rfl⟩
      rw [hm] at hgo hno
      refine goB (N := 28) Tryz.ntmps84 300 ?_
      cases d1 : (m : Int) != 10 with
      | false =>
        simp only [go_sem, di, hn, hm, d1]
        repeat refine And.intro (by first | omega | rfl) ?_
        rw [show (i : Int) + 1 = ((i + 1 : Nat) : Int) by omega]
        refine ainv (hgo (by simp [txC] at d1 ⊢; omega)) (Shift.weak ?_)
        simp only [wk, go_sem]
      | true =>
        cases d2 : decide ((m : Int) < 32) with
        | true =>
          simp only [go_sem, di, hn, hm, d1, d2]
          repeat refine And.intro (by first | omega | rfl) ?_
          exact aret [2] rfl ⟨by rw [hno (by simp [txC] at d1 d2 ⊢; omega)]; rfl, rfl⟩
        | false =>
          cases d3 : decide ((m : Int) > 126) with
          | true =>
            simp only [go_sem, di, hn, hm, d1, d2, d3]
            repeat refine And.intro (by first | omega | rfl) ?_
            exact aret [2] rfl ⟨by rw [hno (by simp [txC] at d1 d2 d3 ⊢; omega)]; rfl, rfl⟩
          | false =>
            simp only [go_sem, di, hn, hm, d1, d2, d3]
            repeat refine And.intro (by first | omega | rfl) ?_
            rw [show (i : Int) + 1 = ((i + 1 : Nat) : Int) by omega]
            refine ainv (hgo (by simp [txC] at d1 d2 d3 ⊢; omega)) (Shift.weak ?_)
            simp only [wk, go_sem]
    · have di : decide ((i : Int) < (s.length : Int)) = false := by simp; omega
      have hk := isTextL_true (s := s) fun j hj => g2 j (by omega)
      refine goB (N := 28) Tryz.ntmps84 300 ?_
      simp only [go_sem, di]
      refine pcall1 (shasSuffix_pc s [10] (by omega)) rfl (N := 28) Tryz.ntmps84 rfl (goB (N := 28) Tryz.ntmps84 300 ?_)
      simp only [go_sem]
      exact aret [2] rfl ⟨by rw [hk]; rfl, rfl⟩

/-- the error of what a deed says -/
def persB (k : Int) : Bool := k == 3 || k == 4
def bodyL (kind : Int) (paper text person : List UInt8) : Int :=
  if kind < 1 ∨ kind > 5 then 4
  else if keyL paper = false then 5
  else if text.length > 20000 then 2
  else if text ≠ [] ∧ (kind ≠ 1 ∨ isTextL text = false) then 3
  else if persB kind = true ∧ keyL person = false then 5
  else if persB kind = false ∧ person ≠ [] then 3
  else 0
set_option maxHeartbeats 4000000 in
theorem bodyFault_pc (d : De) (h1 : d.paper.length < 1000000) (h2 : d.text.length < 1000000) (h3 : d.person.length < 1000000) : Pc Tryz.prog 32 [deA d] (· = .int .i64 (bodyL d.kind d.paper d.text d.person)) := by
  obtain ⟨st, seen, kind, paper, text, person⟩ := d
  simp only at h1 h2 h3
  simp only [deA]
  have kp := isKey_pc paper h1
  have kq := isKey_pc person h3
  have kt := isText_pc text h2
  refine pc_intro (ct_intro Tryz.func32 rfl Tryz.ntmps32 hB32 (by simp) fun h ρ w => goB (N := 62) Tryz.ntmps32 300 ?_)
  by_cases k1 : kind < 1
  · have d1 : decide (kind < 1) = true := by simpa using k1
    have d3 : (kind == 3) = false := by simp; omega
    have d4 : (kind == 4) = false := by simp; omega
    simp only [go_sem, d1, d3, d4]
    exact aret [2] rfl ⟨by simp [bodyL, k1]; rfl, rfl⟩
  by_cases k2 : kind > 5
  · have d1 : decide (kind < 1) = false := by simp; omega
    have d2 : decide (kind > 5) = true := by simpa using k2
    have d3 : (kind == 3) = false := by simp; omega
    have d4 : (kind == 4) = false := by simp; omega
    simp only [go_sem, d1, d2, d3, d4]
    exact aret [2] rfl ⟨by simp [bodyL, k2]; rfl, rfl⟩
  have d1 : decide (kind < 1) = false := by simpa using k1
  have d2 : decide (kind > 5) = false := by simpa using k2
  have ko : ¬ (kind < 1 ∨ kind > 5) := by omega
  have hk : kind = 1 ∨ kind = 2 ∨ kind = 3 ∨ kind = 4 ∨ kind = 5 := by omega
  rcases hk with rfl | rfl | rfl | rfl | rfl
  · simp only [go_sem]
    refine pcall1 (kp) rfl (N := 62) Tryz.ntmps32 rfl (goB (N := 62) Tryz.ntmps32 300 ?_)
    cases hp : keyL paper with
    | false =>
      simp only [go_sem]
      exact aret [2] rfl ⟨by show AV.int _ _ = AV.int _ _; exact congrArg _ (Eq.symm (by simp [bodyL, hp])), rfl⟩
    | true =>
      cases d5 : decide ((text.length : Int) > 20000) with
      | true =>
        simp only [go_sem, d5]
        exact aret [2] rfl ⟨by have e5 : text.length > 20000 := (by simp at d5; omega); show AV.int _ _ = AV.int _ _; exact congrArg _ (Eq.symm (by simp [bodyL, hp, e5])), rfl⟩
      | false =>
        have e5 : ¬ text.length > 20000 := by simp at d5; omega
        cases d6 : text != [] with
        | true =>
          have e6 : text ≠ [] := by simpa using d6
          simp only [go_sem, d5, d6]
          refine pcall1 (kt) rfl (N := 62) Tryz.ntmps32 rfl (goB (N := 62) Tryz.ntmps32 300 ?_)
          cases ht : isTextL text with
          | false =>
            simp only [go_sem]
            exact aret [2] rfl ⟨by show AV.int _ _ = AV.int _ _; exact congrArg _ (Eq.symm (by simp [bodyL, hp, e5, e6, ht])), rfl⟩
          | true =>
            cases d7 : person != [] with
            | true =>
              simp only [go_sem, d7]
              exact aret [2] rfl ⟨by have e7 : person ≠ [] := (by simpa using d7); show AV.int _ _ = AV.int _ _; exact congrArg _ (Eq.symm (by simp [bodyL, hp, e5, e6, ht, e7, persB])), rfl⟩
            | false =>
              simp only [go_sem, d7]
              exact aret [2] rfl ⟨by have e7 : person = [] := (by simpa using d7); show AV.int _ _ = AV.int _ _; exact congrArg _ (Eq.symm (by simp [bodyL, hp, e5, e6, ht, e7, persB])), rfl⟩
        | false =>
          have e6 : text = [] := by simpa using d6
          cases d7 : person != [] with
          | true =>
            simp only [go_sem, d5, d6, d7]
            exact aret [2] rfl ⟨by have e7 : person ≠ [] := (by simpa using d7); show AV.int _ _ = AV.int _ _; exact congrArg _ (Eq.symm (by simp [bodyL, hp, e5, e6, e7, persB])), rfl⟩
          | false =>
            simp only [go_sem, d5, d6, d7]
            exact aret [2] rfl ⟨by have e7 : person = [] := (by simpa using d7); show AV.int _ _ = AV.int _ _; exact congrArg _ (Eq.symm (by simp [bodyL, hp, e5, e6, e7, persB])), rfl⟩
  · simp only [go_sem]
    refine pcall1 (kp) rfl (N := 62) Tryz.ntmps32 rfl (goB (N := 62) Tryz.ntmps32 300 ?_)
    cases hp : keyL paper with
    | false =>
      simp only [go_sem]
      exact aret [2] rfl ⟨by show AV.int _ _ = AV.int _ _; exact congrArg _ (Eq.symm (by simp [bodyL, hp])), rfl⟩
    | true =>
      cases d5 : decide ((text.length : Int) > 20000) with
      | true =>
        simp only [go_sem, d5]
        exact aret [2] rfl ⟨by have e5 : text.length > 20000 := (by simp at d5; omega); show AV.int _ _ = AV.int _ _; exact congrArg _ (Eq.symm (by simp [bodyL, hp, e5])), rfl⟩
      | false =>
        have e5 : ¬ text.length > 20000 := by simp at d5; omega
        cases d6 : text != [] with
        | true =>
          have e6 : text ≠ [] := by simpa using d6
          simp only [go_sem, d5, d6]
          exact aret [2] rfl ⟨by show AV.int _ _ = AV.int _ _; exact congrArg _ (Eq.symm (by simp [bodyL, hp, e5, e6])), rfl⟩
        | false =>
          have e6 : text = [] := by simpa using d6
          cases d7 : person != [] with
          | true =>
            simp only [go_sem, d5, d6, d7]
            exact aret [2] rfl ⟨by have e7 : person ≠ [] := (by simpa using d7); show AV.int _ _ = AV.int _ _; exact congrArg _ (Eq.symm (by simp [bodyL, hp, e5, e6, e7, persB])), rfl⟩
          | false =>
            simp only [go_sem, d5, d6, d7]
            exact aret [2] rfl ⟨by have e7 : person = [] := (by simpa using d7); show AV.int _ _ = AV.int _ _; exact congrArg _ (Eq.symm (by simp [bodyL, hp, e5, e6, e7, persB])), rfl⟩
  · simp only [go_sem]
    refine pcall1 (kp) rfl (N := 62) Tryz.ntmps32 rfl (goB (N := 62) Tryz.ntmps32 300 ?_)
    cases hp : keyL paper with
    | false =>
      simp only [go_sem]
      exact aret [2] rfl ⟨by show AV.int _ _ = AV.int _ _; exact congrArg _ (Eq.symm (by simp [bodyL, hp])), rfl⟩
    | true =>
      cases d5 : decide ((text.length : Int) > 20000) with
      | true =>
        simp only [go_sem, d5]
        exact aret [2] rfl ⟨by have e5 : text.length > 20000 := (by simp at d5; omega); show AV.int _ _ = AV.int _ _; exact congrArg _ (Eq.symm (by simp [bodyL, hp, e5])), rfl⟩
      | false =>
        have e5 : ¬ text.length > 20000 := by simp at d5; omega
        cases d6 : text != [] with
        | true =>
          have e6 : text ≠ [] := by simpa using d6
          simp only [go_sem, d5, d6]
          exact aret [2] rfl ⟨by show AV.int _ _ = AV.int _ _; exact congrArg _ (Eq.symm (by simp [bodyL, hp, e5, e6])), rfl⟩
        | false =>
          have e6 : text = [] := by simpa using d6
          simp only [go_sem, d5, d6]
          refine pcall1 (kq) rfl (N := 62) Tryz.ntmps32 rfl (goB (N := 62) Tryz.ntmps32 300 ?_)
          cases hq : keyL person with
          | false =>
            simp only [go_sem]
            exact aret [2] rfl ⟨by show AV.int _ _ = AV.int _ _; exact congrArg _ (Eq.symm (by simp [bodyL, hp, e5, e6, hq, persB])), rfl⟩
          | true =>
            simp only [go_sem]
            exact aret [2] rfl ⟨by show AV.int _ _ = AV.int _ _; exact congrArg _ (Eq.symm (by simp [bodyL, hp, e5, e6, hq, persB])), rfl⟩
  · simp only [go_sem]
    refine pcall1 (kp) rfl (N := 62) Tryz.ntmps32 rfl (goB (N := 62) Tryz.ntmps32 300 ?_)
    cases hp : keyL paper with
    | false =>
      simp only [go_sem]
      exact aret [2] rfl ⟨by show AV.int _ _ = AV.int _ _; exact congrArg _ (Eq.symm (by simp [bodyL, hp])), rfl⟩
    | true =>
      cases d5 : decide ((text.length : Int) > 20000) with
      | true =>
        simp only [go_sem, d5]
        exact aret [2] rfl ⟨by have e5 : text.length > 20000 := (by simp at d5; omega); show AV.int _ _ = AV.int _ _; exact congrArg _ (Eq.symm (by simp [bodyL, hp, e5])), rfl⟩
      | false =>
        have e5 : ¬ text.length > 20000 := by simp at d5; omega
        cases d6 : text != [] with
        | true =>
          have e6 : text ≠ [] := by simpa using d6
          simp only [go_sem, d5, d6]
          exact aret [2] rfl ⟨by show AV.int _ _ = AV.int _ _; exact congrArg _ (Eq.symm (by simp [bodyL, hp, e5, e6])), rfl⟩
        | false =>
          have e6 : text = [] := by simpa using d6
          simp only [go_sem, d5, d6]
          refine pcall1 (kq) rfl (N := 62) Tryz.ntmps32 rfl (goB (N := 62) Tryz.ntmps32 300 ?_)
          cases hq : keyL person with
          | false =>
            simp only [go_sem]
            exact aret [2] rfl ⟨by show AV.int _ _ = AV.int _ _; exact congrArg _ (Eq.symm (by simp [bodyL, hp, e5, e6, hq, persB])), rfl⟩
          | true =>
            simp only [go_sem]
            exact aret [2] rfl ⟨by show AV.int _ _ = AV.int _ _; exact congrArg _ (Eq.symm (by simp [bodyL, hp, e5, e6, hq, persB])), rfl⟩
  · simp only [go_sem]
    refine pcall1 (kp) rfl (N := 62) Tryz.ntmps32 rfl (goB (N := 62) Tryz.ntmps32 300 ?_)
    cases hp : keyL paper with
    | false =>
      simp only [go_sem]
      exact aret [2] rfl ⟨by show AV.int _ _ = AV.int _ _; exact congrArg _ (Eq.symm (by simp [bodyL, hp])), rfl⟩
    | true =>
      cases d5 : decide ((text.length : Int) > 20000) with
      | true =>
        simp only [go_sem, d5]
        exact aret [2] rfl ⟨by have e5 : text.length > 20000 := (by simp at d5; omega); show AV.int _ _ = AV.int _ _; exact congrArg _ (Eq.symm (by simp [bodyL, hp, e5])), rfl⟩
      | false =>
        have e5 : ¬ text.length > 20000 := by simp at d5; omega
        cases d6 : text != [] with
        | true =>
          have e6 : text ≠ [] := by simpa using d6
          simp only [go_sem, d5, d6]
          exact aret [2] rfl ⟨by show AV.int _ _ = AV.int _ _; exact congrArg _ (Eq.symm (by simp [bodyL, hp, e5, e6])), rfl⟩
        | false =>
          have e6 : text = [] := by simpa using d6
          cases d7 : person != [] with
          | true =>
            simp only [go_sem, d5, d6, d7]
            exact aret [2] rfl ⟨by have e7 : person ≠ [] := (by simpa using d7); show AV.int _ _ = AV.int _ _; exact congrArg _ (Eq.symm (by simp [bodyL, hp, e5, e6, e7, persB])), rfl⟩
          | false =>
            simp only [go_sem, d5, d6, d7]
            exact aret [2] rfl ⟨by have e7 : person = [] := (by simpa using d7); show AV.int _ _ = AV.int _ _; exact congrArg _ (Eq.symm (by simp [bodyL, hp, e5, e6, e7, persB])), rfl⟩
end Go.Proofs.YtkomcdohejibmaaGreatDoor
/- The library contracts laid at this seat, in the plain words that a tool of the kit has written. -/
namespace Go.Proofs
open Go.Shelf
def Tryz.lays160_ren : Go.Shelf.Ren := ⟨fun | 160 => 185 | 232 => 211 | 231 => 210 | 227 => 212 | 234 => 214 | 233 => 213 | 236 => 216 | 235 => 215 | 228 => 230 | 271 => 232 | 151 => 231 | 197 => 217 | 120 => 240 | 152 => 239 | 260 => 233 | 137 => 243 | 119 => 244 | 224 => 237 | 225 => 236 | 217 => 235 | 266 => 241 | n => n, fun | 9 => 9 | 4 => 4 | 3 => 3 | 5 => 5 | 117 => 209 | 116 => 208 | 0 => 0 | 124 => 212 | 21 => 21 | 105 => 213 | 46 => 123 | 119 => 229 | 139 => 232 | 138 => 231 | n => n, fun | 3 => 1 | 4 => 2 | n => n⟩
theorem Tryz.lays160 : Go.Proofs.Lays.n160 Tryz.prog Tryz.lays160_ren := {
  mixed := by kernel_rfl
  f119 := Tryz.func244.trans (congrArg some (by kernel_rfl))
  f120 := Tryz.func240.trans (congrArg some (by kernel_rfl))
  f137 := Tryz.func243.trans (congrArg some (by kernel_rfl))
  f151 := Tryz.func231.trans (congrArg some (by kernel_rfl))
  f152 := Tryz.func239.trans (congrArg some (by kernel_rfl))
  f160 := Tryz.func185.trans (congrArg some (by kernel_rfl))
  f197 := Tryz.func217.trans (congrArg some (by kernel_rfl))
  f217 := Tryz.func235.trans (congrArg some (by kernel_rfl))
  f224 := Tryz.func237.trans (congrArg some (by kernel_rfl))
  f225 := Tryz.func236.trans (congrArg some (by kernel_rfl))
  f227 := Tryz.func212.trans (congrArg some (by kernel_rfl))
  f228 := Tryz.func230.trans (congrArg some (by kernel_rfl))
  f231 := Tryz.func210.trans (congrArg some (by kernel_rfl))
  f232 := Tryz.func211.trans (congrArg some (by kernel_rfl))
  f233 := Tryz.func213.trans (congrArg some (by kernel_rfl))
  f234 := Tryz.func214.trans (congrArg some (by kernel_rfl))
  f235 := Tryz.func215.trans (congrArg some (by kernel_rfl))
  f236 := Tryz.func216.trans (congrArg some (by kernel_rfl))
  f260 := Tryz.func233.trans (congrArg some (by kernel_rfl))
  f266 := Tryz.func241.trans (congrArg some (by kernel_rfl))
  f271 := Tryz.func232.trans (congrArg some (by kernel_rfl))
  t0 := Tryz.underlying0
  a0 := Tryz.isAgg0
  z0 := Tryz.sizeOf0
  v0 := Tryz.zeroValue0
  t3 := Tryz.underlying3
  a3 := Tryz.isAgg3
  z3 := Tryz.sizeOf3
  v3 := Tryz.zeroValue3
  t4 := Tryz.underlying4
  a4 := Tryz.isAgg4
  z4 := Tryz.sizeOf4
  v4 := Tryz.zeroValue4
  t5 := Tryz.underlying5
  a5 := Tryz.isAgg5
  z5 := Tryz.sizeOf5
  v5 := Tryz.zeroValue5
  t9 := Tryz.underlying9
  a9 := Tryz.isAgg9
  z9 := Tryz.sizeOf9
  v9 := Tryz.zeroValue9
  t21 := Tryz.underlying21
  a21 := Tryz.isAgg21
  z21 := Tryz.sizeOf21
  v21 := Tryz.zeroValue21
  t46 := Tryz.underlying123
  a46 := Tryz.isAgg123
  z46 := Tryz.sizeOf123
  v46 := Tryz.zeroValue123
  t105 := Tryz.underlying213
  a105 := Tryz.isAgg213
  z105 := Tryz.sizeOf213
  v105 := Tryz.zeroValue213
  t116 := Tryz.underlying208
  a116 := Tryz.isAgg208
  z116 := Tryz.sizeOf208
  t117 := Tryz.underlying209
  a117 := Tryz.isAgg209
  z117 := Tryz.sizeOf209
  v117 := Tryz.zeroValue209
  t119 := Tryz.underlying229
  a119 := Tryz.isAgg229
  z119 := Tryz.sizeOf229
  t124 := Tryz.underlying212
  a124 := Tryz.isAgg212
  z124 := Tryz.sizeOf212
  v124 := Tryz.zeroValue212
  t138 := Tryz.underlying231
  a138 := Tryz.isAgg231
  z138 := Tryz.sizeOf231
  v138 := Tryz.zeroValue231
  t139 := Tryz.underlying232
  a139 := Tryz.isAgg232
  z139 := Tryz.sizeOf232
  v139 := Tryz.zeroValue232
  g3 := by kernel_rfl
  g4 := by kernel_rfl }
end Go.Proofs
/- The library contracts laid at this seat, in the plain words that a tool of the kit has written. -/
namespace Go.Proofs
open Go.Shelf
def Tryz.lays155_ren : Go.Shelf.Ren := ⟨fun | 155 => 158 | 154 => 186 | 138 => 201 | 165 => 128 | 143 => 202 | 166 => 129 | 197 => 217 | 169 => 130 | 195 => 225 | 218 => 226 | 240 => 172 | 241 => 173 | 219 => 227 | 260 => 233 | 276 => 205 | 277 => 206 | 217 => 235 | 225 => 236 | 224 => 237 | 267 => 238 | 266 => 241 | 314 => 242 | n => n, fun | 9 => 9 | 3 => 3 | 4 => 4 | 72 => 146 | 0 => 0 | 76 => 150 | 105 => 213 | 21 => 21 | 5 => 5 | 70 => 143 | 20 => 20 | 37 => 144 | 75 => 149 | 127 => 180 | 164 => 200 | 46 => 123 | 119 => 229 | 139 => 232 | 138 => 231 | 146 => 215 | 51 => 166 | 80 => 130 | n => n, fun | 1 => 0 | 3 => 1 | 4 => 2 | n => n⟩
theorem Tryz.lays155 : Go.Proofs.Lays.n155 Tryz.prog Tryz.lays155_ren := {
  mixed := by kernel_rfl
  f138 := Tryz.func201.trans (congrArg some (by kernel_rfl))
  f143 := Tryz.func202.trans (congrArg some (by kernel_rfl))
  f154 := Tryz.func186.trans (congrArg some (by kernel_rfl))
  f155 := Tryz.func158.trans (congrArg some (by kernel_rfl))
  f165 := Tryz.func128.trans (congrArg some (by kernel_rfl))
  f166 := Tryz.func129.trans (congrArg some (by kernel_rfl))
  f169 := Tryz.func130.trans (congrArg some (by kernel_rfl))
  f195 := Tryz.func225.trans (congrArg some (by kernel_rfl))
  f197 := Tryz.func217.trans (congrArg some (by kernel_rfl))
  f217 := Tryz.func235.trans (congrArg some (by kernel_rfl))
  f218 := Tryz.func226.trans (congrArg some (by kernel_rfl))
  f219 := Tryz.func227.trans (congrArg some (by kernel_rfl))
  f224 := Tryz.func237.trans (congrArg some (by kernel_rfl))
  f225 := Tryz.func236.trans (congrArg some (by kernel_rfl))
  f240 := Tryz.func172.trans (congrArg some (by kernel_rfl))
  f241 := Tryz.func173.trans (congrArg some (by kernel_rfl))
  f260 := Tryz.func233.trans (congrArg some (by kernel_rfl))
  f266 := Tryz.func241.trans (congrArg some (by kernel_rfl))
  f267 := Tryz.func238.trans (congrArg some (by kernel_rfl))
  f276 := Tryz.func205.trans (congrArg some (by kernel_rfl))
  f277 := Tryz.func206.trans (congrArg some (by kernel_rfl))
  f314 := Tryz.func242.trans (congrArg some (by kernel_rfl))
  t0 := Tryz.underlying0
  a0 := Tryz.isAgg0
  z0 := Tryz.sizeOf0
  v0 := Tryz.zeroValue0
  t3 := Tryz.underlying3
  a3 := Tryz.isAgg3
  z3 := Tryz.sizeOf3
  v3 := Tryz.zeroValue3
  t4 := Tryz.underlying4
  a4 := Tryz.isAgg4
  z4 := Tryz.sizeOf4
  v4 := Tryz.zeroValue4
  t5 := Tryz.underlying5
  a5 := Tryz.isAgg5
  z5 := Tryz.sizeOf5
  v5 := Tryz.zeroValue5
  t9 := Tryz.underlying9
  a9 := Tryz.isAgg9
  z9 := Tryz.sizeOf9
  v9 := Tryz.zeroValue9
  t20 := Tryz.underlying20
  a20 := Tryz.isAgg20
  z20 := Tryz.sizeOf20
  v20 := Tryz.zeroValue20
  t21 := Tryz.underlying21
  a21 := Tryz.isAgg21
  z21 := Tryz.sizeOf21
  v21 := Tryz.zeroValue21
  t37 := Tryz.underlying144
  a37 := Tryz.isAgg144
  z37 := Tryz.sizeOf144
  v37 := Tryz.zeroValue144
  t46 := Tryz.underlying123
  a46 := Tryz.isAgg123
  z46 := Tryz.sizeOf123
  v46 := Tryz.zeroValue123
  t51 := Tryz.underlying166
  a51 := Tryz.isAgg166
  z51 := Tryz.sizeOf166
  v51 := Tryz.zeroValue166
  t70 := Tryz.underlying143
  a70 := Tryz.isAgg143
  z70 := Tryz.sizeOf143
  v70 := Tryz.zeroValue143
  t72 := Tryz.underlying146
  a72 := Tryz.isAgg146
  z72 := Tryz.sizeOf146
  v72 := Tryz.zeroValue146
  t75 := Tryz.underlying149
  a75 := Tryz.isAgg149
  z75 := Tryz.sizeOf149
  v75 := Tryz.zeroValue149
  t76 := Tryz.underlying150
  a76 := Tryz.isAgg150
  z76 := Tryz.sizeOf150
  v76 := Tryz.zeroValue150
  t105 := Tryz.underlying213
  a105 := Tryz.isAgg213
  z105 := Tryz.sizeOf213
  v105 := Tryz.zeroValue213
  t119 := Tryz.underlying229
  a119 := Tryz.isAgg229
  z119 := Tryz.sizeOf229
  t127 := Tryz.underlying180
  a127 := Tryz.isAgg180
  z127 := Tryz.sizeOf180
  v127 := Tryz.zeroValue180
  t138 := Tryz.underlying231
  a138 := Tryz.isAgg231
  z138 := Tryz.sizeOf231
  v138 := Tryz.zeroValue231
  t139 := Tryz.underlying232
  a139 := Tryz.isAgg232
  z139 := Tryz.sizeOf232
  v139 := Tryz.zeroValue232
  t146 := Tryz.underlying215
  a146 := Tryz.isAgg215
  z146 := Tryz.sizeOf215
  v146 := Tryz.zeroValue215
  t164 := Tryz.underlying200
  a164 := Tryz.isAgg200
  z164 := Tryz.sizeOf200
  v164 := Tryz.zeroValue200
  g1 := by kernel_rfl
  g3 := by kernel_rfl
  g4 := by kernel_rfl }
end Go.Proofs
