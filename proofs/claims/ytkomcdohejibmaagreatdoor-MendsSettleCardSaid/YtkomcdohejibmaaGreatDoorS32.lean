/- symMerge at deeds: only that what is there is put in another order. Own work of this seat. -/
import Derived.Test.YtkomcdohejibmaaGreatDoorS31
import Derived.Test.YtkomcdohejibmaaGreatDoorS21
import Derived.Test.YtkomcdohejibmaaGreatDoorS23
set_option maxRecDepth 100000
set_option linter.unusedSimpArgs false
set_option linter.unusedVariables false
namespace Go.Proofs.YtkomcdohejibmaaGreatDoor
open Go Go.Av Go.RowKit

theorem wrap64 {n : Int} (h0 : 0 ≤ n) (h1 : n < 9223372036854775808) : IntKind.u64.wrap n = n := by
  simp [IntKind.wrap, IntKind.bits, IntKind.signed]; omega
set_option maxHeartbeats 8000000 in
theorem symMerge_one (l : List De) (a b : Nat) (h2 : a + 1 < b) (h3 : b ≤ l.length) (hl : l.length < 1000000) :
    Ct Tryz.prog 176 [.sl 0 0 l.length l.length, .int .i64 a, .int .i64 ((a + 1 : Nat) : Int), .int .i64 b, .fn (.func 77) []] [.arr 7 (l.map deA)] (SortR l) := by
  have d0 : (((a + 1 : Nat) : Int) - (a : Int) == 1) = true := by simp; omega
  refine ct_intro Tryz.func176 rfl Tryz.ntmps176 hB176 (by simp) fun h ρ w => goB (N := 220) Tryz.ntmps176 300 ?_
  simp only [go_sem, d0]
  repeat refine And.intro (by omega) ?_
  refine aloop (ι := Nat × Nat) (fun y => y.2 - y.1) (fun y => [(11, .int .i64 y.2), (10, .int .i64 y.1), (4, .fn (.func 77) []), (1, .int .i64 a), (0, .sl 0 0 l.length l.length)]) (fun y => [.arr 7 (l.map deA)])
    (fun y => a + 1 ≤ y.1 ∧ y.1 ≤ y.2 ∧ y.2 ≤ b) (a + 1, b) ⟨by simp, by simp only; omega, by simp⟩ ?_ ?_
  · refine Shift.weakS ?_ rfl
    simp only [wk, go_sem]
  · rintro ⟨i, j⟩ ⟨g1, g2, g3⟩ J hJ
    simp only at g1 g2 g3 hJ ⊢
    by_cases hij : i < j
    · have di : decide ((i : Int) < (j : Int)) = true := by simp; omega
      obtain ⟨c, hc⟩ : ∃ c, c = (i + j) / 2 := ⟨_, rfl⟩
      have e1 : ((i : Int) + (j : Int)) / 2 = (c : Int) := by omega
      have e2 : ((c : Int)).toNat = c := by omega
      have e3 : ((a : Int)).toNat = a := by omega
      have p1 := deA_get l c (by omega)
      have p2 := deA_get l a (by omega)
      have hc2 := joinFn_pc (l[c]'(by omega)) (l[a]'(by omega))
      simp only [deA] at hc2
      refine goB (N := 220) Tryz.ntmps176 300 ?_
      simp only [go_sem, di, e1]
      repeat refine And.intro (by first | omega | rfl | exact wrap64 (by omega) (by omega) | (simp; done) | (simp [inr]; omega)) ?_
      refine adraw [.int .i64 (stCmp (l[c]'(by omega)).st (l[a]'(by omega)).st)] mixed (by decide) (N := 220) Tryz.ntmps176 (by decide) 100 ?_
      cases dc : decide (stCmp (l[c]'(by omega)).st (l[a]'(by omega)).st < 0) with
      | true =>
        have hfin := hJ (c + 1, j) ⟨by simp only; omega, by simp only; omega, g3⟩ (by simp only; omega)
        simp only [go_sem, e2, e3, p1, p2, dc, List.length_map]
        repeat refine And.intro (by first | exact hc2.at | omega | rfl | (simp; done) | (simp; omega)) ?_
        refine goB (N := 220) Tryz.ntmps176 300 ?_
        simp only [go_sem]
        repeat refine And.intro (by omega) ?_
        rw [show (c : Int) + 1 = ((c + 1 : Nat) : Int) by omega]
        refine ainv hfin (Shift.weakS ?_ rfl)
        simp only [wk, go_sem]
      | false =>
        have hfin := hJ (i, c) ⟨g1, by simp only; omega, by simp only; omega⟩ (by simp only; omega)
        simp only [go_sem, e2, e3, p1, p2, dc, List.length_map]
        repeat refine And.intro (by first | exact hc2.at | omega | rfl | (simp; done) | (simp; omega)) ?_
        refine goB (N := 220) Tryz.ntmps176 300 ?_
        simp only [go_sem]
        refine ainv hfin (Shift.weakS ?_ rfl)
        simp only [wk, go_sem]
    · have di : decide ((i : Int) < (j : Int)) = false := by simp; omega
      refine goB (N := 220) Tryz.ntmps176 300 ?_
      simp only [go_sem, di]
      clear hJ J
      refine aloop (ι := Nat × List De) (fun y => i - y.1) (fun y => [(13, .int .i64 y.1), (10, .int .i64 i), (0, .sl 0 0 l.length l.length)]) (fun y => [.arr 7 (y.2.map deA)])
        (fun y => y.2.Perm l) (a, l) (.refl _) ?_ ?_
      · refine Shift.weakS ?_ rfl
        simp only [wk, go_sem]
      · rintro ⟨k, q⟩ g5 J hJ
        simp only at g5 hJ ⊢
        have hq := g5.length_eq
        by_cases hk : k + 1 < i
        · have dk : decide ((k : Int) < (i : Int) - 1) = true := by simp; omega
          have e1 : ((k : Int) + 1).toNat = k + 1 := by omega
          have e2 : ((k : Int)).toNat = k := by omega
          have p1 := deA_get q (k + 1) (by omega)
          have p2 := deA_get q k (by omega)
          have p3 := deA_get (q.set k (q[k + 1]'(by omega))) (k + 1) (by simp; omega)
          have s1 := set_deA q k (q[k + 1]'(by omega))
          have s2 := set_deA (q.set k (q[k + 1]'(by omega))) (k + 1) (q[k]'(by omega))
          have hfin := hJ (k + 1, _) (swap_perm g5 (i := k) (j := k + 1) (by omega) (by omega)) (by simp only; omega)
          refine goB (N := 220) Tryz.ntmps176 300 ?_
          simp only [go_sem, dk]
          repeat refine And.intro (by omega) ?_
          refine adrawS [] mixed (by decide) (N := 220) Tryz.ntmps176 (by decide) 100 ?_
          simp only [go_sem, e1, e2, p1, p2, p3, s1, s2, List.length_map, List.length_set]
          repeat refine And.intro (by first | omega | rfl | (simp; done) | (simp; omega)) ?_
          refine goB (N := 220) Tryz.ntmps176 300 ?_
          simp only [go_sem]
          repeat refine And.intro (by first | omega | rfl | (simp; done) | (simp; omega)) ?_
          rw [show (k : Int) + 1 = ((k + 1 : Nat) : Int) by omega]
          refine ainv hfin (Shift.weakS ?_ rfl)
          simp only [wk, go_sem]
        · have dk : decide ((k : Int) < (i : Int) - 1) = false := by simp; omega
          refine goB (N := 220) Tryz.ntmps176 300 ?_
          simp only [go_sem, dk]
          repeat refine And.intro (by omega) ?_
          exact aret [] rfl ⟨rfl, q, rfl, g5⟩

set_option maxHeartbeats 8000000 in
theorem symMerge_last (l : List De) (a m : Nat) (h2 : a + 1 < m) (h3 : m + 1 ≤ l.length) (hl : l.length < 1000000) :
    Ct Tryz.prog 176 [.sl 0 0 l.length l.length, .int .i64 a, .int .i64 m, .int .i64 ((m + 1 : Nat) : Int), .fn (.func 77) []] [.arr 7 (l.map deA)] (SortR l) := by
  have d0 : ((m : Int) - (a : Int) == 1) = false := by simp; omega
  have d00 : (((m + 1 : Nat) : Int) - (m : Int) == 1) = true := by simp; omega
  refine ct_intro Tryz.func176 rfl Tryz.ntmps176 hB176 (by simp) fun h ρ w => goB (N := 220) Tryz.ntmps176 300 ?_
  simp only [go_sem, d0, d00]
  repeat refine And.intro (by omega) ?_
  refine aloop (ι := Nat × Nat) (fun y => y.2 - y.1) (fun y => [(15, .int .i64 y.2), (14, .int .i64 y.1), (4, .fn (.func 77) []), (2, .int .i64 m), (0, .sl 0 0 l.length l.length)]) (fun y => [.arr 7 (l.map deA)])
    (fun y => y.1 ≤ y.2 ∧ y.2 ≤ m) (a, m) ⟨by simp only; omega, by simp⟩ ?_ ?_
  · refine Shift.weakS ?_ rfl
    simp only [wk, go_sem]
  · rintro ⟨i, j⟩ ⟨g2, g3⟩ J hJ
    simp only at g2 g3 hJ ⊢
    by_cases hij : i < j
    · have di : decide ((i : Int) < (j : Int)) = true := by simp; omega
      obtain ⟨c, hc⟩ : ∃ c, c = (i + j) / 2 := ⟨_, rfl⟩
      have e1 : ((i : Int) + (j : Int)) / 2 = (c : Int) := by omega
      have e2 : ((c : Int)).toNat = c := by omega
      have e3 : ((m : Int)).toNat = m := by omega
      have p1 := deA_get l c (by omega)
      have p2 := deA_get l m (by omega)
      have hc2 := joinFn_pc (l[m]'(by omega)) (l[c]'(by omega))
      simp only [deA] at hc2
      refine goB (N := 220) Tryz.ntmps176 300 ?_
      simp only [go_sem, di, e1]
      repeat refine And.intro (by first | omega | rfl | exact wrap64 (by omega) (by omega) | (simp; done) | (simp [inr]; omega)) ?_
      refine adraw [.int .i64 (stCmp (l[m]'(by omega)).st (l[c]'(by omega)).st)] mixed (by decide) (N := 220) Tryz.ntmps176 (by decide) 100 ?_
      cases dc : decide (stCmp (l[m]'(by omega)).st (l[c]'(by omega)).st < 0) with
      | false =>
        have hfin := hJ (c + 1, j) ⟨by simp only; omega, g3⟩ (by simp only; omega)
        simp only [go_sem, e2, e3, p1, p2, dc, List.length_map]
        repeat refine And.intro (by first | exact hc2.at | omega | rfl | (simp; done) | (simp; omega)) ?_
        refine goB (N := 220) Tryz.ntmps176 300 ?_
        simp only [go_sem]
        repeat refine And.intro (by omega) ?_
        rw [show (c : Int) + 1 = ((c + 1 : Nat) : Int) by omega]
        refine ainv hfin (Shift.weakS ?_ rfl)
        simp only [wk, go_sem]
      | true =>
        have hfin := hJ (i, c) ⟨by simp only; omega, by simp only; omega⟩ (by simp only; omega)
        simp only [go_sem, e2, e3, p1, p2, dc, List.length_map]
        repeat refine And.intro (by first | exact hc2.at | omega | rfl | (simp; done) | (simp; omega)) ?_
        refine goB (N := 220) Tryz.ntmps176 300 ?_
        simp only [go_sem]
        refine ainv hfin (Shift.weakS ?_ rfl)
        simp only [wk, go_sem]
    · have di : decide ((i : Int) < (j : Int)) = false := by simp; omega
      refine goB (N := 220) Tryz.ntmps176 300 ?_
      simp only [go_sem, di]
      clear hJ J
      refine aloop (ι := Nat × List De) (fun y => y.1) (fun y => [(17, .int .i64 y.1), (14, .int .i64 i), (0, .sl 0 0 l.length l.length)]) (fun y => [.arr 7 (y.2.map deA)])
        (fun y => y.1 ≤ m ∧ y.2.Perm l) (m, l) ⟨by simp, .refl _⟩ ?_ ?_
      · refine Shift.weakS ?_ rfl
        simp only [wk, go_sem]
      · rintro ⟨k, q⟩ ⟨g6, g5⟩ J hJ
        simp only at g6 g5 hJ ⊢
        have hq := g5.length_eq
        by_cases hk : i < k
        · have dk : decide ((k : Int) > (i : Int)) = true := by simp; omega
          have e1 : ((k : Int) - 1).toNat = k - 1 := by omega
          have e2 : ((k : Int)).toNat = k := by omega
          have p1 := deA_get q (k - 1) (by omega)
          have p2 := deA_get q k (by omega)
          have p3 := deA_get (q.set k (q[k - 1]'(by omega))) (k - 1) (by simp; omega)
          have s1 := set_deA q k (q[k - 1]'(by omega))
          have s2 := set_deA (q.set k (q[k - 1]'(by omega))) (k - 1) (q[k]'(by omega))
          have hfin := hJ (k - 1, _) ⟨by simp only; omega, swap_perm g5 (i := k) (j := k - 1) (by omega) (by omega)⟩ (by simp only; omega)
          refine goB (N := 220) Tryz.ntmps176 300 ?_
          simp only [go_sem, dk]
          refine adrawS [] mixed (by decide) (N := 220) Tryz.ntmps176 (by decide) 100 ?_
          simp only [go_sem, e1, e2, p1, p2, p3, s1, s2, List.length_map, List.length_set]
          repeat refine And.intro (by first | omega | rfl | (simp; done) | (simp; omega)) ?_
          refine goB (N := 220) Tryz.ntmps176 300 ?_
          simp only [go_sem]
          repeat refine And.intro (by first | omega | rfl | (simp; done) | (simp; omega)) ?_
          rw [show (k : Int) - 1 = ((k - 1 : Nat) : Int) by omega]
          refine ainv hfin (Shift.weakS ?_ rfl)
          simp only [wk, go_sem]
        · have dk : decide ((k : Int) > (i : Int)) = false := by simp; omega
          refine goB (N := 220) Tryz.ntmps176 300 ?_
          simp only [go_sem, dk]
          exact aret [] rfl ⟨rfl, q, rfl, g5⟩
end Go.Proofs.YtkomcdohejibmaaGreatDoor
/- symMerge at deeds, whole; SortStableFunc. Own work of this seat. -/
set_option maxRecDepth 100000
set_option linter.unusedSimpArgs false
set_option linter.unusedVariables false
namespace Go.Proofs.YtkomcdohejibmaaGreatDoor
open Go Go.Av Go.RowKit

/-- merging what is smaller -/
def MergeTo (N : Nat) : Prop := ∀ (l : List De) (a m b : Nat), b - a < N → a < m → m < b → b ≤ l.length → l.length < 1000000 →
  Ct Tryz.prog 176 [.sl 0 0 l.length l.length, .int .i64 a, .int .i64 m, .int .i64 b, .fn (.func 77) []] [.arr 7 (l.map deA)] (SortR l)
set_option maxHeartbeats 8000000 in
theorem symMerge_mid (l : List De) (a m b : Nat) (ih : MergeTo (b - a)) (h1 : a + 1 < m) (h2 : m + 1 < b) (h3 : b ≤ l.length) (hl : l.length < 1000000) :
    Ct Tryz.prog 176 [.sl 0 0 l.length l.length, .int .i64 a, .int .i64 m, .int .i64 b, .fn (.func 77) []] [.arr 7 (l.map deA)] (SortR l) := by
  have d0 : ((m : Int) - (a : Int) == 1) = false := by simp; omega
  have d00 : ((b : Int) - (m : Int) == 1) = false := by simp; omega
  obtain ⟨c, hc⟩ : ∃ c, c = (a + b) / 2 := ⟨_, rfl⟩
  have e1 : ((a : Int) + (b : Int)) / 2 = (c : Int) := by omega
  refine ct_intro Tryz.func176 rfl Tryz.ntmps176 hB176 (by simp) fun h ρ w => goB (N := 220) Tryz.ntmps176 66 ?_
  simp only [go_sem, d0, d00, e1]
  repeat refine And.intro (by first | omega | rfl | exact wrap64 (by omega) (by omega) | (simp; done)) ?_
  refine acut (ι := Nat × Nat) (fun y => [(21, .int .i64 y.2), (20, .int .i64 y.1), (19, .int .i64 ((c : Int) + m)), (18, .int .i64 c), (4, .fn (.func 77) []), (3, .int .i64 b), (2, .int .i64 m), (1, .int .i64 a), (0, .sl 0 0 l.length l.length)]) (fun _ => [.arr 7 (l.map deA)])
    (fun y => y.1 ≤ y.2 ∧ c + m ≤ b + y.1 ∧ y.2 ≤ c + m ∧ y.2 ≤ l.length) ?_ ?_
  · intro J hJ
    by_cases hm : c < m
    · have dm : decide ((m : Int) > (c : Int)) = true := by simp; omega
      have hfin := hJ (c + m - b, c) ⟨by simp only; omega, by simp only; omega, by simp only; omega, by simp only; omega⟩
      refine goB (N := 220) Tryz.ntmps176 300 ?_
      simp only [go_sem, dm]
      repeat refine And.intro (by omega) ?_
      rw [show (c : Int) + (m : Int) - (b : Int) = ((c + m - b : Nat) : Int) by omega]
      refine ainv hfin (Shift.weakS ?_ rfl)
      simp only [wk, go_sem]
    · have dm : decide ((m : Int) > (c : Int)) = false := by simp; omega
      have hfin := hJ (a, m) ⟨by simp only; omega, by simp only; omega, by simp only; omega, by simp only; omega⟩
      refine goB (N := 220) Tryz.ntmps176 300 ?_
      simp only [go_sem, dm]
      refine ainv hfin (Shift.weakS ?_ rfl)
      simp only [wk, go_sem]
  rintro ⟨st, r⟩ ⟨g1, g2, g3, g4⟩
  simp only at g1 g2 g3 g4 ⊢
  refine goB (N := 220) Tryz.ntmps176 300 ?_
  simp only [go_sem]
  repeat refine And.intro (by omega) ?_
  refine aloop (ι := Nat × Nat) (fun y => y.2 - y.1) (fun y => [(22, .int .i64 ((c : Int) + m - 1)), (21, .int .i64 y.2), (20, .int .i64 y.1), (19, .int .i64 ((c : Int) + m)), (18, .int .i64 c), (4, .fn (.func 77) []), (3, .int .i64 b), (2, .int .i64 m), (1, .int .i64 a), (0, .sl 0 0 l.length l.length)]) (fun _ => [.arr 7 (l.map deA)])
    (fun y => y.1 ≤ y.2 ∧ c + m ≤ b + y.1 ∧ y.2 ≤ c + m ∧ y.2 ≤ l.length) (st, r) ⟨g1, g2, g3, g4⟩ ?_ ?_
  · refine Shift.weakS ?_ rfl
    simp only [wk, go_sem]
  clear g1 g2 g3 g4
  rintro ⟨i, j⟩ ⟨g1, g2, g3, g4⟩ J hJ
  simp only at g1 g2 g3 g4 hJ ⊢
  by_cases hij : i < j
  · have di : decide ((i : Int) < (j : Int)) = true := by simp; omega
    obtain ⟨x, hx⟩ : ∃ x, x = (i + j) / 2 := ⟨_, rfl⟩
    have e1 : ((i : Int) + (j : Int)) / 2 = (x : Int) := by omega
    have e2 : ((x : Int)).toNat = x := by omega
    have e3 : ((c : Int) + (m : Int) - 1 - (x : Int)).toNat = c + m - 1 - x := by omega
    have p1 := deA_get l x (by omega)
    have p2 := deA_get l (c + m - 1 - x) (by omega)
    have hc2 := joinFn_pc (l[c + m - 1 - x]'(by omega)) (l[x]'(by omega))
    simp only [deA] at hc2
    refine goB (N := 220) Tryz.ntmps176 300 ?_
    simp only [go_sem, di, e1]
    repeat refine And.intro (by first | omega | rfl | exact wrap64 (by omega) (by omega) | (simp; done) | (simp [inr]; omega)) ?_
    refine adraw [.int .i64 (stCmp (l[c + m - 1 - x]'(by omega)).st (l[x]'(by omega)).st)] mixed (by decide) (N := 220) Tryz.ntmps176 (by decide) 100 ?_
    cases dc : decide (stCmp (l[c + m - 1 - x]'(by omega)).st (l[x]'(by omega)).st < 0) with
    | false =>
      have hfin := hJ (x + 1, j) ⟨by simp only; omega, by simp only; omega, g3, g4⟩ (by simp only; omega)
      simp only [go_sem, e2, e3, p1, p2, dc, List.length_map]
      repeat refine And.intro (by first | exact hc2.at | omega | rfl | (simp; done) | (simp; omega)) ?_
      refine goB (N := 220) Tryz.ntmps176 300 ?_
      simp only [go_sem]
      repeat refine And.intro (by omega) ?_
      rw [show (x : Int) + 1 = ((x + 1 : Nat) : Int) by omega]
      refine ainv hfin (Shift.weakS ?_ rfl)
      simp only [wk, go_sem]
    | true =>
      have hfin := hJ (i, x) ⟨by simp only; omega, g2, by simp only; omega, by simp only; omega⟩ (by simp only; omega)
      simp only [go_sem, e2, e3, p1, p2, dc, List.length_map]
      repeat refine And.intro (by first | exact hc2.at | omega | rfl | (simp; done) | (simp; omega)) ?_
      refine goB (N := 220) Tryz.ntmps176 300 ?_
      simp only [go_sem]
      refine ainv hfin (Shift.weakS ?_ rfl)
      simp only [wk, go_sem]
  · have di : decide ((i : Int) < (j : Int)) = false := by simp; omega
    have hgo : ∀ (q q' : List De), q.Perm l → SortR q (.tup []) [.arr 7 (q'.map deA)] → True := fun _ _ _ _ => trivial
    obtain ⟨en, hen⟩ : ∃ en, en = c + m - i := ⟨_, rfl⟩
    have een : (c : Int) + (m : Int) - (i : Int) = (en : Int) := by omega
    refine goB (N := 220) Tryz.ntmps176 25 ?_
    simp only [go_sem, di, een]
    repeat refine And.intro (by omega) ?_
    refine acut (ι := List De) (fun _ => [(24, .int .i64 en), (20, .int .i64 i), (18, .int .i64 c), (4, .fn (.func 77) []), (3, .int .i64 b), (1, .int .i64 a), (0, .sl 0 0 l.length l.length)]) (fun q => [.arr 7 (q.map deA)]) (fun q => q.Perm l) ?_ ?_
    · intro J hJ
      by_cases t1 : i < m
      · by_cases t2 : m < en
        · have d1 : decide ((i : Int) < (m : Int)) = true := by simp; omega
          have d2 : decide ((m : Int) < (en : Int)) = true := by simp; omega
          have hr := rotate_ct l i m en 77 t1 t2 (by omega) hl
          refine goB (N := 220) Tryz.ntmps176 300 ?_
          simp only [go_sem, d1, d2]
          refine acall (hr) (N := 220) Tryz.ntmps176 rfl ?_
          rintro _ _ ⟨rfl, q', rfl, hp⟩
          refine goB (N := 220) Tryz.ntmps176 300 ?_
          simp only [go_sem]
          refine ainv (hJ q' hp) (Shift.weakS ?_ rfl)
          simp only [wk, go_sem]
        · have d1 : decide ((i : Int) < (m : Int)) = true := by simp; omega
          have d2 : decide ((m : Int) < (en : Int)) = false := by simp; omega
          refine goB (N := 220) Tryz.ntmps176 300 ?_
          simp only [go_sem, d1, d2]
          refine ainv (hJ l (.refl _)) (Shift.weakS ?_ rfl)
          simp only [wk, go_sem]
      · have d1 : decide ((i : Int) < (m : Int)) = false := by simp; omega
        refine goB (N := 220) Tryz.ntmps176 300 ?_
        simp only [go_sem, d1]
        refine ainv (hJ l (.refl _)) (Shift.weakS ?_ rfl)
        simp only [wk, go_sem]
    intro q hq
    have hql := hq.length_eq
    refine goB (N := 220) Tryz.ntmps176 1 ?_
    simp only [go_sem]
    refine acut (ι := List De) (fun _ => [(24, .int .i64 en), (18, .int .i64 c), (4, .fn (.func 77) []), (3, .int .i64 b), (0, .sl 0 0 l.length l.length)]) (fun q => [.arr 7 (q.map deA)]) (fun q => q.Perm l) ?_ ?_
    · intro J hJ
      by_cases t1 : a < i
      · by_cases t2 : i < c
        · have d1 : decide ((a : Int) < (i : Int)) = true := by simp; omega
          have d2 : decide ((i : Int) < (c : Int)) = true := by simp; omega
          have hr := ih q a i c (by omega) t1 t2 (by omega) (by omega)
          rw [hql] at hr
          refine goB (N := 220) Tryz.ntmps176 300 ?_
          simp only [go_sem, d1, d2]
          refine acall (hr) (N := 220) Tryz.ntmps176 rfl ?_
          rintro _ _ ⟨rfl, q', rfl, hp⟩
          refine goB (N := 220) Tryz.ntmps176 300 ?_
          simp only [go_sem]
          refine ainv (hJ q' (hp.trans hq)) (Shift.weakS ?_ rfl)
          simp only [wk, go_sem]
        · have d1 : decide ((a : Int) < (i : Int)) = true := by simp; omega
          have d2 : decide ((i : Int) < (c : Int)) = false := by simp; omega
          refine goB (N := 220) Tryz.ntmps176 300 ?_
          simp only [go_sem, d1, d2]
          refine ainv (hJ q hq) (Shift.weakS ?_ rfl)
          simp only [wk, go_sem]
      · have d1 : decide ((a : Int) < (i : Int)) = false := by simp; omega
        refine goB (N := 220) Tryz.ntmps176 300 ?_
        simp only [go_sem, d1]
        refine ainv (hJ q hq) (Shift.weakS ?_ rfl)
        simp only [wk, go_sem]
    clear hql hq q
    intro q hq
    have hql := hq.length_eq
    by_cases t1 : c < en
    · by_cases t2 : en < b
      · have d1 : decide ((c : Int) < (en : Int)) = true := by simp; omega
        have d2 : decide ((en : Int) < (b : Int)) = true := by simp; omega
        have hr := ih q c en b (by omega) t1 t2 (by omega) (by omega)
        rw [hql] at hr
        refine goB (N := 220) Tryz.ntmps176 300 ?_
        simp only [go_sem, d1, d2]
        refine acall (hr) (N := 220) Tryz.ntmps176 rfl ?_
        rintro _ _ ⟨rfl, q', rfl, hp⟩
        refine goB (N := 220) Tryz.ntmps176 300 ?_
        simp only [go_sem]
        exact aret [] rfl ⟨rfl, q', rfl, hp.trans hq⟩
      · have d1 : decide ((c : Int) < (en : Int)) = true := by simp; omega
        have d2 : decide ((en : Int) < (b : Int)) = false := by simp; omega
        refine goB (N := 220) Tryz.ntmps176 300 ?_
        simp only [go_sem, d1, d2]
        exact aret [] rfl ⟨rfl, q, rfl, hq⟩
    · have d1 : decide ((c : Int) < (en : Int)) = false := by simp; omega
      refine goB (N := 220) Tryz.ntmps176 300 ?_
      simp only [go_sem, d1]
      exact aret [] rfl ⟨rfl, q, rfl, hq⟩

theorem symMerge_all : ∀ N, MergeTo N := by
  intro N
  induction N using Nat.strongRecOn with
  | _ N ih =>
    intro l a m b hN h1 h2 h3 hl
    by_cases t1 : m = a + 1
    · subst t1
      exact symMerge_one l a b h2 h3 hl
    · by_cases t2 : b = m + 1
      · subst t2
        exact symMerge_last l a m (by omega) h3 hl
      · exact symMerge_mid l a m b (ih (b - a) hN) (by omega) (by omega) h3 hl
theorem symMerge_ct (l : List De) (a m b : Nat) (h1 : a < m) (h2 : m < b) (h3 : b ≤ l.length) (hl : l.length < 1000000) :
    Ct Tryz.prog 176 [.sl 0 0 l.length l.length, .int .i64 a, .int .i64 m, .int .i64 b, .fn (.func 77) []] [.arr 7 (l.map deA)] (SortR l) :=
  symMerge_all (b - a + 1) l a m b (by omega) h1 h2 h3 hl
end Go.Proofs.YtkomcdohejibmaaGreatDoor
/- SortStableFunc at deeds: what is there is put in another order. Own work of this seat. -/
set_option maxRecDepth 100000
set_option linter.unusedSimpArgs false
set_option linter.unusedVariables false
namespace Go.Proofs.YtkomcdohejibmaaGreatDoor
open Go Go.Av Go.RowKit

set_option maxHeartbeats 8000000 in
theorem stable_ct (l : List De) (hl : l.length < 1000000) :
    Ct Tryz.prog 134 [.sl 0 0 l.length l.length, .int .i64 l.length, .fn (.func 77) []] [.arr 7 (l.map deA)] (SortR l) := by
  refine ct_intro Tryz.func134 rfl Tryz.ntmps134 hB134 (by simp) fun h ρ w => goB (N := 63) Tryz.ntmps134 300 ?_
  simp only [go_sem]
  refine aloop (ι := Nat × List De) (fun y => l.length - y.1) (fun y => [(8, .int .i64 ((y.1 + 20 : Nat) : Int)), (7, .int .i64 y.1), (6, .int .i64 20), (2, .fn (.func 77) []), (1, .int .i64 l.length), (0, .sl 0 0 l.length l.length)]) (fun y => [.arr 7 (y.2.map deA)])
    (fun y => y.1 ≤ l.length ∧ y.2.Perm l) (0, l) ⟨by simp, .refl _⟩ ?_ ?_
  · refine Shift.weakS ?_ rfl
    simp only [wk, go_sem]
  rintro ⟨a, q⟩ ⟨g1, g2⟩ J hJ
  simp only at g1 g2 hJ ⊢
  have hq := g2.length_eq
  by_cases t1 : a + 20 ≤ l.length
  · have d1 : decide (((a + 20 : Nat) : Int) ≤ (l.length : Int)) = true := by simp; omega
    have hr := insertionSort_ct q a (a + 20) (by omega) (by omega) (by omega)
    rw [hq] at hr
    refine goB (N := 63) Tryz.ntmps134 300 ?_
    simp only [go_sem, d1]
    refine acall (hr) (N := 63) Tryz.ntmps134 rfl ?_
    rintro _ _ ⟨rfl, q', rfl, hp⟩
    have hfin := hJ (a + 20, q') ⟨by simp only; omega, hp.trans g2⟩ (by simp only; omega)
    refine goB (N := 63) Tryz.ntmps134 300 ?_
    simp only [go_sem]
    repeat refine And.intro (by omega) ?_
    rw [show ((a + 20 : Nat) : Int) + 20 = ((a + 20 + 20 : Nat) : Int) by omega]
    refine ainv hfin (Shift.weakS ?_ rfl)
    simp only [wk, go_sem]
  have d1 : decide (((a + 20 : Nat) : Int) ≤ (l.length : Int)) = false := by simp; omega
  have hr := insertionSort_ct q a l.length (by omega) (by omega) (by omega)
  rw [hq] at hr
  refine goB (N := 63) Tryz.ntmps134 300 ?_
  simp only [go_sem, d1]
  refine acall (hr) (N := 63) Tryz.ntmps134 rfl ?_
  rintro _ _ ⟨rfl, q', rfl, hp⟩
  clear hJ J
  refine goB (N := 63) Tryz.ntmps134 300 ?_
  simp only [go_sem]
  refine aloop (ι := Nat × List De) (fun y => l.length - y.1) (fun y => [(6, .int .i64 y.1), (2, .fn (.func 77) []), (1, .int .i64 l.length), (0, .sl 0 0 l.length l.length)]) (fun y => [.arr 7 (y.2.map deA)])
    (fun y => 1 ≤ y.1 ∧ y.2.Perm l) (20, q') ⟨by simp, hp.trans g2⟩ ?_ ?_
  · refine Shift.weakS ?_ rfl
    simp only [wk, go_sem]
  clear hr hp q' hq g2 g1 q d1 t1 a
  rintro ⟨bs, q⟩ ⟨g1, g2⟩ J hJ
  simp only at g1 g2 hJ ⊢
  by_cases t1 : bs < l.length
  · have d1 : decide ((bs : Int) < (l.length : Int)) = true := by simp; omega
    refine goB (N := 63) Tryz.ntmps134 300 ?_
    simp only [go_sem, d1]
    repeat refine And.intro (by omega) ?_
    rw [show (2 : Int) * (bs : Int) = ((0 + 2 * bs : Nat) : Int) by omega]
    refine aloop (ι := Nat × List De) (fun y => l.length - y.1) (fun y => [(8, .int .i64 ((y.1 + 2 * bs : Nat) : Int)), (7, .int .i64 y.1), (6, .int .i64 bs), (2, .fn (.func 77) []), (1, .int .i64 l.length), (0, .sl 0 0 l.length l.length)]) (fun y => [.arr 7 (y.2.map deA)])
      (fun y => y.1 ≤ l.length ∧ y.2.Perm l) (0, q) ⟨by simp, g2⟩ ?_ ?_
    · refine Shift.weakS ?_ rfl
      simp only [wk, go_sem]
    clear g2 q
    rintro ⟨a, q⟩ ⟨k1, k2⟩ K hK
    simp only at k1 k2 hK ⊢
    have hq := k2.length_eq
    by_cases t2 : a + 2 * bs ≤ l.length
    · have d2 : decide (((a + 2 * bs : Nat) : Int) ≤ (l.length : Int)) = true := by simp; omega
      have hr := symMerge_ct q a (a + bs) (a + 2 * bs) (by omega) (by omega) (by omega) (by omega)
      rw [hq, show ((a + bs : Nat) : Int) = (a : Int) + (bs : Int) by omega] at hr
      refine goB (N := 63) Tryz.ntmps134 300 ?_
      simp only [go_sem, d2]
      repeat refine And.intro (by omega) ?_
      refine acall (hr) (N := 63) Tryz.ntmps134 rfl ?_
      rintro _ _ ⟨rfl, q', rfl, hp⟩
      have hfin := hK (a + 2 * bs, q') ⟨by simp only; omega, hp.trans k2⟩ (by simp only; omega)
      refine goB (N := 63) Tryz.ntmps134 300 ?_
      simp only [go_sem]
      repeat refine And.intro (by omega) ?_
      rw [show ((a + 2 * bs : Nat) : Int) + 2 * (bs : Int) = ((a + 2 * bs + 2 * bs : Nat) : Int) by omega]
      refine ainv hfin (Shift.weakS ?_ rfl)
      simp only [wk, go_sem]
    have d2 : decide (((a + 2 * bs : Nat) : Int) ≤ (l.length : Int)) = false := by simp; omega
    by_cases t3 : a + bs < l.length
    · have d3 : decide ((a : Int) + (bs : Int) < (l.length : Int)) = true := by simp; omega
      have hr := symMerge_ct q a (a + bs) l.length (by omega) (by omega) (by omega) (by omega)
      rw [hq, show ((a + bs : Nat) : Int) = (a : Int) + (bs : Int) by omega] at hr
      refine goB (N := 63) Tryz.ntmps134 300 ?_
      simp only [go_sem, d2, d3]
      repeat refine And.intro (by omega) ?_
      refine acall (hr) (N := 63) Tryz.ntmps134 rfl ?_
      rintro _ _ ⟨rfl, q', rfl, hp⟩
      have hfin := hJ (bs * 2, q') ⟨by simp only; omega, hp.trans k2⟩ (by simp only; omega)
      refine goB (N := 63) Tryz.ntmps134 300 ?_
      simp only [go_sem]
      repeat refine And.intro (by omega) ?_
      rw [show (bs : Int) * 2 = ((bs * 2 : Nat) : Int) by omega]
      refine ainv hfin (Shift.weakS ?_ rfl)
      simp only [wk, go_sem]
    · have d3 : decide ((a : Int) + (bs : Int) < (l.length : Int)) = false := by simp; omega
      have hfin := hJ (bs * 2, q) ⟨by simp only; omega, k2⟩ (by simp only; omega)
      refine goB (N := 63) Tryz.ntmps134 300 ?_
      simp only [go_sem, d2, d3]
      repeat refine And.intro (by omega) ?_
      rw [show (bs : Int) * 2 = ((bs * 2 : Nat) : Int) by omega]
      refine ainv hfin (Shift.weakS ?_ rfl)
      simp only [wk, go_sem]
  have d1 : decide ((bs : Int) < (l.length : Int)) = false := by simp; omega
  refine goB (N := 63) Tryz.ntmps134 300 ?_
  simp only [go_sem, d1]
  exact aret [] rfl ⟨rfl, q, rfl, g2⟩

theorem sortStable_ct (l : List De) (hl : l.length < 1000000) :
    Ct Tryz.prog 76 [.sl 0 0 l.length l.length, .fn (.func 77) []] [.arr 7 (l.map deA)] (SortR l) := by
  have hr := stable_ct l hl
  refine ct_intro Tryz.func76 rfl Tryz.ntmps76 hB76 (by simp) fun h ρ w => goB (N := 9) Tryz.ntmps76 300 ?_
  simp only [go_sem, List.length_map]
  repeat refine And.intro (by first | omega | rfl | (simp; omega)) ?_
  refine acall (hr) (N := 9) Tryz.ntmps76 rfl ?_
  rintro _ _ ⟨rfl, q', rfl, hp⟩
  refine goB (N := 9) Tryz.ntmps76 300 ?_
  simp only [go_sem]
  exact aret [] rfl ⟨rfl, q', rfl, hp⟩
end Go.Proofs.YtkomcdohejibmaaGreatDoor
