/- Parts of SortStableFunc at deeds: only that what is there is put in another order. Own work of this seat. -/
import Derived.Test.YtkomcdohejibmaaGreatDoorO31
import Derived.Test.YtkomcdohejibmaaGreatDoorO23
import Derived.Test.YtkomcdohejibmaaGreatDoorO21
set_option maxRecDepth 100000
set_option linter.unusedSimpArgs false
set_option linter.unusedVariables false
namespace Go.Proofs.YtkomcdohejibmaaGreatDoor
open Go Go.Av Go.RowKit

theorem set_deA (l : List De) (i : Nat) (x : De) : (l.map deA).set i (.agg [.str x.st.dept, .int .i64 x.st.no, .fz 2 (x.seen.map stA), .int .i64 x.kind, .str x.paper, .str x.text, .str x.person]) = (l.set i x).map deA := by
  rw [List.map_set]; rfl
/-- what a sort leaves -/
def SortR (l : List De) (r : AV) (s : List Blk) : Prop := r = .tup [] ∧ ∃ l' : List De, s = [.arr 7 (l'.map deA)] ∧ l'.Perm l
theorem swap_perm {q l : List De} (hq : q.Perm l) {i j : Nat} (h1 : i < q.length) (h2 : j < q.length) : ((q.set i q[j]).set j q[i]).Perm l := (List.set_set_perm h1 h2).trans hq

theorem swapRange_ct (l : List De) (a b n : Nat) (f : FuncId) (h1 : a + n ≤ l.length) (h2 : b + n ≤ l.length) (hl : l.length < 1000000) :
    Ct Tryz.prog 229 [.sl 0 0 l.length l.length, .int .i64 a, .int .i64 b, .int .i64 n, .fn (.func f) []] [.arr 7 (l.map deA)] (SortR l) := by
  refine ct_intro Tryz.func229 rfl Tryz.ntmps229 hB229 (by simp) fun h ρ w => goB (N := 38) Tryz.ntmps229 300 ?_
  simp only [go_sem]
  refine aloop (ι := Nat × List De) (fun y => n - y.1) (fun y => [(10, .int .i64 y.1), (3, .int .i64 n), (2, .int .i64 b), (1, .int .i64 a), (0, .sl 0 0 l.length l.length)]) (fun y => [.arr 7 (y.2.map deA)])
    (fun y => y.1 ≤ n ∧ y.2.Perm l) (0, l) ⟨by simp, .refl _⟩ ?_ ?_
  · refine Shift.weakS ?_ rfl
    simp only [wk, go_sem]
  · rintro ⟨i, q⟩ ⟨g1, g2⟩ J hJ
    simp only at g1 g2 hJ ⊢
    have hq := g2.length_eq
    by_cases gi : i < n
    · have di : decide ((i : Int) < (n : Int)) = true := by simp; omega
      have e1 : ((a : Int) + (i : Int)).toNat = a + i := by omega
      have e2 : ((b : Int) + (i : Int)).toNat = b + i := by omega
      have p1 := deA_get q (a + i) (by omega)
      have p2 := deA_get q (b + i) (by omega)
      have p3 := deA_get (q.set (a + i) (q[b + i]'(by omega))) (b + i) (by simp; omega)
      have s1 := set_deA q (a + i) (q[b + i]'(by omega))
      have s2 := set_deA (q.set (a + i) (q[b + i]'(by omega))) (b + i) (q[a + i]'(by omega))
      have hfin := hJ (i + 1, _) ⟨by simp only; omega, swap_perm g2 (i := a + i) (j := b + i) (by omega) (by omega)⟩ (by simp only; omega)
      refine goB (N := 38) Tryz.ntmps229 300 ?_
      simp only [go_sem, di]
      refine adrawS [] mixed (by decide) (N := 38) Tryz.ntmps229 (by decide) 100 ?_
      simp only [go_sem, e1, e2, p1, p2, p3, s1, s2, List.length_map, List.length_set]
      repeat refine And.intro (by first | omega | rfl | (simp; done) | (simp; omega)) ?_
      refine goB (N := 38) Tryz.ntmps229 300 ?_
      simp only [go_sem]
      repeat refine And.intro (by first | omega | rfl | (simp; done) | (simp; omega)) ?_
      rw [show (i : Int) + 1 = ((i + 1 : Nat) : Int) by omega]
      refine ainv hfin (Shift.weakS ?_ rfl)
      simp only [wk, go_sem]
    · have di : decide ((i : Int) < (n : Int)) = false := by simp; omega
      refine goB (N := 38) Tryz.ntmps229 300 ?_
      simp only [go_sem, di]
      exact aret [] rfl ⟨rfl, q, rfl, g2⟩

theorem rotate_ct (l : List De) (a m b : Nat) (f : FuncId) (h1 : a < m) (h2 : m < b) (h3 : b ≤ l.length) (hl : l.length < 1000000) :
    Ct Tryz.prog 208 [.sl 0 0 l.length l.length, .int .i64 a, .int .i64 m, .int .i64 b, .fn (.func f) []] [.arr 7 (l.map deA)] (SortR l) := by
  refine ct_intro Tryz.func208 rfl Tryz.ntmps208 hB208 (by simp) fun h ρ w => goB (N := 58) Tryz.ntmps208 300 ?_
  simp only [go_sem]
  repeat refine And.intro (by omega) ?_
  rw [show (m : Int) - (a : Int) = ((m - a : Nat) : Int) by omega, show (b : Int) - (m : Int) = ((b - m : Nat) : Int) by omega]
  refine aloop (ι := Nat × Nat × List De) (fun y => y.1 + y.2.1) (fun y => [(11, .int .i64 y.2.1), (10, .int .i64 y.1), (4, .fn (.func f) []), (2, .int .i64 m), (0, .sl 0 0 l.length l.length)]) (fun y => [.arr 7 (y.2.2.map deA)])
    (fun y => 0 < y.1 ∧ 0 < y.2.1 ∧ y.1 ≤ m ∧ m + y.2.1 ≤ l.length ∧ y.2.2.Perm l) (m - a, b - m, l) ⟨by simp only; omega, by simp only; omega, by simp only; omega, by simp only; omega, .refl _⟩ ?_ ?_
  · refine Shift.weakS ?_ rfl
    simp only [wk, go_sem]
  · rintro ⟨i, j, q⟩ ⟨g1, g2, g3, g4, g5⟩ J hJ
    simp only at g1 g2 g3 g4 g5 hJ ⊢
    have hq := g5.length_eq
    by_cases hij : i = j
    · have dj : ((i : Int) != (j : Int)) = false := by simp; omega
      have hc := swapRange_ct q (m - i) m i f (by omega) (by omega) (by omega)
      rw [show ((m - i : Nat) : Int) = (m : Int) - (i : Int) by omega, hq] at hc
      refine goB (N := 58) Tryz.ntmps208 300 ?_
      simp only [go_sem, dj]
      repeat refine And.intro (by omega) ?_
      refine acall (hc) (N := 58) Tryz.ntmps208 rfl ?_
      rintro _ _ ⟨rfl, q', rfl, hp⟩
      refine goB (N := 58) Tryz.ntmps208 300 ?_
      simp only [go_sem]
      exact aret [] rfl ⟨rfl, q', rfl, hp.trans g5⟩
    · have dj : ((i : Int) != (j : Int)) = true := by simp; omega
      by_cases hlt : j < i
      · have dg : decide ((i : Int) > (j : Int)) = true := by simp; omega
        have hc := swapRange_ct q (m - i) m j f (by omega) (by omega) (by omega)
        rw [show ((m - i : Nat) : Int) = (m : Int) - (i : Int) by omega, hq] at hc
        refine goB (N := 58) Tryz.ntmps208 300 ?_
        simp only [go_sem, dj, dg]
        repeat refine And.intro (by omega) ?_
        refine acall (hc) (N := 58) Tryz.ntmps208 rfl ?_
        rintro _ _ ⟨rfl, q', rfl, hp⟩
        have hfin := hJ (i - j, j, q') ⟨by simp only; omega, g2, by simp only; omega, by simp only; omega, hp.trans g5⟩ (by simp only; omega)
        refine goB (N := 58) Tryz.ntmps208 300 ?_
        simp only [go_sem]
        repeat refine And.intro (by omega) ?_
        rw [show (i : Int) - (j : Int) = ((i - j : Nat) : Int) by omega]
        refine ainv hfin (Shift.weakS ?_ rfl)
        simp only [wk, go_sem]
      · have dg : decide ((i : Int) > (j : Int)) = false := by simp; omega
        have hc := swapRange_ct q (m - i) (m + j - i) i f (by omega) (by omega) (by omega)
        rw [show ((m - i : Nat) : Int) = (m : Int) - (i : Int) by omega, show ((m + j - i : Nat) : Int) = (m : Int) + (j : Int) - (i : Int) by omega, hq] at hc
        refine goB (N := 58) Tryz.ntmps208 300 ?_
        simp only [go_sem, dj, dg]
        repeat refine And.intro (by omega) ?_
        refine acall (hc) (N := 58) Tryz.ntmps208 rfl ?_
        rintro _ _ ⟨rfl, q', rfl, hp⟩
        have hfin := hJ (i, j - i, q') ⟨g1, by simp only; omega, g3, by simp only; omega, hp.trans g5⟩ (by simp only; omega)
        refine goB (N := 58) Tryz.ntmps208 300 ?_
        simp only [go_sem]
        repeat refine And.intro (by omega) ?_
        rw [show (j : Int) - (i : Int) = ((j - i : Nat) : Int) by omega]
        refine ainv hfin (Shift.weakS ?_ rfl)
        simp only [wk, go_sem]

theorem insertionSort_ct (l : List De) (a b : Nat) (h2 : a ≤ b) (h3 : b ≤ l.length) (hl : l.length < 1000000) :
    Ct Tryz.prog 142 [.sl 0 0 l.length l.length, .int .i64 a, .int .i64 b, .fn (.func 77) []] [.arr 7 (l.map deA)] (SortR l) := by
  refine ct_intro Tryz.func142 rfl Tryz.ntmps142 hB142 (by simp) fun h ρ w => goB (N := 53) Tryz.ntmps142 300 ?_
  simp only [go_sem]
  repeat refine And.intro (by omega) ?_
  rw [show (a : Int) + 1 = ((a + 1 : Nat) : Int) by omega]
  refine aloop (ι := Nat × List De) (fun y => b + 1 - y.1) (fun y => [(8, .int .i64 y.1), (3, .fn (.func 77) []), (2, .int .i64 b), (1, .int .i64 a), (0, .sl 0 0 l.length l.length)]) (fun y => [.arr 7 (y.2.map deA)])
    (fun y => a + 1 ≤ y.1 ∧ y.2.Perm l) (a + 1, l) ⟨by simp, .refl _⟩ ?_ ?_
  · refine Shift.weakS ?_ rfl
    simp only [wk, go_sem]
  · rintro ⟨i, q⟩ ⟨g1, g2⟩ J hJ
    simp only at g1 g2 hJ ⊢
    by_cases gi : i < b
    · have di : decide ((i : Int) < (b : Int)) = true := by simp; omega
      refine goB (N := 53) Tryz.ntmps142 300 ?_
      simp only [go_sem, di]
      refine aloop (ι := Nat × List De) (fun y => y.1) (fun y => [(9, .int .i64 y.1), (8, .int .i64 i), (3, .fn (.func 77) []), (2, .int .i64 b), (1, .int .i64 a), (0, .sl 0 0 l.length l.length)]) (fun y => [.arr 7 (y.2.map deA)])
        (fun y => a ≤ y.1 ∧ y.1 ≤ i ∧ y.2.Perm l) (i, q) ⟨by simp only; omega, by simp, g2⟩ ?_ ?_
      · refine Shift.weakS ?_ rfl
        simp only [wk, go_sem]
      · rintro ⟨j, p⟩ ⟨k1, k2, k3⟩ K hK
        simp only at k1 k2 k3 hK ⊢
        have hq := k3.length_eq
        by_cases hja : a < j
        · have dj : decide ((j : Int) > (a : Int)) = true := by simp; omega
          have e1 : ((j : Int) - 1).toNat = j - 1 := by omega
          have p1 := deA_get p j (by omega)
          have p2 := deA_get p (j - 1) (by omega)
          have hc := joinFn_pc (p[j]'(by omega)) (p[j - 1]'(by omega))
          simp only [deA] at hc
          refine goB (N := 53) Tryz.ntmps142 300 ?_
          simp only [go_sem]
          refine adraw [.int .i64 (stCmp (p[j]'(by omega)).st (p[j - 1]'(by omega)).st)] mixed (by decide) (N := 53) Tryz.ntmps142 (by decide) 100 ?_
          cases dc : decide (stCmp (p[j]'(by omega)).st (p[j - 1]'(by omega)).st < 0) with
          | true =>
            have p3 := deA_get (p.set j (p[j - 1]'(by omega))) (j - 1) (by simp; omega)
            have s1 := set_deA p j (p[j - 1]'(by omega))
            have s2 := set_deA (p.set j (p[j - 1]'(by omega))) (j - 1) (p[j]'(by omega))
            have hfin := hK (j - 1, _) ⟨by simp only; omega, by simp only; omega, swap_perm k3 (i := j) (j := j - 1) (by omega) (by omega)⟩ (by simp only; omega)
            simp only [go_sem, dj, e1, p1, p2, dc, List.length_map]
            repeat refine And.intro (by first | exact hc.at | omega | rfl | (simp; done) | (simp; omega)) ?_
            refine goB (N := 53) Tryz.ntmps142 300 ?_
            simp only [go_sem]
            refine adrawS [] mixed (by decide) (N := 53) Tryz.ntmps142 (by decide) 100 ?_
            simp only [go_sem, e1, p1, p2, p3, s1, s2, List.length_map, List.length_set]
            repeat refine And.intro (by first | omega | rfl | (simp; done) | (simp; omega)) ?_
            refine goB (N := 53) Tryz.ntmps142 300 ?_
            simp only [go_sem]
            repeat refine And.intro (by first | omega | rfl | (simp; done) | (simp; omega)) ?_
            rw [show (j : Int) - 1 = ((j - 1 : Nat) : Int) by omega]
            refine ainv hfin (Shift.weakS ?_ rfl)
            simp only [wk, go_sem]
          | false =>
            have hfin := hJ (i + 1, p) ⟨by simp only; omega, k3⟩ (by simp only; omega)
            simp only [go_sem, dj, e1, p1, p2, dc, List.length_map]
            repeat refine And.intro (by first | exact hc.at | omega | rfl | (simp; done) | (simp; omega)) ?_
            refine goB (N := 53) Tryz.ntmps142 300 ?_
            simp only [go_sem]
            repeat refine And.intro (by first | omega | rfl | (simp; done) | (simp; omega)) ?_
            rw [show (i : Int) + 1 = ((i + 1 : Nat) : Int) by omega]
            refine ainv hfin (Shift.weakS ?_ rfl)
            simp only [wk, go_sem]
        · have dj : decide ((j : Int) > (a : Int)) = false := by simp; omega
          have hfin := hJ (i + 1, p) ⟨by simp only; omega, k3⟩ (by simp only; omega)
          refine goB (N := 53) Tryz.ntmps142 300 ?_
          simp only [go_sem]
          refine adraw [.any] mixed (by decide) (N := 53) Tryz.ntmps142 (by decide) 100 ?_
          simp only [go_sem, dj]
          repeat refine And.intro (by first | omega | rfl | (simp; done) | (simp; omega)) ?_
          refine goB (N := 53) Tryz.ntmps142 300 ?_
          simp only [go_sem]
          repeat refine And.intro (by first | omega | rfl | (simp; done) | (simp; omega)) ?_
          rw [show (i : Int) + 1 = ((i + 1 : Nat) : Int) by omega]
          refine ainv hfin (Shift.weakS ?_ rfl)
          simp only [wk, go_sem]
    · have di : decide ((i : Int) < (b : Int)) = false := by simp; omega
      refine goB (N := 53) Tryz.ntmps142 300 ?_
      simp only [go_sem, di]
      exact aret [] rfl ⟨rfl, q, rfl, g2⟩
end Go.Proofs.YtkomcdohejibmaaGreatDoor
/- symMerge at deeds: only that what is there is put in another order. Own work of this seat. -/
set_option maxRecDepth 100000
set_option linter.unusedSimpArgs false
set_option linter.unusedVariables false
namespace Go.Proofs.YtkomcdohejibmaaGreatDoor
open Go Go.Av Go.RowKit

theorem wrap64 {n : Int} (h0 : 0 ≤ n) (h1 : n < 9223372036854775808) : IntKind.u64.wrap n = n := by
  simp [IntKind.wrap, IntKind.bits, IntKind.signed]; omega
set_option maxHeartbeats 8000000 in
theorem symMerge_one (l : List De) (a b : Nat) (h2 : a + 1 < b) (h3 : b ≤ l.length) (hl : l.length < 1000000) :
    Ct Tryz.prog 176 [.sl 0 0 l.length l.length, .int .i64 a, .int .i64 ((a + 1 : Nat) : Int), .int .i64 b, .fn (.func 77) []] [.arr 7 (l.map deA)] (SortR l) := by
  have d0 : (((a + 1 : Nat) : Int) - (a : Int) == 1) = true := by simp; omega
  refine ct_intro Tryz.func176 rfl Tryz.ntmps176 hB176 (by simp) fun h ρ w => goB (N := 220) Tryz.ntmps176 300 ?_
  simp only [go_sem, d0]
  repeat refine And.intro (by omega) ?_
  refine aloop (ι := Nat × Nat) (fun y => y.2 - y.1) (fun y => [(11, .int .i64 y.2), (10, .int .i64 y.1), (4, .fn (.func 77) []), (1, .int .i64 a), (0, .sl 0 0 l.length l.length)]) (fun y => [.arr 7 (l.map deA)])
    (fun y => a + 1 ≤ y.1 ∧ y.1 ≤ y.2 ∧ y.2 ≤ b) (a + 1, b) ⟨by simp, by simp only; omega, by simp⟩ ?_ ?_
  · refine Shift.weakS ?_ rfl
    simp only [wk, go_sem]
  · rintro ⟨i, j⟩ ⟨g1, g2, g3⟩ J hJ
    simp only at g1 g2 g3 hJ ⊢
    by_cases hij : i < j
    · have di : decide ((i : Int) < (j : Int)) = true := by simp; omega
      obtain ⟨c, hc⟩ : ∃ c, c = (i + j) / 2 := ⟨_, rfl⟩
      have e1 : ((i : Int) + (j : Int)) / 2 = (c : Int) := by omega
      have e2 : ((c : Int)).toNat = c := by omega
      have e3 : ((a : Int)).toNat = a := by omega
      have p1 := deA_get l c (by omega)
      have p2 := deA_get l a (by omega)
      have hc2 := joinFn_pc (l[c]'(by omega)) (l[a]'(by omega))
      simp only [deA] at hc2
      refine goB (N := 220) Tryz.ntmps176 300 ?_
      simp only [go_sem, di, e1]
      repeat refine And.intro (by first | omega | rfl | exact wrap64 (by omega) (by omega) | (simp; done) | (simp [inr]; omega)) ?_
      refine adraw [.int .i64 (stCmp (l[c]'(by omega)).st (l[a]'(by omega)).st)] mixed (by decide) (N := 220) Tryz.ntmps176 (by decide) 100 ?_
      cases dc : decide (stCmp (l[c]'(by omega)).st (l[a]'(by omega)).st < 0) with
      | true =>
        have hfin := hJ (c + 1, j) ⟨by simp only; omega, by simp only; omega, g3⟩ (by simp only; omega)
        simp only [go_sem, e2, e3, p1, p2, dc, List.length_map]
        repeat refine And.intro (by first | exact hc2.at | omega | rfl | (simp; done) | (simp; omega)) ?_
        refine goB (N := 220) Tryz.ntmps176 300 ?_
        simp only [go_sem]
        repeat refine And.intro (by omega) ?_
        rw [show (c : Int) + 1 = ((c + 1 : Nat) : Int) by omega]
        refine ainv hfin (Shift.weakS ?_ rfl)
        simp only [wk, go_sem]
      | false =>
        have hfin := hJ (i, c) ⟨g1, by simp only; omega, by simp only; omega⟩ (by simp only; omega)
        simp only [go_sem, e2, e3, p1, p2, dc, List.length_map]
        repeat refine And.intro (by first | exact hc2.at | omega | rfl | (simp; done) | (simp; omega)) ?_
        refine goB (N := 220) Tryz.ntmps176 300 ?_
        simp only [go_sem]
        refine ainv hfin (Shift.weakS ?_ rfl)
        simp only [wk, go_sem]
    · have di : decide ((i : Int) < (j : Int)) = false := by simp; omega
      refine goB (N := 220) Tryz.ntmps176 300 ?_
      simp only [go_sem, di]
      clear hJ J
      refine aloop (ι := Nat × List De) (fun y => i - y.1) (fun y => [(13, .int .i64 y.1), (10, .int .i64 i), (0, .sl 0 0 l.length l.length)]) (fun y => [.arr 7 (y.2.map deA)])
        (fun y => y.2.Perm l) (a, l) (.refl _) ?_ ?_
      · refine Shift.weakS ?_ rfl
        simp only [wk, go_sem]
      · rintro ⟨k, q⟩ g5 J hJ
        simp only at g5 hJ ⊢
        have hq := g5.length_eq
        by_cases hk : k + 1 < i
        · have dk : decide ((k : Int) < (i : Int) - 1) = true := by simp; omega
          have e1 : ((k : Int) + 1).toNat = k + 1 := by omega
          have e2 : ((k : Int)).toNat = k := by omega
          have p1 := deA_get q (k + 1) (by omega)
          have p2 := deA_get q k (by omega)
          have p3 := deA_get (q.set k (q[k + 1]'(by omega))) (k + 1) (by simp; omega)
          have s1 := set_deA q k (q[k + 1]'(by omega))
          have s2 := set_deA (q.set k (q[k + 1]'(by omega))) (k + 1) (q[k]'(by omega))
          have hfin := hJ (k + 1, _) (swap_perm g5 (i := k) (j := k + 1) (by omega) (by omega)) (by simp only; omega)
          refine goB (N := 220) Tryz.ntmps176 300 ?_
          simp only [go_sem, dk]
          repeat refine And.intro (by omega) ?_
          refine adrawS [] mixed (by decide) (N := 220) Tryz.ntmps176 (by decide) 100 ?_
          simp only [go_sem, e1, e2, p1, p2, p3, s1, s2, List.length_map, List.length_set]
          repeat refine And.intro (by first | omega | rfl | (simp; done) | (simp; omega)) ?_
          refine goB (N := 220) Tryz.ntmps176 300 ?_
          simp only [go_sem]
          repeat refine And.intro (by first | omega | rfl | (simp; done) | (simp; omega)) ?_
          rw [show (k : Int) + 1 = ((k + 1 : Nat) : Int) by omega]
          refine ainv hfin (Shift.weakS ?_ rfl)
          simp only [wk, go_sem]
        · have dk : decide ((k : Int) < (i : Int) - 1) = false := by simp; omega
          refine goB (N := 220) Tryz.ntmps176 300 ?_
          simp only [go_sem, dk]
          repeat refine And.intro (by omega) ?_
          exact aret [] rfl ⟨rfl, q, rfl, g5⟩

set_option maxHeartbeats 8000000 in
theorem symMerge_last (l : List De) (a m : Nat) (h2 : a + 1 < m) (h3 : m + 1 ≤ l.length) (hl : l.length < 1000000) :
    Ct Tryz.prog 176 [.sl 0 0 l.length l.length, .int .i64 a, .int .i64 m, .int .i64 ((m + 1 : Nat) : Int), .fn (.func 77) []] [.arr 7 (l.map deA)] (SortR l) := by
  have d0 : ((m : Int) - (a : Int) == 1) = false := by simp; omega
  have d00 : (((m + 1 : Nat) : Int) - (m : Int) == 1) = true := by simp; omega
  refine ct_intro Tryz.func176 rfl Tryz.ntmps176 hB176 (by simp) fun h ρ w => goB (N := 220) Tryz.ntmps176 300 ?_
  simp only [go_sem, d0, d00]
  repeat refine And.intro (by omega) ?_
  refine aloop (ι := Nat × Nat) (fun y => y.2 - y.1) (fun y => [(15, .int .i64 y.2), (14, .int .i64 y.1), (4, .fn (.func 77) []), (2, .int .i64 m), (0, .sl 0 0 l.length l.length)]) (fun y => [.arr 7 (l.map deA)])
    (fun y => y.1 ≤ y.2 ∧ y.2 ≤ m) (a, m) ⟨by simp only; omega, by simp⟩ ?_ ?_
  · refine Shift.weakS ?_ rfl
    simp only [wk, go_sem]
  · rintro ⟨i, j⟩ ⟨g2, g3⟩ J hJ
    simp only at g2 g3 hJ ⊢
    by_cases hij : i < j
    · have di : decide ((i : Int) < (j : Int)) = true := by simp; omega
      obtain ⟨c, hc⟩ : ∃ c, c = (i + j) / 2 := ⟨_, rfl⟩
      have e1 : ((i : Int) + (j : Int)) / 2 = (c : Int) := by omega
      have e2 : ((c : Int)).toNat = c := by omega
      have e3 : ((m : Int)).toNat = m := by omega
      have p1 := deA_get l c (by omega)
      have p2 := deA_get l m (by omega)
      have hc2 := joinFn_pc (l[m]'(by omega)) (l[c]'(by omega))
      simp only [deA] at hc2
      refine goB (N := 220) Tryz.ntmps176 300 ?_
      simp only [go_sem, di, e1]
      repeat refine And.intro (by first | omega | rfl | exact wrap64 (by omega) (by omega) | (simp; done) | (simp [inr]; omega)) ?_
      refine adraw [.int .i64 (stCmp (l[m]'(by omega)).st (l[c]'(by omega)).st)] mixed (by decide) (N := 220) Tryz.ntmps176 (by decide) 100 ?_
      cases dc : decide (stCmp (l[m]'(by omega)).st (l[c]'(by omega)).st < 0) with
      | false =>
        have hfin := hJ (c + 1, j) ⟨by simp only; omega, g3⟩ (by simp only; omega)
        simp only [go_sem, e2, e3, p1, p2, dc, List.length_map]
        repeat refine And.intro (by first | exact hc2.at | omega | rfl | (simp; done) | (simp; omega)) ?_
        refine goB (N := 220) Tryz.ntmps176 300 ?_
        simp only [go_sem]
        repeat refine And.intro (by omega) ?_
        rw [show (c : Int) + 1 = ((c + 1 : Nat) : Int) by omega]
        refine ainv hfin (Shift.weakS ?_ rfl)
        simp only [wk, go_sem]
      | true =>
        have hfin := hJ (i, c) ⟨by simp only; omega, by simp only; omega⟩ (by simp only; omega)
        simp only [go_sem, e2, e3, p1, p2, dc, List.length_map]
        repeat refine And.intro (by first | exact hc2.at | omega | rfl | (simp; done) | (simp; omega)) ?_
        refine goB (N := 220) Tryz.ntmps176 300 ?_
        simp only [go_sem]
        refine ainv hfin (Shift.weakS ?_ rfl)
        simp only [wk, go_sem]
    · have di : decide ((i : Int) < (j : Int)) = false := by simp; omega
      refine goB (N := 220) Tryz.ntmps176 300 ?_
      simp only [go_sem, di]
      clear hJ J
      refine aloop (ι := Nat × List De) (fun y => y.1) (fun y => [(17, .int .i64 y.1), (14, .int .i64 i), (0, .sl 0 0 l.length l.length)]) (fun y => [.arr 7 (y.2.map deA)])
        (fun y => y.1 ≤ m ∧ y.2.Perm l) (m, l) ⟨by simp, .refl _⟩ ?_ ?_
      · refine Shift.weakS ?_ rfl
        simp only [wk, go_sem]
      · rintro ⟨k, q⟩ ⟨g6, g5⟩ J hJ
        simp only at g6 g5 hJ ⊢
        have hq := g5.length_eq
        by_cases hk : i < k
        · have dk : decide ((k : Int) > (i : Int)) = true := by simp; omega
          have e1 : ((k : Int) - 1).toNat = k - 1 := by omega
          have e2 : ((k : Int)).toNat = k := by omega
          have p1 := deA_get q (k - 1) (by omega)
          have p2 := deA_get q k (by omega)
          have p3 := deA_get (q.set k (q[k - 1]'(by omega))) (k - 1) (by simp; omega)
          have s1 := set_deA q k (q[k - 1]'(by omega))
          have s2 := set_deA (q.set k (q[k - 1]'(by omega))) (k - 1) (q[k]'(by omega))
          have hfin := hJ (k - 1, _) ⟨by simp only; omega, swap_perm g5 (i := k) (j := k - 1) (by omega) (by omega)⟩ (by simp only; omega)
          refine goB (N := 220) Tryz.ntmps176 300 ?_
          simp only [go_sem, dk]
          refine adrawS [] mixed (by decide) (N := 220) Tryz.ntmps176 (by decide) 100 ?_
          simp only [go_sem, e1, e2, p1, p2, p3, s1, s2, List.length_map, List.length_set]
          repeat refine And.intro (by first | omega | rfl | (simp; done) | (simp; omega)) ?_
          refine goB (N := 220) Tryz.ntmps176 300 ?_
          simp only [go_sem]
          repeat refine And.intro (by first | omega | rfl | (simp; done) | (simp; omega)) ?_
          rw [show (k : Int) - 1 = ((k - 1 : Nat) : Int) by omega]
          refine ainv hfin (Shift.weakS ?_ rfl)
          simp only [wk, go_sem]
        · have dk : decide ((k : Int) > (i : Int)) = false := by simp; omega
          refine goB (N := 220) Tryz.ntmps176 300 ?_
          simp only [go_sem, dk]
          exact aret [] rfl ⟨rfl, q, rfl, g5⟩
end Go.Proofs.YtkomcdohejibmaaGreatDoor
