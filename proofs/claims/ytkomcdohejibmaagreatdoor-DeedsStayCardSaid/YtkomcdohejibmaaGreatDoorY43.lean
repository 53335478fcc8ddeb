/- SortStableFunc at deeds, told exactly: swaps, rotations, insertions. Own work of this seat. -/
import Derived.Test.YtkomcdohejibmaaGreatDoorY42
import Derived.Test.YtkomcdohejibmaaGreatDoorY22
set_option maxRecDepth 100000
set_option linter.unusedSimpArgs false
set_option linter.unusedVariables false
namespace Go.Proofs.YtkomcdohejibmaaGreatDoor
open Go Go.Av Go.RowKit

def SortE (l : List De) (r : AV) (s : List Blk) : Prop := r = .tup [] ∧ s = [.arr 7 (l.map deA)]
def d00 : De := ⟨⟨[], 0⟩, [], 0, [], [], []⟩
theorem atD {q : List De} {i : Nat} (h : i < q.length) : q.getD i d00 = q[i] := by simp [List.getD, h]
def swF (a b n : Nat) : Nat → List De → List De
  | 0, q => q
  | k + 1, q => swF a b n k ((q.set (a + (n - (k + 1))) (q.getD (b + (n - (k + 1))) d00)).set (b + (n - (k + 1))) (q.getD (a + (n - (k + 1))) d00))
def swp4 (a b n : Nat) (q : List De) : List De := swF a b n n q
theorem swF_perm (a b n : Nat) : ∀ (k : Nat) (q : List De), k ≤ n → a + n ≤ q.length → b + n ≤ q.length → (swF a b n k q).Perm q
  | 0, q, _, _, _ => .refl _
  | k + 1, q, hk, h1, h2 => by
    rw [swF, atD (by omega), atD (by omega)]
    exact (swF_perm a b n k _ (by omega) (by simp; omega) (by simp; omega)).trans (List.set_set_perm (by omega) (by omega))
theorem swp4_perm (a b n : Nat) (q : List De) (h1 : a + n ≤ q.length) (h2 : b + n ≤ q.length) : (swp4 a b n q).Perm q := swF_perm a b n n q (Nat.le_refl _) h1 h2
def rotF (m : Nat) : Nat → Nat → Nat → List De → List De
  | 0, _, _, q => q
  | f + 1, i, j, q => if i = j then swp4 (m - i) m i q else if j < i then rotF m f (i - j) j (swp4 (m - i) m j q) else rotF m f i (j - i) (swp4 (m - i) (m + j - i) i q)
theorem rotF_perm (m : Nat) : ∀ (f i j : Nat) (q : List De), i ≤ m → m + j ≤ q.length → (rotF m f i j q).Perm q
  | 0, _, _, q, _, _ => .refl _
  | f + 1, i, j, q, h1, h2 => by
    rw [rotF]
    split
    · exact swp4_perm _ _ _ _ (by omega) (by omega)
    · split
      · have hp := swp4_perm (m - i) m j q (by omega) (by omega)
        exact (rotF_perm m f (i - j) j _ (by omega) (by rw [hp.length_eq]; omega)).trans hp
      · have hp := swp4_perm (m - i) (m + j - i) i q (by omega) (by omega)
        exact (rotF_perm m f i (j - i) _ h1 (by rw [hp.length_eq]; omega)).trans hp
def insF (a : Nat) : Nat → Nat → List De → List De
  | 0, _, q => q
  | f + 1, j, q => if a < j ∧ stCmp (q.getD j d00).st (q.getD (j - 1) d00).st < 0 then insF a f (j - 1) ((q.set j (q.getD (j - 1) d00)).set (j - 1) (q.getD j d00)) else q
def isF (a b : Nat) : Nat → Nat → List De → List De
  | 0, _, q => q
  | f + 1, i, q => if i < b then isF a b f (i + 1) (insF a i i q) else q
theorem swapRangeX (l : List De) (a b n : Nat) (f : FuncId) (h1 : a + n ≤ l.length) (h2 : b + n ≤ l.length) (hl : l.length < 1000000) :
    Ct Tryz.prog 229 [.sl 0 0 l.length l.length, .int .i64 a, .int .i64 b, .int .i64 n, .fn (.func f) []] [.arr 7 (l.map deA)] (SortE (swp4 a b n l)) := by
  refine ct_intro Tryz.func229 rfl Tryz.ntmps229 hB229 (by simp) fun h ρ w => goB (N := 38) Tryz.ntmps229 300 ?_
  simp only [go_sem]
  refine aloop (ι := Nat × List De) (fun y => n - y.1) (fun y => [(10, .int .i64 y.1), (3, .int .i64 n), (2, .int .i64 b), (1, .int .i64 a), (0, .sl 0 0 l.length l.length)]) (fun y => [.arr 7 (y.2.map deA)])
    (fun y => y.1 ≤ n ∧ y.2.Perm l ∧ swF a b n (n - y.1) y.2 = swp4 a b n l) (0, l) ⟨by simp, .refl _, rfl⟩ ?_ ?_
  · refine Shift.weakS ?_ rfl
    simp only [wk, go_sem]
  · rintro ⟨i, q⟩ ⟨g1, g2, g3⟩ J hJ
    simp only at g1 g2 g3 hJ ⊢
    have hq := g2.length_eq
    by_cases gi : i < n
    · have di : decide ((i : Int) < (n : Int)) = true := by simp; omega
      have e1 : ((a : Int) + (i : Int)).toNat = a + i := by omega
      have e2 : ((b : Int) + (i : Int)).toNat = b + i := by omega
      have p1 := deA_get q (a + i) (by omega)
      have p2 := deA_get q (b + i) (by omega)
      have p3 := deA_get (q.set (a + i) (q[b + i]'(by omega))) (b + i) (by simp; omega)
      have s1 := set_deA q (a + i) (q[b + i]'(by omega))
      have s2 := set_deA (q.set (a + i) (q[b + i]'(by omega))) (b + i) (q[a + i]'(by omega))
      have hfin := hJ (i + 1, _) ⟨by simp only; omega, swap_perm g2 (i := a + i) (j := b + i) (by omega) (by omega), by
        simp only
        rw [show n - i = (n - (i + 1)) + 1 by omega, swF, show n - (n - (i + 1) + 1) = i by omega, atD (by omega), atD (by omega)] at g3
        exact g3⟩ (by simp only; omega)
      refine goB (N := 38) Tryz.ntmps229 300 ?_
      simp only [go_sem, di]
      refine adrawS [] mixed (by decide) (N := 38) Tryz.ntmps229 (by decide) 100 ?_
      simp only [go_sem, e1, e2, p1, p2, p3, s1, s2, List.length_map, List.length_set]
      repeat refine And.intro (by first | omega | rfl | (simp; done) | (simp; omega)) ?_
      refine goB (N := 38) Tryz.ntmps229 300 ?_
      simp only [go_sem]
      repeat refine And.intro (by first | omega | rfl | (simp; done) | (simp; omega)) ?_
      rw [show (i : Int) + 1 = ((i + 1 : Nat) : Int) by omega]
      refine ainv hfin (Shift.weakS ?_ rfl)
      simp only [wk, go_sem]
    · have di : decide ((i : Int) < (n : Int)) = false := by simp; omega
      refine goB (N := 38) Tryz.ntmps229 300 ?_
      simp only [go_sem, di]
      refine aret [] rfl ⟨rfl, ?_⟩
      rw [show n - i = 0 by omega, swF] at g3
      rw [← g3]

theorem rotateX (l : List De) (a m b : Nat) (f : FuncId) (h1 : a < m) (h2 : m < b) (h3 : b ≤ l.length) (hl : l.length < 1000000) :
    Ct Tryz.prog 208 [.sl 0 0 l.length l.length, .int .i64 a, .int .i64 m, .int .i64 b, .fn (.func f) []] [.arr 7 (l.map deA)] (SortE (rotF m (b - a) (m - a) (b - m) l)) := by
  refine ct_intro Tryz.func208 rfl Tryz.ntmps208 hB208 (by simp) fun h ρ w => goB (N := 58) Tryz.ntmps208 300 ?_
  simp only [go_sem]
  repeat refine And.intro (by omega) ?_
  rw [show (m : Int) - (a : Int) = ((m - a : Nat) : Int) by omega, show (b : Int) - (m : Int) = ((b - m : Nat) : Int) by omega]
  refine aloop (ι := Nat × Nat × List De) (fun y => y.1 + y.2.1) (fun y => [(11, .int .i64 y.2.1), (10, .int .i64 y.1), (4, .fn (.func f) []), (2, .int .i64 m), (0, .sl 0 0 l.length l.length)]) (fun y => [.arr 7 (y.2.2.map deA)])
    (fun y => 0 < y.1 ∧ 0 < y.2.1 ∧ y.1 ≤ m ∧ m + y.2.1 ≤ l.length ∧ y.2.2.Perm l ∧ ∃ f, y.1 + y.2.1 ≤ f ∧ rotF m f y.1 y.2.1 y.2.2 = rotF m (b - a) (m - a) (b - m) l) (m - a, b - m, l) ⟨by simp only; omega, by simp only; omega, by simp only; omega, by simp only; omega, .refl _, b - a, by simp only; omega, rfl⟩ ?_ ?_
  · refine Shift.weakS ?_ rfl
    simp only [wk, go_sem]
  · rintro ⟨i, j, q⟩ ⟨g1, g2, g3, g4, g5, f0, g6, g7⟩ J hJ
    simp only at g1 g2 g3 g4 g5 g6 g7 hJ ⊢
    obtain ⟨f1, rfl⟩ : ∃ f1, f0 = f1 + 1 := ⟨f0 - 1, by omega⟩
    rw [rotF] at g7
    have hq := g5.length_eq
    by_cases hij : i = j
    · have dj : ((i : Int) != (j : Int)) = false := by simp; omega
      have hc := swapRangeX q (m - i) m i f (by omega) (by omega) (by omega)
      rw [show ((m - i : Nat) : Int) = (m : Int) - (i : Int) by omega, hq] at hc
      refine goB (N := 58) Tryz.ntmps208 300 ?_
      simp only [go_sem, dj]
      repeat refine And.intro (by omega) ?_
      refine acall (hc) (N := 58) Tryz.ntmps208 rfl ?_
      rintro _ _ ⟨rfl, rfl⟩
      refine goB (N := 58) Tryz.ntmps208 300 ?_
      simp only [go_sem]
      refine aret [] rfl ⟨rfl, ?_⟩
      rw [if_pos hij] at g7
      rw [← g7]
    · have dj : ((i : Int) != (j : Int)) = true := by simp; omega
      by_cases hlt : j < i
      · have dg : decide ((i : Int) > (j : Int)) = true := by simp; omega
        have hc := swapRangeX q (m - i) m j f (by omega) (by omega) (by omega)
        rw [show ((m - i : Nat) : Int) = (m : Int) - (i : Int) by omega, hq] at hc
        refine goB (N := 58) Tryz.ntmps208 300 ?_
        simp only [go_sem, dj, dg]
        repeat refine And.intro (by omega) ?_
        refine acall (hc) (N := 58) Tryz.ntmps208 rfl ?_
        rintro _ _ ⟨rfl, rfl⟩
        rw [if_neg hij, if_pos hlt] at g7
        have hfin := hJ (i - j, j, _) ⟨by simp only; omega, g2, by simp only; omega, by simp only; omega, (swp4_perm _ _ _ _ (by omega) (by omega)).trans g5, f1, by simp only; omega, g7⟩ (by simp only; omega)
        refine goB (N := 58) Tryz.ntmps208 300 ?_
        simp only [go_sem]
        repeat refine And.intro (by omega) ?_
        rw [show (i : Int) - (j : Int) = ((i - j : Nat) : Int) by omega]
        refine ainv hfin (Shift.weakS ?_ rfl)
        simp only [wk, go_sem]
      · have dg : decide ((i : Int) > (j : Int)) = false := by simp; omega
        have hc := swapRangeX q (m - i) (m + j - i) i f (by omega) (by omega) (by omega)
        rw [show ((m - i : Nat) : Int) = (m : Int) - (i : Int) by omega, show ((m + j - i : Nat) : Int) = (m : Int) + (j : Int) - (i : Int) by omega, hq] at hc
        refine goB (N := 58) Tryz.ntmps208 300 ?_
        simp only [go_sem, dj, dg]
        repeat refine And.intro (by omega) ?_
        refine acall (hc) (N := 58) Tryz.ntmps208 rfl ?_
        rintro _ _ ⟨rfl, rfl⟩
        rw [if_neg hij, if_neg hlt] at g7
        have hfin := hJ (i, j - i, _) ⟨g1, by simp only; omega, g3, by simp only; omega, (swp4_perm _ _ _ _ (by omega) (by omega)).trans g5, f1, by simp only; omega, g7⟩ (by simp only; omega)
        refine goB (N := 58) Tryz.ntmps208 300 ?_
        simp only [go_sem]
        repeat refine And.intro (by omega) ?_
        rw [show (j : Int) - (i : Int) = ((j - i : Nat) : Int) by omega]
        refine ainv hfin (Shift.weakS ?_ rfl)
        simp only [wk, go_sem]

theorem insertionSortX (l : List De) (a b : Nat) (h2 : a ≤ b) (h3 : b ≤ l.length) (hl : l.length < 1000000) :
    Ct Tryz.prog 142 [.sl 0 0 l.length l.length, .int .i64 a, .int .i64 b, .fn (.func 77) []] [.arr 7 (l.map deA)] (SortE (isF a b (b + 1 - (a + 1)) (a + 1) l)) := by
  refine ct_intro Tryz.func142 rfl Tryz.ntmps142 hB142 (by simp) fun h ρ w => goB (N := 53) Tryz.ntmps142 300 ?_
  simp only [go_sem]
  repeat refine And.intro (by omega) ?_
  rw [show (a : Int) + 1 = ((a + 1 : Nat) : Int) by omega]
  refine aloop (ι := Nat × List De) (fun y => b + 1 - y.1) (fun y => [(8, .int .i64 y.1), (3, .fn (.func 77) []), (2, .int .i64 b), (1, .int .i64 a), (0, .sl 0 0 l.length l.length)]) (fun y => [.arr 7 (y.2.map deA)])
    (fun y => a + 1 ≤ y.1 ∧ y.2.Perm l ∧ isF a b (b + 1 - y.1) y.1 y.2 = isF a b (b + 1 - (a + 1)) (a + 1) l) (a + 1, l) ⟨by simp, .refl _, rfl⟩ ?_ ?_
  · refine Shift.weakS ?_ rfl
    simp only [wk, go_sem]
  · rintro ⟨i, q⟩ ⟨g1, g2, g3⟩ J hJ
    simp only at g1 g2 g3 hJ ⊢
    by_cases gi : i < b
    · have di : decide ((i : Int) < (b : Int)) = true := by simp; omega
      refine goB (N := 53) Tryz.ntmps142 300 ?_
      simp only [go_sem, di]
      refine aloop (ι := Nat × List De) (fun y => y.1) (fun y => [(9, .int .i64 y.1), (8, .int .i64 i), (3, .fn (.func 77) []), (2, .int .i64 b), (1, .int .i64 a), (0, .sl 0 0 l.length l.length)]) (fun y => [.arr 7 (y.2.map deA)])
        (fun y => a ≤ y.1 ∧ y.1 ≤ i ∧ y.2.Perm l ∧ ∃ f, y.1 ≤ f ∧ insF a f y.1 y.2 = insF a i i q) (i, q) ⟨by simp only; omega, by simp, g2, i, Nat.le_refl _, rfl⟩ ?_ ?_
      · refine Shift.weakS ?_ rfl
        simp only [wk, go_sem]
      · rintro ⟨j, p⟩ ⟨k1, k2, k3, f0, k4, k5⟩ K hK
        simp only at k1 k2 k3 k4 k5 hK ⊢
        have hgo : insF a i i q = p → isF a b (b + 1 - (i + 1)) (i + 1) p = isF a b (b + 1 - (a + 1)) (a + 1) l := fun e => by
          rw [show b + 1 - i = (b + 1 - (i + 1)) + 1 by omega, isF, if_pos gi, e] at g3
          exact g3
        have hq := k3.length_eq
        by_cases hja : a < j
        · obtain ⟨f1, rfl⟩ : ∃ f1, f0 = f1 + 1 := ⟨f0 - 1, by omega⟩
          have dj : decide ((j : Int) > (a : Int)) = true := by simp; omega
          have e1 : ((j : Int) - 1).toNat = j - 1 := by omega
          have p1 := deA_get p j (by omega)
          have p2 := deA_get p (j - 1) (by omega)
          have hc := joinFn_pc (p[j]'(by omega)) (p[j - 1]'(by omega))
          simp only [deA] at hc
          refine goB (N := 53) Tryz.ntmps142 300 ?_
          simp only [go_sem]
          refine adraw [.int .i64 (stCmp (p[j]'(by omega)).st (p[j - 1]'(by omega)).st)] mixed (by decide) (N := 53) Tryz.ntmps142 (by decide) 100 ?_
          cases dc : decide (stCmp (p[j]'(by omega)).st (p[j - 1]'(by omega)).st < 0) with
          | true =>
            have p3 := deA_get (p.set j (p[j - 1]'(by omega))) (j - 1) (by simp; omega)
            have s1 := set_deA p j (p[j - 1]'(by omega))
            have s2 := set_deA (p.set j (p[j - 1]'(by omega))) (j - 1) (p[j]'(by omega))
            have hfin := hK (j - 1, _) ⟨by simp only; omega, by simp only; omega, swap_perm k3 (i := j) (j := j - 1) (by omega) (by omega), f1, by simp only; omega, by
              rw [insF, atD (by omega), atD (by omega), if_pos ⟨hja, of_decide_eq_true dc⟩] at k5
              exact k5⟩ (by simp only; omega)
            simp only [go_sem, dj, e1, p1, p2, dc, List.length_map]
            repeat refine And.intro (by first | exact hc.at | omega | rfl | (simp; done) | (simp; omega)) ?_
            refine goB (N := 53) Tryz.ntmps142 300 ?_
            simp only [go_sem]
            refine adrawS [] mixed (by decide) (N := 53) Tryz.ntmps142 (by decide) 100 ?_
            simp only [go_sem, e1, p1, p2, p3, s1, s2, List.length_map, List.length_set]
            repeat refine And.intro (by first | omega | rfl | (simp; done) | (simp; omega)) ?_
            refine goB (N := 53) Tryz.ntmps142 300 ?_
            simp only [go_sem]
            repeat refine And.intro (by first | omega | rfl | (simp; done) | (simp; omega)) ?_
            rw [show (j : Int) - 1 = ((j - 1 : Nat) : Int) by omega]
            refine ainv hfin (Shift.weakS ?_ rfl)
            simp only [wk, go_sem]
          | false =>
            rw [insF, atD (by omega), atD (by omega), if_neg (fun h => of_decide_eq_false dc h.2)] at k5
            have hfin := hJ (i + 1, p) ⟨by simp only; omega, k3, hgo k5.symm⟩ (by simp only; omega)
            simp only [go_sem, dj, e1, p1, p2, dc, List.length_map]
            repeat refine And.intro (by first | exact hc.at | omega | rfl | (simp; done) | (simp; omega)) ?_
            refine goB (N := 53) Tryz.ntmps142 300 ?_
            simp only [go_sem]
            repeat refine And.intro (by first | omega | rfl | (simp; done) | (simp; omega)) ?_
            rw [show (i : Int) + 1 = ((i + 1 : Nat) : Int) by omega]
            refine ainv hfin (Shift.weakS ?_ rfl)
            simp only [wk, go_sem]
        · have dj : decide ((j : Int) > (a : Int)) = false := by simp; omega
          have k6 : insF a f0 j p = p := by
            cases f0 with
            | zero => rfl
            | succ f => rw [insF, if_neg (fun h => hja h.1)]
          have hfin := hJ (i + 1, p) ⟨by simp only; omega, k3, hgo (by rw [← k5, k6])⟩ (by simp only; omega)
          refine goB (N := 53) Tryz.ntmps142 300 ?_
          simp only [go_sem]
          refine adraw [.any] mixed (by decide) (N := 53) Tryz.ntmps142 (by decide) 100 ?_
          simp only [go_sem, dj]
          repeat refine And.intro (by first | omega | rfl | (simp; done) | (simp; omega)) ?_
          refine goB (N := 53) Tryz.ntmps142 300 ?_
          simp only [go_sem]
          repeat refine And.intro (by first | omega | rfl | (simp; done) | (simp; omega)) ?_
          rw [show (i : Int) + 1 = ((i + 1 : Nat) : Int) by omega]
          refine ainv hfin (Shift.weakS ?_ rfl)
          simp only [wk, go_sem]
    · have di : decide ((i : Int) < (b : Int)) = false := by simp; omega
      refine goB (N := 53) Tryz.ntmps142 300 ?_
      simp only [go_sem, di]
      have g4 : isF a b (b + 1 - i) i q = q := by
        cases b + 1 - i with
        | zero => rfl
        | succ f => rw [isF, if_neg gi]
      exact aret [] rfl ⟨rfl, by rw [← g3, g4]⟩
end Go.Proofs.YtkomcdohejibmaaGreatDoor
/- symMerge at deeds, told exactly: one element. Own work of this seat. -/
set_option maxRecDepth 100000
set_option linter.unusedSimpArgs false
set_option linter.unusedVariables false
namespace Go.Proofs.YtkomcdohejibmaaGreatDoor
open Go Go.Av Go.RowKit

/-- a binary search -/
def bsF (P : Nat → Bool) : Nat → Nat → Nat → Nat
  | 0, i, _ => i
  | f + 1, i, j => if i < j then (if P ((i + j) / 2) = true then bsF P f ((i + j) / 2 + 1) j else bsF P f i ((i + j) / 2)) else i
theorem bsF_end {P : Nat → Bool} {f i j : Nat} (h : ¬ i < j) : bsF P f i j = i := by
  cases f with
  | zero => rfl
  | succ f => rw [bsF, if_neg h]
theorem bsF_bd (P : Nat → Bool) : ∀ (f i j : Nat), i ≤ j → i ≤ bsF P f i j ∧ bsF P f i j ≤ j
  | 0, i, j, h => ⟨Nat.le_refl _, h⟩
  | f + 1, i, j, h => by
    rw [bsF]
    split
    · split
      · have := bsF_bd P f ((i + j) / 2 + 1) j (by omega)
        omega
      · have := bsF_bd P f i ((i + j) / 2) (by omega)
        omega
    · omega
def upF (i : Nat) : Nat → Nat → List De → List De
  | 0, _, q => q
  | f + 1, k, q => if k + 1 < i then upF i f (k + 1) ((q.set k (q.getD (k + 1) d00)).set (k + 1) (q.getD k d00)) else q
theorem upF_end {i f k : Nat} {q : List De} (h : ¬ k + 1 < i) : upF i f k q = q := by
  cases f with
  | zero => rfl
  | succ f => rw [upF, if_neg h]
theorem upF_perm (i : Nat) : ∀ (f k : Nat) (q : List De), i ≤ q.length → (upF i f k q).Perm q
  | 0, _, q, _ => .refl _
  | f + 1, k, q, h => by
    rw [upF]
    split
    · rw [atD (by omega), atD (by omega)]
      exact (upF_perm i f (k + 1) _ (by simp; omega)).trans (List.set_set_perm (by omega) (by omega))
    · exact .refl _
def dnF (i : Nat) : Nat → Nat → List De → List De
  | 0, _, q => q
  | f + 1, k, q => if i < k then dnF i f (k - 1) ((q.set k (q.getD (k - 1) d00)).set (k - 1) (q.getD k d00)) else q
theorem dnF_end {i f k : Nat} {q : List De} (h : ¬ i < k) : dnF i f k q = q := by
  cases f with
  | zero => rfl
  | succ f => rw [dnF, if_neg h]
theorem dnF_perm (i : Nat) : ∀ (f k : Nat) (q : List De), k < q.length → (dnF i f k q).Perm q
  | 0, _, q, _ => .refl _
  | f + 1, k, q, h => by
    rw [dnF]
    split
    · rw [atD (by omega), atD (by omega)]
      exact (dnF_perm i f (k - 1) _ (by simp; omega)).trans (List.set_set_perm (by omega) (by omega))
    · exact .refl _
set_option maxHeartbeats 8000000 in
theorem symMerge_oneX (l : List De) (a b : Nat) (h2 : a + 1 < b) (h3 : b ≤ l.length) (hl : l.length < 1000000) :
    Ct Tryz.prog 176 [.sl 0 0 l.length l.length, .int .i64 a, .int .i64 ((a + 1 : Nat) : Int), .int .i64 b, .fn (.func 77) []] [.arr 7 (l.map deA)] (SortE (upF (bsF (fun c => decide (stCmp (l.getD c d00).st (l.getD a d00).st < 0)) b (a + 1) b) b a l)) := by
  have d0 : (((a + 1 : Nat) : Int) - (a : Int) == 1) = true := by simp; omega
  refine ct_intro Tryz.func176 rfl Tryz.ntmps176 hB176 (by simp) fun h ρ w => goB (N := 220) Tryz.ntmps176 300 ?_
  simp only [go_sem, d0]
  repeat refine And.intro (by omega) ?_
  refine aloop (ι := Nat × Nat) (fun y => y.2 - y.1) (fun y => [(11, .int .i64 y.2), (10, .int .i64 y.1), (4, .fn (.func 77) []), (1, .int .i64 a), (0, .sl 0 0 l.length l.length)]) (fun y => [.arr 7 (l.map deA)])
    (fun y => a + 1 ≤ y.1 ∧ y.1 ≤ y.2 ∧ y.2 ≤ b ∧ ∃ f, y.2 - y.1 ≤ f ∧ bsF (fun c => decide (stCmp (l.getD c d00).st (l.getD a d00).st < 0)) f y.1 y.2 = bsF (fun c => decide (stCmp (l.getD c d00).st (l.getD a d00).st < 0)) b (a + 1) b) (a + 1, b) ⟨by simp, by simp only; omega, by simp, b, by simp only; omega, rfl⟩ ?_ ?_
  · refine Shift.weakS ?_ rfl
    simp only [wk, go_sem]
  · rintro ⟨i, j⟩ ⟨g1, g2, g3, f0, f1, f2⟩ J hJ
    simp only at g1 g2 g3 f1 f2 hJ ⊢
    by_cases hij : i < j
    · obtain ⟨f3, rfl⟩ : ∃ f3, f0 = f3 + 1 := ⟨f0 - 1, by omega⟩
      rw [bsF, if_pos hij] at f2
      have di : decide ((i : Int) < (j : Int)) = true := by simp; omega
      obtain ⟨c, hc⟩ : ∃ c, c = (i + j) / 2 := ⟨_, rfl⟩
      have e1 : ((i : Int) + (j : Int)) / 2 = (c : Int) := by omega
      have e2 : ((c : Int)).toNat = c := by omega
      have e3 : ((a : Int)).toNat = a := by omega
      have p1 := deA_get l c (by omega)
      have p2 := deA_get l a (by omega)
      have hc2 := joinFn_pc (l[c]'(by omega)) (l[a]'(by omega))
      simp only [deA] at hc2
      refine goB (N := 220) Tryz.ntmps176 300 ?_
      simp only [go_sem, di, e1]
      repeat refine And.intro (by first | omega | rfl | exact wrap64 (by omega) (by omega) | (simp; done) | (simp [inr]; omega)) ?_
      refine adraw [.int .i64 (stCmp (l[c]'(by omega)).st (l[a]'(by omega)).st)] mixed (by decide) (N := 220) Tryz.ntmps176 (by decide) 100 ?_
      cases dc : decide (stCmp (l[c]'(by omega)).st (l[a]'(by omega)).st < 0) with
      | true =>
        have hP : decide (stCmp (l.getD c d00).st (l.getD a d00).st < 0) = true := by rw [atD (by omega), atD (by omega)]; exact dc
        rw [← hc, if_pos hP] at f2
        have hfin := hJ (c + 1, j) ⟨by simp only; omega, by simp only; omega, g3, f3, by simp only; omega, f2⟩ (by simp only; omega)
        simp only [go_sem, e2, e3, p1, p2, dc, List.length_map]
        repeat refine And.intro (by first | exact hc2.at | omega | rfl | (simp; done) | (simp; omega)) ?_
        refine goB (N := 220) Tryz.ntmps176 300 ?_
        simp only [go_sem]
        repeat refine And.intro (by omega) ?_
        rw [show (c : Int) + 1 = ((c + 1 : Nat) : Int) by omega]
        refine ainv hfin (Shift.weakS ?_ rfl)
        simp only [wk, go_sem]
      | false =>
        have hP : ¬ decide (stCmp (l.getD c d00).st (l.getD a d00).st < 0) = true := by rw [atD (by omega), atD (by omega), dc]; simp
        rw [← hc, if_neg hP] at f2
        have hfin := hJ (i, c) ⟨g1, by simp only; omega, by simp only; omega, f3, by simp only; omega, f2⟩ (by simp only; omega)
        simp only [go_sem, e2, e3, p1, p2, dc, List.length_map]
        repeat refine And.intro (by first | exact hc2.at | omega | rfl | (simp; done) | (simp; omega)) ?_
        refine goB (N := 220) Tryz.ntmps176 300 ?_
        simp only [go_sem]
        refine ainv hfin (Shift.weakS ?_ rfl)
        simp only [wk, go_sem]
    · have di : decide ((i : Int) < (j : Int)) = false := by simp; omega
      refine goB (N := 220) Tryz.ntmps176 300 ?_
      simp only [go_sem, di]
      clear hJ J
      rw [bsF_end hij] at f2
      rw [← f2]
      refine aloop (ι := Nat × List De) (fun y => i - y.1) (fun y => [(13, .int .i64 y.1), (10, .int .i64 i), (0, .sl 0 0 l.length l.length)]) (fun y => [.arr 7 (y.2.map deA)])
        (fun y => y.2.Perm l ∧ ∃ f, i - y.1 ≤ f ∧ upF i f y.1 y.2 = upF i b a l) (a, l) ⟨.refl _, b, by simp only; omega, rfl⟩ ?_ ?_
      · refine Shift.weakS ?_ rfl
        simp only [wk, go_sem]
      · rintro ⟨k, q⟩ ⟨g5, f4, f5, f6⟩ J hJ
        simp only at g5 f5 f6 hJ ⊢
        have hq := g5.length_eq
        by_cases hk : k + 1 < i
        · obtain ⟨f7, rfl⟩ : ∃ f7, f4 = f7 + 1 := ⟨f4 - 1, by omega⟩
          rw [upF, if_pos hk, atD (by omega), atD (by omega)] at f6
          have dk : decide ((k : Int) < (i : Int) - 1) = true := by simp; omega
          have e1 : ((k : Int) + 1).toNat = k + 1 := by omega
          have e2 : ((k : Int)).toNat = k := by omega
          have p1 := deA_get q (k + 1) (by omega)
          have p2 := deA_get q k (by omega)
          have p3 := deA_get (q.set k (q[k + 1]'(by omega))) (k + 1) (by simp; omega)
          have s1 := set_deA q k (q[k + 1]'(by omega))
          have s2 := set_deA (q.set k (q[k + 1]'(by omega))) (k + 1) (q[k]'(by omega))
          have hfin := hJ (k + 1, _) ⟨swap_perm g5 (i := k) (j := k + 1) (by omega) (by omega), f7, by simp only; omega, f6⟩ (by simp only; omega)
          refine goB (N := 220) Tryz.ntmps176 300 ?_
          simp only [go_sem, dk]
          repeat refine And.intro (by omega) ?_
          refine adrawS [] mixed (by decide) (N := 220) Tryz.ntmps176 (by decide) 100 ?_
          simp only [go_sem, e1, e2, p1, p2, p3, s1, s2, List.length_map, List.length_set]
          repeat refine And.intro (by first | omega | rfl | (simp; done) | (simp; omega)) ?_
          refine goB (N := 220) Tryz.ntmps176 300 ?_
          simp only [go_sem]
          repeat refine And.intro (by first | omega | rfl | (simp; done) | (simp; omega)) ?_
          rw [show (k : Int) + 1 = ((k + 1 : Nat) : Int) by omega]
          refine ainv hfin (Shift.weakS ?_ rfl)
          simp only [wk, go_sem]
        · have dk : decide ((k : Int) < (i : Int) - 1) = false := by simp; omega
          refine goB (N := 220) Tryz.ntmps176 300 ?_
          simp only [go_sem, dk]
          repeat refine And.intro (by omega) ?_
          rw [upF_end hk] at f6
          exact aret [] rfl ⟨rfl, by rw [f6]⟩

set_option maxHeartbeats 8000000 in
theorem symMerge_lastX (l : List De) (a m : Nat) (h2 : a + 1 < m) (h3 : m + 1 ≤ l.length) (hl : l.length < 1000000) :
    Ct Tryz.prog 176 [.sl 0 0 l.length l.length, .int .i64 a, .int .i64 m, .int .i64 ((m + 1 : Nat) : Int), .fn (.func 77) []] [.arr 7 (l.map deA)] (SortE (dnF (bsF (fun c => !decide (stCmp (l.getD m d00).st (l.getD c d00).st < 0)) m a m) m m l)) := by
  have d0 : ((m : Int) - (a : Int) == 1) = false := by simp; omega
  have dxx : (((m + 1 : Nat) : Int) - (m : Int) == 1) = true := by simp; omega
  refine ct_intro Tryz.func176 rfl Tryz.ntmps176 hB176 (by simp) fun h ρ w => goB (N := 220) Tryz.ntmps176 300 ?_
  simp only [go_sem, d0, dxx]
  repeat refine And.intro (by omega) ?_
  refine aloop (ι := Nat × Nat) (fun y => y.2 - y.1) (fun y => [(15, .int .i64 y.2), (14, .int .i64 y.1), (4, .fn (.func 77) []), (2, .int .i64 m), (0, .sl 0 0 l.length l.length)]) (fun y => [.arr 7 (l.map deA)])
    (fun y => y.1 ≤ y.2 ∧ y.2 ≤ m ∧ ∃ f, y.2 - y.1 ≤ f ∧ bsF (fun c => !decide (stCmp (l.getD m d00).st (l.getD c d00).st < 0)) f y.1 y.2 = bsF (fun c => !decide (stCmp (l.getD m d00).st (l.getD c d00).st < 0)) m a m) (a, m) ⟨by simp only; omega, by simp, m, by simp only; omega, rfl⟩ ?_ ?_
  · refine Shift.weakS ?_ rfl
    simp only [wk, go_sem]
  · rintro ⟨i, j⟩ ⟨g2, g3, f0, f1, f2⟩ J hJ
    simp only at g2 g3 f1 f2 hJ ⊢
    by_cases hij : i < j
    · obtain ⟨f3, rfl⟩ : ∃ f3, f0 = f3 + 1 := ⟨f0 - 1, by omega⟩
      rw [bsF, if_pos hij] at f2
      have di : decide ((i : Int) < (j : Int)) = true := by simp; omega
      obtain ⟨c, hc⟩ : ∃ c, c = (i + j) / 2 := ⟨_, rfl⟩
      have e1 : ((i : Int) + (j : Int)) / 2 = (c : Int) := by omega
      have e2 : ((c : Int)).toNat = c := by omega
      have e3 : ((m : Int)).toNat = m := by omega
      have p1 := deA_get l c (by omega)
      have p2 := deA_get l m (by omega)
      have hc2 := joinFn_pc (l[m]'(by omega)) (l[c]'(by omega))
      simp only [deA] at hc2
      refine goB (N := 220) Tryz.ntmps176 300 ?_
      simp only [go_sem, di, e1]
      repeat refine And.intro (by first | omega | rfl | exact wrap64 (by omega) (by omega) | (simp; done) | (simp [inr]; omega)) ?_
      refine adraw [.int .i64 (stCmp (l[m]'(by omega)).st (l[c]'(by omega)).st)] mixed (by decide) (N := 220) Tryz.ntmps176 (by decide) 100 ?_
      cases dc : decide (stCmp (l[m]'(by omega)).st (l[c]'(by omega)).st < 0) with
      | false =>
        have hP : (!decide (stCmp (l.getD m d00).st (l.getD c d00).st < 0)) = true := by rw [atD (by omega), atD (by omega), dc]; rfl
        rw [← hc, if_pos hP] at f2
        have hfin := hJ (c + 1, j) ⟨by simp only; omega, g3, f3, by simp only; omega, f2⟩ (by simp only; omega)
        simp only [go_sem, e2, e3, p1, p2, dc, List.length_map]
        repeat refine And.intro (by first | exact hc2.at | omega | rfl | (simp; done) | (simp; omega)) ?_
        refine goB (N := 220) Tryz.ntmps176 300 ?_
        simp only [go_sem]
        repeat refine And.intro (by omega) ?_
        rw [show (c : Int) + 1 = ((c + 1 : Nat) : Int) by omega]
        refine ainv hfin (Shift.weakS ?_ rfl)
        simp only [wk, go_sem]
      | true =>
        have hP : ¬ (!decide (stCmp (l.getD m d00).st (l.getD c d00).st < 0)) = true := by rw [atD (by omega), atD (by omega), dc]; simp
        rw [← hc, if_neg hP] at f2
        have hfin := hJ (i, c) ⟨by simp only; omega, by simp only; omega, f3, by simp only; omega, f2⟩ (by simp only; omega)
        simp only [go_sem, e2, e3, p1, p2, dc, List.length_map]
        repeat refine And.intro (by first | exact hc2.at | omega | rfl | (simp; done) | (simp; omega)) ?_
        refine goB (N := 220) Tryz.ntmps176 300 ?_
        simp only [go_sem]
        refine ainv hfin (Shift.weakS ?_ rfl)
        simp only [wk, go_sem]
    · have di : decide ((i : Int) < (j : Int)) = false := by simp; omega
      refine goB (N := 220) Tryz.ntmps176 300 ?_
      simp only [go_sem, di]
      clear hJ J
      rw [bsF_end hij] at f2
      rw [← f2]
      refine aloop (ι := Nat × List De) (fun y => y.1) (fun y => [(17, .int .i64 y.1), (14, .int .i64 i), (0, .sl 0 0 l.length l.length)]) (fun y => [.arr 7 (y.2.map deA)])
        (fun y => y.1 ≤ m ∧ y.2.Perm l ∧ ∃ f, y.1 ≤ f ∧ dnF i f y.1 y.2 = dnF i m m l) (m, l) ⟨by simp, .refl _, m, by simp, rfl⟩ ?_ ?_
      · refine Shift.weakS ?_ rfl
        simp only [wk, go_sem]
      · rintro ⟨k, q⟩ ⟨g6, g5, f4, f5, f6⟩ J hJ
        simp only at g6 g5 f5 f6 hJ ⊢
        have hq := g5.length_eq
        by_cases hk : i < k
        · obtain ⟨f7, rfl⟩ : ∃ f7, f4 = f7 + 1 := ⟨f4 - 1, by omega⟩
          rw [dnF, if_pos hk, atD (by omega), atD (by omega)] at f6
          have dk : decide ((k : Int) > (i : Int)) = true := by simp; omega
          have e1 : ((k : Int) - 1).toNat = k - 1 := by omega
          have e2 : ((k : Int)).toNat = k := by omega
          have p1 := deA_get q (k - 1) (by omega)
          have p2 := deA_get q k (by omega)
          have p3 := deA_get (q.set k (q[k - 1]'(by omega))) (k - 1) (by simp; omega)
          have s1 := set_deA q k (q[k - 1]'(by omega))
          have s2 := set_deA (q.set k (q[k - 1]'(by omega))) (k - 1) (q[k]'(by omega))
          have hfin := hJ (k - 1, _) ⟨by simp only; omega, swap_perm g5 (i := k) (j := k - 1) (by omega) (by omega), f7, by simp only; omega, f6⟩ (by simp only; omega)
          refine goB (N := 220) Tryz.ntmps176 300 ?_
          simp only [go_sem, dk]
          refine adrawS [] mixed (by decide) (N := 220) Tryz.ntmps176 (by decide) 100 ?_
          simp only [go_sem, e1, e2, p1, p2, p3, s1, s2, List.length_map, List.length_set]
          repeat refine And.intro (by first | omega | rfl | (simp; done) | (simp; omega)) ?_
          refine goB (N := 220) Tryz.ntmps176 300 ?_
          simp only [go_sem]
          repeat refine And.intro (by first | omega | rfl | (simp; done) | (simp; omega)) ?_
          rw [show (k : Int) - 1 = ((k - 1 : Nat) : Int) by omega]
          refine ainv hfin (Shift.weakS ?_ rfl)
          simp only [wk, go_sem]
        · have dk : decide ((k : Int) > (i : Int)) = false := by simp; omega
          refine goB (N := 220) Tryz.ntmps176 300 ?_
          simp only [go_sem, dk]
          rw [dnF_end hk] at f6
          exact aret [] rfl ⟨rfl, by rw [f6]⟩
end Go.Proofs.YtkomcdohejibmaaGreatDoor
