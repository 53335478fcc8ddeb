/- symMerge at deeds, whole; SortStableFunc. Own work of this seat. -/
import Derived.Test.YtkomcdohejibmaaGreatDoorO32
import Derived.Test.YtkomcdohejibmaaGreatDoorO23
import Derived.Test.YtkomcdohejibmaaGreatDoorO29
set_option maxRecDepth 100000
set_option linter.unusedSimpArgs false
set_option linter.unusedVariables false
namespace Go.Proofs.YtkomcdohejibmaaGreatDoor
open Go Go.Av Go.RowKit

/-- merging what is smaller -/
def MergeTo (N : Nat) : Prop := ∀ (l : List De) (a m b : Nat), b - a < N → a < m → m < b → b ≤ l.length → l.length < 1000000 →
  Ct Tryz.prog 176 [.sl 0 0 l.length l.length, .int .i64 a, .int .i64 m, .int .i64 b, .fn (.func 77) []] [.arr 7 (l.map deA)] (SortR l)
set_option maxHeartbeats 8000000 in
theorem symMerge_mid (l : List De) (a m b : Nat) (ih : MergeTo (b - a)) (h1 : a + 1 < m) (h2 : m + 1 < b) (h3 : b ≤ l.length) (hl : l.length < 1000000) :
    Ct Tryz.prog 176 [.sl 0 0 l.length l.length, .int .i64 a, .int .i64 m, .int .i64 b, .fn (.func 77) []] [.arr 7 (l.map deA)] (SortR l) := by
  have d0 : ((m : Int) - (a : Int) == 1) = false := by simp; omega
  have d00 : ((b : Int) - (m : Int) == 1) = false := by simp; omega
  obtain ⟨c, hc⟩ : ∃ c, c = (a + b) / 2 := ⟨_, rfl⟩
  have e1 : ((a : Int) + (b : Int)) / 2 = (c : Int) := by omega
  refine ct_intro Tryz.func176 rfl Tryz.ntmps176 hB176 (by simp) fun h ρ w => goB (N := 220) Tryz.ntmps176 66 ?_
  simp only [go_sem, d0, d00, e1]
  repeat refine And.intro (by first | omega | rfl | exact wrap64 (by omega) (by omega) | (simp; done)) ?_
  refine acut (ι := Nat × Nat) (fun y => [(21, .int .i64 y.2), (20, .int .i64 y.1), (19, .int .i64 ((c : Int) + m)), (18, .int .i64 c), (4, .fn (.func 77) []), (3, .int .i64 b), (2, .int .i64 m), (1, .int .i64 a), (0, .sl 0 0 l.length l.length)]) (fun _ => [.arr 7 (l.map deA)])
    (fun y => y.1 ≤ y.2 ∧ c + m ≤ b + y.1 ∧ y.2 ≤ c + m ∧ y.2 ≤ l.length) ?_ ?_
  · intro J hJ
    by_cases hm : c < m
    · have dm : decide ((m : Int) > (c : Int)) = true := by simp; omega
      have hfin := hJ (c + m - b, c) ⟨by simp only; omega, by simp only; omega, by simp only; omega, by simp only; omega⟩
      refine goB (N := 220) Tryz.ntmps176 300 ?_
      simp only [go_sem, dm]
      repeat refine And.intro (by omega) ?_
      rw [show (c : Int) + (m : Int) - (b : Int) = ((c + m - b : Nat) : Int) by omega]
      refine ainv hfin (Shift.weakS ?_ rfl)
      simp only [wk, go_sem]
    · have dm : decide ((m : Int) > (c : Int)) = false := by simp; omega
      have hfin := hJ (a, m) ⟨by simp only; omega, by simp only; omega, by simp only; omega, by simp only; omega⟩
      refine goB (N := 220) Tryz.ntmps176 300 ?_
      simp only [go_sem, dm]
      refine ainv hfin (Shift.weakS ?_ rfl)
      simp only [wk, go_sem]
  rintro ⟨st, r⟩ ⟨g1, g2, g3, g4⟩
  simp only at g1 g2 g3 g4 ⊢
  refine goB (N := 220) Tryz.ntmps176 300 ?_
  simp only [go_sem]
  repeat refine And.intro (by omega) ?_
  refine aloop (ι := Nat × Nat) (fun y => y.2 - y.1) (fun y => [(22, .int .i64 ((c : Int) + m - 1)), (21, .int .i64 y.2), (20, .int .i64 y.1), (19, .int .i64 ((c : Int) + m)), (18, .int .i64 c), (4, .fn (.func 77) []), (3, .int .i64 b), (2, .int .i64 m), (1, .int .i64 a), (0, .sl 0 0 l.length l.length)]) (fun _ => [.arr 7 (l.map deA)])
    (fun y => y.1 ≤ y.2 ∧ c + m ≤ b + y.1 ∧ y.2 ≤ c + m ∧ y.2 ≤ l.length) (st, r) ⟨g1, g2, g3, g4⟩ ?_ ?_
  · refine Shift.weakS ?_ rfl
    simp only [wk, go_sem]
  clear g1 g2 g3 g4
  rintro ⟨i, j⟩ ⟨g1, g2, g3, g4⟩ J hJ
  simp only at g1 g2 g3 g4 hJ ⊢
  by_cases hij : i < j
  · have di : decide ((i : Int) < (j : Int)) = true := by simp; omega
    obtain ⟨x, hx⟩ : ∃ x, x = (i + j) / 2 := ⟨_, rfl⟩
    have e1 : ((i : Int) + (j : Int)) / 2 = (x : Int) := by omega
    have e2 : ((x : Int)).toNat = x := by omega
    have e3 : ((c : Int) + (m : Int) - 1 - (x : Int)).toNat = c + m - 1 - x := by omega
    have p1 := deA_get l x (by omega)
    have p2 := deA_get l (c + m - 1 - x) (by omega)
    have hc2 := joinFn_pc (l[c + m - 1 - x]'(by omega)) (l[x]'(by omega))
    simp only [deA] at hc2
    refine goB (N := 220) Tryz.ntmps176 300 ?_
    simp only [go_sem, di, e1]
    repeat refine And.intro (by first | omega | rfl | exact wrap64 (by omega) (by omega) | (simp; done) | (simp [inr]; omega)) ?_
    refine adraw [.int .i64 (stCmp (l[c + m - 1 - x]'(by omega)).st (l[x]'(by omega)).st)] mixed (by decide) (N := 220) Tryz.ntmps176 (by decide) 100 ?_
    cases dc : decide (stCmp (l[c + m - 1 - x]'(by omega)).st (l[x]'(by omega)).st < 0) with
    | false =>
      have hfin := hJ (x + 1, j) ⟨by simp only; omega, by simp only; omega, g3, g4⟩ (by simp only; omega)
      simp only [go_sem, e2, e3, p1, p2, dc, List.length_map]
      repeat refine And.intro (by first | exact hc2.at | omega | rfl | (simp; done) | (simp; omega)) ?_
      refine goB (N := 220) Tryz.ntmps176 300 ?_
      simp only [go_sem]
      repeat refine And.intro (by omega) ?_
      rw [show (x : Int) + 1 = ((x + 1 : Nat) : Int) by omega]
      refine ainv hfin (Shift.weakS ?_ rfl)
      simp only [wk, go_sem]
    | true =>
      have hfin := hJ (i, x) ⟨by simp only; omega, g2, by simp only; omega, by simp only; omega⟩ (by simp only; omega)
      simp only [go_sem, e2, e3, p1, p2, dc, List.length_map]
      repeat refine And.intro (by first | exact hc2.at | omega | rfl | (simp; done) | (simp; omega)) ?_
      refine goB (N := 220) Tryz.ntmps176 300 ?_
      simp only [go_sem]
      refine ainv hfin (Shift.weakS ?_ rfl)
      simp only [wk, go_sem]
  · have di : decide ((i : Int) < (j : Int)) = false := by simp; omega
    have hgo : ∀ (q q' : List De), q.Perm l → SortR q (.tup []) [.arr 7 (q'.map deA)] → True := fun _ _ _ _ => trivial
    obtain ⟨en, hen⟩ : ∃ en, en = c + m - i := ⟨_, rfl⟩
    have een : (c : Int) + (m : Int) - (i : Int) = (en : Int) := by omega
    refine goB (N := 220) Tryz.ntmps176 25 ?_
    simp only [go_sem, di, een]
    repeat refine And.intro (by omega) ?_
    refine acut (ι := List De) (fun _ => [(24, .int .i64 en), (20, .int .i64 i), (18, .int .i64 c), (4, .fn (.func 77) []), (3, .int .i64 b), (1, .int .i64 a), (0, .sl 0 0 l.length l.length)]) (fun q => [.arr 7 (q.map deA)]) (fun q => q.Perm l) ?_ ?_
    · intro J hJ
      by_cases t1 : i < m
      · by_cases t2 : m < en
        · have d1 : decide ((i : Int) < (m : Int)) = true := by simp; omega
          have d2 : decide ((m : Int) < (en : Int)) = true := by simp; omega
          have hr := rotate_ct l i m en 77 t1 t2 (by omega) hl
          refine goB (N := 220) Tryz.ntmps176 300 ?_
          simp only [go_sem, d1, d2]
          refine acall (hr) (N := 220) Tryz.ntmps176 rfl ?_
          rintro _ _ ⟨rfl, q', rfl, hp⟩
          refine goB (N := 220) Tryz.ntmps176 300 ?_
          simp only [go_sem]
          refine ainv (hJ q' hp) (Shift.weakS ?_ rfl)
          simp only [wk, go_sem]
        · have d1 : decide ((i : Int) < (m : Int)) = true := by simp; omega
          have d2 : decide ((m : Int) < (en : Int)) = false := by simp; omega
          refine goB (N := 220) Tryz.ntmps176 300 ?_
          simp only [go_sem, d1, d2]
          refine ainv (hJ l (.refl _)) (Shift.weakS ?_ rfl)
          simp only [wk, go_sem]
      · have d1 : decide ((i : Int) < (m : Int)) = false := by simp; omega
        refine goB (N := 220) Tryz.ntmps176 300 ?_
        simp only [go_sem, d1]
        refine ainv (hJ l (.refl _)) (Shift.weakS ?_ rfl)
        simp only [wk, go_sem]
    intro q hq
    have hql := hq.length_eq
    refine goB (N := 220) Tryz.ntmps176 1 ?_
    simp only [go_sem]
    refine acut (ι := List De) (fun _ => [(24, .int .i64 en), (18, .int .i64 c), (4, .fn (.func 77) []), (3, .int .i64 b), (0, .sl 0 0 l.length l.length)]) (fun q => [.arr 7 (q.map deA)]) (fun q => q.Perm l) ?_ ?_
    · intro J hJ
      by_cases t1 : a < i
      · by_cases t2 : i < c
        · have d1 : decide ((a : Int) < (i : Int)) = true := by simp; omega
          have d2 : decide ((i : Int) < (c : Int)) = true := by simp; omega
          have hr := ih q a i c (by omega) t1 t2 (by omega) (by omega)
          rw [hql] at hr
          refine goB (N := 220) Tryz.ntmps176 300 ?_
          simp only [go_sem, d1, d2]
          refine acall (hr) (N := 220) Tryz.ntmps176 rfl ?_
          rintro _ _ ⟨rfl, q', rfl, hp⟩
          refine goB (N := 220) Tryz.ntmps176 300 ?_
          simp only [go_sem]
          refine ainv (hJ q' (hp.trans hq)) (Shift.weakS ?_ rfl)
          simp only [wk, go_sem]
        · have d1 : decide ((a : Int) < (i : Int)) = true := by simp; omega
          have d2 : decide ((i : Int) < (c : Int)) = false := by simp; omega
          refine goB (N := 220) Tryz.ntmps176 300 ?_
          simp only [go_sem, d1, d2]
          refine ainv (hJ q hq) (Shift.weakS ?_ rfl)
          simp only [wk, go_sem]
      · have d1 : decide ((a : Int) < (i : Int)) = false := by simp; omega
        refine goB (N := 220) Tryz.ntmps176 300 ?_
        simp only [go_sem, d1]
        refine ainv (hJ q hq) (Shift.weakS ?_ rfl)
        simp only [wk, go_sem]
    clear hql hq q
    intro q hq
    have hql := hq.length_eq
    by_cases t1 : c < en
    · by_cases t2 : en < b
      · have d1 : decide ((c : Int) < (en : Int)) = true := by simp; omega
        have d2 : decide ((en : Int) < (b : Int)) = true := by simp; omega
        have hr := ih q c en b (by omega) t1 t2 (by omega) (by omega)
        rw [hql] at hr
        refine goB (N := 220) Tryz.ntmps176 300 ?_
        simp only [go_sem, d1, d2]
        refine acall (hr) (N := 220) Tryz.ntmps176 rfl ?_
        rintro _ _ ⟨rfl, q', rfl, hp⟩
        refine goB (N := 220) Tryz.ntmps176 300 ?_
        simp only [go_sem]
        exact aret [] rfl ⟨rfl, q', rfl, hp.trans hq⟩
      · have d1 : decide ((c : Int) < (en : Int)) = true := by simp; omega
        have d2 : decide ((en : Int) < (b : Int)) = false := by simp; omega
        refine goB (N := 220) Tryz.ntmps176 300 ?_
        simp only [go_sem, d1, d2]
        exact aret [] rfl ⟨rfl, q, rfl, hq⟩
    · have d1 : decide ((c : Int) < (en : Int)) = false := by simp; omega
      refine goB (N := 220) Tryz.ntmps176 300 ?_
      simp only [go_sem, d1]
      exact aret [] rfl ⟨rfl, q, rfl, hq⟩

theorem symMerge_all : ∀ N, MergeTo N := by
  intro N
  induction N using Nat.strongRecOn with
  | _ N ih =>
    intro l a m b hN h1 h2 h3 hl
    by_cases t1 : m = a + 1
    · subst t1
      exact symMerge_one l a b h2 h3 hl
    · by_cases t2 : b = m + 1
      · subst t2
        exact symMerge_last l a m (by omega) h3 hl
      · exact symMerge_mid l a m b (ih (b - a) hN) (by omega) (by omega) h3 hl
theorem symMerge_ct (l : List De) (a m b : Nat) (h1 : a < m) (h2 : m < b) (h3 : b ≤ l.length) (hl : l.length < 1000000) :
    Ct Tryz.prog 176 [.sl 0 0 l.length l.length, .int .i64 a, .int .i64 m, .int .i64 b, .fn (.func 77) []] [.arr 7 (l.map deA)] (SortR l) :=
  symMerge_all (b - a + 1) l a m b (by omega) h1 h2 h3 hl
end Go.Proofs.YtkomcdohejibmaaGreatDoor
/- SortStableFunc at deeds: what is there is put in another order. Own work of this seat. -/
set_option maxRecDepth 100000
set_option linter.unusedSimpArgs false
set_option linter.unusedVariables false
namespace Go.Proofs.YtkomcdohejibmaaGreatDoor
open Go Go.Av Go.RowKit

set_option maxHeartbeats 8000000 in
theorem stable_ct (l : List De) (hl : l.length < 1000000) :
    Ct Tryz.prog 134 [.sl 0 0 l.length l.length, .int .i64 l.length, .fn (.func 77) []] [.arr 7 (l.map deA)] (SortR l) := by
  refine ct_intro Tryz.func134 rfl Tryz.ntmps134 hB134 (by simp) fun h ρ w => goB (N := 63) Tryz.ntmps134 300 ?_
  simp only [go_sem]
  refine aloop (ι := Nat × List De) (fun y => l.length - y.1) (fun y => [(8, .int .i64 ((y.1 + 20 : Nat) : Int)), (7, .int .i64 y.1), (6, .int .i64 20), (2, .fn (.func 77) []), (1, .int .i64 l.length), (0, .sl 0 0 l.length l.length)]) (fun y => [.arr 7 (y.2.map deA)])
    (fun y => y.1 ≤ l.length ∧ y.2.Perm l) (0, l) ⟨by simp, .refl _⟩ ?_ ?_
  · refine Shift.weakS ?_ rfl
    simp only [wk, go_sem]
  rintro ⟨a, q⟩ ⟨g1, g2⟩ J hJ
  simp only at g1 g2 hJ ⊢
  have hq := g2.length_eq
  by_cases t1 : a + 20 ≤ l.length
  · have d1 : decide (((a + 20 : Nat) : Int) ≤ (l.length : Int)) = true := by simp; omega
    have hr := insertionSort_ct q a (a + 20) (by omega) (by omega) (by omega)
    rw [hq] at hr
    refine goB (N := 63) Tryz.ntmps134 300 ?_
    simp only [go_sem, d1]
    refine acall (hr) (N := 63) Tryz.ntmps134 rfl ?_
    rintro _ _ ⟨rfl, q', rfl, hp⟩
    have hfin := hJ (a + 20, q') ⟨by simp only; omega, hp.trans g2⟩ (by simp only; omega)
    refine goB (N := 63) Tryz.ntmps134 300 ?_
    simp only [go_sem]
    repeat refine And.intro (by omega) ?_
    rw [show ((a + 20 : Nat) : Int) + 20 = ((a + 20 + 20 : Nat) : Int) by omega]
    refine ainv hfin (Shift.weakS ?_ rfl)
    simp only [wk, go_sem]
  have d1 : decide (((a + 20 : Nat) : Int) ≤ (l.length : Int)) = false := by simp; omega
  have hr := insertionSort_ct q a l.length (by omega) (by omega) (by omega)
  rw [hq] at hr
  refine goB (N := 63) Tryz.ntmps134 300 ?_
  simp only [go_sem, d1]
  refine acall (hr) (N := 63) Tryz.ntmps134 rfl ?_
  rintro _ _ ⟨rfl, q', rfl, hp⟩
  clear hJ J
  refine goB (N := 63) Tryz.ntmps134 300 ?_
  simp only [go_sem]
  refine aloop (ι := Nat × List De) (fun y => l.length - y.1) (fun y => [(6, .int .i64 y.1), (2, .fn (.func 77) []), (1, .int .i64 l.length), (0, .sl 0 0 l.length l.length)]) (fun y => [.arr 7 (y.2.map deA)])
    (fun y => 1 ≤ y.1 ∧ y.2.Perm l) (20, q') ⟨by simp, hp.trans g2⟩ ?_ ?_
  · refine Shift.weakS ?_ rfl
    simp only [wk, go_sem]
  clear hr hp q' hq g2 g1 q d1 t1 a
  rintro ⟨bs, q⟩ ⟨g1, g2⟩ J hJ
  simp only at g1 g2 hJ ⊢
  by_cases t1 : bs < l.length
  · have d1 : decide ((bs : Int) < (l.length : Int)) = true := by simp; omega
    refine goB (N := 63) Tryz.ntmps134 300 ?_
    simp only [go_sem, d1]
    repeat refine And.intro (by omega) ?_
    rw [show (2 : Int) * (bs : Int) = ((0 + 2 * bs : Nat) : Int) by omega]
    refine aloop (ι := Nat × List De) (fun y => l.length - y.1) (fun y => [(8, .int .i64 ((y.1 + 2 * bs : Nat) : Int)), (7, .int .i64 y.1), (6, .int .i64 bs), (2, .fn (.func 77) []), (1, .int .i64 l.length), (0, .sl 0 0 l.length l.length)]) (fun y => [.arr 7 (y.2.map deA)])
      (fun y => y.1 ≤ l.length ∧ y.2.Perm l) (0, q) ⟨by simp, g2⟩ ?_ ?_
    · refine Shift.weakS ?_ rfl
      simp only [wk, go_sem]
    clear g2 q
    rintro ⟨a, q⟩ ⟨k1, k2⟩ K hK
    simp only at k1 k2 hK ⊢
    have hq := k2.length_eq
    by_cases t2 : a + 2 * bs ≤ l.length
    · have d2 : decide (((a + 2 * bs : Nat) : Int) ≤ (l.length : Int)) = true := by simp; omega
      have hr := symMerge_ct q a (a + bs) (a + 2 * bs) (by omega) (by omega) (by omega) (by omega)
      rw [hq, show ((a + bs : Nat) : Int) = (a : Int) + (bs : Int) by omega] at hr
      refine goB (N := 63) Tryz.ntmps134 300 ?_
      simp only [go_sem, d2]
      repeat refine And.intro (by omega) ?_
      refine acall (hr) (N := 63) Tryz.ntmps134 rfl ?_
      rintro _ _ ⟨rfl, q', rfl, hp⟩
      have hfin := hK (a + 2 * bs, q') ⟨by simp only; omega, hp.trans k2⟩ (by simp only; omega)
      refine goB (N := 63) Tryz.ntmps134 300 ?_
      simp only [go_sem]
      repeat refine And.intro (by omega) ?_
      rw [show ((a + 2 * bs : Nat) : Int) + 2 * (bs : Int) = ((a + 2 * bs + 2 * bs : Nat) : Int) by omega]
      refine ainv hfin (Shift.weakS ?_ rfl)
      simp only [wk, go_sem]
    have d2 : decide (((a + 2 * bs : Nat) : Int) ≤ (l.length : Int)) = false := by simp; omega
    by_cases t3 : a + bs < l.length
    · have d3 : decide ((a : Int) + (bs : Int) < (l.length : Int)) = true := by simp; omega
      have hr := symMerge_ct q a (a + bs) l.length (by omega) (by omega) (by omega) (by omega)
      rw [hq, show ((a + bs : Nat) : Int) = (a : Int) + (bs : Int) by omega] at hr
      refine goB (N := 63) Tryz.ntmps134 300 ?_
      simp only [go_sem, d2, d3]
      repeat refine And.intro (by omega) ?_
      refine acall (hr) (N := 63) Tryz.ntmps134 rfl ?_
      rintro _ _ ⟨rfl, q', rfl, hp⟩
      have hfin := hJ (bs * 2, q') ⟨by simp only; omega, hp.trans k2⟩ (by simp only; omega)
      refine goB (N := 63) Tryz.ntmps134 300 ?_
      simp only [go_sem]
      repeat refine And.intro (by omega) ?_
      rw [show (bs : Int) * 2 = ((bs * 2 : Nat) : Int) by omega]
      refine ainv hfin (Shift.weakS ?_ rfl)
      simp only [wk, go_sem]
    · have d3 : decide ((a : Int) + (bs : Int) < (l.length : Int)) = false := by simp; omega
      have hfin := hJ (bs * 2, q) ⟨by simp only; omega, k2⟩ (by simp only; omega)
      refine goB (N := 63) Tryz.ntmps134 300 ?_
      simp only [go_sem, d2, d3]
      repeat refine And.intro (by omega) ?_
      rw [show (bs : Int) * 2 = ((bs * 2 : Nat) : Int) by omega]
      refine ainv hfin (Shift.weakS ?_ rfl)
      simp only [wk, go_sem]
  have d1 : decide ((bs : Int) < (l.length : Int)) = false := by simp; omega
  refine goB (N := 63) Tryz.ntmps134 300 ?_
  simp only [go_sem, d1]
  exact aret [] rfl ⟨rfl, q, rfl, g2⟩

theorem sortStable_ct (l : List De) (hl : l.length < 1000000) :
    Ct Tryz.prog 76 [.sl 0 0 l.length l.length, .fn (.func 77) []] [.arr 7 (l.map deA)] (SortR l) := by
  have hr := stable_ct l hl
  refine ct_intro Tryz.func76 rfl Tryz.ntmps76 hB76 (by simp) fun h ρ w => goB (N := 9) Tryz.ntmps76 300 ?_
  simp only [go_sem, List.length_map]
  repeat refine And.intro (by first | omega | rfl | (simp; omega)) ?_
  refine acall (hr) (N := 9) Tryz.ntmps76 rfl ?_
  rintro _ _ ⟨rfl, q', rfl, hp⟩
  refine goB (N := 9) Tryz.ntmps76 300 ?_
  simp only [go_sem]
  exact aret [] rfl ⟨rfl, q', rfl, hp⟩
end Go.Proofs.YtkomcdohejibmaaGreatDoor
/- slices.Concat at deeds. Own work of this seat. -/
set_option maxRecDepth 100000
set_option linter.unusedSimpArgs false
set_option linter.unusedVariables false
namespace Go.Proofs.YtkomcdohejibmaaGreatDoor
open Go Go.Av Go.RowKit

theorem grow_ct (n : Nat) (hn : 0 < n) (hl : n < 1000000) (r : List Blk) :
    Ct Tryz.prog 98 [.raw (.slice none 0 0), .int .i64 n] r (fun v s => v = .sl r.length 0 0 n ∧ s = r ++ [.arr 7 (List.replicate n (optA none))]) := by
  have d1 : decide ((n : Int) < 0) = false := by simp
  have d2 : decide ((n : Int) > 0) = true := by simp; omega
  refine ct_intro Tryz.func98 rfl Tryz.ntmps98 hB98 (by simp) fun h ρ w => goB (N := 27) Tryz.ntmps98 300 ?_
  simp only [go_sem, d1, d2, Int.sub_zero, getD_end, set_end, List.length_replicate]
  repeat refine And.intro (by first | omega | rfl | (simp; omega) | (simp; done)) ?_
  exact aret [4] rfl ⟨by simp [resV, Av.get, Av.put], rfl⟩
theorem grow0_ct (r : List Blk) :
    Ct Tryz.prog 98 [.raw (.slice none 0 0), .int .i64 0] r (fun v s => v = .raw (.slice none 0 0) ∧ s = r) := by
  refine ct_intro Tryz.func98 rfl Tryz.ntmps98 hB98 (by simp) fun h ρ w => goB (N := 27) Tryz.ntmps98 300 ?_
  simp only [go_sem]
  repeat refine And.intro (by first | omega | rfl | (simp; omega)) ?_
  exact aret [4] rfl ⟨rfl, rfl⟩

theorem splice_a {n : Nat} {z : AV} {x y : List AV} (h : x.length + y.length = n) : splice' (splice' (List.replicate n z) 0 x) x.length y = x ++ y := by
  subst h
  simp [splice']

set_option maxHeartbeats 4000000 in
theorem concat_ct (a b : List De) (ha : a.length < 100000) (hb : b.length < 100000) (r : List Blk) :
    Ct Tryz.prog 43 [.fz 1 [.fz 7 (a.map deA), .fz 7 (b.map deA)]] r (fun v s => v = .sl r.length 0 (a ++ b).length (a ++ b).length ∧ s = r ++ [.arr 7 ((a ++ b).map deA)]) := by
  have t1 : decide ((0 : Int) + (a.length : Int) < 0) = false := decide_eq_false (by omega)
  have t2 : decide ((0 : Int) + (a.length : Int) + (b.length : Int) < 0) = false := decide_eq_false (by omega)
  have e0 : (0 : Int) + (a.length : Int) + (b.length : Int) = ((a.length + b.length : Nat) : Int) := by omega
  by_cases hn : 0 < a.length + b.length
  · have hg := grow_ct (a.length + b.length) hn (by omega) r
    refine ct_intro Tryz.func43 rfl Tryz.ntmps43 hB43 (by simp) fun h ρ w => goB (N := 36) Tryz.ntmps43 300 ?_
    simp only [go_sem]
    refine aenter (around ?_)
    refine goB (N := 36) Tryz.ntmps43 300 ?_
    simp only [go_sem, List.length_map, t1]
    repeat refine And.intro (by first | omega | rfl | (simp; omega)) ?_
    refine aagain (around ?_)
    refine goB (N := 36) Tryz.ntmps43 300 ?_
    simp only [go_sem, List.length_map, t2]
    repeat refine And.intro (by omega) ?_
    refine aagain (around ?_)
    refine goB (N := 36) Tryz.ntmps43 300 ?_
    simp only [go_sem, e0]
    refine acall (hg) (N := 36) Tryz.ntmps43 rfl ?_
    rintro _ _ ⟨rfl, rfl⟩
    refine goB (N := 36) Tryz.ntmps43 300 ?_
    simp only [go_sem]
    refine aenter (around ?_)
    have q1 : (0 == a.length + b.length) = false := by simp; omega
    have s1 := splice_a (n := a.length + b.length) (z := optA none) (x := a.map deA) (y := b.map deA) (by simp)
    have hz : optA none = .agg [.str [], .int .i64 0, .raw (.slice none 0 0), .int .i64 0, .str [], .str [], .str []] := rfl
    have l1 : (splice' (List.replicate (a.length + b.length) (optA none)) 0 (a.map deA)).length = a.length + b.length := by simp [splice'] <;> omega
    by_cases hb0 : b = []
    · subst hb0
      have l2 : splice' (List.replicate a.length (optA none)) 0 (a.map deA) = a.map deA := by simp [splice']
      simp only [List.length_nil, Nat.add_zero] at q1 l1 ⊢
      refine goB (N := 36) Tryz.ntmps43 300 ?_
      simp only [go_sem, q1, getD_end, set_end, List.length_map, List.length_replicate, l2, take_map]
      repeat refine And.intro (by first | omega | rfl | exact .inl rfl | exact .inl trivial | (simp; done) | (simp; omega)) ?_
      refine aagain (around ?_)
      refine goB (N := 36) Tryz.ntmps43 300 ?_
      simp only [go_sem, getD_end, set_end, List.length_map, List.length_replicate, l2]
      repeat refine And.intro (by first | omega | rfl | exact .inl rfl | exact .inl trivial | (simp; done) | (simp; omega)) ?_
      refine aagain (around ?_)
      refine goB (N := 36) Tryz.ntmps43 300 ?_
      simp only [go_sem]
      exact aret [2] rfl ⟨by simp [resV, Av.get, Av.put], by simp⟩
    · have hb1 : 0 < b.length := List.length_pos_iff.2 hb0
      have q2 : (0 + a.length == a.length + b.length) = false := by simp; omega
      have q3 : (a.length == a.length + b.length) = false := by simp; omega
      refine goB (N := 36) Tryz.ntmps43 300 ?_
      simp only [go_sem, q1, q2, q3, getD_end, set_end, List.length_map, List.length_replicate, l1]
      repeat refine And.intro (by first | omega | rfl | exact .inl rfl | exact .inl trivial | (simp; done) | (simp; omega)) ?_
      refine aagain (around ?_)
      refine goB (N := 36) Tryz.ntmps43 300 ?_
      simp only [go_sem, q1, q2, q3, getD_end, set_end, List.length_map, List.length_replicate, l1]
      repeat refine And.intro (by first | omega | rfl | exact .inl rfl | exact .inl trivial | (simp; done) | (simp; omega)) ?_
      refine aagain (around ?_)
      refine goB (N := 36) Tryz.ntmps43 300 ?_
      simp only [go_sem]
      refine aret [2] rfl ⟨by simp [resV, Av.get, Av.put], ?_⟩
      have : List.drop (a.length + b.length) (a.map deA ++ List.drop a.length (List.replicate (a.length + b.length) (optA none))) = [] := List.drop_eq_nil_of_le (by simp)
      rw [this, List.append_nil, List.take_left' (by simp), ← List.map_append]
  · obtain rfl : a = [] := List.eq_nil_of_length_eq_zero (by omega)
    obtain rfl : b = [] := List.eq_nil_of_length_eq_zero (by omega)
    have hg := grow0_ct r
    refine ct_intro Tryz.func43 rfl Tryz.ntmps43 hB43 (by simp) fun h ρ w => goB (N := 36) Tryz.ntmps43 300 ?_
    simp only [go_sem]
    refine aenter (around ?_)
    refine goB (N := 36) Tryz.ntmps43 300 ?_
    simp only [go_sem, List.map_nil, List.length_nil]
    repeat refine And.intro (by first | omega | rfl | (simp; omega)) ?_
    refine aagain (around ?_)
    refine goB (N := 36) Tryz.ntmps43 300 ?_
    simp only [go_sem, List.map_nil, List.length_nil]
    repeat refine And.intro (by first | omega | rfl | (simp; omega)) ?_
    refine aagain (around ?_)
    refine goB (N := 36) Tryz.ntmps43 300 ?_
    simp only [go_sem]
    refine acall (hg) (N := 36) Tryz.ntmps43 rfl ?_
    rintro _ _ ⟨rfl, rfl⟩
    refine goB (N := 36) Tryz.ntmps43 300 ?_
    simp only [go_sem]
    refine aenter (around ?_)
    refine goB (N := 36) Tryz.ntmps43 300 ?_
    simp only [go_sem, List.map_nil, List.length_nil, getD_end, set_end]
    repeat refine And.intro (by first | omega | rfl | exact .inl rfl | exact .inl trivial | (simp; done) | (simp; omega)) ?_
    refine aagain (around ?_)
    refine goB (N := 36) Tryz.ntmps43 300 ?_
    simp only [go_sem, List.map_nil, List.length_nil, getD_end, set_end]
    repeat refine And.intro (by first | omega | rfl | exact .inl rfl | exact .inl trivial | (simp; done) | (simp; omega)) ?_
    refine aagain (around ?_)
    refine goB (N := 36) Tryz.ntmps43 300 ?_
    simp only [go_sem]
    exact aret [2] rfl ⟨by simp [resV, Av.get, Av.put], by simp⟩
end Go.Proofs.YtkomcdohejibmaaGreatDoor
