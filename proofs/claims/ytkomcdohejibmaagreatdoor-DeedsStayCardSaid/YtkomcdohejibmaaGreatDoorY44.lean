/- symMerge at deeds, told exactly: whole. Own work of this seat. -/
import Derived.Test.YtkomcdohejibmaaGreatDoorY43
import Derived.Test.YtkomcdohejibmaaGreatDoorY22
set_option maxRecDepth 100000
set_option linter.unusedSimpArgs false
set_option linter.unusedVariables false
namespace Go.Proofs.YtkomcdohejibmaaGreatDoor
open Go Go.Av Go.RowKit

def MergeX (N : Nat) : Prop := ∀ (l : List De) (a m b : Nat), b - a < N → a < m → m < b → b ≤ l.length → l.length < 1000000 →
  ∃ l' : List De, l'.Perm l ∧ Ct Tryz.prog 176 [.sl 0 0 l.length l.length, .int .i64 a, .int .i64 m, .int .i64 b, .fn (.func 77) []] [.arr 7 (l.map deA)] (SortE l')
set_option maxHeartbeats 8000000 in
theorem symMerge_midX (l : List De) (a m b : Nat) (ih : MergeX (b - a)) (h1 : a + 1 < m) (h2 : m + 1 < b) (h3 : b ≤ l.length) (hl : l.length < 1000000) :
    ∃ l' : List De, l'.Perm l ∧ Ct Tryz.prog 176 [.sl 0 0 l.length l.length, .int .i64 a, .int .i64 m, .int .i64 b, .fn (.func 77) []] [.arr 7 (l.map deA)] (SortE l') := by
  have d0 : ((m : Int) - (a : Int) == 1) = false := by simp; omega
  have dxx : ((b : Int) - (m : Int) == 1) = false := by simp; omega
  obtain ⟨c, hc⟩ : ∃ c, c = (a + b) / 2 := ⟨_, rfl⟩
  have e1 : ((a : Int) + (b : Int)) / 2 = (c : Int) := by omega
  obtain ⟨st0, r0, w1, w2, w3, w4, hst⟩ : ∃ st0 r0 : Nat, st0 ≤ r0 ∧ c + m ≤ b + st0 ∧ r0 ≤ c + m ∧ r0 ≤ l.length ∧ ((c < m ∧ st0 = c + m - b ∧ r0 = c) ∨ (¬ c < m ∧ st0 = a ∧ r0 = m)) := by
    by_cases hm : c < m
    · exact ⟨c + m - b, c, by omega, by omega, by omega, by omega, .inl ⟨hm, rfl, rfl⟩⟩
    · exact ⟨a, m, by omega, by omega, by omega, by omega, .inr ⟨hm, rfl, rfl⟩⟩
  obtain ⟨R, hR⟩ : ∃ R, bsF (fun x => !decide (stCmp (l.getD (c + m - 1 - x) d00).st (l.getD x d00).st < 0)) l.length st0 r0 = R := ⟨_, rfl⟩
  have hRb := bsF_bd (fun x => !decide (stCmp (l.getD (c + m - 1 - x) d00).st (l.getD x d00).st < 0)) l.length st0 r0 w1
  rw [hR] at hRb
  obtain ⟨q1, p1, hq1⟩ : ∃ q1 : List De, q1.Perm l ∧ ((R < m ∧ m < c + m - R ∧ Ct Tryz.prog 208 [.sl 0 0 l.length l.length, .int .i64 R, .int .i64 m, .int .i64 ((c + m - R : Nat) : Int), .fn (.func 77) []] [.arr 7 (l.map deA)] (SortE q1)) ∨ (¬ (R < m ∧ m < c + m - R) ∧ q1 = l)) := by
    by_cases h : R < m ∧ m < c + m - R
    · exact ⟨_, rotF_perm m _ _ _ _ (by omega) (by omega), .inl ⟨h.1, h.2, rotateX l R m (c + m - R) 77 h.1 h.2 (by omega) hl⟩⟩
    · exact ⟨l, .refl _, .inr ⟨h, rfl⟩⟩
  obtain ⟨q2, p2, hq2⟩ : ∃ q2 : List De, q2.Perm l ∧ ((a < R ∧ R < c ∧ Ct Tryz.prog 176 [.sl 0 0 l.length l.length, .int .i64 a, .int .i64 R, .int .i64 c, .fn (.func 77) []] [.arr 7 (q1.map deA)] (SortE q2)) ∨ (¬ (a < R ∧ R < c) ∧ q2 = q1)) := by
    by_cases h : a < R ∧ R < c
    · obtain ⟨q', hp, hc'⟩ := ih q1 a R c (by omega) h.1 h.2 (by rw [p1.length_eq]; omega) (by rw [p1.length_eq]; omega)
      rw [p1.length_eq] at hc'
      exact ⟨q', hp.trans p1, .inl ⟨h.1, h.2, hc'⟩⟩
    · exact ⟨q1, p1, .inr ⟨h, rfl⟩⟩
  obtain ⟨q3, p3, hq3⟩ : ∃ q3 : List De, q3.Perm l ∧ ((c < c + m - R ∧ c + m - R < b ∧ Ct Tryz.prog 176 [.sl 0 0 l.length l.length, .int .i64 c, .int .i64 ((c + m - R : Nat) : Int), .int .i64 b, .fn (.func 77) []] [.arr 7 (q2.map deA)] (SortE q3)) ∨ (¬ (c < c + m - R ∧ c + m - R < b) ∧ q3 = q2)) := by
    by_cases h : c < c + m - R ∧ c + m - R < b
    · obtain ⟨q', hp, hc'⟩ := ih q2 c (c + m - R) b (by omega) h.1 h.2 (by rw [p2.length_eq]; omega) (by rw [p2.length_eq]; omega)
      rw [p2.length_eq] at hc'
      exact ⟨q', hp.trans p2, .inl ⟨h.1, h.2, hc'⟩⟩
    · exact ⟨q2, p2, .inr ⟨h, rfl⟩⟩
  refine ⟨q3, p3, ?_⟩
  refine ct_intro Tryz.func176 rfl Tryz.ntmps176 hB176 (by simp) fun h ρ w => goB (N := 220) Tryz.ntmps176 66 ?_
  simp only [go_sem, d0, dxx, e1]
  repeat refine And.intro (by first | omega | rfl | exact wrap64 (by omega) (by omega) | (simp; done)) ?_
  refine acut (ι := Unit) (fun _ => [(21, .int .i64 r0), (20, .int .i64 st0), (19, .int .i64 ((c : Int) + m)), (18, .int .i64 c), (4, .fn (.func 77) []), (3, .int .i64 b), (2, .int .i64 m), (1, .int .i64 a), (0, .sl 0 0 l.length l.length)]) (fun _ => [.arr 7 (l.map deA)])
    (fun _ => True) ?_ ?_
  · intro J hJ
    have hfin := hJ () trivial
    rcases hst with ⟨hm, e5, e6⟩ | ⟨hm, e5, e6⟩
    · rw [e5, e6] at hfin
      have dm : decide ((m : Int) > (c : Int)) = true := by simp; omega
      refine goB (N := 220) Tryz.ntmps176 300 ?_
      simp only [go_sem, dm]
      repeat refine And.intro (by omega) ?_
      rw [show (c : Int) + (m : Int) - (b : Int) = ((c + m - b : Nat) : Int) by omega]
      refine ainv hfin (Shift.weakS ?_ rfl)
      simp only [wk, go_sem]
    · have dm : decide ((m : Int) > (c : Int)) = false := by simp; omega
      rw [e5, e6] at hfin
      refine goB (N := 220) Tryz.ntmps176 300 ?_
      simp only [go_sem, dm]
      refine ainv hfin (Shift.weakS ?_ rfl)
      simp only [wk, go_sem]
  rintro ⟨⟩ _
  refine goB (N := 220) Tryz.ntmps176 300 ?_
  simp only [go_sem]
  repeat refine And.intro (by omega) ?_
  refine aloop (ι := Nat × Nat) (fun y => y.2 - y.1) (fun y => [(22, .int .i64 ((c : Int) + m - 1)), (21, .int .i64 y.2), (20, .int .i64 y.1), (19, .int .i64 ((c : Int) + m)), (18, .int .i64 c), (4, .fn (.func 77) []), (3, .int .i64 b), (2, .int .i64 m), (1, .int .i64 a), (0, .sl 0 0 l.length l.length)]) (fun _ => [.arr 7 (l.map deA)])
    (fun y => y.1 ≤ y.2 ∧ c + m ≤ b + y.1 ∧ y.2 ≤ c + m ∧ y.2 ≤ l.length ∧ ∃ f, y.2 - y.1 ≤ f ∧ bsF (fun x => !decide (stCmp (l.getD (c + m - 1 - x) d00).st (l.getD x d00).st < 0)) f y.1 y.2 = R) (st0, r0) ⟨w1, w2, w3, w4, l.length, by simp only; omega, hR⟩ ?_ ?_
  · refine Shift.weakS ?_ rfl
    simp only [wk, go_sem]
  rintro ⟨i, j⟩ ⟨g1, g2, g3, g4, f0, f1, f2⟩ J hJ
  simp only at g1 g2 g3 g4 f1 f2 hJ ⊢
  by_cases hij : i < j
  · obtain ⟨f3, rfl⟩ : ∃ f3, f0 = f3 + 1 := ⟨f0 - 1, by omega⟩
    rw [bsF, if_pos hij] at f2
    have di : decide ((i : Int) < (j : Int)) = true := by simp; omega
    obtain ⟨x, hx⟩ : ∃ x, x = (i + j) / 2 := ⟨_, rfl⟩
    have e1 : ((i : Int) + (j : Int)) / 2 = (x : Int) := by omega
    have e2 : ((x : Int)).toNat = x := by omega
    have e3 : ((c : Int) + (m : Int) - 1 - (x : Int)).toNat = c + m - 1 - x := by omega
    have p1 := deA_get l x (by omega)
    have p2 := deA_get l (c + m - 1 - x) (by omega)
    have hc2 := joinFn_pc (l[c + m - 1 - x]'(by omega)) (l[x]'(by omega))
    simp only [deA] at hc2
    refine goB (N := 220) Tryz.ntmps176 300 ?_
    simp only [go_sem, di, e1]
    repeat refine And.intro (by first | omega | rfl | exact wrap64 (by omega) (by omega) | (simp; done) | (simp [inr]; omega)) ?_
    refine adraw [.int .i64 (stCmp (l[c + m - 1 - x]'(by omega)).st (l[x]'(by omega)).st)] mixed (by decide) (N := 220) Tryz.ntmps176 (by decide) 100 ?_
    cases dc : decide (stCmp (l[c + m - 1 - x]'(by omega)).st (l[x]'(by omega)).st < 0) with
    | false =>
      have hP : (!decide (stCmp (l.getD (c + m - 1 - x) d00).st (l.getD x d00).st < 0)) = true := by rw [atD (by omega), atD (by omega), dc]; rfl
      rw [← hx, if_pos hP] at f2
      have hfin := hJ (x + 1, j) ⟨by simp only; omega, by simp only; omega, g3, g4, f3, by simp only; omega, f2⟩ (by simp only; omega)
      simp only [go_sem, e2, e3, p1, p2, dc, List.length_map]
      repeat refine And.intro (by first | exact hc2.at | omega | rfl | (simp; done) | (simp; omega)) ?_
      refine goB (N := 220) Tryz.ntmps176 300 ?_
      simp only [go_sem]
      repeat refine And.intro (by omega) ?_
      rw [show (x : Int) + 1 = ((x + 1 : Nat) : Int) by omega]
      refine ainv hfin (Shift.weakS ?_ rfl)
      simp only [wk, go_sem]
    | true =>
      have hP : ¬ (!decide (stCmp (l.getD (c + m - 1 - x) d00).st (l.getD x d00).st < 0)) = true := by rw [atD (by omega), atD (by omega), dc]; simp
      rw [← hx, if_neg hP] at f2
      have hfin := hJ (i, x) ⟨by simp only; omega, g2, by simp only; omega, by simp only; omega, f3, by simp only; omega, f2⟩ (by simp only; omega)
      simp only [go_sem, e2, e3, p1, p2, dc, List.length_map]
      repeat refine And.intro (by first | exact hc2.at | omega | rfl | (simp; done) | (simp; omega)) ?_
      refine goB (N := 220) Tryz.ntmps176 300 ?_
      simp only [go_sem]
      refine ainv hfin (Shift.weakS ?_ rfl)
      simp only [wk, go_sem]
  · have di : decide ((i : Int) < (j : Int)) = false := by simp; omega
    rw [bsF_end hij] at f2
    subst f2
    clear hJ
    obtain ⟨en, hen⟩ : ∃ en, c + m - i = en := ⟨_, rfl⟩
    have een : (c : Int) + (m : Int) - (i : Int) = (en : Int) := by omega
    rw [hen] at hq1 hq3
    refine goB (N := 220) Tryz.ntmps176 25 ?_
    simp only [go_sem, di, een]
    repeat refine And.intro (by omega) ?_
    refine acut (ι := Unit) (fun _ => [(24, .int .i64 en), (20, .int .i64 i), (18, .int .i64 c), (4, .fn (.func 77) []), (3, .int .i64 b), (1, .int .i64 a), (0, .sl 0 0 l.length l.length)]) (fun _ => [.arr 7 (q1.map deA)]) (fun _ => True) ?_ ?_
    · intro J hJ
      have hfin := hJ () trivial
      rcases hq1 with ⟨t1, t2, hr⟩ | ⟨hno, rfl⟩
      · have d1 : decide ((i : Int) < (m : Int)) = true := by simp; omega
        have d2 : decide ((m : Int) < (en : Int)) = true := by simp; omega
        refine goB (N := 220) Tryz.ntmps176 300 ?_
        simp only [go_sem, d1, d2]
        refine acall (hr) (N := 220) Tryz.ntmps176 rfl ?_
        rintro _ _ ⟨rfl, rfl⟩
        refine goB (N := 220) Tryz.ntmps176 300 ?_
        simp only [go_sem]
        refine ainv hfin (Shift.weakS ?_ rfl)
        simp only [wk, go_sem]
      · by_cases t1 : i < m
        · have d1 : decide ((i : Int) < (m : Int)) = true := by simp; omega
          have d2 : decide ((m : Int) < (en : Int)) = false := by simp; omega
          refine goB (N := 220) Tryz.ntmps176 300 ?_
          simp only [go_sem, d1, d2]
          refine ainv hfin (Shift.weakS ?_ rfl)
          simp only [wk, go_sem]
        · have d1 : decide ((i : Int) < (m : Int)) = false := by simp; omega
          refine goB (N := 220) Tryz.ntmps176 300 ?_
          simp only [go_sem, d1]
          refine ainv hfin (Shift.weakS ?_ rfl)
          simp only [wk, go_sem]
    rintro ⟨⟩ _
    refine goB (N := 220) Tryz.ntmps176 1 ?_
    simp only [go_sem]
    refine acut (ι := Unit) (fun _ => [(24, .int .i64 en), (18, .int .i64 c), (4, .fn (.func 77) []), (3, .int .i64 b), (0, .sl 0 0 l.length l.length)]) (fun _ => [.arr 7 (q2.map deA)]) (fun _ => True) ?_ ?_
    · intro J hJ
      have hfin := hJ () trivial
      rcases hq2 with ⟨t1, t2, hr⟩ | ⟨hno, rfl⟩
      · have d1 : decide ((a : Int) < (i : Int)) = true := by simp; omega
        have d2 : decide ((i : Int) < (c : Int)) = true := by simp; omega
        refine goB (N := 220) Tryz.ntmps176 300 ?_
        simp only [go_sem, d1, d2]
        refine acall (hr) (N := 220) Tryz.ntmps176 rfl ?_
        rintro _ _ ⟨rfl, rfl⟩
        refine goB (N := 220) Tryz.ntmps176 300 ?_
        simp only [go_sem]
        refine ainv hfin (Shift.weakS ?_ rfl)
        simp only [wk, go_sem]
      · by_cases t1 : a < i
        · have d1 : decide ((a : Int) < (i : Int)) = true := by simp; omega
          have d2 : decide ((i : Int) < (c : Int)) = false := by simp; omega
          refine goB (N := 220) Tryz.ntmps176 300 ?_
          simp only [go_sem, d1, d2]
          refine ainv hfin (Shift.weakS ?_ rfl)
          simp only [wk, go_sem]
        · have d1 : decide ((a : Int) < (i : Int)) = false := by simp; omega
          refine goB (N := 220) Tryz.ntmps176 300 ?_
          simp only [go_sem, d1]
          refine ainv hfin (Shift.weakS ?_ rfl)
          simp only [wk, go_sem]
    rintro ⟨⟩ _
    rcases hq3 with ⟨t1, t2, hr⟩ | ⟨hno, rfl⟩
    · have d1 : decide ((c : Int) < (en : Int)) = true := by simp; omega
      have d2 : decide ((en : Int) < (b : Int)) = true := by simp; omega
      refine goB (N := 220) Tryz.ntmps176 300 ?_
      simp only [go_sem, d1, d2]
      refine acall (hr) (N := 220) Tryz.ntmps176 rfl ?_
      rintro _ _ ⟨rfl, rfl⟩
      refine goB (N := 220) Tryz.ntmps176 300 ?_
      simp only [go_sem]
      exact aret [] rfl ⟨rfl, rfl⟩
    · by_cases t1 : c < en
      · have d1 : decide ((c : Int) < (en : Int)) = true := by simp; omega
        have d2 : decide ((en : Int) < (b : Int)) = false := by simp; omega
        refine goB (N := 220) Tryz.ntmps176 300 ?_
        simp only [go_sem, d1, d2]
        exact aret [] rfl ⟨rfl, rfl⟩
      · have d1 : decide ((c : Int) < (en : Int)) = false := by simp; omega
        refine goB (N := 220) Tryz.ntmps176 300 ?_
        simp only [go_sem, d1]
        exact aret [] rfl ⟨rfl, rfl⟩

theorem symMerge_allX : ∀ N, MergeX N := by
  intro N
  induction N using Nat.strongRecOn with
  | _ N ih =>
    intro l a m b hN h1 h2 h3 hl
    by_cases t1 : m = a + 1
    · subst t1
      refine ⟨_, upF_perm _ _ _ _ ?_, symMerge_oneX l a b h2 h3 hl⟩
      have := (bsF_bd (fun c => decide (stCmp (l.getD c d00).st (l.getD a d00).st < 0)) b (a + 1) b (by omega)).2
      omega
    · by_cases t2 : b = m + 1
      · subst t2
        exact ⟨_, dnF_perm _ _ _ _ (by omega), symMerge_lastX l a m (by omega) h3 hl⟩
      · exact symMerge_midX l a m b (ih (b - a) hN) (by omega) (by omega) h3 hl
end Go.Proofs.YtkomcdohejibmaaGreatDoor
/- SortStableFunc at deeds, told exactly. Own work of this seat. -/
set_option maxRecDepth 100000
set_option linter.unusedSimpArgs false
set_option linter.unusedVariables false
namespace Go.Proofs.YtkomcdohejibmaaGreatDoor
open Go Go.Av Go.RowKit

theorem insF_perm (a : Nat) : ∀ (f j : Nat) (q : List De), j < q.length → (insF a f j q).Perm q
  | 0, _, q, _ => .refl _
  | f + 1, j, q, h => by
    rw [insF]
    split
    · rw [atD (by omega), atD (by omega)]
      exact (insF_perm a f (j - 1) _ (by simp; omega)).trans (List.set_set_perm (by omega) (by omega))
    · exact .refl _
theorem isF_perm (a b : Nat) : ∀ (f i : Nat) (q : List De), b ≤ q.length → (isF a b f i q).Perm q
  | 0, _, q, _ => .refl _
  | f + 1, i, q, h => by
    rw [isF]
    split
    · have hp := insF_perm a i i q (by omega)
      exact (isF_perm a b f (i + 1) _ (by rw [hp.length_eq]; exact h)).trans hp
    · exact .refl _
def insS (q : List De) (a b : Nat) : List De := isF a b (b + 1 - (a + 1)) (a + 1) q
theorem insS_perm {q : List De} {a b : Nat} (h : b ≤ q.length) : (insS q a b).Perm q := isF_perm a b _ _ q h
def blF (len : Nat) : Nat → Nat → List De → List De
  | 0, _, q => q
  | f + 1, a, q => if a + 20 ≤ len then blF len f (a + 20) (insS q a (a + 20)) else insS q a len
open Classical in
noncomputable def mgF (q : List De) (a m b : Nat) : List De := if h : a < m ∧ m < b ∧ b ≤ q.length ∧ q.length < 1000000 then Classical.choose (symMerge_allX (b - a + 1) q a m b (by omega) h.1 h.2.1 h.2.2.1 h.2.2.2) else q
theorem mgF_perm (q : List De) (a m b : Nat) : (mgF q a m b).Perm q := by
  unfold mgF
  split
  · rename_i h
    exact (Classical.choose_spec (symMerge_allX (b - a + 1) q a m b (by omega) h.1 h.2.1 h.2.2.1 h.2.2.2)).1
  · exact .refl _
theorem mgF_ct (l : List De) (a m b : Nat) (h1 : a < m) (h2 : m < b) (h3 : b ≤ l.length) (hl : l.length < 1000000) :
    Ct Tryz.prog 176 [.sl 0 0 l.length l.length, .int .i64 a, .int .i64 m, .int .i64 b, .fn (.func 77) []] [.arr 7 (l.map deA)] (SortE (mgF l a m b)) := by
  unfold mgF
  rw [dif_pos ⟨h1, h2, h3, hl⟩]
  exact (Classical.choose_spec (symMerge_allX (b - a + 1) l a m b (by omega) h1 h2 h3 hl)).2
noncomputable def inF (len bs : Nat) : Nat → Nat → List De → List De
  | 0, _, q => q
  | f + 1, a, q => if a + 2 * bs ≤ len then inF len bs f (a + 2 * bs) (mgF q a (a + bs) (a + 2 * bs)) else if a + bs < len then mgF q a (a + bs) len else q
noncomputable def otF (len : Nat) : Nat → Nat → List De → List De
  | 0, _, q => q
  | f + 1, bs, q => if bs < len then otF len f (bs * 2) (inF len bs len 0 q) else q
noncomputable def stF (l : List De) : List De := otF l.length l.length 20 (blF l.length (l.length + 1) 0 l)
set_option maxHeartbeats 8000000 in
theorem stableX (l : List De) (hl : l.length < 1000000) :
    Ct Tryz.prog 134 [.sl 0 0 l.length l.length, .int .i64 l.length, .fn (.func 77) []] [.arr 7 (l.map deA)] (SortE (stF l)) := by
  refine ct_intro Tryz.func134 rfl Tryz.ntmps134 hB134 (by simp) fun h ρ w => goB (N := 63) Tryz.ntmps134 300 ?_
  simp only [go_sem]
  refine aloop (ι := Nat × List De) (fun y => l.length - y.1) (fun y => [(8, .int .i64 ((y.1 + 20 : Nat) : Int)), (7, .int .i64 y.1), (6, .int .i64 20), (2, .fn (.func 77) []), (1, .int .i64 l.length), (0, .sl 0 0 l.length l.length)]) (fun y => [.arr 7 (y.2.map deA)])
    (fun y => y.1 ≤ l.length ∧ y.2.Perm l ∧ ∃ f, l.length - y.1 < f ∧ blF l.length f y.1 y.2 = blF l.length (l.length + 1) 0 l) (0, l) ⟨by simp, .refl _, l.length + 1, by simp, rfl⟩ ?_ ?_
  · refine Shift.weakS ?_ rfl
    simp only [wk, go_sem]
  rintro ⟨a, q⟩ ⟨g1, g2, f0, f1, f2⟩ J hJ
  simp only at g1 g2 f1 f2 hJ ⊢
  obtain ⟨f3, rfl⟩ : ∃ f3, f0 = f3 + 1 := ⟨f0 - 1, by omega⟩
  rw [blF] at f2
  have hq := g2.length_eq
  by_cases t1 : a + 20 ≤ l.length
  · have d1 : decide (((a + 20 : Nat) : Int) ≤ (l.length : Int)) = true := by simp; omega
    have hr := insertionSortX q a (a + 20) (by omega) (by omega) (by omega)
    rw [hq] at hr
    refine goB (N := 63) Tryz.ntmps134 300 ?_
    simp only [go_sem, d1]
    refine acall (hr) (N := 63) Tryz.ntmps134 rfl ?_
    rintro _ _ ⟨rfl, rfl⟩
    rw [if_pos t1] at f2
    have hfin := hJ (a + 20, insS q a (a + 20)) ⟨by simp only; omega, (insS_perm (by omega)).trans g2, f3, by simp only; omega, f2⟩ (by simp only; omega)
    refine goB (N := 63) Tryz.ntmps134 300 ?_
    simp only [go_sem]
    repeat refine And.intro (by omega) ?_
    rw [show ((a + 20 : Nat) : Int) + 20 = ((a + 20 + 20 : Nat) : Int) by omega]
    refine ainv hfin (Shift.weakS ?_ rfl)
    simp only [wk, go_sem]
  have d1 : decide (((a + 20 : Nat) : Int) ≤ (l.length : Int)) = false := by simp; omega
  have hr := insertionSortX q a l.length (by omega) (by omega) (by omega)
  rw [hq] at hr
  refine goB (N := 63) Tryz.ntmps134 300 ?_
  simp only [go_sem, d1]
  refine acall (hr) (N := 63) Tryz.ntmps134 rfl ?_
  rintro _ _ ⟨rfl, rfl⟩
  rw [if_neg t1] at f2
  obtain ⟨q', hq'⟩ : ∃ q', insS q a l.length = q' := ⟨_, rfl⟩
  have hp : q'.Perm q := by rw [← hq']; exact insS_perm (by omega)
  rw [hq'] at f2
  rw [show isF a l.length (l.length + 1 - (a + 1)) (a + 1) q = q' from hq']
  clear hJ J
  refine goB (N := 63) Tryz.ntmps134 300 ?_
  simp only [go_sem]
  refine aloop (ι := Nat × List De) (fun y => l.length - y.1) (fun y => [(6, .int .i64 y.1), (2, .fn (.func 77) []), (1, .int .i64 l.length), (0, .sl 0 0 l.length l.length)]) (fun y => [.arr 7 (y.2.map deA)])
    (fun y => 1 ≤ y.1 ∧ y.2.Perm l ∧ ∃ f, l.length - y.1 ≤ f ∧ otF l.length f y.1 y.2 = stF l) (20, q') ⟨by simp, hp.trans g2, l.length, by simp, by unfold stF; rw [← f2]⟩ ?_ ?_
  · refine Shift.weakS ?_ rfl
    simp only [wk, go_sem]
  clear hr hp f1 f2 hq' q' hq g2 g1 q d1 t1 a
  rintro ⟨bs, q⟩ ⟨g1, g2, f0, f1, f2⟩ J hJ
  simp only at g1 g2 f1 f2 hJ ⊢
  by_cases t1 : bs < l.length
  · obtain ⟨f3, rfl⟩ : ∃ f3, f0 = f3 + 1 := ⟨f0 - 1, by omega⟩
    rw [otF, if_pos t1] at f2
    have d1 : decide ((bs : Int) < (l.length : Int)) = true := by simp; omega
    refine goB (N := 63) Tryz.ntmps134 300 ?_
    simp only [go_sem, d1]
    repeat refine And.intro (by omega) ?_
    rw [show (2 : Int) * (bs : Int) = ((0 + 2 * bs : Nat) : Int) by omega]
    refine aloop (ι := Nat × List De) (fun y => l.length - y.1) (fun y => [(8, .int .i64 ((y.1 + 2 * bs : Nat) : Int)), (7, .int .i64 y.1), (6, .int .i64 bs), (2, .fn (.func 77) []), (1, .int .i64 l.length), (0, .sl 0 0 l.length l.length)]) (fun y => [.arr 7 (y.2.map deA)])
      (fun y => y.1 ≤ l.length ∧ y.2.Perm l ∧ ∃ f, l.length - y.1 ≤ f ∧ inF l.length bs f y.1 y.2 = inF l.length bs l.length 0 q) (0, q) ⟨by simp, g2, l.length, by simp, rfl⟩ ?_ ?_
    · refine Shift.weakS ?_ rfl
      simp only [wk, go_sem]
    generalize inF l.length bs l.length 0 q = Q at *
    clear g2 q
    rintro ⟨a, q⟩ ⟨k1, k2, h0, h1, h2⟩ K hK
    simp only at k1 k2 h1 h2 hK ⊢
    have hq := k2.length_eq
    by_cases t2 : a + 2 * bs ≤ l.length
    · have d2 : decide (((a + 2 * bs : Nat) : Int) ≤ (l.length : Int)) = true := by simp; omega
      have hr := mgF_ct q a (a + bs) (a + 2 * bs) (by omega) (by omega) (by omega) (by omega)
      rw [hq, show ((a + bs : Nat) : Int) = (a : Int) + (bs : Int) by omega] at hr
      refine goB (N := 63) Tryz.ntmps134 300 ?_
      simp only [go_sem, d2]
      repeat refine And.intro (by omega) ?_
      refine acall (hr) (N := 63) Tryz.ntmps134 rfl ?_
      rintro _ _ ⟨rfl, rfl⟩
      obtain ⟨h3, rfl⟩ : ∃ h3, h0 = h3 + 1 := ⟨h0 - 1, by omega⟩
      rw [inF, if_pos t2] at h2
      have hfin := hK (a + 2 * bs, mgF q a (a + bs) (a + 2 * bs)) ⟨by simp only; omega, (mgF_perm ..).trans k2, h3, by simp only; omega, h2⟩ (by simp only; omega)
      refine goB (N := 63) Tryz.ntmps134 300 ?_
      simp only [go_sem]
      repeat refine And.intro (by omega) ?_
      rw [show ((a + 2 * bs : Nat) : Int) + 2 * (bs : Int) = ((a + 2 * bs + 2 * bs : Nat) : Int) by omega]
      refine ainv hfin (Shift.weakS ?_ rfl)
      simp only [wk, go_sem]
    have d2 : decide (((a + 2 * bs : Nat) : Int) ≤ (l.length : Int)) = false := by simp; omega
    by_cases t3 : a + bs < l.length
    · have d3 : decide ((a : Int) + (bs : Int) < (l.length : Int)) = true := by simp; omega
      have hr := mgF_ct q a (a + bs) l.length (by omega) (by omega) (by omega) (by omega)
      rw [hq, show ((a + bs : Nat) : Int) = (a : Int) + (bs : Int) by omega] at hr
      refine goB (N := 63) Tryz.ntmps134 300 ?_
      simp only [go_sem, d2, d3]
      repeat refine And.intro (by omega) ?_
      refine acall (hr) (N := 63) Tryz.ntmps134 rfl ?_
      rintro _ _ ⟨rfl, rfl⟩
      obtain ⟨h3, rfl⟩ : ∃ h3, h0 = h3 + 1 := ⟨h0 - 1, by omega⟩
      rw [inF, if_neg t2, if_pos t3] at h2
      have hfin := hJ (bs * 2, mgF q a (a + bs) l.length) ⟨by simp only; omega, (mgF_perm q a (a + bs) l.length).trans k2, f3, by simp only; omega, by simp only; rw [h2]; exact f2⟩ (by simp only; omega)
      refine goB (N := 63) Tryz.ntmps134 300 ?_
      simp only [go_sem]
      repeat refine And.intro (by omega) ?_
      rw [show (bs : Int) * 2 = ((bs * 2 : Nat) : Int) by omega]
      refine ainv hfin (Shift.weakS ?_ rfl)
      simp only [wk, go_sem]
    · have d3 : decide ((a : Int) + (bs : Int) < (l.length : Int)) = false := by simp; omega
      have h4 : inF l.length bs h0 a q = q := by
        cases h0 with
        | zero => rfl
        | succ h => rw [inF, if_neg t2, if_neg t3]
      have hfin := hJ (bs * 2, q) ⟨by simp only; omega, k2, f3, by simp only; omega, by simp only; rw [← h4, h2]; exact f2⟩ (by simp only; omega)
      refine goB (N := 63) Tryz.ntmps134 300 ?_
      simp only [go_sem, d2, d3]
      repeat refine And.intro (by omega) ?_
      rw [show (bs : Int) * 2 = ((bs * 2 : Nat) : Int) by omega]
      refine ainv hfin (Shift.weakS ?_ rfl)
      simp only [wk, go_sem]
  have d1 : decide ((bs : Int) < (l.length : Int)) = false := by simp; omega
  refine goB (N := 63) Tryz.ntmps134 300 ?_
  simp only [go_sem, d1]
  have h4 : otF l.length f0 bs q = q := by
    cases f0 with
    | zero => rfl
    | succ f => rw [otF, if_neg t1]
  exact aret [] rfl ⟨rfl, by rw [← f2, h4]⟩

theorem sortStableX (l : List De) (hl : l.length < 1000000) :
    Ct Tryz.prog 76 [.sl 0 0 l.length l.length, .fn (.func 77) []] [.arr 7 (l.map deA)] (SortE (stF l)) := by
  have hr := stableX l hl
  refine ct_intro Tryz.func76 rfl Tryz.ntmps76 hB76 (by simp) fun h ρ w => goB (N := 9) Tryz.ntmps76 300 ?_
  simp only [go_sem, List.length_map]
  repeat refine And.intro (by first | omega | rfl | (simp; omega)) ?_
  refine acall (hr) (N := 9) Tryz.ntmps76 rfl ?_
  rintro _ _ ⟨rfl, rfl⟩
  refine goB (N := 9) Tryz.ntmps76 300 ?_
  simp only [go_sem]
  exact aret [] rfl ⟨rfl, rfl⟩

theorem stF_perm (l : List De) : (stF l).Perm l := by
  have hb : ∀ (f a : Nat) (q : List De), l.length ≤ q.length → (blF l.length f a q).Perm q := by
    intro f
    induction f with
    | zero => intro a q _; exact .refl _
    | succ f ih =>
      intro a q hq
      rw [blF]
      split
      · have hp := insS_perm (q := q) (a := a) (b := a + 20) (by omega)
        exact (ih _ _ (by rw [hp.length_eq]; exact hq)).trans hp
      · exact insS_perm hq
  have hi : ∀ (bs f a : Nat) (q : List De), (inF l.length bs f a q).Perm q := by
    intro bs f
    induction f with
    | zero => intro a q; exact .refl _
    | succ f ih =>
      intro a q
      rw [inF]
      split
      · exact (ih _ _).trans (mgF_perm ..)
      · split
        · exact mgF_perm ..
        · exact .refl _
  have ho : ∀ (f bs : Nat) (q : List De), (otF l.length f bs q).Perm q := by
    intro f
    induction f with
    | zero => intro bs q; exact .refl _
    | succ f ih =>
      intro bs q
      rw [otF]
      split
      · exact (ih _ _).trans (hi ..)
      · exact .refl _
  unfold stF
  exact (ho _ _ _).trans (hb _ _ _ (Nat.le_refl _))
end Go.Proofs.YtkomcdohejibmaaGreatDoor
