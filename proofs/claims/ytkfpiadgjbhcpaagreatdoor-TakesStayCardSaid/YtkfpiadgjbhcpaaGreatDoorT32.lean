/- The paragraphs of a block that are drawn, told exactly. Own work of this seat. -/
import Derived.Test.YtkfpiadgjbhcpaaGreatDoorT31
import Derived.Test.YtkfpiadgjbhcpaaGreatDoorT21
set_option maxRecDepth 100000
set_option linter.unusedSimpArgs false
set_option linter.unusedVariables false
namespace Go.Proofs.YtkfpiadgjbhcpaaGreatDoor
open Go Go.Av Go.RowKit

def rndA (L : List Int) (x : Int × List Pa) : Int × List Pa :=
  if flipF L x.1 3 then ((wordsF L (x.1 + 1 + 1) (pickF L (x.1 + 1) [2, 20]) 200).2, x.2 ++ [⟨3, (wordsF L (x.1 + 1 + 1) (pickF L (x.1 + 1) [2, 20]) 200).1⟩]) else (x.1 + 1, x.2)
def rndB (L : List Int) (x : Int × List Pa) : Int × List Pa :=
  if flipF L (wordsF L (x.1 + 1) (pickF L x.1 [3, 12, 80]) 1998).2 8 then
    ((wordsF L (x.1 + 1) (pickF L x.1 [3, 12, 80]) 1998).2 + 1 + 1, x.2 ++ [⟨4, oneF L ((wordsF L (x.1 + 1) (pickF L x.1 [3, 12, 80]) 1998).2 + 1) PreB ++ (wordsF L (x.1 + 1) (pickF L x.1 [3, 12, 80]) 1998).1⟩])
  else ((wordsF L (x.1 + 1) (pickF L x.1 [3, 12, 80]) 1998).2 + 1, x.2 ++ [⟨4, (wordsF L (x.1 + 1) (pickF L x.1 [3, 12, 80]) 1998).1⟩])
def rndsF (L : List Int) : Nat → Int × List Pa → Int × List Pa
  | 0, x => x
  | n + 1, x => rndsF L n (rndB L (rndA L x))
/-- what holds of a group of speech -/
structure RunP (e : Int) (out : List Pa) : Prop where
  run : ∀ l, l ≠ 2 → l ≠ 3 → runL l out = some e
  all : ∀ p ∈ out, DrawnP p
  len : 1 ≤ out.length
theorem RunP.add {e : Int} {out : List Pa} (h : RunP e out) {p : Pa} (hp : DrawnP p) (hf : followsL p.kind e = true) : RunP p.kind (out ++ [p]) :=
  ⟨fun l l2 l3 => runL_one (h.run l l2 l3) hp.ok hf, fun q hq => by
    rcases List.mem_append.1 hq with hq | hq
    · exact h.all q hq
    · rw [List.mem_singleton.1 hq]; exact hp, by simp⟩
theorem pickA (L : List Int) (k : Int) : 1 ≤ pickF L k [2, 20] ∧ pickF L k [2, 20] ≤ 80 := (show ∀ x ∈ [(2 : Int), 20], 1 ≤ x ∧ x ≤ 80 by decide) _ (pickF_mem (by decide))
theorem pickB (L : List Int) (k : Int) : 1 ≤ pickF L k [3, 12, 80] ∧ pickF L k [3, 12, 80] ≤ 80 := (show ∀ x ∈ [(3 : Int), 12, 80], 1 ≤ x ∧ x ≤ 80 by decide) _ (pickF_mem (by decide))
theorem pickC (L : List Int) (k : Int) : 1 ≤ pickF L k [3, 12, 60] ∧ pickF L k [3, 12, 60] ≤ 80 := (show ∀ x ∈ [(3 : Int), 12, 60], 1 ≤ x ∧ x ≤ 80 by decide) _ (pickF_mem (by decide))
theorem rndA_ok (L : List Int) (x : Int × List Pa) {e : Int} (h : RunP e x.2) (he : e = 2 ∨ e = 4) : (∃ e', RunP e' (rndA L x).2 ∧ (e' = 2 ∨ e' = 3 ∨ e' = 4)) ∧ x.1 ≤ (rndA L x).1 ∧ (rndA L x).1 ≤ x.1 + 84 ∧ (rndA L x).2.length ≤ x.2.length + 1 := by
  obtain ⟨w1, w2, w3, w4⟩ := wordsF_ok L (x.1 + 1 + 1) (pickF L (x.1 + 1) [2, 20]) 200 (pickA L _).1 (pickA L _).2 (by decide)
  unfold rndA
  generalize wordsF L (x.1 + 1 + 1) (pickF L (x.1 + 1) [2, 20]) 200 = w at *
  split
  · refine ⟨⟨3, h.add (p := ⟨3, w.1⟩) (drawn_aside w1 (by omega)) (by rcases he with rfl | rfl <;> rfl), .inr (.inl rfl)⟩, ?_, ?_, ?_⟩
    · simp only; omega
    · simp only; omega
    · simp
  · exact ⟨⟨e, h, by omega⟩, by simp only; omega, by simp only; omega, by simp⟩
theorem rndB_ok (L : List Int) (x : Int × List Pa) {e : Int} (h : RunP e x.2) (he : e = 2 ∨ e = 3 ∨ e = 4) : RunP 4 (rndB L x).2 ∧ x.1 ≤ (rndB L x).1 ∧ (rndB L x).1 ≤ x.1 + 84 ∧ (rndB L x).2.length ≤ x.2.length + 1 := by
  obtain ⟨w1, w2, w3, w4⟩ := wordsF_ok L (x.1 + 1) (pickF L x.1 [3, 12, 80]) 1998 (pickB L _).1 (pickB L _).2 (by decide)
  have fol : followsL 4 e = true := by rcases he with rfl | rfl | rfl <;> rfl
  unfold rndB
  generalize wordsF L (x.1 + 1) (pickF L x.1 [3, 12, 80]) 1998 = w at *
  split
  · obtain ⟨u1, u2⟩ := pre_text (.inr (oneF_mem (L := L) (k := w.2 + 1) (ls := PreB) (by decide))) w1
    exact ⟨h.add (p := ⟨4, oneF L (w.2 + 1) PreB ++ w.1⟩) (drawn_text (.inr rfl) u1 (by simp; omega)) fol, by simp only; omega, by simp only; omega, by simp⟩
  · exact ⟨h.add (p := ⟨4, w.1⟩) (drawn_text (.inr rfl) (w1.weak wordC_text) (by omega)) fol, by simp only; omega, by simp only; omega, by simp⟩
theorem rndsF_ok (L : List Int) : ∀ (n : Nat) (x : Int × List Pa) (e : Int), RunP e x.2 → (e = 2 ∨ e = 4) → (n = 0 → e = 4) →
    RunP 4 (rndsF L n x).2 ∧ x.1 ≤ (rndsF L n x).1 ∧ (rndsF L n x).1 ≤ x.1 + 168 * n ∧ (rndsF L n x).2.length ≤ x.2.length + 2 * n
  | 0, x, e, h, he, h0 => ⟨h0 rfl ▸ h, Int.le_refl _, by simp [rndsF], by simp [rndsF]⟩
  | n + 1, x, e, h, he, h0 => by
    obtain ⟨⟨e', a1, a2⟩, a3, a4, a5⟩ := rndA_ok L x h he
    obtain ⟨b1, b2, b3, b4⟩ := rndB_ok L (rndA L x) a1 a2
    obtain ⟨c1, c2, c3, c4⟩ := rndsF_ok L n (rndB L (rndA L x)) 4 b1 (.inr rfl) (fun _ => rfl)
    simp only [rndsF]
    exact ⟨c1, by omega, by push_cast; omega, by omega⟩
def parasF (L : List Int) (k : Int) : List Pa × Int :=
  if nx L k 6 = 0 ∨ nx L k 6 = 1 then
    (if flipF L (wordsF L (k + 1 + 1) (pickF L (k + 1) [3, 12, 60]) 1998).2 8 then
      ([⟨1, oneF L ((wordsF L (k + 1 + 1) (pickF L (k + 1) [3, 12, 60]) 1998).2 + 1) PreA ++ (wordsF L (k + 1 + 1) (pickF L (k + 1) [3, 12, 60]) 1998).1⟩], (wordsF L (k + 1 + 1) (pickF L (k + 1) [3, 12, 60]) 1998).2 + 1 + 1)
    else ([⟨1, (wordsF L (k + 1 + 1) (pickF L (k + 1) [3, 12, 60]) 1998).1⟩], (wordsF L (k + 1 + 1) (pickF L (k + 1) [3, 12, 60]) 1998).2 + 1))
  else if nx L k 6 = 2 then ([⟨5, oneF L (k + 1) TurnL⟩], k + 1 + 1)
  else ((rndsF L (rangeF L (k + 1 + 1) 1 2).toNat (k + 1 + 1 + 1, [⟨2, oneF L (k + 1) NameL⟩])).2, (rndsF L (rangeF L (k + 1 + 1) 1 2).toNat (k + 1 + 1 + 1, [⟨2, oneF L (k + 1) NameL⟩])).1)
theorem range12 (L : List Int) (k : Int) : 1 ≤ rangeF L k 1 2 ∧ rangeF L k 1 2 ≤ 2 := by
  have := nx_bd L k (2 - 1 + 1) (by decide)
  unfold rangeF; omega
theorem name_run {t : List UInt8} (h : t ∈ NameL) : RunP 2 [⟨2, t⟩] :=
  ⟨fun l h2 h3 => by simp [runL, (drawn_name h).ok, follows_free (show (2 : Int) ≠ 3 by decide) (show (2 : Int) ≠ 4 by decide) h2 h3], by simpa using drawn_name h, by simp⟩
theorem parasF_ok (L : List Int) (k : Int) : Block (parasF L k).1 ∧ k ≤ (parasF L k).2 ∧ (parasF L k).2 ≤ k + 400 := by
  unfold parasF
  split
  · obtain ⟨w1, w2, w3, w4⟩ := wordsF_ok L (k + 1 + 1) (pickF L (k + 1) [3, 12, 60]) 1998 (pickC L _).1 (pickC L _).2 (by decide)
    generalize wordsF L (k + 1 + 1) (pickF L (k + 1) [3, 12, 60]) 1998 = w at *
    split
    · obtain ⟨u1, u2⟩ := pre_text (.inl (oneF_mem (L := L) (k := w.2 + 1) (ls := PreA) (by decide))) w1
      exact ⟨block_one (drawn_text (.inl rfl) u1 (by simp; omega)) (.inl rfl), by simp only; omega, by simp only; omega⟩
    · exact ⟨block_one (drawn_text (.inl rfl) (w1.weak wordC_text) (by omega)) (.inl rfl), by simp only; omega, by simp only; omega⟩
  · split
    · exact ⟨block_one (drawn_turn (oneF_mem (by decide))) (.inr rfl), by simp only; omega, by simp only; omega⟩
    · have hr := range12 L (k + 1 + 1)
      generalize rangeF L (k + 1 + 1) 1 2 = n at *
      obtain ⟨c1, c2, c3, c4⟩ := rndsF_ok L n.toNat (k + 1 + 1 + 1, [⟨2, oneF L (k + 1) NameL⟩]) 2 (name_run (oneF_mem (by decide))) (.inl rfl) (by omega)
      simp only at c2 c3 c4
      exact ⟨⟨fun l l2 l3 => ⟨4, c1.run l l2 l3, by decide, by decide⟩, ⟨c1.len, by simp at c4 ⊢; omega⟩, c1.all⟩, by simp only; omega, by simp only; omega⟩

set_option maxHeartbeats 2000000 in
theorem parasX_mc (L : List Int) (k : Int) (h3 : 0 ≤ k) (h4 : k ≤ 800000) :
    Mc Tryz.prog 142 2 (str L k) [] (fun r s => r = .fz 2 ((parasF L k).1.map paA) ∧ s = str L (parasF L k).2) := by
  obtain ⟨⟨b0, k0⟩, hw⟩ : ∃ z, z = parasF L k := ⟨_, rfl⟩
  rw [← hw]
  unfold parasF at hw
  have hb := nx_bd L k 6 (by decide)
  refine ct_intro Tryz.func142 rfl Tryz.ntmps142 hB142 (by simp) fun h ρ w => goF (N := 72) Tryz.ntmps142 300 ?_
  simp only [go_sem]
  refine mcall (nextX_mc L k _ (by omega) (by omega) h3 (by omega)) rfl rfl (id := 0) rfl (N := 72) Tryz.ntmps142 rfl ?_
  rintro _ _ ⟨rfl, rfl⟩
  generalize nx L k 6 = v at *
  have hv : (v = 0 ∨ v = 1) ∨ v = 2 ∨ ((v == 0) = false ∧ (v == 1) = false ∧ (v == 2) = false) := by
    by_cases a : v = 0
    · exact .inl (.inl a)
    by_cases b : v = 1
    · exact .inl (.inr b)
    by_cases c : v = 2
    · exact .inr (.inl c)
    exact .inr (.inr ⟨by simpa using a, by simpa using b, by simpa using c⟩)
  rcases hv with hv | rfl | ⟨d0, d1, d2⟩
  · rw [if_pos hv] at hw
    have hp := pickX_mc L (k + 1) [3, 12, 60] (by decide) (by decide) (by omega) (by omega)
    obtain ⟨x1, x2⟩ := pickC L (k + 1)
    generalize pickF L (k + 1) [3, 12, 60] = x at *
    have hwx := wordsX_mc L (k + 1 + 1) x 1998 x1 x2 (by decide) (by decide) (by omega) (by omega)
    obtain ⟨w1, w2, w3, w4⟩ := wordsF_ok L (k + 1 + 1) x 1998 x1 x2 (by decide)
    generalize wordsF L (k + 1 + 1) x 1998 = w at *
    obtain ⟨t, k'⟩ := w
    simp only at w1 w2 w3 w4 hwx hw
    have hfl := flipX_mc L k' 8 (by decide) (by decide) (by omega) (by omega)
    have hon := oneX_mc L (k' + 1) PreA (by decide) (by decide) (by omega) (by omega)
    have hom := oneF_mem (L := L) (k := k' + 1) (ls := PreA) (by decide)
    generalize oneF L (k' + 1) PreA = y at *
    obtain ⟨u1, u2⟩ := pre_text (.inl hom) w1
    generalize flipF L k' 8 = fb at *
    rcases hv with rfl | rfl <;>
    · refine goF (N := 72) Tryz.ntmps142 300 ?_
      simp only [go_sem]
      refine mcall (hp) rfl rfl (id := 0) rfl (N := 72) Tryz.ntmps142 rfl ?_
      rintro _ _ ⟨rfl, rfl⟩
      refine goF (N := 72) Tryz.ntmps142 300 ?_
      simp only [go_sem]
      refine mcall (hwx) rfl rfl (id := 0) rfl (N := 72) Tryz.ntmps142 rfl ?_
      rintro _ _ ⟨rfl, rfl⟩
      refine goF (N := 72) Tryz.ntmps142 300 ?_
      simp only [go_sem]
      refine mcall (hfl) rfl rfl (id := 0) rfl (N := 72) Tryz.ntmps142 rfl ?_
      rintro _ _ ⟨rfl, rfl⟩
      cases fb with
      | true =>
        simp only [if_true, Prod.mk.injEq] at hw
        obtain ⟨rfl, rfl⟩ := hw
        refine goF (N := 72) Tryz.ntmps142 300 ?_
        simp only [go_sem]
        refine mcall (hon) rfl rfl (id := 0) rfl (N := 72) Tryz.ntmps142 rfl ?_
        rintro _ _ ⟨rfl, rfl⟩
        refine goF (N := 72) Tryz.ntmps142 300 ?_
        simp only [go_sem]
        refine ⟨by omega, ?_⟩
        exact aret [2] rfl ⟨_, _, rfl, rfl, rfl, rfl, rfl⟩
      | false =>
        simp only [Bool.false_eq_true, if_false, Prod.mk.injEq] at hw
        obtain ⟨rfl, rfl⟩ := hw
        refine goF (N := 72) Tryz.ntmps142 300 ?_
        simp only [go_sem]
        exact aret [2] rfl ⟨_, _, rfl, rfl, rfl, rfl, rfl⟩
  · rw [if_neg (by decide), if_pos rfl] at hw
    simp only [Prod.mk.injEq] at hw
    obtain ⟨rfl, rfl⟩ := hw
    refine goF (N := 72) Tryz.ntmps142 300 ?_
    simp only [go_sem]
    refine mcall (oneX_mc L (k + 1) TurnL (by decide) (by decide) (by omega) (by omega)) rfl rfl (id := 0) rfl (N := 72) Tryz.ntmps142 rfl ?_
    rintro _ _ ⟨rfl, rfl⟩
    refine goF (N := 72) Tryz.ntmps142 300 ?_
    simp only [go_sem]
    exact aret [2] rfl ⟨_, _, rfl, rfl, rfl, rfl, rfl⟩
  · have e0 : ¬ (v = 0 ∨ v = 1) := by simp at d0 d1; omega
    have e1 : ¬ v = 2 := by simpa using d2
    rw [if_neg e0, if_neg e1] at hw
    have hon := oneX_mc L (k + 1) NameL (by decide) (by decide) (by omega) (by omega)
    have hom := oneF_mem (L := L) (k := k + 1) (ls := NameL) (by decide)
    generalize oneF L (k + 1) NameL = y at *
    have hra := rangeX_mc L (k + 1 + 1) 1 2 (by decide) (by decide) (by decide) (by omega) (by omega)
    have hr := range12 L (k + 1 + 1)
    generalize rangeF L (k + 1 + 1) 1 2 = n at *
    refine go (N := 72) Tryz.ntmps142 300 ?_
    simp only [go_sem, d0, d1, d2]
    refine pcall1 (names_pc) rfl (N := 72) Tryz.ntmps142 rfl (go (N := 72) Tryz.ntmps142 300 ?_)
    simp only [go_sem, d0, d1, d2]
    refine mcall (hon) rfl rfl (id := 0) rfl (N := 72) Tryz.ntmps142 rfl ?_
    rintro _ _ ⟨rfl, rfl⟩
    refine go (N := 72) Tryz.ntmps142 300 ?_
    simp only [go_sem]
    refine mcall (hra) rfl rfl (id := 0) rfl (N := 72) Tryz.ntmps142 rfl ?_
    rintro _ _ ⟨rfl, rfl⟩
    refine go (N := 72) Tryz.ntmps142 300 ?_
    simp only [go_sem]
    refine aloop (ι := Nat × Int × Int × List Pa) (fun x => n.toNat - x.1)
      (fun x => [(40, .int .i64 x.1), (39, .int .i64 n), (4, .sl 1 0 x.2.2.2.length x.2.2.2.length), (0, .ptr 0 1 0 0)])
      (fun x => [.arr 2 [str L x.2.2.1], .arr 2 (x.2.2.2.map paA)])
      (fun x => (x.1 : Int) ≤ n ∧ k ≤ x.2.2.1 ∧ x.2.2.1 ≤ k + 3 + 170 * x.1 ∧ (x.2.1 = 2 ∨ x.2.1 = 4) ∧ RunP x.2.1 x.2.2.2 ∧ (x.2.2.2.length : Int) ≤ 1 + 2 * x.1 ∧ rndsF L (n.toNat - x.1) x.2.2 = (k0, b0))
      (0, 2, k + 1 + 1 + 1, [⟨2, y⟩]) ⟨by simp only; omega, by simp only; omega, by simp only; omega, .inl rfl, name_run hom, by simp, ?_⟩ ?_ ?_
    · simp only [Prod.mk.injEq] at hw
      obtain ⟨rfl, rfl⟩ := hw
      rfl
    · refine Shift.weak ?_
      simp only [wk, go_sem]
    · rintro ⟨i, e, k', out⟩ ⟨g1, g3, g4, g5, g7, g10, hF⟩ J hJ
      simp only at g1 g3 g4 g5 g7 g10 hF hJ ⊢
      refine goF (N := 72) Tryz.ntmps142 300 ?_
      by_cases gi : (i : Int) < n
      · have di : decide ((i : Int) < n) = true := by simp; omega
        rw [show n.toNat - i = (n.toNat - (i + 1)) + 1 by omega] at hF
        simp only [rndsF] at hF
        obtain ⟨⟨e2, f4, f3⟩, f1, f2, f7⟩ := rndA_ok L (k', out) g7 g5
        simp only at f1 f2 f7
        obtain ⟨hB1, hB2, hB3, hB4⟩ := rndB_ok L (rndA L (k', out)) f4 f3
        have hfl := flipX_mc L k' 3 (by decide) (by decide) (by omega) (by omega)
        have hmid : ∃ k2 out2, rndA L (k', out) = (k2, out2) := ⟨_, _, rfl⟩
        obtain ⟨k2, out2, hmid⟩ := hmid
        rw [hmid] at f1 f2 f4 f7 hB1 hB2 hB3 hB4 hF
        simp only at f1 f2 f4 f7 hB2 hB3 hB4
        simp only [go_sem, di]
        refine mcall (hfl) rfl rfl (id := 0) rfl (N := 72) Tryz.ntmps142 rfl ?_
        rintro _ _ ⟨rfl, rfl⟩
        refine amid (κ := Unit)
          (fun _ => [(40, .int .i64 i), (39, .int .i64 n), (4, .sl 1 0 out2.length out2.length), (0, .ptr 0 1 0 0)])
          (fun _ => [.arr 2 [str L k2], .arr 2 (out2.map paA)])
          (fun _ => True) ?_ ?_
        · rintro ⟨⟩ _
          have hp := pickX_mc L k2 [3, 12, 80] (by decide) (by decide) (by omega) (by omega)
          obtain ⟨x1, x2⟩ := pickB L k2
          unfold rndB at hF hB1 hB2 hB3 hB4
          simp only at hF hB1 hB2 hB3 hB4
          generalize pickF L k2 [3, 12, 80] = x at *
          have hwx := wordsX_mc L (k2 + 1) x 1998 x1 x2 (by decide) (by decide) (by omega) (by omega)
          obtain ⟨w1, w2, w3, w4⟩ := wordsF_ok L (k2 + 1) x 1998 x1 x2 (by decide)
          generalize wordsF L (k2 + 1) x 1998 = w at *
          obtain ⟨t, k3⟩ := w
          simp only at w1 w2 w3 w4 hwx hF hB1 hB2 hB3 hB4
          have hf8 := flipX_mc L k3 8 (by decide) (by decide) (by omega) (by omega)
          have hob := oneX_mc L (k3 + 1) PreB (by decide) (by decide) (by omega) (by omega)
          have homb := oneF_mem (L := L) (k := k3 + 1) (ls := PreB) (by decide)
          generalize oneF L (k3 + 1) PreB = yb at *
          obtain ⟨u1, u2⟩ := pre_text (.inr homb) w1
          generalize flipF L k3 8 = fb at *
          refine goF (N := 72) Tryz.ntmps142 300 ?_
          simp only [go_sem]
          refine mcall (hp) rfl rfl (id := 0) rfl (N := 72) Tryz.ntmps142 rfl ?_
          rintro _ _ ⟨rfl, rfl⟩
          refine goF (N := 72) Tryz.ntmps142 300 ?_
          simp only [go_sem]
          refine mcall (hwx) rfl rfl (id := 0) rfl (N := 72) Tryz.ntmps142 rfl ?_
          rintro _ _ ⟨rfl, rfl⟩
          refine goF (N := 72) Tryz.ntmps142 300 ?_
          simp only [go_sem]
          refine mcall (hf8) rfl rfl (id := 0) rfl (N := 72) Tryz.ntmps142 rfl ?_
          rintro _ _ ⟨rfl, rfl⟩
          have e3 : ∀ q u, List.map paA out2 ++ [AV.agg [.int .i64 q, .str u]] = List.map paA (out2 ++ [⟨q, u⟩]) := fun q u => by simp [paA]
          have e4 : ∀ q u, out2.length + 1 = (out2 ++ [(⟨q, u⟩ : Pa)]).length := fun q u => by simp
          cases fb with
          | true =>
            simp only [if_true] at hF hB1 hB2 hB3 hB4
            refine goF (N := 72) Tryz.ntmps142 300 ?_
            simp only [go_sem]
            refine mcall (hob) rfl rfl (id := 0) rfl (N := 72) Tryz.ntmps142 rfl ?_
            rintro _ _ ⟨rfl, rfl⟩
            refine goF (N := 72) Tryz.ntmps142 300 ?_
            simp only [go_sem]
            refine ⟨by omega, by simp, .inl trivial, by simp; omega, by simp; omega, by omega, by omega, ?_⟩
            rw [e3, e4 4 (yb ++ t), show (i : Int) + 1 = ((i + 1 : Nat) : Int) by omega]
            refine ainv (hJ (i + 1, 4, k3 + 1 + 1, out2 ++ [⟨4, yb ++ t⟩]) ⟨by simp only; omega, by simp only; omega, by simp only; omega, .inr rfl, hB1, by simp only; omega, hF⟩ (by simp only; omega)) (Shift.weak ?_)
            simp only [wk, go_sem]
          | false =>
            simp only [Bool.false_eq_true, if_false] at hF hB1 hB2 hB3 hB4
            refine goF (N := 72) Tryz.ntmps142 300 ?_
            simp only [go_sem]
            refine ⟨by simp, .inl trivial, by simp; omega, by simp; omega, by omega, by omega, ?_⟩
            rw [e3, e4 4 t, show (i : Int) + 1 = ((i + 1 : Nat) : Int) by omega]
            refine ainv (hJ (i + 1, 4, k3 + 1, out2 ++ [⟨4, t⟩]) ⟨by simp only; omega, by simp only; omega, by simp only; omega, .inr rfl, hB1, by simp only; omega, hF⟩ (by simp only; omega)) (Shift.weak ?_)
            simp only [wk, go_sem]
        · intro Q hQ
          have hQ := hQ () trivial
          unfold rndA at hmid
          simp only at hmid
          cases hfb : flipF L k' 3 with
          | true =>
            rw [hfb] at hmid
            simp only [if_true, Prod.mk.injEq] at hmid
            have hp := pickX_mc L (k' + 1) [2, 20] (by decide) (by decide) (by omega) (by omega)
            obtain ⟨x1, x2⟩ := pickA L (k' + 1)
            generalize pickF L (k' + 1) [2, 20] = x at *
            have hwx := wordsX_mc L (k' + 1 + 1) x 200 x1 x2 (by decide) (by decide) (by omega) (by omega)
            obtain ⟨w1, w2, w3, w4⟩ := wordsF_ok L (k' + 1 + 1) x 200 x1 x2 (by decide)
            generalize wordsF L (k' + 1 + 1) x 200 = w at *
            obtain ⟨t, k3⟩ := w
            simp only at w1 w2 w3 w4 hwx hmid
            obtain ⟨rfl, rfl⟩ := hmid
            refine goF (N := 72) Tryz.ntmps142 300 ?_
            simp only [go_sem]
            refine mcall (hp) rfl rfl (id := 0) rfl (N := 72) Tryz.ntmps142 rfl ?_
            rintro _ _ ⟨rfl, rfl⟩
            refine goF (N := 72) Tryz.ntmps142 300 ?_
            simp only [go_sem]
            refine mcall (hwx) rfl rfl (id := 0) rfl (N := 72) Tryz.ntmps142 rfl ?_
            rintro _ _ ⟨rfl, rfl⟩
            refine goF (N := 72) Tryz.ntmps142 300 ?_
            simp only [go_sem]
            have e3 : ∀ q u, List.map paA out ++ [AV.agg [.int .i64 q, .str u]] = List.map paA (out ++ [⟨q, u⟩]) := fun q u => by simp [paA]
            have e4 : ∀ q u, out.length + 1 = (out ++ [(⟨q, u⟩ : Pa)]).length := fun q u => by simp
            refine ⟨by simp, .inl trivial, by simp; omega, by simp; omega, ?_⟩
            rw [e3, e4 3 t]
            refine ainv hQ (Shift.weak ?_)
            simp only [wk, go_sem]
          | false =>
            rw [hfb] at hmid
            simp only [Bool.false_eq_true, if_false, Prod.mk.injEq] at hmid
            obtain ⟨rfl, rfl⟩ := hmid
            refine goF (N := 72) Tryz.ntmps142 300 ?_
            simp only [go_sem]
            refine ainv hQ (Shift.weak ?_)
            simp only [wk, go_sem]
      · have di : decide ((i : Int) < n) = false := by simp; omega
        rw [show n.toNat - i = 0 by omega] at hF
        simp only [rndsF, Prod.mk.injEq] at hF
        obtain ⟨rfl, rfl⟩ := hF
        simp only [go_sem, di]
        refine ARet.shift (Shift.freeze 2 (id := 1) rfl rfl (by simp) (Nat.le_refl _) (frozen_paras out)) (aret [2] rfl ⟨_, _, rfl, ?_, rfl, rfl, rfl⟩)
        simp [resV, Av.get, Av.put, List.take_of_length_le]
end Go.Proofs.YtkfpiadgjbhcpaaGreatDoor
