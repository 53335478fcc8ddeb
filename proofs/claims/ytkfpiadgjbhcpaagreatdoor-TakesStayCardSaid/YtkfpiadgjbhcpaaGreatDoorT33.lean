/- A scene and a script that are drawn, told exactly. Own work of this seat. -/
import Derived.Test.YtkfpiadgjbhcpaaGreatDoorT32
import Derived.Test.YtkfpiadgjbhcpaaGreatDoorT21
import Derived.Test.YtkfpiadgjbhcpaaGreatDoorT31
import Derived.Test.YtkfpiadgjbhcpaaGreatDoorT27
set_option maxRecDepth 100000
set_option linter.unusedSimpArgs false
set_option linter.unusedVariables false
namespace Go.Proofs.YtkfpiadgjbhcpaaGreatDoor
open Go Go.Av Go.RowKit

def scParas (L : List Int) : Nat → Int × List Pa → Int × List Pa
  | 0, x => x
  | n + 1, x => scParas L n ((parasF L x.1).2, x.2 ++ (parasF L x.1).1)
theorem scParas_ok (L : List Int) : ∀ (n : Nat) (x : Int × List Pa), (∃ e, runL 0 x.2 = some e ∧ e ≠ 2 ∧ e ≠ 3) → (∀ p ∈ x.2, DrawnP p) →
    (∃ e, runL 0 (scParas L n x).2 = some e ∧ e ≠ 2 ∧ e ≠ 3) ∧ (∀ p ∈ (scParas L n x).2, DrawnP p) ∧ x.1 ≤ (scParas L n x).1 ∧ (scParas L n x).1 ≤ x.1 + 400 * n ∧ (scParas L n x).2.length ≤ x.2.length + 5 * n
  | 0, x, h, ha => ⟨h, ha, Int.le_refl _, by simp [scParas], by simp [scParas]⟩
  | n + 1, x, ⟨e, h1, h2, h3⟩, ha => by
    obtain ⟨b1, b2, b3⟩ := parasF_ok L x.1
    obtain ⟨e', r1, r2, r3⟩ := b1.run e h2 h3
    obtain ⟨c1, c2, c3, c4, c5⟩ := scParas_ok L n ((parasF L x.1).2, x.2 ++ (parasF L x.1).1) ⟨e', by simp only; rw [runL_append _ _ _ _ h1]; exact r1, r2, r3⟩ (fun p hp => by
      rcases List.mem_append.1 hp with hp | hp
      · exact ha p hp
      · exact b1.all p hp)
    have := b1.len.2
    simp only [scParas]
    simp only [List.length_append] at c3 c4 c5
    exact ⟨c1, c2, by omega, by push_cast; omega, by omega⟩
def sceneF (L : List Int) (k : Int) : Sc × Int :=
  (⟨[], rangeF L k 1 3, oneF L (k + 1) SetL, rangeF L (k + 1 + 1) 1 5, (scParas L (nx L (k + 1 + 1 + 1 + 1) (pickF L (k + 1 + 1 + 1) [2, 5, 12])).toNat (k + 1 + 1 + 1 + 1 + 1, [])).2⟩,
   (scParas L (nx L (k + 1 + 1 + 1 + 1) (pickF L (k + 1 + 1 + 1) [2, 5, 12])).toNat (k + 1 + 1 + 1 + 1 + 1, [])).1)
theorem pickD (L : List Int) (k : Int) : 1 ≤ pickF L k [2, 5, 12] ∧ pickF L k [2, 5, 12] ≤ 12 := (show ∀ x ∈ [(2 : Int), 5, 12], 1 ≤ x ∧ x ≤ 12 by decide) _ (pickF_mem (by decide))
theorem range13 (L : List Int) (k b : Int) (hb : 1 ≤ b) : 1 ≤ rangeF L k 1 b ∧ rangeF L k 1 b ≤ b := by
  have := nx_bd L k (b - 1 + 1) (by omega)
  unfold rangeF; omega
theorem sceneF_ok (L : List Int) (k : Int) : DrawnS (sceneF L k).1 ∧ k ≤ (sceneF L k).2 ∧ (sceneF L k).2 ≤ k + 5000 := by
  have hp := pickD L (k + 1 + 1 + 1)
  have hn := nx_bd L (k + 1 + 1 + 1 + 1) (pickF L (k + 1 + 1 + 1) [2, 5, 12]) hp.1
  unfold sceneF
  generalize nx L (k + 1 + 1 + 1 + 1) (pickF L (k + 1 + 1 + 1) [2, 5, 12]) = v at *
  obtain ⟨c1, c2, c3, c4, c5⟩ := scParas_ok L v.toNat (k + 1 + 1 + 1 + 1 + 1, []) ⟨0, rfl, by decide, by decide⟩ (by simp)
  simp only [List.length_nil, Nat.zero_add] at c3 c4 c5
  exact ⟨⟨rfl, range13 L k 3 (by decide), oneF_mem (by decide), range13 L _ 5 (by decide), c1, by simp only; omega, c2⟩, by simp only; omega, by simp only; omega⟩
set_option maxHeartbeats 2000000 in
theorem sceneX_mc (L : List Int) (k : Int) (h3 : 0 ≤ k) (h4 : k ≤ 700000) :
    Mc Tryz.prog 83 2 (str L k) [] (fun r s => r = scA (sceneF L k).1 ∧ s = str L (sceneF L k).2) := by
  have hpk := pickX_mc L (k + 1 + 1 + 1) [2, 5, 12] (by decide) (by decide) (by omega) (by omega)
  have pn := pickD L (k + 1 + 1 + 1)
  unfold sceneF
  generalize pickF L (k + 1 + 1 + 1) [2, 5, 12] = n at *
  have hnx := nextX_mc L (k + 1 + 1 + 1 + 1) n (by omega) (by omega) (by omega) (by omega)
  have hv := nx_bd L (k + 1 + 1 + 1 + 1) n (by omega)
  generalize nx L (k + 1 + 1 + 1 + 1) n = v at *
  have hr1 := rangeX_mc L k 1 3 (by decide) (by decide) (by decide) (by omega) (by omega)
  have ho := oneX_mc L (k + 1) SetL (by decide) (by decide) (by omega) (by omega)
  have hr2 := rangeX_mc L (k + 1 + 1) 1 5 (by decide) (by decide) (by decide) (by omega) (by omega)
  generalize rangeF L k 1 3 = pl at *
  generalize oneF L (k + 1) SetL = st at *
  generalize rangeF L (k + 1 + 1) 1 5 = tm at *
  obtain ⟨z, hz⟩ : ∃ z, z = scParas L v.toNat (k + 1 + 1 + 1 + 1 + 1, []) := ⟨_, rfl⟩
  rw [← hz]
  refine ct_intro Tryz.func83 rfl Tryz.ntmps83 hB83 (by simp) fun h ρ w => goF (N := 27) Tryz.ntmps83 300 ?_
  simp only [go_sem]
  refine mcall (hr1) rfl rfl (id := 0) rfl (N := 27) Tryz.ntmps83 rfl ?_
  rintro _ _ ⟨rfl, rfl⟩
  refine goF (N := 27) Tryz.ntmps83 300 ?_
  simp only [go_sem]
  refine pcall1 (sets_pc) rfl (N := 27) Tryz.ntmps83 rfl (go (N := 27) Tryz.ntmps83 300 ?_)
  simp only [go_sem]
  refine mcall (ho) rfl rfl (id := 0) rfl (N := 27) Tryz.ntmps83 rfl ?_
  rintro _ _ ⟨rfl, rfl⟩
  refine goF (N := 27) Tryz.ntmps83 300 ?_
  simp only [go_sem]
  refine mcall (hr2) rfl rfl (id := 0) rfl (N := 27) Tryz.ntmps83 rfl ?_
  rintro _ _ ⟨rfl, rfl⟩
  refine goF (N := 27) Tryz.ntmps83 300 ?_
  simp only [go_sem]
  refine mcall (hpk) rfl rfl (id := 0) rfl (N := 27) Tryz.ntmps83 rfl ?_
  rintro _ _ ⟨rfl, rfl⟩
  refine goF (N := 27) Tryz.ntmps83 300 ?_
  simp only [go_sem]
  refine mcall (hnx) rfl rfl (id := 0) rfl (N := 27) Tryz.ntmps83 rfl ?_
  rintro _ _ ⟨rfl, rfl⟩
  refine goF (N := 27) Tryz.ntmps83 300 ?_
  simp only [go_sem]
  refine aloop (ι := Nat × Int × List Pa) (fun x => v.toNat - x.1)
    (fun x => [(17, .int .i64 x.1), (16, .int .i64 v), (3, .ptr 2 1 0 0), (2, .ptr 1 1 0 0), (0, .ptr 0 1 0 0)])
    (fun x => [.arr 2 [str L x.2.1], .arr 5 [.agg [.str [], .int .i64 0, .str [], .int .i64 0, .raw (.slice none 0 0)]], .arr 5 [.agg [.str [], .int .i64 pl, .str st, .int .i64 tm, .sl 3 0 x.2.2.length x.2.2.length]], .arr 2 (x.2.2.map paA)])
    (fun x => (x.1 : Int) ≤ v ∧ k ≤ x.2.1 ∧ x.2.1 ≤ k + 5 + 400 * x.1 ∧ (x.2.2.length : Int) ≤ 5 * x.1 ∧ scParas L (v.toNat - x.1) x.2 = z)
    (0, k + 1 + 1 + 1 + 1 + 1, []) ⟨by simp only; omega, by simp only; omega, by simp only; omega, by simp, by simpa using hz.symm⟩ ?_ ?_
  · refine Shift.trans (Shift.cells 2 2 [.agg [.str [], .int .i64 pl, .str st, .int .i64 tm, .sl 3 0 0 0]] rfl rfl (by simp [cellsOf]) ⟨.refl, .refl, .refl, .refl, .sl, trivial⟩) (Shift.weak ?_)
    simp only [wk, go_sem]
  · rintro ⟨i, k', ps⟩ ⟨g2, g3, g4, g9, hF⟩ J hJ
    simp only at g2 g3 g4 g9 hF hJ ⊢
    by_cases gi : (i : Int) < v
    · have di : decide ((i : Int) < v) = true := by simp; omega
      rw [show v.toNat - i = (v.toNat - (i + 1)) + 1 by omega] at hF
      simp only [scParas] at hF
      have hpx := parasX_mc L k' (by omega) (by omega)
      obtain ⟨hb, t1, t2⟩ := parasF_ok L k'
      generalize parasF L k' = w at *
      obtain ⟨b, k2⟩ := w
      simp only at hpx hb t1 t2 hF
      refine go (N := 27) Tryz.ntmps83 300 ?_
      simp only [go_sem, di]
      refine adrawI [3] 0 [] mixed (by decide) (N := 27) Tryz.ntmps83 (by decide) 100 ?_
      simp only [go_sem]
      refine icall hpx rfl rfl rfl ⟨_, _, rfl, rfl⟩ ?_
      rintro _ _ ⟨rfl, rfl⟩
      simp only [go_sem]
      refine ⟨by simp, .inl trivial, by simp; have := hb.len.2; omega, by simp; have := hb.len.2; omega, ?_⟩
      refine go (N := 27) Tryz.ntmps83 300 ?_
      simp only [go_sem]
      refine ⟨by omega, by omega, ?_⟩
      rw [← List.map_append, show ps.length + (List.map paA b).length = (ps ++ b).length by simp, show (i : Int) + 1 = ((i + 1 : Nat) : Int) by omega]
      have := hb.len
      refine ainv (hJ (i + 1, k2, ps ++ b) ⟨by simp only; omega, by simp only; omega, by simp only; omega, by simp; omega, hF⟩ (by simp only; omega)) (Shift.weak ?_)
      simp only [wk, go_sem, List.length_map]
    · have di : decide ((i : Int) < v) = false := by simp; omega
      rw [show v.toNat - i = 0 by omega] at hF
      simp only [scParas] at hF
      subst hF
      refine AWp.shift (Shift.frz 3 rfl (frozen_paras ps)) ?_
      simp only [↓frzC_str, ↓frz_str, frzE, frz, frz1, frzC, frzB, List.map_cons, List.map_nil, List.set_cons_succ, List.set_cons_zero, Nat.reduceBEq, cond_true, cond_false, Bool.false_and, Bool.true_and, List.length_map, Nat.zero_add, decide_true, Nat.le_refl, List.drop_zero]
      have : List.take ps.length (List.map paA ps) = List.map paA ps := List.take_of_length_le (by simp)
      simp only [this]
      refine go (N := 27) Tryz.ntmps83 300 ?_
      simp only [go_sem, di]
      exact aretc [.cell 2 35] rfl [_] ⟨by simp only [go_sem, sideIs], trivial⟩ ⟨_, _, rfl, rfl, rfl, rfl, rfl⟩

/-- the first scene is never later -/
def fixS (first : Bool) (x : Sc) : Sc := if first && x.time == 5 then ⟨x.no, x.place, x.set, 2, x.paras⟩ else x
def srScenes (L : List Int) : Nat → Int × List Sc → Int × List Sc
  | 0, x => x
  | n + 1, x => srScenes L n ((sceneF L x.1).2, x.2 ++ [fixS x.2.isEmpty (sceneF L x.1).1])
theorem fixS_ok {b : Bool} {x : Sc} (h : DrawnS x) : DrawnS (fixS b x) ∧ (b = true → (fixS b x).time ≠ 5) := by
  unfold fixS
  split
  · exact ⟨⟨h.no, h.place, h.set, by simp, h.run, h.len, h.all⟩, fun _ => by simp⟩
  · rename_i hh
    refine ⟨h, fun hb => ?_⟩
    rw [hb] at hh
    simpa using hh
theorem srScenes_ok (L : List Int) : ∀ (n : Nat) (x : Int × List Sc), (∀ y ∈ x.2, DrawnS y) → (∀ y, x.2.head? = some y → y.time ≠ 5) →
    (∀ y ∈ (srScenes L n x).2, DrawnS y) ∧ (∀ y, (srScenes L n x).2.head? = some y → y.time ≠ 5) ∧ x.1 ≤ (srScenes L n x).1 ∧ (srScenes L n x).1 ≤ x.1 + 5000 * n ∧ (srScenes L n x).2.length = x.2.length + n
  | 0, x, h1, h2 => ⟨h1, h2, Int.le_refl _, by simp [srScenes], by simp [srScenes]⟩
  | n + 1, x, h1, h2 => by
    obtain ⟨b1, b2, b3⟩ := sceneF_ok L x.1
    obtain ⟨f1, f2⟩ := fixS_ok (b := x.2.isEmpty) b1
    obtain ⟨c1, c2, c3, c4, c5⟩ := srScenes_ok L n ((sceneF L x.1).2, x.2 ++ [fixS x.2.isEmpty (sceneF L x.1).1]) (fun y hy => by
      rcases List.mem_append.1 hy with hy | hy
      · exact h1 y hy
      · rw [List.mem_singleton.1 hy]; exact f1) (fun y hy => by
      cases hx : x.2 with
      | nil =>
        rw [hx] at hy f2
        simp only [List.nil_append, List.head?_cons, Option.some.injEq] at hy
        rw [← hy]
        exact f2 rfl
      | cons a r => rw [hx] at hy h2; exact h2 y (by simpa using hy))
    simp only [srScenes]
    simp only [List.length_append, List.length_cons, List.length_nil] at c3 c4 c5
    exact ⟨c1, c2, by omega, by push_cast; omega, by omega⟩
def scriptF (L : List Int) (k : Int) : Sr × Int := (⟨oneF L k TitleL, (srScenes L (nx L (k + 1) 6).toNat (k + 1 + 1, [])).2⟩, (srScenes L (nx L (k + 1) 6).toNat (k + 1 + 1, [])).1)
theorem scriptF_ok (L : List Int) (k : Int) : DrawnR (scriptF L k).1 ∧ k ≤ (scriptF L k).2 ∧ (scriptF L k).2 ≤ k + 30000 := by
  have hn := nx_bd L (k + 1) 6 (by decide)
  obtain ⟨c1, c2, c3, c4, c5⟩ := srScenes_ok L (nx L (k + 1) 6).toNat (k + 1 + 1, []) (by simp) (by simp)
  simp only [List.length_nil, Nat.zero_add] at c3 c4 c5
  unfold scriptF
  exact ⟨⟨oneF_mem (by decide), by simp only; omega, c1, c2⟩, by simp only; omega, by simp only; omega⟩
set_option maxHeartbeats 2000000 in
theorem scriptX_mc (L : List Int) (k : Int) (h3 : 0 ≤ k) (h4 : k ≤ 600000) :
    Mc Tryz.prog 68 2 (str L k) [] (fun r s => r = srA (scriptF L k).1 ∧ s = str L (scriptF L k).2) := by
  have ho := oneX_mc L k TitleL (by decide) (by decide) (by omega) (by omega)
  have hnx := nextX_mc L (k + 1) 6 (by omega) (by omega) (by omega) (by omega)
  have hv := nx_bd L (k + 1) 6 (by decide)
  unfold scriptF
  generalize oneF L k TitleL = ti at *
  generalize nx L (k + 1) 6 = v at *
  obtain ⟨z, hz⟩ : ∃ z, z = srScenes L v.toNat (k + 1 + 1, []) := ⟨_, rfl⟩
  rw [← hz]
  refine ct_intro Tryz.func68 rfl Tryz.ntmps68 hB68 (by simp) fun h ρ w => goF (N := 33) Tryz.ntmps68 300 ?_
  simp only [go_sem]
  refine mcall (ho) rfl rfl (id := 0) rfl (N := 33) Tryz.ntmps68 rfl ?_
  rintro _ _ ⟨rfl, rfl⟩
  refine goF (N := 33) Tryz.ntmps68 300 ?_
  simp only [go_sem]
  refine mcall (hnx) rfl rfl (id := 0) rfl (N := 33) Tryz.ntmps68 rfl ?_
  rintro _ _ ⟨rfl, rfl⟩
  refine goF (N := 33) Tryz.ntmps68 300 ?_
  simp only [go_sem]
  refine aloop (ι := Nat × Int × List Sc) (fun x => v.toNat - x.1)
    (fun x => [(11, .int .i64 x.1), (10, .int .i64 v), (3, .ptr 2 1 0 0), (2, .ptr 1 1 0 0), (0, .ptr 0 1 0 0)])
    (fun x => [.arr 2 [str L x.2.1], .arr 2 [.agg [.str [], .raw (.slice none 0 0)]], .arr 2 [.agg [.str ti, .sl 3 0 x.2.2.length x.2.2.length]], .arr 5 (x.2.2.map scA)])
    (fun x => (x.1 : Int) ≤ v ∧ k ≤ x.2.1 ∧ x.2.1 ≤ k + 2 + 5000 * x.1 ∧ x.2.2.length = x.1 ∧ srScenes L (v.toNat - x.1) x.2 = z)
    (0, k + 1 + 1, []) ⟨by simp only; omega, by simp only; omega, by simp only; omega, rfl, by simpa using hz.symm⟩ ?_ ?_
  · refine Shift.trans (Shift.cells 2 5 [.agg [.str ti, .sl 3 0 0 0]] rfl rfl (by simp [cellsOf]) ⟨.refl, .sl, trivial⟩) (Shift.weak ?_)
    simp only [wk, go_sem]
  · rintro ⟨i, k', xs⟩ ⟨g2, g3, g4, g5, hF⟩ J hJ
    simp only at g2 g3 g4 g5 hF hJ ⊢
    by_cases gi : (i : Int) < v
    · have di : decide ((i : Int) < v) = true := by simp; omega
      rw [show v.toNat - i = (v.toNat - (i + 1)) + 1 by omega] at hF
      simp only [srScenes] at hF
      have hpx := sceneX_mc L k' (by omega) (by omega)
      obtain ⟨hx, t1, t2⟩ := sceneF_ok L k'
      generalize sceneF L k' = w at *
      obtain ⟨x, k2⟩ := w
      simp only at hpx hx t1 t2 hF
      refine goF (N := 33) Tryz.ntmps68 300 ?_
      simp only [go_sem, di]
      refine mcall (hpx) rfl rfl (id := 0) rfl (N := 33) Tryz.ntmps68 rfl ?_
      rintro _ _ ⟨rfl, rfl⟩
      have hlen : (List.map scA xs).length = xs.length := by simp
      have e2 : ∀ a b c d f, List.map scA xs ++ [AV.agg [.str a, .int .i64 b, .str c, .int .i64 d, .fz 2 (List.map paA f)]] = List.map scA (xs ++ [⟨a, b, c, d, f⟩]) := fun _ _ _ _ _ => by simp [scA]
      have e3 : ∀ y : Sc, xs.length + 1 = (xs ++ [y]).length := fun y => by simp
      have ei : (i : Int) + 1 = ((i + 1 : Nat) : Int) := by omega
      have fin : ∀ y : Sc, y = fixS xs.isEmpty x → _ := fun y hy => hJ (i + 1, k2, xs ++ [y]) ⟨by simp only; omega, by simp only; omega, by simp only; omega, by simp only [List.length_append, List.length_cons, List.length_nil]; omega, by rw [hy]; exact hF⟩ (by simp only; omega)
      simp only [scA]
      refine goF (N := 33) Tryz.ntmps68 300 ?_
      by_cases h0 : xs = []
      · have q0 : ((xs.length : Int) == 0) = true := by simp [h0]
        have qe : xs.isEmpty = true := by simp [h0]
        by_cases h5 : x.time = 5
        · have q5 : (x.time == 5) = true := by simpa using h5
          simp only [go_sem, q0, q5]
          refine ⟨by simp, by first | omega | (simp; done) | (simp; omega), by first | omega | (simp; done) | (simp; omega), by first | omega | (simp; done) | (simp; omega), by first | omega | (simp; done) | (simp; omega), by omega, by omega, ?_⟩
          rw [e2, e3 ⟨x.no, x.place, x.set, 2, x.paras⟩, ei]
          refine ainv (fin ⟨x.no, x.place, x.set, 2, x.paras⟩ (by simp [fixS, qe, q5])) (Shift.low 4 (by simp) (by simp) ?_ ?_)
          · have := frozen_scenes (xs ++ [⟨x.no, x.place, x.set, 2, x.paras⟩])
            simp only [List.take_succ_cons, List.take_zero, List.all_cons, List.all_nil, lowB, flat, cellsOf, lowC, str, Av.frozen, decide_true, List.append_nil, List.cons_append, List.nil_append, low_all this, Nat.reduceLT, Bool.and_self]
          · simp only [wkl, lowV, lowC, Av.get, go_sem]
        · have q5 : (x.time == 5) = false := by simpa using h5
          simp only [go_sem, q0, q5]
          refine ⟨by simp, by first | omega | (simp; done) | (simp; omega), by first | omega | (simp; done) | (simp; omega), by first | omega | (simp; done) | (simp; omega), by first | omega | (simp; done) | (simp; omega), by omega, by omega, ?_⟩
          rw [e2, e3 ⟨x.no, x.place, x.set, x.time, x.paras⟩, ei]
          refine ainv (fin ⟨x.no, x.place, x.set, x.time, x.paras⟩ (by simp [fixS, q5])) (Shift.low 4 (by simp) (by simp) ?_ ?_)
          · have := frozen_scenes (xs ++ [⟨x.no, x.place, x.set, x.time, x.paras⟩])
            simp only [List.take_succ_cons, List.take_zero, List.all_cons, List.all_nil, lowB, flat, cellsOf, lowC, str, Av.frozen, decide_true, List.append_nil, List.cons_append, List.nil_append, low_all this, Nat.reduceLT, Bool.and_self]
          · simp only [wkl, lowV, lowC, Av.get, go_sem]
      · have q0 : ((xs.length : Int) == 0) = false := by
          have : xs.length ≠ 0 := by simpa using h0
          simp; omega
        simp only [go_sem, q0]
        refine ⟨by simp, by first | omega | (simp; done) | (simp; omega), by first | omega | (simp; done) | (simp; omega), by first | omega | (simp; done) | (simp; omega), by first | omega | (simp; done) | (simp; omega), by omega, by omega, ?_⟩
        rw [e2, e3 ⟨x.no, x.place, x.set, x.time, x.paras⟩, ei]
        refine ainv (fin ⟨x.no, x.place, x.set, x.time, x.paras⟩ (by simp [fixS, h0])) (Shift.low 4 (by simp) (by simp) ?_ ?_)
        · have := frozen_scenes (xs ++ [⟨x.no, x.place, x.set, x.time, x.paras⟩])
          simp only [List.take_succ_cons, List.take_zero, List.all_cons, List.all_nil, lowB, flat, cellsOf, lowC, str, Av.frozen, decide_true, List.append_nil, List.cons_append, List.nil_append, low_all this, Nat.reduceLT, Bool.and_self]
        · simp only [wkl, lowV, lowC, Av.get, go_sem]
    · have di : decide ((i : Int) < v) = false := by simp; omega
      rw [show v.toNat - i = 0 by omega] at hF
      simp only [srScenes] at hF
      subst hF
      refine AWp.shift (Shift.frz 3 rfl (frozen_scenes xs)) ?_
      simp only [↓frzC_str, ↓frz_str, frzE, frz, frz1, frzC, frzB, List.map_cons, List.map_nil, List.set_cons_succ, List.set_cons_zero, Nat.reduceBEq, cond_true, cond_false, Bool.false_and, Bool.true_and, List.length_map, Nat.zero_add, decide_true, Nat.le_refl, List.drop_zero]
      have : List.take xs.length (List.map scA xs) = List.map scA xs := List.take_of_length_le (by simp)
      simp only [this]
      refine go (N := 33) Tryz.ntmps68 300 ?_
      simp only [go_sem, di]
      exact aretc [.cell 2 28] rfl [_] ⟨by simp only [go_sem, sideIs], trivial⟩ ⟨_, _, rfl, rfl, rfl, rfl, rfl⟩
/-- the script that is drawn (still without numbers), and where the stream is -/
def storyF (L : List Int) (k : Int) : Sr × Int := ((scriptF L k).1, (scriptF L k).2 + 1 + (if flipF L (scriptF L k).2 3 then ((scriptF L k).1.scenes.length : Int) else 0))
theorem storyF_ok (L : List Int) (k : Int) : DrawnR (storyF L k).1 ∧ k ≤ (storyF L k).2 ∧ (storyF L k).2 ≤ k + 40000 := by
  obtain ⟨h, a, b⟩ := scriptF_ok L k
  have := h.len
  unfold storyF
  refine ⟨h, ?_, ?_⟩
  · simp only; split <;> omega
  · simp only; split <;> omega
set_option maxHeartbeats 2000000 in
theorem storyX_mch {S : Std} (hS : LibOk S) (L : List Int) (k : Int) (h3 : 0 ≤ k) (h4 : k ≤ 500000) :
    McH Tryz.prog S 25 2 (str L k) [] (fun r s => r = srA (numR (storyF L k).1) ∧ s = str L (storyF L k).2) := by
  have hsc := scriptX_mc L k (by omega) (by omega)
  obtain ⟨hx, t1, t2⟩ := scriptF_ok L k
  unfold storyF
  generalize scriptF L k = w at *
  obtain ⟨⟨ti, xs⟩, k'⟩ := w
  simp only at hsc hx t1 t2 ⊢
  have hfl := flipX_mc L k' 3 (by decide) (by decide) (by omega) (by omega)
  generalize flipF L k' 3 = fb at *
  obtain ⟨kf, hkf⟩ : ∃ z : Int, z = k' + 1 + (if fb = true then ((xs.length : Nat) : Int) else 0) := ⟨_, rfl⟩
  rw [← hkf]
  refine cth_intro Tryz.func25 rfl Tryz.ntmps25 hB25 (by simp) fun h ρ w hg => goF (N := 37) Tryz.ntmps25 300 ?_
  simp only [go_sem]
  refine mcall (hsc) rfl rfl (id := 0) rfl (N := 37) Tryz.ntmps25 rfl ?_
  rintro _ _ ⟨rfl, rfl⟩
  have hlen : xs.length ≤ 5 := hx.len
  cases xs with
  | nil =>
    refine goF (N := 37) Tryz.ntmps25 300 ?_
    simp only [go_sem]
    refine pcallH1 hg (numbered_pch hS ⟨ti, []⟩ (by simp)) rfl (N := 37) Tryz.ntmps25 rfl (go (N := 37) Tryz.ntmps25 300 ?_)
    have e0 : srA (numR ⟨ti, []⟩) = .agg [.str ti, .fz 5 []] := rfl
    rw [e0]
    simp only [go_sem]
    refine mcall (hfl) rfl rfl (id := 0) rfl (N := 37) Tryz.ntmps25 rfl ?_
    rintro _ _ ⟨rfl, rfl⟩
    cases fb with
    | true =>
      refine goF (N := 37) Tryz.ntmps25 300 ?_
      simp only [go_sem]
      refine aenter (around (go (N := 37) Tryz.ntmps25 300 ?_))
      simp only [go_sem]
      exact aretc [.cell 2 28] rfl [_] ⟨by simp only [go_sem, sideIs, numR, numL], trivial⟩ ⟨_, _, rfl, rfl, by rw [hkf]; simp, rfl, rfl⟩
    | false =>
      refine goF (N := 37) Tryz.ntmps25 300 ?_
      simp only [go_sem]
      exact aretc [.cell 2 28] rfl [_] ⟨by simp only [go_sem, sideIs, numR, numL], trivial⟩ ⟨_, _, rfl, rfl, by rw [hkf]; simp, rfl, rfl⟩
  | cons x xs =>
    refine goF (N := 37) Tryz.ntmps25 300 ?_
    simp only [go_sem]
    refine acallH hg (numbered_cth hS L k' ti x xs (by simp at hlen; omega)) (N := 37) Tryz.ntmps25 rfl ?_
    rintro _ _ ⟨rfl, rfl⟩
    refine goF (N := 37) Tryz.ntmps25 300 ?_
    simp only [go_sem, blkS, blkZ]
    refine mcall (hfl) rfl rfl (id := 0) rfl (N := 37) Tryz.ntmps25 rfl ?_
    rintro _ _ ⟨rfl, rfl⟩
    have htake : List.take (xs.length + 1) (List.map scA (numL 0 (x :: xs))) = List.map scA (numL 0 (x :: xs)) := List.take_of_length_le (by simp [numL_len])
    have hl5 : xs.length + 1 ≤ 5 := by simpa using hlen
    cases fb with
    | false =>
      refine AWp.shift (Shift.frz 4 rfl (frozen_scenes _)) ?_
      simp only [Go.Av.put, srA, ↓frzC_str, ↓frz_str, frzE, frz, frz1, frzC, frzB, List.map_cons, List.map_nil, List.set_cons_succ, List.set_cons_zero, Nat.reduceBEq, cond_true, cond_false, Bool.false_and, Bool.true_and, List.length_map, Nat.zero_add, numL_len, List.length_cons, decide_true, Nat.le_refl, List.drop_zero]
      simp only [htake]
      refine goF (N := 37) Tryz.ntmps25 300 ?_
      simp only [go_sem]
      exact aretc [.cell 2 28] rfl [_] ⟨by simp only [go_sem, sideIs, numR], trivial⟩ ⟨_, _, rfl, rfl, by rw [hkf]; simp, rfl, rfl⟩
    | true =>
      refine goF (N := 37) Tryz.ntmps25 300 ?_
      simp only [go_sem]
      refine ⟨by simp [numL_len], ?_⟩
      refine aloop (ι := Nat) (fun y => 5 - y)
        (fun y => [(14, .int .i64 y), (13, .int .i64 ↑(xs.length + 1)), (4, .str (lastL y)), (3, .ptr 6 1 0 0), (2, .ptr 1 1 0 0), (0, .ptr 0 1 0 0)])
        (fun y => [.arr 2 [str L (k' + 1 + y)], .arr 2 [.agg [.str [], .raw (.slice none 0 0)]], .arr 2 [srA ⟨ti, x :: xs⟩], .arr 2 [.agg [.str ti, .sl 4 0 (xs.length + 1) (xs.length + 1)]], .arr 5 (List.map scA (numL 0 (x :: xs))), .arr 2 [.agg [.str ti, .sl 4 0 (xs.length + 1) (xs.length + 1)]], .arr 2 [.agg [.str ti, .sl 4 0 (xs.length + 1) (xs.length + 1)]]])
        (fun y => y ≤ xs.length + 1) 0 (by simp) ?_ ?_
      · have h0 : k' + 1 + ((0 : Nat) : Int) = k' + 1 := by omega
        simp only [h0]
        refine Shift.weak ?_
        simp only [wk, go_sem, lastL]
      · intro i g1 J hJ
        by_cases gi : i < xs.length + 1
        · have di : decide ((i : Int) < ((xs.length + 1 : Nat) : Int)) = true := by simp; omega
          have hlast : (lastL (i + 1) == []) = false := by
            have := last_facts i (by omega)
            rw [this.2.2.2.2.2.2.2.2]; exact this.2.2.2.2.2.2.2.1
          refine goF (N := 37) Tryz.ntmps25 300 ?_
          simp only [go_sem, di]
          have ho1 := oneX_mc L (k' + 1 + i) [[], [], [57]] (by decide) (by decide) (by omega) (by omega)
          have hz := oneF_mem (L := L) (k := k' + 1 + i) (ls := [[], [], [57]]) (by decide)
          generalize oneF L (k' + 1 + i) [[], [], [57]] = z at *
          have hzz : z = [] ∨ z = [57] := by simpa using hz
          refine mcall (ho1) rfl rfl (id := 0) rfl (N := 37) Tryz.ntmps25 rfl ?_
          rintro _ _ ⟨rfl, rfl⟩
          refine goF (N := 37) Tryz.ntmps25 300 ?_
          simp only [go_sem]
          refine pcallH1 hg (betweenOf_pch hS i (by omega) z hzz) rfl (N := 37) Tryz.ntmps25 rfl (goF (N := 37) Tryz.ntmps25 300 ?_)
          have hi : i < (x :: xs).length := by simpa using gi
          have hget : (List.map scA (numL 0 (x :: xs)))[i]? = some (.agg [.str (lastL (i + 1)), .int .i64 (x :: xs)[i].place, .str (x :: xs)[i].set, .int .i64 (x :: xs)[i].time, .fz 2 ((x :: xs)[i].paras.map paA)]) := by
            rw [List.getElem?_map, numL_get _ _ _ hi]
            simp only [Option.map_some, nm, scA, Nat.zero_add, num_last i (by omega)]
          have hgd : List.getD (List.map scA (numL 0 (x :: xs))) i .any = .agg [.str (lastL (i + 1)), .int .i64 (x :: xs)[i].place, .str (x :: xs)[i].set, .int .i64 (x :: xs)[i].time, .fz 2 ((x :: xs)[i].paras.map paA)] := by
            rw [List.getD_eq_getElem?_getD, hget]; rfl
          simp only [go_sem, hlast, hgd]
          have hset := set_same hget
          refine ⟨by simp [numL_len], by omega, by omega, Nat.le_refl _, by simp [numL_len]; omega, by omega, by omega, ?_⟩
          rw [hset, show k' + 1 + (i : Int) + 1 = k' + 1 + ((i + 1 : Nat) : Int) by omega, show (i : Int) + 1 = ((i + 1 : Nat) : Int) by omega]
          refine ainv (hJ (i + 1) (by omega) (by omega)) (Shift.weak ?_)
          simp only [wk, go_sem]
        · have di : decide ((i : Int) < ((xs.length + 1 : Nat) : Int)) = false := by simp; omega
          refine AWp.shift (Shift.frz 4 rfl (frozen_scenes _)) ?_
          simp only [Go.Av.put, srA, ↓frzC_str, ↓frz_str, frzE, frz, frz1, frzC, frzB, List.map_cons, List.map_nil, List.set_cons_succ, List.set_cons_zero, Nat.reduceBEq, cond_true, cond_false, Bool.false_and, Bool.true_and, List.length_map, Nat.zero_add, numL_len, List.length_cons, decide_true, Nat.le_refl, List.drop_zero]
          simp only [htake]
          refine goF (N := 37) Tryz.ntmps25 300 ?_
          simp only [go_sem, di]
          exact aretc [.cell 2 28] rfl [_] ⟨by simp only [go_sem, sideIs, numR], trivial⟩ ⟨_, _, rfl, rfl, by rw [hkf, show i = xs.length + 1 by omega]; simp, rfl, rfl⟩

theorem title_all : (TitleL.all fun t => plainL t && (decide (1 ≤ t.length) && decide (t.length ≤ 60))) = true := by decide +kernel
theorem set_all : (SetL.all fun t => isSetL t && decide (t.length < 1000000)) = true := by decide +kernel
theorem drawn_scene {x : Sc} (h : DrawnS x) : SceneOk x := by
  have := List.all_eq_true.1 set_all x.set h.set
  simp only [Bool.and_eq_true, decide_eq_true_eq] at this
  exact ⟨this.1, this.2, by have := h.len; omega, h.run⟩
theorem sum_le : ∀ (l : List Sc), (∀ y ∈ l, y.paras.length ≤ 60) → paraSum l ≤ 60 * l.length
  | [], _ => by simp [paraSum]
  | x :: r, h => by
    have h1 := h x (by simp)
    have h2 := sum_le r (fun y hy => h y (by simp [hy]))
    simp only [paraSum, List.map_cons, List.sum_cons, List.length_cons] at h2 ⊢
    omega
def accN (i : Nat) : List (List UInt8) := (List.range i).map fun j => lastL (j + 1)
theorem acc_new : ∀ i, i < 5 → lastL (i + 1) ∉ accN i ∧ numberL (lastL (i + 1)) = true ∧ (lastL (i + 1)).length < 1000000 := by
  have h : ∀ i : Fin 5, lastL (i.1 + 1) ∉ accN i.1 ∧ numberL (lastL (i.1 + 1)) = true ∧ (lastL (i.1 + 1)).length < 1000000 := by decide +kernel
  exact fun i hi => h ⟨i, hi⟩
end Go.Proofs.YtkfpiadgjbhcpaaGreatDoor
