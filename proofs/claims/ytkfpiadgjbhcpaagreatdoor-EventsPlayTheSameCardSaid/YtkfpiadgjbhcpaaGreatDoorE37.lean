/- Rolls that are drawn; the checks of rolls in the program. Own work of this seat. -/
import Derived.Test.YtkfpiadgjbhcpaaGreatDoorE36
import Derived.Test.YtkfpiadgjbhcpaaGreatDoorE22
set_option maxRecDepth 100000
set_option linter.unusedSimpArgs false
set_option linter.unusedVariables false
namespace Go.Proofs.YtkfpiadgjbhcpaaGreatDoor
open Go Go.Av Go.RowKit

theorem rl_frz : ∀ l : List Rl, (flat (l.map rlA)).all Av.frozen = true
  | [] => rfl
  | x :: r => by simpa [flat, cellsOf, rlA, Av.frozen] using rl_frz r
set_option maxHeartbeats 8000000 in
theorem rollsX_mc (L : List Int) (k : Int) (h3 : 0 ≤ k) (h4 : k ≤ 800000) :
    Mc Tryz.prog 149 2 (str L k) [] (fun r s => r = .fz 5 ((rollsF L k).1.map rlA) ∧ s = str L (rollsF L k).2) := by
  obtain ⟨⟨z, kz⟩, hz⟩ : ∃ z, z = rollsF L k := ⟨_, rfl⟩
  rw [← hz]
  unfold rollsF rolls0 at hz
  have p1 := pickX_mc L k [1, 1, 2, 3, 4] (by decide) (by decide) (by omega) (by omega)
  have p2 := pickX_mc L (k + 1) [0, 1000, 86000] (by decide) (by decide) (by omega) (by omega)
  have p3 := pickX_mc L (k + 1 + 1) [0, 5000] (by decide) (by decide) (by omega) (by omega)
  have p4 := pickX_mc L (k + 1 + 1 + 1) [500, 3000] (by decide) (by decide) (by omega) (by omega)
  generalize pickF L k [1, 1, 2, 3, 4] = ra at *
  have p5 := pickX_mc L (k + 1 + 1 + 1 + 1) [ra, ra, 1, 4] (by simp) (by simp) (by omega) (by omega)
  have p6 := pickX_mc L (k + 1 + 1 + 1 + 1 + 1) [0, 1000, -1000, 7] (by decide) (by decide) (by omega) (by omega)
  generalize pickF L (k + 1) [0, 1000, 86000] = s1 at *
  generalize pickF L (k + 1 + 1) [0, 5000] = s2 at *
  generalize pickF L (k + 1 + 1 + 1) [500, 3000] = l2 at *
  generalize pickF L (k + 1 + 1 + 1 + 1) [ra, ra, 1, 4] = r3 at *
  generalize pickF L (k + 1 + 1 + 1 + 1 + 1) [0, 1000, -1000, 7] = d3 at *
  have q6 : k + 1 + 1 + 1 + 1 + 1 + 1 = k + 6 := by omega
  have q7 : k + 6 + 1 = k + 7 := by omega
  have q8 : k + 7 + 1 = k + 8 := by omega
  have q9 : k + 8 + 1 = k + 9 := by omega
  have q10 : k + 9 + 1 = k + 10 := by omega
  rw [q6] at p6
  have hfl := flipX_mc L (k + 6) 10 (by decide) (by decide) (by omega) (by omega)
  have hn3 := nextX_mc L (k + 7) 3 (by decide) (by decide) (by omega) (by omega)
  have hn5 := nextX_mc L (k + 8) 5 (by decide) (by decide) (by omega) (by omega)
  rw [q7] at hfl
  rw [q8] at hn3
  rw [q9] at hn5
  have b3 := nx_bd L (k + 7) 3 (by decide)
  have b5 := nx_bd L (k + 8) 5 (by decide)
  have u0 := oneX_mc L (k + 9) [[], [97, 49], [65, 49], [65, 66, 67, 68, 69, 70, 71, 72, 73]] (by decide) (by decide) (by omega) (by omega)
  have u1 := pickX_mc L (k + 9) [0, 5] (by decide) (by decide) (by omega) (by omega)
  have u2 := pickX_mc L (k + 9) [-1, 2592000, 2073599] (by decide) (by decide) (by omega) (by omega)
  have u3 := pickX_mc L (k + 9) [0, -1, 2592000] (by decide) (by decide) (by omega) (by omega)
  have u4 := pickX_mc L (k + 9) [1001, -1001] (by decide) (by decide) (by omega) (by omega)
  rw [q10] at u0 u1 u2 u3 u4
  unfold updR at hz
  generalize oneF L (k + 9) [[], [97, 49], [65, 49], [65, 66, 67, 68, 69, 70, 71, 72, 73]] = v0 at *
  generalize pickF L (k + 9) [0, 5] = v1 at *
  generalize pickF L (k + 9) [-1, 2592000, 2073599] = v2 at *
  generalize pickF L (k + 9) [0, -1, 2592000] = v3 at *
  generalize pickF L (k + 9) [1001, -1001] = v4 at *
  generalize nx L (k + 7) 3 = j at *
  generalize nx L (k + 8) 5 = u at *
  generalize flipF L (k + 6) 10 = fb at *
  refine ct_intro Tryz.func149 rfl Tryz.ntmps149 hB149 (by simp) fun h ρ w => goF (N := 79) Tryz.ntmps149 300 ?_
  simp only [go_sem]
  refine mcall (p1) rfl rfl (id := 0) rfl (N := 79) Tryz.ntmps149 rfl ?_
  rintro _ _ ⟨rfl, rfl⟩
  refine goF (N := 79) Tryz.ntmps149 300 ?_
  simp only [go_sem]
  refine mcall (p2) rfl rfl (id := 0) rfl (N := 79) Tryz.ntmps149 rfl ?_
  rintro _ _ ⟨rfl, rfl⟩
  refine goF (N := 79) Tryz.ntmps149 300 ?_
  simp only [go_sem]
  refine mcall (p3) rfl rfl (id := 0) rfl (N := 79) Tryz.ntmps149 rfl ?_
  rintro _ _ ⟨rfl, rfl⟩
  refine goF (N := 79) Tryz.ntmps149 300 ?_
  simp only [go_sem]
  refine mcall (p4) rfl rfl (id := 0) rfl (N := 79) Tryz.ntmps149 rfl ?_
  rintro _ _ ⟨rfl, rfl⟩
  refine goF (N := 79) Tryz.ntmps149 300 ?_
  simp only [go_sem]
  refine mcall (p5) rfl rfl (id := 0) rfl (N := 79) Tryz.ntmps149 rfl ?_
  rintro _ _ ⟨rfl, rfl⟩
  refine goF (N := 79) Tryz.ntmps149 300 ?_
  simp only [go_sem]
  refine mcall (p6) rfl rfl (id := 0) rfl (N := 79) Tryz.ntmps149 rfl ?_
  rintro _ _ ⟨rfl, rfl⟩
  refine go (N := 79) Tryz.ntmps149 300 ?_
  simp only [go_sem]
  refine mcall (hfl) rfl rfl (id := 0) rfl (N := 79) Tryz.ntmps149 rfl ?_
  rintro _ _ ⟨rfl, rfl⟩
  cases fb with
  | false =>
    simp only [Bool.false_eq_true, if_false, Prod.mk.injEq] at hz
    obtain ⟨rfl, rfl⟩ := hz
    refine go (N := 79) Tryz.ntmps149 300 ?_
    simp only [go_sem]
    refine ARet.shift (Shift.freeze 2 (id := 1) rfl rfl (by simp) (Nat.le_refl _) (rl_frz [⟨[65, 49], ra, s1, 3000, 0⟩, ⟨[65, 50], ra, s2, l2, 0⟩, ⟨[83, 49], r3, 0, 100000, d3⟩])) (aret [2] rfl ⟨_, _, rfl, ?_, rfl, rfl, rfl⟩)
    simp [resV, Av.get, Av.put, rlA]
  | true =>
    simp only [if_true, Prod.mk.injEq] at hz
    have hj : j = 0 ∨ j = 1 ∨ j = 2 := by omega
    have hu : u = 0 ∨ u = 1 ∨ u = 2 ∨ u = 3 ∨ u = 4 := by omega
    obtain ⟨hz, rfl⟩ := hz
    have hfz := rl_frz z
    rcases hj with rfl | rfl | rfl <;> rcases hu with rfl | rfl | rfl | rfl | rfl <;>
    · simp [List.getD] at hz
      refine go (N := 79) Tryz.ntmps149 300 ?_
      simp only [go_sem]
      refine mcall (hn3) rfl rfl (id := 0) rfl (N := 79) Tryz.ntmps149 rfl ?_
      rintro _ _ ⟨rfl, rfl⟩
      refine go (N := 79) Tryz.ntmps149 300 ?_
      simp only [go_sem]
      repeat refine And.intro (by first | omega | rfl | (simp; done) | (simp; omega)) ?_
      refine mcall (hn5) rfl rfl (id := 0) rfl (N := 79) Tryz.ntmps149 rfl ?_
      rintro _ _ ⟨rfl, rfl⟩
      refine goF (N := 79) Tryz.ntmps149 300 ?_
      simp only [go_sem]
      first
        | (refine mcall u0 rfl rfl (id := 0) rfl (N := 79) Tryz.ntmps149 rfl ?_)
        | (refine mcall u1 rfl rfl (id := 0) rfl (N := 79) Tryz.ntmps149 rfl ?_)
        | (refine mcall u2 rfl rfl (id := 0) rfl (N := 79) Tryz.ntmps149 rfl ?_)
        | (refine mcall u3 rfl rfl (id := 0) rfl (N := 79) Tryz.ntmps149 rfl ?_)
        | (refine mcall u4 rfl rfl (id := 0) rfl (N := 79) Tryz.ntmps149 rfl ?_)
      rintro _ _ ⟨rfl, rfl⟩
      refine go (N := 79) Tryz.ntmps149 300 ?_
      simp only [go_sem]
      repeat refine And.intro (by first | omega | rfl | (simp; done) | (simp; omega)) ?_
      subst hz
      refine ARet.shift (Shift.freeze 2 (id := 1) rfl rfl (by simp) (Nat.le_refl _) hfz) (aret [2] rfl ⟨_, _, rfl, ?_, rfl, rfl, rfl⟩)
      simp [resV, Av.get, Av.put, rlA]
def rollsD : List Rl := [⟨[65, 49], 1, 0, 3000, 0⟩, ⟨[65, 50], 1, 0, 3000, 0⟩, ⟨[83, 49], 4, 0, 100000, 0⟩]
open Classical in
noncomputable def rightF (L : List Int) (k : Int) : List Rl := if RollsOk (rollsF L k).1 then (rollsF L k).1 else rollsD
theorem rollsD_ok : RollsOk rollsD := by
  refine ⟨by decide, fun i x hx => ?_⟩
  have hn : rnR [65, 49] = true ∧ rnR [65, 50] = true ∧ rnR [83, 49] = true := by decide
  have : i = 0 ∨ i = 1 ∨ i = 2 := by
    have := (List.getElem?_eq_some_iff.1 hx).1
    simp [rollsD] at this
    omega
  rcases this with rfl | rfl | rfl <;> (simp [rollsD] at hx; subst hx)
  · exact ⟨⟨hn.1, by decide, by decide, by decide, by decide⟩, by decide⟩
  · exact ⟨⟨hn.2.1, by decide, by decide, by decide, by decide⟩, by decide⟩
  · exact ⟨⟨hn.2.2, by decide, by decide, by decide, by decide⟩, by decide⟩
theorem rightF_ok (L : List Int) (k : Int) : RollsOk (rightF L k) ∧ (rightF L k).length = 3 ∧ ∀ x ∈ rightF L k, x.name ∈ RnL := by
  obtain ⟨a, b, _, _⟩ := rollsF_ok L k
  unfold rightF
  split
  · rename_i h
    exact ⟨h, a, b⟩
  · exact ⟨rollsD_ok, rfl, by decide⟩
theorem rightX_mc (L : List Int) (k : Int) (h3 : 0 ≤ k) (h4 : k ≤ 800000) :
    Mc Tryz.prog 88 2 (str L k) [] (fun r s => r = .fz 5 ((rightF L k).map rlA) ∧ s = str L (rollsF L k).2) := by
  have hm := rollsX_mc L k h3 h4
  obtain ⟨a, b, _, _⟩ := rollsF_ok L k
  unfold rightF
  generalize rollsF L k = z at *
  obtain ⟨l, k'⟩ := z
  simp only at hm a b ⊢
  have hf := rollsR_pc l (by omega) (fun x hx => rnL_bd _ (b x hx))
  refine ct_intro Tryz.func88 rfl Tryz.ntmps88 hB88 (by simp) fun h ρ w => goF (N := 14) Tryz.ntmps88 300 ?_
  simp only [go_sem]
  refine mcall (hm) rfl rfl (id := 0) rfl (N := 14) Tryz.ntmps88 rfl ?_
  rintro _ _ ⟨rfl, rfl⟩
  refine goF (N := 14) Tryz.ntmps88 300 ?_
  simp only [go_sem]
  refine pcall (hf) rfl (N := 14) Tryz.ntmps88 rfl ?_
  rintro _ ⟨n, rfl, hn⟩
  refine goF (N := 14) Tryz.ntmps88 300 ?_
  cases e1 : n != 0 with
  | true =>
    have h : ¬ RollsOk l := fun h => by have := hn.2 h; simp [this] at e1
    rw [if_neg h]
    simp only [go_sem, e1]
    exact aret [2] rfl ⟨_, _, rfl, rfl, rfl, rfl, rfl⟩
  | false =>
    have h : RollsOk l := hn.1 (by simpa using e1)
    rw [if_pos h]
    simp only [go_sem, e1]
    exact aret [2] rfl ⟨_, _, rfl, rfl, rfl, rfl, rfl⟩
theorem rightRX_mc (L : List Int) (k : Int) (h3 : 0 ≤ k) (h4 : k ≤ 800000) :
    Mc Tryz.prog 34 2 (str L k) [] (fun r s => r = .fz 5 ((rightF L k).map rlA) ∧ s = str L (rollsF L k).2) := by
  refine ct_intro Tryz.func34 rfl Tryz.ntmps34 hB34 (by simp) fun h ρ w => goF (N := 5) Tryz.ntmps34 300 ?_
  simp only [go_sem]
  refine mcall (rightX_mc L k h3 h4) rfl rfl (id := 0) rfl (N := 5) Tryz.ntmps34 rfl ?_
  rintro _ _ ⟨rfl, rfl⟩
  refine goF (N := 5) Tryz.ntmps34 300 ?_
  simp only [go_sem]
  exact aret [2] rfl ⟨_, _, rfl, rfl, rfl, rfl, rfl⟩

theorem isRate_pc (r : Int) (h : 1 ≤ r ∧ r ≤ 4) : Pc Tryz.prog 103 [.int .i64 r] (· = .bool true) := by
  have e1 : decide (r ≥ 1) = true := by simpa using h.1
  have e2 : decide (r ≤ 4) = true := by simpa using h.2
  refine pc_intro (ct_intro Tryz.func103 rfl Tryz.ntmps103 hB103 (by simp) fun h ρ w => goB (N := 9) Tryz.ntmps103 300 ?_)
  simp only [go_sem, e1, e2]
  exact aret [2] rfl ⟨rfl, rfl⟩
def cntR (r : Int) : Int := if r = 1 then 24 else if r = 2 then 25 else 30
theorem counted_pc (r : Int) (h : 1 ≤ r ∧ r ≤ 4) : Pc Tryz.prog 115 [.int .i64 r] (· = .int .i64 (cntR r)) := by
  refine pc_intro (ct_intro Tryz.func115 rfl Tryz.ntmps115 hB115 (by simp) fun h ρ w => goB (N := 6) Tryz.ntmps115 300 ?_)
  obtain rfl | rfl | rfl | rfl : r = 1 ∨ r = 2 ∨ r = 3 ∨ r = 4 := by omega
  all_goals
    simp only [go_sem]
    exact aret [2] rfl ⟨rfl, rfl⟩
theorem frames_pc (r : Int) (h : 1 ≤ r ∧ r ≤ 4) : Pc Tryz.prog 104 [.int .i64 r] (· = .int .i64 (dayR r)) := by
  refine pc_intro (ct_intro Tryz.func104 rfl Tryz.ntmps104 hB104 (by simp) fun h ρ w => goB (N := 8) Tryz.ntmps104 300 ?_)
  obtain rfl | rfl | rfl | rfl : r = 1 ∨ r = 2 ∨ r = 3 ∨ r = 4 := by omega
  case inr.inr.inr =>
    simp only [go_sem]
    exact aret [2] rfl ⟨rfl, rfl⟩
  all_goals
    simp only [go_sem]
    refine pcall1 (counted_pc _ (by decide)) rfl (N := 8) Tryz.ntmps104 rfl (goB (N := 8) Tryz.ntmps104 300 ?_)
    simp only [go_sem, cntR]
    exact aret [2] rfl ⟨rfl, rfl⟩
def rollC (c : UInt8) : Bool := (decide (65 ≤ c.toNat) && decide (c.toNat ≤ 90)) || (decide (48 ≤ c.toNat) && decide (c.toNat ≤ 57))
theorem rnL_roll : ∀ s ∈ RnL, rnR s = true → s.all rollC = true ∧ 1 ≤ s.length ∧ s.length ≤ 8 := by decide +kernel
theorem isRoll_pc (s : List UInt8) (hal : s.all rollC = true) (h1 : 1 ≤ s.length) (h2 : s.length ≤ 8) : Pc Tryz.prog 109 [.str s] (· = .bool true) := by
  have e1 : decide ((s.length : Int) ≥ 1) = true := by simp; omega
  have e2 : decide ((s.length : Int) ≤ 8) = true := by simp; omega
  refine pc_intro (ct_intro Tryz.func109 rfl Tryz.ntmps109 hB109 (by simp) fun h ρ w => goB (N := 40) Tryz.ntmps109 300 ?_)
  simp only [go_sem]
  refine aloop (ι := Nat) (fun i => s.length - i) (fun i => [(6, .int .i64 i), (5, .int .i64 s.length), (0, .str s)]) (fun _ => []) (fun i => i ≤ s.length) 0 (by omega) ?_ ?_
  · refine Shift.weakS ?_ rfl
    simp only [wk, go_sem]
  · intro i g1 J hJ
    by_cases gi : i < s.length
    · have di : decide ((i : Int) < (s.length : Int)) = true := by simp; omega
      have hx : s.getD i 0 = s[i] := by simp [List.getD, gi]
      have hc := List.all_eq_true.1 hal s[i] (List.getElem_mem gi)
      simp only [rollC, Bool.or_eq_true, Bool.and_eq_true, decide_eq_true_eq] at hc
      have hgo := hJ (i + 1) (by omega) (by omega)
      refine goB (N := 40) Tryz.ntmps109 300 ?_
      rcases hc with hc | hc
      · have q1 : decide ((s[i].toNat : Int) < 65) = false := by simp; omega
        have q2 : decide ((s[i].toNat : Int) > 90) = false := by simp; omega
        simp only [go_sem, di, hx, q1, q2]
        repeat refine And.intro (by first | omega | rfl | (simp; done) | (simp; omega)) ?_
        rw [show (i : Int) + 1 = ((i + 1 : Nat) : Int) by omega]
        refine ainv hgo (Shift.weakS ?_ rfl)
        simp only [wk, go_sem]
      · have q1 : decide ((s[i].toNat : Int) < 65) = true := by simp; omega
        have q2 : decide ((s[i].toNat : Int) < 48) = false := by simp; omega
        have q3 : decide ((s[i].toNat : Int) > 57) = false := by simp; omega
        simp only [go_sem, di, hx, q1, q2, q3]
        repeat refine And.intro (by first | omega | rfl | (simp; done) | (simp; omega)) ?_
        rw [show (i : Int) + 1 = ((i + 1 : Nat) : Int) by omega]
        refine ainv hgo (Shift.weakS ?_ rfl)
        simp only [wk, go_sem]
    · have di : decide ((i : Int) < (s.length : Int)) = false := by simp; omega
      refine goB (N := 40) Tryz.ntmps109 300 ?_
      simp only [go_sem, di, e1, e2]
      exact aret [2] rfl ⟨rfl, rfl⟩
theorem RollsOk.ne {l : List Rl} (h : RollsOk l) {i j : Nat} {x y : Rl} (hi : l[i]? = some x) (hj : l[j]? = some y) (hij : i < j) : x.name ≠ y.name := by
  have := (h.at' j y hj).2
  rw [List.any_eq_false] at this
  have h2 := this x (List.mem_iff_getElem?.2 ⟨i, by rw [List.getElem?_take, if_pos hij]; exact hi⟩)
  simpa using h2
set_option maxHeartbeats 4000000 in
theorem checkRolls_pc (l : List Rl) (hok : RollsOk l) (hn : ∀ x ∈ l, x.name ∈ RnL) : Pc Tryz.prog 57 [.fz 5 (l.map rlA)] (· = .int .i64 0) := by
  have hlen := hok.len
  have d1 : decide ((l.length : Int) > 200) = false := by simp; omega
  refine pc_intro (ct_intro Tryz.func57 rfl Tryz.ntmps57 hB57 (by simp) fun h ρ w => goB (N := 73) Tryz.ntmps57 300 ?_)
  simp only [go_sem, d1, List.length_map]
  refine aloop (ι := Nat × List (List UInt8)) (fun y => l.length - y.1)
    (fun y => [(12, .int .i64 y.1), (11, .int .i64 l.length), (10, .fz 5 (l.map rlA)), (3, .mp 0)])
    (fun y => [.mp (seenM y.2)]) (fun y => y.1 ≤ l.length ∧ y.2 = (l.take y.1).map (·.name)) (0, []) ⟨by simp, by simp⟩ ?_ ?_
  · refine Shift.weakS ?_ rfl
    simp only [wk, go_sem, List.length_map]
  · rintro ⟨i, acc⟩ ⟨g1, g2⟩ J hJ
    simp only at g1 g2 hJ ⊢
    by_cases gi : i < l.length
    · have di : decide ((i : Int) < (l.length : Int)) = true := by simp; omega
      have hxi : l[i]? = some l[i] := List.getElem?_eq_getElem gi
      obtain ⟨hx, _⟩ := hok.at' i _ hxi
      have hm := hn _ (List.getElem_mem gi)
      obtain ⟨r1, r2, r3⟩ := rnL_roll _ hm hx.name
      have hnew : l[i].name ∉ acc := by
        rw [g2]
        intro hmem
        obtain ⟨y, hy, e⟩ := List.mem_map.1 hmem
        obtain ⟨j, hj, rfl⟩ := List.getElem_of_mem hy
        rw [List.length_take] at hj
        rw [List.getElem_take] at e
        exact hok.ne (List.getElem?_eq_getElem (by omega)) hxi (by omega) e
      have m1 := @mfind_out l[i].name acc 0 hnew
      have m2 : seenM acc ++ [(.str l[i].name, .bool true)] = seenM (acc ++ [l[i].name]) := by simp [seenM]
      have hfin := hJ (i + 1, acc ++ [l[i].name]) ⟨by simp only; omega, by simp only; rw [g2, List.take_add_one, List.map_append, hxi]; rfl⟩ (by simp only; omega)
      have hget := rlA_get l i gi
      have hs := hx.start
      have hg := hx.long
      have hd := hx.drift
      have hr := hx.rate
      generalize l[i] = x at *
      have hdb : 0 ≤ dayR x.rate ∧ dayR x.rate ≤ 2592000 := by
        obtain h | h | h | h : x.rate = 1 ∨ x.rate = 2 ∨ x.rate = 3 ∨ x.rate = 4 := by omega
        all_goals rw [h]; decide
      have e1 : decide (x.start < 0) = false := by simp; omega
      have e2 : decide (x.start ≥ dayR x.rate) = false := by simp; omega
      have e3 : decide (x.long < 1) = false := by simp; omega
      have e4 : decide (x.long > dayR x.rate - x.start) = false := by simp; omega
      have e5 : decide (x.drift < -1000) = false := by simp; omega
      have e6 : decide (x.drift > 1000) = false := by simp; omega
      refine goB (N := 73) Tryz.ntmps57 300 ?_
      simp only [go_sem, di, hget, List.length_map]
      repeat refine And.intro (by first | omega | rfl | (simp; done) | (simp; omega)) ?_
      refine pcall1 (isRoll_pc x.name r1 r2 r3) rfl (N := 73) Tryz.ntmps57 rfl (goB (N := 73) Tryz.ntmps57 300 ?_)
      simp only [go_sem, m1]
      repeat refine And.intro (by first | omega | rfl | kernel_rfl | (simp; done) | (simp; omega)) ?_
      refine pcall1 (isRate_pc x.rate hr) rfl (N := 73) Tryz.ntmps57 rfl (goB (N := 73) Tryz.ntmps57 300 ?_)
      simp only [go_sem]
      refine adraw [.int .i64 (dayR x.rate), .int .i64 (dayR x.rate)] mixed (by decide) (N := 73) Tryz.ntmps57 (by decide) 100 ?_
      simp only [go_sem, e1, e2, e3, e4, e5, e6]
      repeat refine And.intro (by first | omega | rfl | exact (frames_pc x.rate hr).at | (simp; done) | (simp; omega)) ?_
      refine goB (N := 73) Tryz.ntmps57 300 ?_
      simp only [go_sem, m1, m2]
      repeat refine And.intro (by first | omega | rfl | kernel_rfl | (simp; done) | (simp; omega)) ?_
      rw [show (i : Int) + 1 = ((i + 1 : Nat) : Int) by omega]
      refine ainv hfin (Shift.low 1 (by simp) (by simp) ?_ ?_)
      · simp only [List.take_succ_cons, List.take_zero, List.all_cons, List.all_nil, ↓low_seen, Bool.and_self]
      · simp only [wkl, lowV, lowC, Av.get, go_sem]
    · have di : decide ((i : Int) < (l.length : Int)) = false := by simp; omega
      refine goB (N := 73) Tryz.ntmps57 300 ?_
      simp only [go_sem, di]
      exact aret [2] rfl ⟨rfl, rfl⟩
structure CvS where
  inn : Int
  cs : List Cv
  k : Int
def covStep (L : List Int) (n p : Nat) (x : CvS) : CvS :=
  if 0 < n ∧ flipF L x.k 3 = true then ⟨x.inn + nx L (x.k + 1) 2, x.cs, x.k + 1 + 1⟩
  else
    if flipF L ((if 0 < n then x.k + 1 else x.k) + 1 + 1) 4 then
      ⟨x.inn + rangeF L (if 0 < n then x.k + 1 else x.k) 1 3 + 1, x.cs ++ [⟨p, x.inn + 1, x.inn + rangeF L (if 0 < n then x.k + 1 else x.k) 1 3 + 1, flipF L ((if 0 < n then x.k + 1 else x.k) + 1) 2⟩], (if 0 < n then x.k + 1 else x.k) + 1 + 1 + 1⟩
    else
      ⟨x.inn + rangeF L (if 0 < n then x.k + 1 else x.k) 1 3, x.cs ++ [⟨p, x.inn, x.inn + rangeF L (if 0 < n then x.k + 1 else x.k) 1 3, flipF L ((if 0 < n then x.k + 1 else x.k) + 1) 2⟩], (if 0 < n then x.k + 1 else x.k) + 1 + 1 + 1⟩
def covs (L : List Int) (n : Nat) : Nat → Nat → CvS → CvS
  | 0, _, x => x
  | m + 1, p, x => covs L n m (p + 1) (covStep L n p x)
structure TkS where
  at' : Int
  out : List Tk
  k : Int
def mkTk (no : List UInt8) (r : Rl) (n : Nat) (at' : Int) (z : CvS) : Tk := ⟨no, [], n + 1, r.name, [], at', z.inn + 1, true, z.cs⟩
def takeStep (L : List Int) (no : List UInt8) (np : Nat) (r : Rl) (n : Nat) (x : TkS) : TkS :=
  ⟨(covs L n np 0 ⟨x.at', [], x.k⟩).inn + 1,
   if flipF L (covs L n np 0 ⟨x.at', [], x.k⟩).k 12 = false ∧ (covs L n np 0 ⟨x.at', [], x.k⟩).inn + 1 - r.start ≤ r.long then x.out ++ [mkTk no r n x.at' (covs L n np 0 ⟨x.at', [], x.k⟩)] else x.out,
   (covs L n np 0 ⟨x.at', [], x.k⟩).k + 1⟩
def takesN (L : List Int) (no : List UInt8) (np : Nat) (r : Rl) : Nat → Nat → TkS → TkS
  | 0, _, x => x
  | m + 1, n, x => takesN L no np r m (n + 1) (takeStep L no np r n x)
def scTakes (L : List Int) (r : Rl) (y : Sc) (x : TkS) : TkS := takesN L y.no y.paras.length r (rangeF L x.k 1 3).toNat 0 ⟨x.at', x.out, x.k + 1⟩
def fullN (L : List Int) (r : Rl) : List Sc → TkS → TkS
  | [], x => x
  | y :: l, x => fullN L r l (scTakes L r y x)
def fullF (L : List Int) (k : Int) (l : List Sc) (r : Rl) : List Tk × Int := ((fullN L r l ⟨r.start, [], k⟩).out, (fullN L r l ⟨r.start, [], k⟩).k)

structure CvB (lo hi : Int) (np : Nat) (c : Cv) : Prop where
  para : 0 ≤ c.para ∧ c.para < np
  inn : lo ≤ c.inn
  out : c.out ≤ hi
/-- what is known of a take that is drawn -/
structure TkB (r : Rl) (t : Tk) : Prop where
  setup : t.setup = []
  number : 1 ≤ t.number ∧ t.number ≤ 3
  roll : t.roll = r.name
  sound : t.sound = []
  good : t.good = true
  inn : r.start ≤ t.inn ∧ t.inn ≤ r.start + 10000
  out : r.start ≤ t.out ∧ t.out ≤ r.start + 10000
  len : t.covers.length ≤ 60
  cov : ∀ c ∈ t.covers, CvB r.start (r.start + 10000) 60 c
  scene : t.scene.length < 10
theorem covStep_bd (L : List Int) (n p : Nat) (x : CvS) : x.inn ≤ (covStep L n p x).inn ∧ (covStep L n p x).inn ≤ x.inn + 4 ∧ x.k ≤ (covStep L n p x).k ∧ (covStep L n p x).k ≤ x.k + 4 ∧
    (covStep L n p x).cs.length ≤ x.cs.length + 1 ∧ ∀ c ∈ (covStep L n p x).cs, c ∈ x.cs ∨ (c.para = p ∧ x.inn ≤ c.inn ∧ c.out ≤ x.inn + 4) := by
  unfold covStep
  have hb := nx_bd L (x.k + 1) 2 (by decide)
  split
  · exact ⟨by simp only; omega, by simp only; omega, by simp only; omega, by simp only; omega, by simp, fun c hc => .inl hc⟩
  · have hr := range13 L (if 0 < n then x.k + 1 else x.k) 3 (by decide)
    have hk : x.k ≤ (if 0 < n then x.k + 1 else x.k) ∧ (if 0 < n then x.k + 1 else x.k) ≤ x.k + 1 := by split <;> omega
    generalize (if 0 < n then x.k + 1 else x.k) = k0 at *
    split
    · refine ⟨by simp only; omega, by simp only; omega, by simp only; omega, by simp only; omega, by simp, fun c hc => ?_⟩
      rcases List.mem_append.1 hc with hc | hc
      · exact .inl hc
      · rw [List.mem_singleton.1 hc]; exact .inr ⟨rfl, by simp only; omega, by simp only; omega⟩
    · refine ⟨by simp only; omega, by simp only; omega, by simp only; omega, by simp only; omega, by simp, fun c hc => ?_⟩
      rcases List.mem_append.1 hc with hc | hc
      · exact .inl hc
      · rw [List.mem_singleton.1 hc]; exact .inr ⟨rfl, by simp only; omega, by simp only; omega⟩
theorem covs_bd (L : List Int) (n : Nat) : ∀ (m p : Nat) (x : CvS) , x.inn ≤ (covs L n m p x).inn ∧ (covs L n m p x).inn ≤ x.inn + 4 * m ∧ x.k ≤ (covs L n m p x).k ∧ (covs L n m p x).k ≤ x.k + 4 * m ∧
    (covs L n m p x).cs.length ≤ x.cs.length + m ∧ ∀ c ∈ (covs L n m p x).cs, c ∈ x.cs ∨ ((p : Int) ≤ c.para ∧ c.para < p + m ∧ x.inn ≤ c.inn ∧ c.out ≤ x.inn + 4 * m)
  | 0, p, x => ⟨Int.le_refl _, by simp [covs], Int.le_refl _, by simp [covs], by simp [covs], fun c hc => .inl hc⟩
  | m + 1, p, x => by
    obtain ⟨a1, a2, a3, a4, a5, a6⟩ := covStep_bd L n p x
    obtain ⟨b1, b2, b3, b4, b5, b6⟩ := covs_bd L n m (p + 1) (covStep L n p x)
    simp only [covs]
    refine ⟨by omega, by push_cast; omega, by omega, by push_cast; omega, by omega, fun c hc => ?_⟩
    rcases b6 c hc with h | ⟨h1, h2, h3, h4⟩
    · rcases a6 c h with h | ⟨h1, h2, h3⟩
      · exact .inl h
      · exact .inr ⟨by omega, by push_cast; omega, by omega, by push_cast; omega⟩
    · exact .inr ⟨by push_cast at h1; omega, by push_cast at h2 ⊢; omega, by omega, by push_cast; omega⟩
structure TkSB (r : Rl) (b : Int) (x : TkS) : Prop where
  at' : r.start ≤ x.at' ∧ x.at' ≤ r.start + 250 * b
  out : ∀ t ∈ x.out, TkB r t
  len : (x.out.length : Int) ≤ b
theorem takeStep_bd (L : List Int) (no : List UInt8) (np : Nat) (r : Rl) (n : Nat) (x : TkS) (b : Int) (hno : no.length < 10) (hnp : np ≤ 60) (hn : n < 3) (hb : 0 ≤ b ∧ b ≤ 20) (h : TkSB r b x) :
    TkSB r (b + 1) (takeStep L no np r n x) ∧ x.k ≤ (takeStep L no np r n x).k ∧ (takeStep L no np r n x).k ≤ x.k + 250 := by
  obtain ⟨b1, b2, b3, b4, b5, b6⟩ := covs_bd L n np 0 ⟨x.at', [], x.k⟩
  have h1 := h.at'
  have h2 := h.len
  unfold takeStep
  generalize covs L n np 0 ⟨x.at', [], x.k⟩ = z at *
  simp only [List.length_nil, Nat.zero_add] at b1 b2 b3 b4 b5 b6
  refine ⟨⟨by simp only; omega, ?_, ?_⟩, by simp only; omega, by simp only; omega⟩
  · intro t ht
    simp only at ht
    split at ht
    · rcases List.mem_append.1 ht with ht | ht
      · exact h.out t ht
      · rw [List.mem_singleton.1 ht]
        refine ⟨rfl, by simp only [mkTk]; omega, rfl, rfl, rfl, by simp only [mkTk]; omega, by simp only [mkTk]; omega, by simp only [mkTk]; omega, fun c hc => ?_, hno⟩
        rcases b6 c hc with hc | ⟨c1, c2, c3, c4⟩
        · simp at hc
        · exact ⟨by push_cast at c1 c2; omega, by omega, by omega⟩
    · exact h.out t ht
  · simp only
    split
    · simp; omega
    · omega
theorem takesN_bd (L : List Int) (no : List UInt8) (np : Nat) (r : Rl) (hno : no.length < 10) (hnp : np ≤ 60) : ∀ (m n : Nat) (x : TkS) (b : Int), n + m ≤ 3 → 0 ≤ b → b + m ≤ 20 → TkSB r b x →
    TkSB r (b + m) (takesN L no np r m n x) ∧ x.k ≤ (takesN L no np r m n x).k ∧ (takesN L no np r m n x).k ≤ x.k + 250 * m
  | 0, n, x, b, _, _, _, h => ⟨by simpa [takesN] using h, Int.le_refl _, by simp [takesN]⟩
  | m + 1, n, x, b, h1, h2, h3, h => by
    obtain ⟨a1, a2, a3⟩ := takeStep_bd L no np r n x b hno hnp (by omega) ⟨h2, by push_cast at h3; omega⟩ h
    obtain ⟨c1, c2, c3⟩ := takesN_bd L no np r hno hnp m (n + 1) _ (b + 1) (by omega) (by omega) (by push_cast at h3 ⊢; omega) a1
    simp only [takesN]
    refine ⟨?_, by omega, by push_cast; omega⟩
    have : b + 1 + (m : Int) = b + ((m + 1 : Nat) : Int) := by push_cast; omega
    rw [← this]
    exact c1
theorem scTakes_bd (L : List Int) (r : Rl) (y : Sc) (x : TkS) (b : Int) (hno : y.no.length < 10) (hnp : y.paras.length ≤ 60) (hb : 0 ≤ b ∧ b ≤ 15) (h : TkSB r b x) :
    TkSB r (b + 3) (scTakes L r y x) ∧ x.k ≤ (scTakes L r y x).k ∧ (scTakes L r y x).k ≤ x.k + 760 := by
  have hr := range13 L x.k 3 (by decide)
  unfold scTakes
  generalize rangeF L x.k 1 3 = m at *
  obtain ⟨c1, c2, c3⟩ := takesN_bd L y.no y.paras.length r hno hnp m.toNat 0 ⟨x.at', x.out, x.k + 1⟩ b (by omega) hb.1 (by omega) ⟨h.at', h.out, h.len⟩
  simp only at c2 c3
  refine ⟨⟨?_, c1.out, ?_⟩, by omega, by omega⟩
  · have := c1.at'; omega
  · have := c1.len; omega
theorem fullN_bd (L : List Int) (r : Rl) : ∀ (l : List Sc) (x : TkS) (b : Int), (∀ y ∈ l, y.no.length < 10 ∧ y.paras.length ≤ 60) → 0 ≤ b → b + 3 * l.length ≤ 15 → TkSB r b x →
    TkSB r (b + 3 * l.length) (fullN L r l x) ∧ x.k ≤ (fullN L r l x).k ∧ (fullN L r l x).k ≤ x.k + 760 * l.length
  | [], x, b, _, _, _, h => ⟨by simpa [fullN] using h, Int.le_refl _, by simp [fullN]⟩
  | y :: l, x, b, hy, h1, h2, h => by
    obtain ⟨a1, a2, a3⟩ := scTakes_bd L r y x b (hy y (by simp)).1 (hy y (by simp)).2 ⟨h1, by simp at h2; omega⟩ h
    obtain ⟨c1, c2, c3⟩ := fullN_bd L r l _ (b + 3) (fun z hz => hy z (by simp [hz])) (by omega) (by simp at h2; omega) a1
    simp only [fullN]
    refine ⟨?_, by omega, by simp; omega⟩
    have : b + 3 + 3 * (l.length : Int) = b + 3 * (((y :: l).length : Nat) : Int) := by simp; omega
    rw [← this]
    exact c1
theorem fullF_ok (L : List Int) (k : Int) (x : Sr) (hx : StoryOk x) (r : Rl) : (∀ t ∈ (fullF L k x.scenes r).1, TkB r t) ∧ (fullF L k x.scenes r).1.length ≤ 15 ∧ k ≤ (fullF L k x.scenes r).2 ∧ (fullF L k x.scenes r).2 ≤ k + 4000 := by
  have hl := hx.len
  have hno : ∀ y ∈ x.scenes, y.no.length < 10 ∧ y.paras.length ≤ 60 := fun y hy => by
    obtain ⟨i, hi, rfl⟩ := List.getElem_of_mem hy
    have h1 := no_facts i (by omega)
    rw [hx.no i hi]
    exact ⟨by omega, (hx.all i hi).len⟩
  obtain ⟨a, b, c⟩ := fullN_bd L r x.scenes ⟨r.start, [], k⟩ 0 hno (by decide) (by omega) ⟨by simp only; omega, by simp, by simp⟩
  unfold fullF
  refine ⟨a.out, by have := a.len; simp only at this ⊢; omega, b, by simp only at c ⊢; omega⟩
end Go.Proofs.YtkfpiadgjbhcpaaGreatDoor
