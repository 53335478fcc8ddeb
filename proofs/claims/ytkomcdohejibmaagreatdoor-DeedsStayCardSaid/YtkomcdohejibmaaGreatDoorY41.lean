/- Texts and deeds that are drawn, told exactly. Own work of this seat. -/
import Derived.Test.YtkomcdohejibmaaGreatDoorY40
import Derived.Test.YtkomcdohejibmaaGreatDoorY22
set_option maxRecDepth 100000
set_option linter.unusedSimpArgs false
set_option linter.unusedVariables false
namespace Go.Proofs.YtkomcdohejibmaaGreatDoor
open Go Go.Av Go.RowKit

set_option maxHeartbeats 2000000 in
theorem textX {S : Std} (L : List Int) (k : Int) (h3 : 0 ≤ k) (h4 : k ≤ 900000) :
    ∃ (t : List UInt8) (k' : Int), t.length < 100000 ∧ k ≤ k' ∧ k' ≤ k + 10 ∧ McH Tryz.prog S 108 2 (str L k) [] (fun r s => r = .str t ∧ s = str L k') := by
  have hr1 := drepeat_pc [121] 19999 (by decide) (by decide)
  have hr2 := drepeat_pc [121] 20000 (by decide) (by decide)
  have e1 : (Lib.repeatL [121] 19999).length = 19999 := by rw [Lib.repeatL_length]; rfl
  have e2 : (Lib.repeatL [121] 20000).length = 20000 := by rw [Lib.repeatL_length]; rfl
  generalize Lib.repeatL [121] 19999 = y1 at *
  generalize Lib.repeatL [121] 20000 = y2 at *
  have hb := nx_bd L k (4 + 1) (by decide)
  have hlx := linesX_mc L k 4 (by decide) (by decide) h3 (by omega)
  obtain ⟨c, hc⟩ : ∃ c, (nx L k (4 + 1)).toNat = c := ⟨_, rfl⟩
  rw [hc] at hlx
  have hc4 : c ≤ 4 := by omega
  have hll := linesF_len L k c
  have hlm : ∀ x ∈ linesF L k c, x ∈ lineL := fun x hx => by
    obtain ⟨i, _, rfl⟩ := List.mem_map.1 hx
    exact oneF_mem (by decide)
  generalize linesF L k c = ls at *
  have hjl := jL_len (n := 1) ls (fun x hx => line_len (hlm x hx))
  obtain ⟨k1, hk1⟩ : ∃ k1 : Int, k + 1 + (c : Int) = k1 := ⟨_, rfl⟩
  rw [hk1] at hlx
  have hfl := flipX_mc L k1 20 (by decide) (by decide) (by omega) (by omega)
  have hjo := joined_pch (S := S) ls (by omega) (fun x hx => Nat.le_trans (line_len (hlm x hx)) (by decide))
  cases hf : flipF L k1 20 with
  | false =>
    rw [hf] at hfl
    refine ⟨jL ls, k1 + 1, by omega, by omega, by omega, ?_⟩
    refine cth_intro Tryz.func108 rfl Tryz.ntmps108 hB108 (by simp) fun h ρ w hg => goB (N := 19) Tryz.ntmps108 300 ?_
    simp only [go_sem]
    refine mcall (hlx) rfl rfl (id := 0) rfl (N := 19) Tryz.ntmps108 rfl ?_
    rintro _ _ ⟨rfl, rfl⟩
    refine goB (N := 19) Tryz.ntmps108 300 ?_
    simp only [go_sem]
    refine pcallH1 hg (hjo) rfl (N := 19) Tryz.ntmps108 rfl (goB (N := 19) Tryz.ntmps108 300 ?_)
    simp only [go_sem]
    refine mcall (hfl) rfl rfl (id := 0) rfl (N := 19) Tryz.ntmps108 rfl ?_
    rintro _ _ ⟨rfl, rfl⟩
    refine goB (N := 19) Tryz.ntmps108 300 ?_
    simp only [go_sem]
    exact aret [2] rfl ⟨_, _, rfl, rfl, rfl, rfl, rfl⟩
  | true =>
    rw [hf] at hfl
    have ho := oneX_mc L (k1 + 1) [[120], [9, 10], y1 ++ [10], y2 ++ [10]] (by simp) (by simp) (by omega) (by omega)
    have hx := oneF_mem (L := L) (k := k1 + 1) (ls := [[120], [9, 10], y1 ++ [10], y2 ++ [10]]) (by simp)
    generalize oneF L (k1 + 1) [[120], [9, 10], y1 ++ [10], y2 ++ [10]] = x at *
    simp only [List.map_cons, List.map_nil] at ho
    have hxl : x.length ≤ 20001 := by
      simp only [List.mem_cons, List.not_mem_nil, or_false] at hx
      rcases hx with rfl | rfl | rfl | rfl <;> simp <;> omega
    refine ⟨jL ls ++ x, k1 + 1 + 1, by rw [List.length_append]; omega, by omega, by omega, ?_⟩
    refine cth_intro Tryz.func108 rfl Tryz.ntmps108 hB108 (by simp) fun h ρ w hg => goB (N := 19) Tryz.ntmps108 300 ?_
    simp only [go_sem]
    refine mcall (hlx) rfl rfl (id := 0) rfl (N := 19) Tryz.ntmps108 rfl ?_
    rintro _ _ ⟨rfl, rfl⟩
    refine goB (N := 19) Tryz.ntmps108 300 ?_
    simp only [go_sem]
    refine pcallH1 hg (hjo) rfl (N := 19) Tryz.ntmps108 rfl (goB (N := 19) Tryz.ntmps108 300 ?_)
    simp only [go_sem]
    refine mcall (hfl) rfl rfl (id := 0) rfl (N := 19) Tryz.ntmps108 rfl ?_
    rintro _ _ ⟨rfl, rfl⟩
    refine goB (N := 19) Tryz.ntmps108 300 ?_
    simp only [go_sem]
    refine pcall1 (hr1) rfl (N := 19) Tryz.ntmps108 rfl (goB (N := 19) Tryz.ntmps108 300 ?_)
    simp only [go_sem, e1]
    repeat refine And.intro (by first | omega | rfl | (simp; done) | (simp; omega)) ?_
    refine pcall1 (hr2) rfl (N := 19) Tryz.ntmps108 rfl (goB (N := 19) Tryz.ntmps108 300 ?_)
    simp only [go_sem, e2]
    repeat refine And.intro (by first | omega | rfl | (simp; done) | (simp; omega)) ?_
    refine mcall (ho) rfl rfl (id := 0) rfl (N := 19) Tryz.ntmps108 rfl ?_
    rintro _ _ ⟨rfl, rfl⟩
    refine goB (N := 19) Tryz.ntmps108 300 ?_
    simp only [go_sem]
    repeat refine And.intro (by first | omega | rfl | (simp; done) | (simp; omega)) ?_
    exact aret [2] rfl ⟨_, _, rfl, rfl, rfl, rfl, rfl⟩


set_option maxHeartbeats 4000000 in
theorem deedX {S : Std} (L : List Int) (k : Int) (dept : List UInt8) (hdl : dept.length ≤ 10) (h3 : 0 ≤ k) (h4 : k ≤ 800000) :
    ∃ (d : De) (k' : Int), SzD d ∧ d.seen = [] ∧ (d.st.dept = dept ∨ d.st.dept ∈ badD) ∧ k ≤ k' ∧ k' ≤ k + 30 ∧ McH Tryz.prog S 53 2 (str L k) [.str dept] (fun r s => r = deA d ∧ s = str L k') := by
  have hp := pickX_mc L k kindL (by decide) (by decide) h3 (by omega)
  have ho := oneX_mc L (k + 1) papL (by decide) (by decide) (by omega) (by omega)
  have hv := pickF_mem (L := L) (k := k) (ls := kindL) (by decide)
  have hxl := short_mem (l := papL) (by decide) (oneF_mem (L := L) (k := k + 1) (ls := papL) (by decide))
  generalize pickF L k kindL = v at *
  generalize oneF L (k + 1) papL = x at *
  simp only [kindL, papL, List.map_cons, List.map_nil] at ho hp
  have hfk := folk_pc
  simp only [folkL, List.map_cons, List.map_nil] at hfk
  obtain ⟨t, p, k1, ht, hpl, hk1, hk2, hs1⟩ : ∃ (t p : List UInt8) (k1 : Int), t.length < 100000 ∧ p.length ≤ 10 ∧ k + 2 ≤ k1 ∧ k1 ≤ k + 12 ∧
      ((v = 1 ∧ p = [] ∧ McH Tryz.prog S 108 2 (str L (k + 1 + 1)) [] (fun r s => r = .str t ∧ s = str L k1)) ∨
       ((v = 3 ∨ v = 4) ∧ t = [] ∧ Mc Tryz.prog 60 2 (str L (k + 1 + 1)) [.fz 1 [.str [101, 118, 101], .str [98, 111, 98]]] (fun r s => r = .str p ∧ s = str L k1)) ∨
       (v ≠ 1 ∧ v ≠ 3 ∧ v ≠ 4 ∧ t = [] ∧ p = [] ∧ k1 = k + 1 + 1)) := by
    by_cases v1 : v = 1
    · obtain ⟨t, k1, h5, h6, h7, h8⟩ := textX (S := S) L (k + 1 + 1) (by omega) (by omega)
      exact ⟨t, [], k1, h5, by simp, by omega, by omega, .inl ⟨v1, rfl, h8⟩⟩
    by_cases v3 : v = 3 ∨ v = 4
    · have h5 := oneX_mc L (k + 1 + 1) folkL (by decide) (by decide) (by omega) (by omega)
      simp only [folkL, List.map_cons, List.map_nil] at h5
      exact ⟨[], _, k + 1 + 1 + 1, by simp, short_mem (l := folkL) (by decide) (oneF_mem (by decide)), by omega, by omega, .inr (.inl ⟨v3, rfl, h5⟩)⟩
    · exact ⟨[], [], k + 1 + 1, by simp, by simp, by omega, by omega, .inr (.inr ⟨v1, fun h => v3 (.inl h), fun h => v3 (.inr h), rfl, rfl, rfl⟩)⟩
  have hfl := flipX_mc L k1 15 (by decide) (by decide) (by omega) (by omega)
  have hnx := nextX_mc L (k1 + 1) 5 (by decide) (by decide) (by omega) (by omega)
  have hnb := nx_bd L (k1 + 1) 5 (by decide)
  generalize flipF L k1 15 = fb at *
  generalize nx L (k1 + 1) 5 = u at *
  obtain ⟨dp, kd, pp, tx, ps, k2, q1, q2, q3, q4, q5, q6, hs2⟩ : ∃ (dp : List UInt8) (kd : Int) (pp tx ps : List UInt8) (k2 : Int), (dp = dept ∨ dp ∈ badD) ∧ pp.length ≤ 10 ∧ tx.length < 100000 ∧ ps.length ≤ 10 ∧ k + 2 ≤ k2 ∧ k2 ≤ k + 15 ∧
      ((fb = false ∧ dp = dept ∧ kd = v ∧ pp = x ∧ tx = t ∧ ps = p ∧ k2 = k1 + 1) ∨
       (fb = true ∧ u = 0 ∧ dp = dept ∧ pp = x ∧ tx = t ∧ ps = p ∧ Mc Tryz.prog 110 2 (str L (k1 + 1 + 1)) [.int .i64 0, .int .i64 6] (fun r s => r = .int .i64 kd ∧ s = str L k2)) ∨
       (fb = true ∧ u = 1 ∧ dp = dept ∧ kd = v ∧ tx = t ∧ ps = p ∧ Mc Tryz.prog 60 2 (str L (k1 + 1 + 1)) [.fz 1 [.str [], .str [80, 108, 97, 110], .str [122, 122]]] (fun r s => r = .str pp ∧ s = str L k2)) ∨
       (fb = true ∧ u = 2 ∧ dp = dept ∧ kd = v ∧ pp = x ∧ tx = t ∧ Mc Tryz.prog 60 2 (str L (k1 + 1 + 1)) [.fz 1 [.str [], .str [101, 118, 101], .str [69, 118, 101]]] (fun r s => r = .str ps ∧ s = str L k2)) ∨
       (fb = true ∧ u = 3 ∧ dp = dept ∧ kd = v ∧ pp = x ∧ tx = [120, 10] ∧ ps = p ∧ k2 = k1 + 1 + 1) ∨
       (fb = true ∧ u = 4 ∧ kd = v ∧ pp = x ∧ tx = t ∧ ps = p ∧ Mc Tryz.prog 60 2 (str L (k1 + 1 + 1)) [.fz 1 [.str [], .str [65], .str [49, 97]]] (fun r s => r = .str dp ∧ s = str L k2))) := by
    cases fb with
    | false => exact ⟨dept, v, x, t, p, k1 + 1, .inl rfl, hxl, ht, hpl, by omega, by omega, .inl ⟨rfl, rfl, rfl, rfl, rfl, rfl, rfl⟩⟩
    | true =>
      have hu : u = 0 ∨ u = 1 ∨ u = 2 ∨ u = 3 ∨ u = 4 := by omega
      rcases hu with hu | hu | hu | hu | hu
      · exact ⟨dept, _, x, t, p, k1 + 1 + 1 + 1, .inl rfl, hxl, ht, hpl, by omega, by omega, .inr (.inl ⟨rfl, hu, rfl, rfl, rfl, rfl, rangeX_mc L (k1 + 1 + 1) 0 6 (by decide) (by decide) (by decide) (by omega) (by omega)⟩)⟩
      · have h5 := oneX_mc L (k1 + 1 + 1) [[], [80, 108, 97, 110], [122, 122]] (by decide) (by decide) (by omega) (by omega)
        exact ⟨dept, v, _, t, p, k1 + 1 + 1 + 1, .inl rfl, short_mem (l := [[], [80, 108, 97, 110], [122, 122]]) (by decide) (oneF_mem (by decide)), ht, hpl, by omega, by omega, .inr (.inr (.inl ⟨rfl, hu, rfl, rfl, rfl, rfl, h5⟩))⟩
      · have h5 := oneX_mc L (k1 + 1 + 1) [[], [101, 118, 101], [69, 118, 101]] (by decide) (by decide) (by omega) (by omega)
        exact ⟨dept, v, x, t, _, k1 + 1 + 1 + 1, .inl rfl, hxl, ht, short_mem (l := [[], [101, 118, 101], [69, 118, 101]]) (by decide) (oneF_mem (by decide)), by omega, by omega, .inr (.inr (.inr (.inl ⟨rfl, hu, rfl, rfl, rfl, rfl, h5⟩)))⟩
      · exact ⟨dept, v, x, [120, 10], p, k1 + 1 + 1, .inl rfl, hxl, by simp, hpl, by omega, by omega, .inr (.inr (.inr (.inr (.inl ⟨rfl, hu, rfl, rfl, rfl, rfl, rfl, rfl⟩))))⟩
      · have h5 := oneX_mc L (k1 + 1 + 1) [[], [65], [49, 97]] (by decide) (by decide) (by omega) (by omega)
        exact ⟨_, v, x, t, p, k1 + 1 + 1 + 1, .inr (oneF_mem (ls := badD) (by decide)), hxl, ht, hpl, by omega, by omega, .inr (.inr (.inr (.inr (.inr ⟨rfl, hu, rfl, rfl, rfl, rfl, h5⟩))))⟩
  have hdp : dp.length ≤ 10 := by
    rcases q1 with rfl | q1
    · exact hdl
    · exact short_mem (l := badD) (by decide) q1
  refine ⟨⟨⟨dp, 0⟩, [], kd, pp, tx, ps⟩, k2, ⟨by simp, by simp only; omega, by simp only; omega, by simp only; omega, by simp only; omega, by simp⟩, rfl, q1, by omega, by omega, ?_⟩
  refine cth_intro Tryz.func53 rfl Tryz.ntmps53 hB53 (by simp) fun h ρ w hg => goB (N := 59) Tryz.ntmps53 300 ?_
  simp only [go_sem]
  refine mcall (hp) rfl rfl (id := 0) rfl (N := 59) Tryz.ntmps53 rfl ?_
  rintro _ _ ⟨rfl, rfl⟩
  refine goB (N := 59) Tryz.ntmps53 300 ?_
  simp only [go_sem]
  refine mcall (ho) rfl rfl (id := 0) rfl (N := 59) Tryz.ntmps53 rfl ?_
  rintro _ _ ⟨rfl, rfl⟩
  refine goB (N := 59) Tryz.ntmps53 15 ?_
  simp only [go_sem]
  refine acut (ι := Unit) (fun _ => [(5, .ptr 2 1 0 0), (4, .ptr 1 1 0 0), (0, .ptr 0 1 0 0)])
    (fun _ => [.arr 2 [str L k1], .arr 7 [deZ [] 0 [] [] []], .arr 7 [deZ dept v x t p]]) (fun _ => True) ?_ ?_
  · intro J hJ
    have hfin := hJ () trivial
    simp only [deZ] at hfin
    rcases hs1 with ⟨v1, rfl, hm⟩ | ⟨v3, rfl, hm⟩ | ⟨v1, v3, v4, rfl, rfl, rfl⟩
    · have d1 : (v == 1) = true := by simpa using v1
      refine goB (N := 59) Tryz.ntmps53 300 ?_
      simp only [go_sem, d1]
      refine mcallH hg (hm) rfl rfl (id := 0) rfl (N := 59) Tryz.ntmps53 rfl ?_
      rintro _ _ ⟨rfl, rfl⟩
      refine goB (N := 59) Tryz.ntmps53 300 ?_
      simp only [go_sem]
      repeat refine And.intro (by first | omega | rfl | exact .inl rfl | (simp; done) | (simp; omega)) ?_
      refine ainv hfin (Shift.weakS ?_ rfl)
      simp only [wk, go_sem]
    · have d1 : (v == 1) = false := by simp; omega
      cases d3 : v == 3 with
      | true =>
        refine goB (N := 59) Tryz.ntmps53 300 ?_
        simp only [go_sem, d1, d3]
        refine pcall1 (hfk) rfl (N := 59) Tryz.ntmps53 rfl (goB (N := 59) Tryz.ntmps53 300 ?_)
        simp only [go_sem]
        refine mcall (hm) rfl rfl (id := 0) rfl (N := 59) Tryz.ntmps53 rfl ?_
        rintro _ _ ⟨rfl, rfl⟩
        refine goB (N := 59) Tryz.ntmps53 300 ?_
        simp only [go_sem]
        repeat refine And.intro (by first | omega | rfl | exact .inl rfl | (simp; done) | (simp; omega)) ?_
        refine ainv hfin (Shift.weakS ?_ rfl)
        simp only [wk, go_sem]
      | false =>
        have d4 : (v == 4) = true := by simp at d3 ⊢; omega
        refine goB (N := 59) Tryz.ntmps53 300 ?_
        simp only [go_sem, d1, d3, d4]
        refine pcall1 (hfk) rfl (N := 59) Tryz.ntmps53 rfl (goB (N := 59) Tryz.ntmps53 300 ?_)
        simp only [go_sem]
        refine mcall (hm) rfl rfl (id := 0) rfl (N := 59) Tryz.ntmps53 rfl ?_
        rintro _ _ ⟨rfl, rfl⟩
        refine goB (N := 59) Tryz.ntmps53 300 ?_
        simp only [go_sem]
        repeat refine And.intro (by first | omega | rfl | exact .inl rfl | (simp; done) | (simp; omega)) ?_
        refine ainv hfin (Shift.weakS ?_ rfl)
        simp only [wk, go_sem]
    · have d1 : (v == 1) = false := by simpa using v1
      have d3 : (v == 3) = false := by simpa using v3
      have d4 : (v == 4) = false := by simpa using v4
      refine goB (N := 59) Tryz.ntmps53 300 ?_
      simp only [go_sem, d1, d3, d4]
      refine ainv hfin (Shift.weakS ?_ rfl)
      simp only [wk, go_sem]
  rintro ⟨⟩ _
  simp only [deZ]
  refine goB (N := 59) Tryz.ntmps53 1 ?_
  simp only [go_sem]
  refine acut (ι := Unit) (fun _ => [(5, .ptr 2 1 0 0), (4, .ptr 1 1 0 0), (0, .ptr 0 1 0 0)])
    (fun _ => [.arr 2 [str L k2], .arr 7 [deZ [] 0 [] [] []], .arr 7 [deZ dp kd pp tx ps]]) (fun _ => True) ?_ ?_
  · intro J hJ
    have hfin := hJ () trivial
    simp only [deZ] at hfin
    refine goB (N := 59) Tryz.ntmps53 300 ?_
    simp only [go_sem]
    refine mcall (hfl) rfl rfl (id := 0) rfl (N := 59) Tryz.ntmps53 rfl ?_
    rintro _ _ ⟨rfl, rfl⟩
    rcases hs2 with ⟨rfl, rfl, rfl, rfl, rfl, rfl, rfl⟩ | ⟨rfl, rfl, rfl, rfl, rfl, rfl, hm⟩ | ⟨rfl, rfl, rfl, rfl, rfl, rfl, hm⟩ | ⟨rfl, rfl, rfl, rfl, rfl, rfl, hm⟩ | ⟨rfl, rfl, rfl, rfl, rfl, rfl, rfl, rfl⟩ | ⟨rfl, rfl, rfl, rfl, rfl, rfl, hm⟩
    · refine goB (N := 59) Tryz.ntmps53 300 ?_
      simp only [go_sem]
      refine ainv hfin (Shift.weakS ?_ rfl)
      simp only [wk, go_sem]

    · refine goB (N := 59) Tryz.ntmps53 300 ?_
      simp only [go_sem]
      refine mcall (hnx) rfl rfl (id := 0) rfl (N := 59) Tryz.ntmps53 rfl ?_
      rintro _ _ ⟨rfl, rfl⟩
      refine goB (N := 59) Tryz.ntmps53 300 ?_
      simp only [go_sem]
      refine mcall (hm) rfl rfl (id := 0) rfl (N := 59) Tryz.ntmps53 rfl ?_
      rintro _ _ ⟨rfl, rfl⟩
      refine goB (N := 59) Tryz.ntmps53 300 ?_
      simp only [go_sem]
      repeat refine And.intro (by first | omega | rfl | exact .inl rfl | (simp; done) | (simp; omega)) ?_
      refine ainv hfin (Shift.weakS ?_ rfl)
      simp only [wk, go_sem]
    · refine goB (N := 59) Tryz.ntmps53 300 ?_
      simp only [go_sem]
      refine mcall (hnx) rfl rfl (id := 0) rfl (N := 59) Tryz.ntmps53 rfl ?_
      rintro _ _ ⟨rfl, rfl⟩
      refine goB (N := 59) Tryz.ntmps53 300 ?_
      simp only [go_sem]
      refine mcall (hm) rfl rfl (id := 0) rfl (N := 59) Tryz.ntmps53 rfl ?_
      rintro _ _ ⟨rfl, rfl⟩
      refine goB (N := 59) Tryz.ntmps53 300 ?_
      simp only [go_sem]
      repeat refine And.intro (by first | omega | rfl | exact .inl rfl | (simp; done) | (simp; omega)) ?_
      refine ainv hfin (Shift.weakS ?_ rfl)
      simp only [wk, go_sem]
    · refine goB (N := 59) Tryz.ntmps53 300 ?_
      simp only [go_sem]
      refine mcall (hnx) rfl rfl (id := 0) rfl (N := 59) Tryz.ntmps53 rfl ?_
      rintro _ _ ⟨rfl, rfl⟩
      refine goB (N := 59) Tryz.ntmps53 300 ?_
      simp only [go_sem]
      refine mcall (hm) rfl rfl (id := 0) rfl (N := 59) Tryz.ntmps53 rfl ?_
      rintro _ _ ⟨rfl, rfl⟩
      refine goB (N := 59) Tryz.ntmps53 300 ?_
      simp only [go_sem]
      repeat refine And.intro (by first | omega | rfl | exact .inl rfl | (simp; done) | (simp; omega)) ?_
      refine ainv hfin (Shift.weakS ?_ rfl)
      simp only [wk, go_sem]
    · refine goB (N := 59) Tryz.ntmps53 300 ?_
      simp only [go_sem]
      refine mcall (hnx) rfl rfl (id := 0) rfl (N := 59) Tryz.ntmps53 rfl ?_
      rintro _ _ ⟨rfl, rfl⟩
      refine goB (N := 59) Tryz.ntmps53 300 ?_
      simp only [go_sem]
      repeat refine And.intro (by first | omega | rfl | exact .inl rfl | (simp; done) | (simp; omega)) ?_
      refine ainv hfin (Shift.weakS ?_ rfl)
      simp only [wk, go_sem]
    · refine goB (N := 59) Tryz.ntmps53 300 ?_
      simp only [go_sem]
      refine mcall (hnx) rfl rfl (id := 0) rfl (N := 59) Tryz.ntmps53 rfl ?_
      rintro _ _ ⟨rfl, rfl⟩
      refine goB (N := 59) Tryz.ntmps53 300 ?_
      simp only [go_sem]
      refine mcall (hm) rfl rfl (id := 0) rfl (N := 59) Tryz.ntmps53 rfl ?_
      rintro _ _ ⟨rfl, rfl⟩
      refine goB (N := 59) Tryz.ntmps53 300 ?_
      simp only [go_sem]
      repeat refine And.intro (by first | omega | rfl | exact .inl rfl | (simp; done) | (simp; omega)) ?_
      refine ainv hfin (Shift.weakS ?_ rfl)
      simp only [wk, go_sem]
  rintro ⟨⟩ _
  simp only [deZ]
  refine goB (N := 59) Tryz.ntmps53 300 ?_
  simp only [go_sem]
  repeat refine And.intro (by first | omega | rfl | exact .inl rfl | (simp; done) | (simp; omega)) ?_
  exact ARet.shift (Shift.cells 1 7 [.agg [.str dp, .int .i64 0, .fz 2 [], .int .i64 kd, .str pp, .str tx, .str ps]] rfl rfl (by simp [cellsOf]) ⟨.refl, .refl, .fz, .refl, .refl, .refl, .refl, trivial⟩)
    (aretc [.cell 4 41] rfl [_] ⟨by simp only [go_sem, sideIs], trivial⟩ ⟨str L k2, _, rfl, rfl, rfl, rfl, rfl⟩)
end Go.Proofs.YtkomcdohejibmaaGreatDoor
