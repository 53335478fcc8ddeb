/- The law AssembliesAreBest, walked. Own work of this seat. -/
import Derived.Test.YtkfpiadgjbhcpaaGreatDoorA49
import Derived.Test.YtkfpiadgjbhcpaaGreatDoorA51
import Derived.Test.YtkfpiadgjbhcpaaGreatDoorA22
set_option maxRecDepth 100000
set_option linter.unusedSimpArgs false
set_option linter.unusedVariables false
namespace Go.Proofs.YtkfpiadgjbhcpaaGreatDoor
open Go Go.Av Go.RowKit

theorem chosen_at : ∀ (ss : List Stp) (last : Option Pp') (ps : List Pp'), ChosenN last ss ps → ∀ (m : Nat) (q : Pp'), ps[m]? = some q → ∃ s : Stp, ss[m]? = some s ∧ q ∈ s.parts
  | [], _, [], _, m, q, h => by simp at h
  | [], none, _ :: _, hc, _, _, _ => by simp [ChosenN] at hc
  | [], some _, _ :: _, hc, _, _, _ => by simp [ChosenN] at hc
  | _ :: _, _, [], _, m, q, h => by simp at h
  | s :: ss, none, p :: ps, hc, 0, q, h => by
    simp only [ChosenN] at hc
    simp at h
    subst h
    exact ⟨s, rfl, hc.1⟩
  | s :: ss, some _, p :: ps, hc, 0, q, h => by
    simp only [ChosenN] at hc
    simp at h
    subst h
    exact ⟨s, rfl, hc.1⟩
  | s :: ss, none, p :: ps, hc, m + 1, q, h => by
    simp only [ChosenN] at hc
    exact chosen_at ss _ ps hc.2.2 m q (by simpa using h)
  | s :: ss, some _, p :: ps, hc, m + 1, q, h => by
    simp only [ChosenN] at hc
    exact chosen_at ss _ ps hc.2.2 m q (by simpa using h)
section
variable {y : Sc} {l : List Tk}
theorem best_chosen (h : ∀ z ∈ rowsU y l, z.2 ≠ []) : ChosenN none (stepsN (rowsU y l)) (bestC y l) := chosenF_ok _ _ (stepsN_ok _ h)
theorem best_len (h : ∀ z ∈ rowsU y l, z.2 ≠ []) : (bestC y l).length = (needF 0 y.paras).length := by
  rw [chosen_len _ _ _ (best_chosen h), stepsN_len]
  simp [rowsU]
theorem best_in (h : ∀ z ∈ rowsU y l, z.2 ≠ []) : ∀ m q, (hm : m < (needF 0 y.paras).length) → (bestC y l)[m]? = some q → q ∈ partsU l y.no ((needF 0 y.paras)[m] : Nat) l.length := fun m q hm hq => by
  obtain ⟨s, hs, hqs⟩ := chosen_at _ _ _ (best_chosen h) m q hq
  have hr : (rowsU y l)[m]? = some (isSp y (needF 0 y.paras)[m], partsU l y.no ((needF 0 y.paras)[m] : Nat) l.length) := by
    rw [rowsU, List.getElem?_map, List.getElem?_eq_getElem hm]; rfl
  obtain ⟨s', e1, _, e3⟩ := stepsN_at hr
  rw [hs] at e1
  rw [Option.some.inj e1, e3] at hqs
  exact hqs
theorem best_few (h : ∀ z ∈ rowsU y l, z.2 ≠ []) (hl : y.paras.length ≤ 60) : joinsN none (bestC y l) = fewU l y.no (needF 0 y.paras) none 0 := by
  have hc := best_chosen h
  have hrl : (rowsU y l).length ≤ 1000000 := by
    have := needF_len y.paras 0
    simp [rowsU]; omega
  have e : fewU l y.no (needF 0 y.paras) none 0 = fewN none ((rowsU y l).map (·.2)) := by
    unfold fewU rowsU
    rw [List.drop_zero, List.map_map]
    rfl
  rw [e]
  cases hs : stepsN (rowsU y l) with
  | nil =>
    have h0 : (rowsU y l).length = 0 := by rw [← stepsN_len, hs]; rfl
    have h1 : rowsU y l = [] := List.eq_nil_of_length_eq_zero h0
    have h2 : bestC y l = [] := List.eq_nil_of_length_eq_zero (by rw [chosen_len _ _ _ hc, hs]; rfl)
    rw [h1, h2]; rfl
  | cons s r =>
    have h1 := chosen_joins _ _ _ _ _ hs hc
    have h2 := (scr_few _ h hrl _ _ hs).2.1
    simp only at h1
    rw [h1, h2]
theorem best_joins (h : ∀ z ∈ rowsU y l, z.2 ≠ []) : decide (joinsN none (bestC y l) < ((runsF (bestC y l)).length : Int) - 1) = false := by
  have := (runs_ok (bestC y l)).joins
  simp only [decide_eq_false_iff_not]
  split at this <;> omega
theorem few_bd (hl : (needF 0 y.paras).length ≤ 60) : 0 ≤ fewU l y.no (needF 0 y.paras) none 0 ∧ fewU l y.no (needF 0 y.paras) none 0 ≤ 1073741824 := by
  unfold fewU
  exact fewN_low _ _ (by simp; omega)
end
set_option maxHeartbeats 8000000 in
theorem assemblies_pch {S : Std} (hS : LibR S) (L : List Int) : PcH Tryz.prog S 3 [.fz 1 (L.map (.int .i64))] (· = .bool true) := by
  obtain ⟨x, r, rs, l, k', hf, hk1, hk2, hfilm⟩ := filmX hS L 0 (by omega) (by omega)
  have htk := takes_pc
  have hx := hf.story
  have hxl := hx.len
  have hll := hf.len
  have hgd : ∀ t ∈ l, t.good = true := fun t ht => (hf.takes t ht).good
  have hcl : ∀ t ∈ l, t.covers.length ≤ 60 := fun t ht => (hf.takes t ht).len
  have hpl : ∀ i (h : i < x.scenes.length), x.scenes[i].paras.length ≤ 60 := fun i h => paras_le hx h
  have hmi := missingOf_pc x l hpl hxl hll hcl hgd
  have hml := missX_len x l hpl x.scenes.length (Nat.le_refl _)
  have hasm := fun i hi => assemble_pch hS x r rs l hf i hi
  obtain ⟨RS, hRS⟩ : ∃ z, z = (r :: rs).map rlA := ⟨_, rfl⟩
  rw [← hRS] at hfilm
  simp only [← hRS] at hasm
  simp only [srA] at hfilm hasm hmi
  refine pch_intro (cth_intro Tryz.func3 rfl Tryz.ntmps3 hB3 (by simp) fun h ρ w hg => goF (N := 101) Tryz.ntmps3 300 ?_)
  simp only [go_sem]
  refine mcallH hg (agg := str L 0) hfilm rfl rfl (id := 0) rfl (N := 101) Tryz.ntmps3 rfl ?_
  rintro _ _ ⟨rfl, rfl⟩
  refine goB (N := 101) Tryz.ntmps3 300 ?_
  simp only [go_sem, List.length_map]
  refine aloop (ι := Nat) (fun i => x.scenes.length - i)
    (fun i => [(27, .int .i64 i), (26, .int .i64 x.scenes.length), (25, .fz 5 (x.scenes.map scA)), (4, .ptr 1 1 0 0), (5, .fz 5 RS), (6, .fz 9 (l.map tkA))])
    (fun i => [.arr 2 [str L k'], .arr 2 [.agg [.str x.title, .fz 5 (x.scenes.map scA)]]]) (fun i => i ≤ x.scenes.length) 0 (by simp) ?_ ?_
  · refine Shift.weakS ?_ ?_
    · simp only [wk, go_sem, List.length_map]
    · rfl
  intro i g1 J hJ
  by_cases gi : i < x.scenes.length
  · have di : decide ((i : Int) < (x.scenes.length : Int)) = true := by simp; omega
    have hget := scA_get x.scenes i gi
    have hfin := hJ (i + 1) (by omega) (by omega)
    have has := hasm i gi
    have hpi := hpl i gi
    have hmiss := miss_any (l := l) gi
    obtain ⟨y, hy⟩ : ∃ y, y = x.scenes[i] := ⟨_, rfl⟩
    rw [← hy] at hget has hpi hmiss
    have hnl := needF_len y.paras 0
    clear hJ
    refine goB (N := 101) Tryz.ntmps3 300 ?_
    simp only [go_sem, di, hget, List.length_map]
    repeat refine And.intro (by first | omega | rfl | (simp; done) | (simp; omega)) ?_
    refine pcallH hg (has) rfl (N := 101) Tryz.ntmps3 rfl ?_
    rintro v ⟨hv1, hv2⟩
    obtain ⟨CL, JN, EN, rfl, hok, hno⟩ : ∃ CL JN EN, v = .tup [.fz 3 CL, .int .i64 JN, .int .i64 EN] ∧ ((∀ z ∈ rowsU y l, z.2 ≠ []) → CL = clipsA (runsF (bestC y l)) ∧ JN = joinsN none (bestC y l) ∧ EN = 0) ∧ ((¬ ∀ z ∈ rowsU y l, z.2 ≠ []) → EN = 8) := by
      by_cases hne : ∀ z ∈ rowsU y l, z.2 ≠ []
      · exact ⟨_, _, _, hv1 hne, fun _ => ⟨rfl, rfl, rfl⟩, fun h => absurd hne h⟩
      · exact ⟨_, _, _, hv2 hne, fun h => absurd h hne, fun _ => rfl⟩
    clear hv1 hv2
    refine goB (N := 101) Tryz.ntmps3 300 ?_
    simp only [go_sem, List.length_map]
    repeat refine And.intro (by first | omega | rfl | (simp; done) | (simp; omega)) ?_
    refine aloop (ι := Nat) (fun k => y.paras.length - k)
      (fun k => [(45, .int .i64 k), (44, .int .i64 y.paras.length), (43, .fz 2 (y.paras.map paA)), (12, .sl 4 0 (needF 0 (y.paras.take k)).length (needF 0 (y.paras.take k)).length), (9, .fz 3 CL), (10, .int .i64 JN), (11, .int .i64 EN), (7, .ptr 2 1 0 0), (8, .ptr 3 1 0 0), (27, .int .i64 i), (26, .int .i64 x.scenes.length), (25, .fz 5 (x.scenes.map scA)), (4, .ptr 1 1 0 0), (5, .fz 5 RS), (6, .fz 9 (l.map tkA))])
      (fun k => [.arr 2 [str L k'], .arr 2 [.agg [.str x.title, .fz 5 (x.scenes.map scA)]], .arr 1 [.int .i64 i], .arr 5 [.agg [.str y.no, .int .i64 y.place, .str y.set, .int .i64 y.time, .fz 2 (y.paras.map paA)]], .arr 1 (natA (needF 0 (y.paras.take k)))]) (fun k => k ≤ y.paras.length) 0 (by simp) ?_ ?_
    · refine Shift.trans (Shift.nilsl 12 1 rfl) (Shift.weakS ?_ ?_)
      · simp only [wk, go_sem, List.length_map, List.take_zero, needF]
      · simp [natA, needF]
    intro k f1 J2 hJ2
    have hnk := needF_len (y.paras.take k) 0
    rw [List.length_take] at hnk
    by_cases gk : k < y.paras.length
    · have dk : decide ((k : Int) < (y.paras.length : Int)) = true := by simp; omega
      have hgk := paA_get y.paras k gk
      have hstep := needF_step y.paras k gk
      have hfin2 := hJ2 (k + 1) (by omega) (by omega)
      rw [hstep] at hfin2
      unfold isNeed at hfin2
      generalize y.paras[k] = p at *
      generalize needF 0 (y.paras.take k) = u at *
      have hul : (natA u).length = u.length := by simp [natA]
      clear hJ2 hfin
      cases h1 : p.kind == 1 with
      | true =>
        simp only [h1, Bool.true_or, Bool.or_true, if_true, natA, List.map_append, List.length_append, List.map_cons, List.map_nil, List.length_cons, List.length_nil, Nat.zero_add] at hfin2
        refine goB (N := 101) Tryz.ntmps3 300 ?_
        simp only [go_sem, dk, hgk, h1, List.length_map]
        repeat refine And.intro (by first | omega | rfl | exact .inl rfl | exact .inl trivial | (simp; done) | (simp; omega)) ?_
        simp only [natA]
        refine goB (N := 101) Tryz.ntmps3 300 ?_
        simp only [go_sem, List.length_map]
        repeat refine And.intro (by first | omega | rfl | exact .inl trivial | (simp; done) | (simp; omega)) ?_
        rw [show (k : Int) + 1 = ((k + 1 : Nat) : Int) by omega]
        refine ainv hfin2 ?_
        refine Shift.low 5 (by simp) (by simp) ?_ ?_
        · simp only [List.take_succ_cons, List.take_zero, List.all_cons, List.all_nil, lowB, natA, str, flat, cellsOf, lowC, Av.frozen, List.append_nil, List.cons_append, List.nil_append, flat_append, List.all_append, low_all (ints_frz _), Bool.and_self]
        · simp only [wkl, lowV, lowC, Av.get, go_sem]
      | false =>
        cases h4 : p.kind == 4 with
        | true =>
          simp only [h1, h4, Bool.true_or, Bool.or_true, if_true, natA, List.map_append, List.length_append, List.map_cons, List.map_nil, List.length_cons, List.length_nil, Nat.zero_add] at hfin2
          refine goB (N := 101) Tryz.ntmps3 300 ?_
          simp only [go_sem, dk, hgk, h1, h4, List.length_map]
          repeat refine And.intro (by first | omega | rfl | exact .inl rfl | exact .inl trivial | (simp; done) | (simp; omega)) ?_
          simp only [natA]
          refine goB (N := 101) Tryz.ntmps3 300 ?_
          simp only [go_sem, List.length_map]
          repeat refine And.intro (by first | omega | rfl | exact .inl trivial | (simp; done) | (simp; omega)) ?_
          rw [show (k : Int) + 1 = ((k + 1 : Nat) : Int) by omega]
          refine ainv hfin2 ?_
          refine Shift.low 5 (by simp) (by simp) ?_ ?_
          · simp only [List.take_succ_cons, List.take_zero, List.all_cons, List.all_nil, lowB, natA, str, flat, cellsOf, lowC, Av.frozen, List.append_nil, List.cons_append, List.nil_append, flat_append, List.all_append, low_all (ints_frz _), Bool.and_self]
          · simp only [wkl, lowV, lowC, Av.get, go_sem]
        | false =>
          simp only [h1, h4, Bool.or_self, Bool.false_eq_true, if_false, List.append_nil] at hfin2
          refine goB (N := 101) Tryz.ntmps3 300 ?_
          simp only [go_sem, dk, hgk, h1, h4, List.length_map]
          repeat refine And.intro (by first | omega | rfl | exact .inl rfl | exact .inl trivial | (simp; done) | (simp; omega)) ?_
          rw [show (k : Int) + 1 = ((k + 1 : Nat) : Int) by omega]
          refine ainv hfin2 ?_
          refine Shift.low 5 (by simp) (by simp) ?_ ?_
          · simp only [List.take_succ_cons, List.take_zero, List.all_cons, List.all_nil, lowB, natA, str, flat, cellsOf, lowC, Av.frozen, List.append_nil, List.cons_append, List.nil_append, flat_append, List.all_append, low_all (ints_frz _), Bool.and_self]
          · simp only [wkl, lowV, lowC, Av.get, go_sem]
    · have dk : decide ((k : Int) < (y.paras.length : Int)) = false := by simp; omega
      rw [show y.paras.take k = y.paras from List.take_of_length_le (by omega)]
      clear hJ2 hnk
      obtain ⟨ks, hks⟩ : ∃ ks, ks = needF 0 y.paras := ⟨_, rfl⟩
      have hkl : ks.length ≤ 60 := by rw [hks]; omega
      rw [← hks]
      refine AWp.shift (Shift.freeze 12 (id := 4) (l := natA ks) rfl rfl (by simp [natA]) (Nat.le_refl _) (ints_frz _)) ?_
      have htk2 : List.take ks.length (List.drop 0 (natA ks)) = natA ks := by rw [List.drop_zero, natA, List.take_of_length_le (by simp)]
      rw [htk2]
      by_cases hne : ∀ z ∈ rowsU y l, z.2 ≠ []
      · obtain ⟨rfl, rfl, rfl⟩ := hok hne
        have hsh := shows_pc x r l hf.ok hgd hcl hll y.no ks hkl (bestC y l) (by rw [best_len hne, hks]) (fun m q hm hq => by subst hks; exact best_in hne m q hm hq) (runsF (bestC y l)) (runs_ok _)
        have hbj := best_joins hne
        have hfe := fewest_pc l hgd hcl hll y.no ks hkl ks.length 0 (-1) none (by omega) ⟨rfl, rfl⟩
        rw [hks, ← best_few hne hpi, ← hks] at hfe
        rw [show ((0 : Nat) : Int) = 0 from rfl] at hfe
        obtain ⟨JN, hJN⟩ : ∃ z, z = joinsN none (bestC y l) := ⟨_, rfl⟩
        have hjb := few_bd (y := y) (l := l) (by rw [← hks]; exact hkl)
        rw [← best_few hne hpi, ← hJN] at hjb
        rw [← hJN] at hbj hfe ⊢
        have hrl := runs_len (runs_ok (bestC y l))
        rw [best_len hne, ← hks] at hrl
        have hjj : (JN != JN) = false := by simp
        refine goB (N := 101) Tryz.ntmps3 300 ?_
        simp only [go_sem, dk]
        refine pcall1 (hsh) rfl (N := 101) Tryz.ntmps3 rfl (goB (N := 101) Tryz.ntmps3 300 ?_)
        cases d7 : decide ((ks.length : Int) ≤ 7) with
        | false =>
          simp only [go_sem, hbj, d7, clips_len, natA_len]
          repeat refine And.intro (by first | omega | rfl | (simp; done) | (simp; omega)) ?_
          rw [show (i : Int) + 1 = ((i + 1 : Nat) : Int) by omega]
          refine ainv hfin ?_
          refine Shift.low 2 (by simp) (by simp) ?_ ?_
          · simp only [List.take_succ_cons, List.take_zero, List.all_cons, List.all_nil, lowB, str, flat, cellsOf, lowC, Av.frozen, List.append_nil, List.cons_append, List.nil_append, Bool.and_self]
          · simp only [wkl, lowV, lowC, Av.get, go_sem]
        | true =>
          simp only [go_sem, hbj, d7, clips_len, natA_len]
          repeat refine And.intro (by first | omega | rfl | (simp; done) | (simp; omega)) ?_
          refine pcall1 (hfe) rfl (N := 101) Tryz.ntmps3 rfl (goB (N := 101) Tryz.ntmps3 300 ?_)
          simp only [go_sem, hjj]
          repeat refine And.intro (by first | omega | rfl | (simp; done) | (simp; omega)) ?_
          rw [show (i : Int) + 1 = ((i + 1 : Nat) : Int) by omega]
          refine ainv hfin ?_
          refine Shift.low 2 (by simp) (by simp) ?_ ?_
          · simp only [List.take_succ_cons, List.take_zero, List.all_cons, List.all_nil, lowB, str, flat, cellsOf, lowC, Av.frozen, List.append_nil, List.cons_append, List.nil_append, Bool.and_self]
          · simp only [wkl, lowV, lowC, Av.get, go_sem]
      · have hEN := hno hne
        subst hEN
        have hany := anySpt_pc 11 [.pin 1 [.int .i64 i] 0 0] rfl (fun s => s.scene == (i : Int)) (missX x l x.scenes.length) (by omega) (fun s _ => bestFn_pc s i)
        rw [hmiss hne] at hany
        have hbor := Ct.borrowF (P := Tryz.prog) (f := 9) (args := [.fz 3 ((missX x l x.scenes.length).map sptA), .fn (.func 11) [.ptr 2 1 0 0]]) 1
          [.arr 2 [str L k'], .arr 2 [.agg [.str x.title, .fz 5 (x.scenes.map scA)]], .arr 1 [.int .i64 i], .arr 5 [.agg [.str y.no, .int .i64 y.place, .str y.set, .int .i64 y.time, .fz 2 (y.paras.map paA)]], .dead] hany (by rintro r rfl; rfl)
        refine goB (N := 101) Tryz.ntmps3 300 ?_
        simp only [go_sem, dk]
        refine pcall1 (hmi) rfl (N := 101) Tryz.ntmps3 rfl (goB (N := 101) Tryz.ntmps3 300 ?_)
        simp only [go_sem]
        refine acall (hbor) (N := 101) Tryz.ntmps3 rfl ?_
        rintro _ _ ⟨rfl, rfl⟩
        refine goB (N := 101) Tryz.ntmps3 300 ?_
        simp only [go_sem]
        repeat refine And.intro (by first | omega | rfl | (simp; done) | (simp; omega)) ?_
        rw [show (i : Int) + 1 = ((i + 1 : Nat) : Int) by omega]
        refine ainv hfin ?_
        refine Shift.low 2 (by simp) (by simp) ?_ ?_
        · simp only [List.take_succ_cons, List.take_zero, List.all_cons, List.all_nil, lowB, str, flat, cellsOf, lowC, Av.frozen, List.append_nil, List.cons_append, List.nil_append, Bool.and_self]
        · simp only [wkl, lowV, lowC, Av.get, go_sem]
  · have di : decide ((i : Int) < (x.scenes.length : Int)) = false := by simp; omega
    refine goB (N := 101) Tryz.ntmps3 300 ?_
    simp only [go_sem, di]
    refine pcall1 (htk) rfl (N := 101) Tryz.ntmps3 rfl (goB (N := 101) Tryz.ntmps3 300 ?_)
    simp only [go_sem]
    exact aret [2] rfl ⟨rfl, rfl⟩
end Go.Proofs.YtkfpiadgjbhcpaaGreatDoor
