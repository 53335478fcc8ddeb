/- The law EventsPlayTheSame, walked. Own work of this seat. -/
import Derived.Test.YtkfpiadgjbhcpaaGreatDoorE52
import Derived.Test.YtkfpiadgjbhcpaaGreatDoorE22
set_option maxRecDepth 100000
set_option linter.unusedSimpArgs false
set_option linter.unusedVariables false
namespace Go.Proofs.YtkfpiadgjbhcpaaGreatDoor
open Go Go.Av Go.RowKit

theorem clipsA_eq (y : Sc) (l : List Tk) : clipsA (runsF (bestC y l)) = (clipsC y l).map clpA := by simp [clipsA, clipsC]
theorem sumC_bd {cs : List Clp} (h : ∀ c ∈ cs, c.inn < c.out ∧ c.out - c.inn ≤ 10000) (h60 : cs.length ≤ 60) (i : Nat) : 0 ≤ sumC (cs.take i) ∧ sumC (cs.take i) ≤ 600000 := by
  have := sumC_le (B := 10000) (by decide) (cs := cs.take i) fun c hc => h c (List.mem_of_mem_take hc)
  have h2 : (cs.take i).length ≤ 60 := by rw [List.length_take]; omega
  omega
set_option maxHeartbeats 8000000 in
theorem eventsLaw_pch {S : Std} (hS : LibR S) (L : List Int) : PcH Tryz.prog S 5 [.fz 1 (L.map (.int .i64))] (· = .bool true) := by
  obtain ⟨x, r, rs, l, k', hf, hk1, hk2, hfilm⟩ := filmX hS L 0 (by omega) (by omega)
  have htk := takes_pc
  have hx := hf.story
  have hxl := hx.len
  have hll := hf.len
  have hpl : ∀ i (h : i < x.scenes.length), x.scenes[i].paras.length ≤ 60 := fun i h => paras_le hx h
  have hasm := fun i hi => assemble_pch hS x r rs l hf i hi
  have hmany : rs.length ≤ 200 := by have := hf.many; omega
  have hev := fun cs hc1 hc2 => events_pc r rs hf.rolls hf.names hmany l hll cs hc1 hc2
  have hpr := fun es hv => printEvents_pch hS.ok r rs hf.rolls hf.names hmany es hv
  have hpa := fun es hv h60 => parseEvents_pch hS.ok r rs hf.rolls hf.names hmany es hv h60
  obtain ⟨RS, hRS⟩ : ∃ z, z = (r :: rs).map rlA := ⟨_, rfl⟩
  rw [← hRS] at hfilm
  simp only [← hRS] at hasm hev hpr hpa
  simp only [srA] at hfilm hasm
  refine pch_intro (cth_intro Tryz.func5 rfl Tryz.ntmps5 hB5 (by simp) fun h ρ w hg => goF (N := 130) Tryz.ntmps5 300 ?_)
  simp only [go_sem]
  refine mcallH hg (agg := str L 0) hfilm rfl rfl (id := 0) rfl (N := 130) Tryz.ntmps5 rfl ?_
  rintro _ _ ⟨rfl, rfl⟩
  refine goB (N := 130) Tryz.ntmps5 300 ?_
  simp only [go_sem, List.length_map]
  refine aloop (ι := Nat) (fun i => x.scenes.length - i)
    (fun i => [(36, .int .i64 i), (35, .int .i64 x.scenes.length), (34, .fz 5 (x.scenes.map scA)), (4, .ptr 1 1 0 0), (5, .fz 5 RS), (6, .fz 9 (l.map tkA))])
    (fun i => [.arr 2 [str L k'], .arr 2 [.agg [.str x.title, .fz 5 (x.scenes.map scA)]]]) (fun i => i ≤ x.scenes.length) 0 (by simp) ?_ ?_
  · refine Shift.weakS ?_ ?_
    · simp only [wk, go_sem, List.length_map]
    · rfl
  intro i g1 J hJ
  by_cases gi : i < x.scenes.length
  · have di : decide ((i : Int) < (x.scenes.length : Int)) = true := by simp; omega
    have hget := scA_get x.scenes i gi
    have hfin := hJ (i + 1) (by omega) (by omega)
    have has := hasm i gi
    have hpi := hpl i gi
    obtain ⟨y, hy⟩ : ∃ y, y = x.scenes[i] := ⟨_, rfl⟩
    rw [← hy] at hget has hpi
    have hnl := needF_len y.paras 0
    clear hJ
    refine goB (N := 130) Tryz.ntmps5 300 ?_
    simp only [go_sem, di, hget, List.length_map]
    repeat refine And.intro (by first | omega | rfl | (simp; done) | (simp; omega)) ?_
    refine pcallH hg (has) rfl (N := 130) Tryz.ntmps5 rfl ?_
    rintro v ⟨hv1, hv2⟩
    by_cases hne : ∀ z ∈ rowsU y l, z.2 ≠ []
    · rw [hv1 hne, clipsA_eq]
      have hcok := clips_ok hf hne
      have h60 := clips_few hne hpi
      have heo := evs_ok hf hne hpi
      have hbj := best_joins hne
      have hfb := few_bd (y := y) (l := l) (by omega)
      rw [← best_few hne hpi] at hfb
      have hrl : (clipsC y l).length = (runsF (bestC y l)).length := by simp [clipsC]
      rw [← hrl] at hbj
      have hsz : ∀ c ∈ clipsC y l, c.inn < c.out ∧ c.out - c.inn ≤ 10000 := fun c hc => by
        obtain ⟨t, ht, h1, h2, h3, h4⟩ := hcok c hc
        have hb := hf.takes t (List.mem_of_getElem? ht)
        have := hb.inn
        have := hb.out
        exact ⟨h3, by omega⟩
      have hsm := evF_sum r.name (clipsC y l) _ (Nat.le_refl _)
      have hln := evF_len r.name (clipsC y l) _ (Nat.le_refl _)
      rw [List.take_length] at hsm hln
      have hev1 := hev (clipsC y l) h60 hcok
      have hpr1 := hpr _ heo
      have hpa1 := hpa _ heo (by omega)
      have heq1 := eqEv_pc (evF r.name (clipsC y l)) (by omega)
      have hjo1 := joins_pc (evF r.name (clipsC y l)) (by omega)
      have hcb := sumC_bd hsz h60
      have heb := fun i => sumE_le heo.lt i
      generalize joinsN none (bestC y l) = JN at *
      generalize hcs : clipsC y l = cs at *
      generalize hes : evF r.name cs = es at *
      generalize printE r 0 0 es = TX at *
      clear hv1 hv2 hev hpr hpa hasm hcok
      refine goB (N := 130) Tryz.ntmps5 300 ?_
      simp only [go_sem]
      refine pcall1 (hev1) rfl (N := 130) Tryz.ntmps5 rfl (goB (N := 130) Tryz.ntmps5 300 ?_)
      simp only [go_sem]
      refine pcallH1 hg (hpr1) rfl (N := 130) Tryz.ntmps5 rfl (goB (N := 130) Tryz.ntmps5 300 ?_)
      simp only [go_sem]
      refine pcallH1 hg (hpa1) rfl (N := 130) Tryz.ntmps5 rfl (goB (N := 130) Tryz.ntmps5 300 ?_)
      simp only [go_sem]
      refine pcall1 (heq1) rfl (N := 130) Tryz.ntmps5 rfl (goB (N := 130) Tryz.ntmps5 300 ?_)
      simp only [go_sem]
      refine pcall (hjo1) rfl (N := 130) Tryz.ntmps5 rfl ?_
      rintro _ ⟨n, rfl, n1, n2, n3, n4⟩
      have dn : decide (n > JN) = false := decide_eq_false (by
        simp only [decide_eq_false_iff_not] at hbj
        by_cases h0 : es = []
        · have := n3 h0; omega
        · have := n4 h0; omega)
      refine goB (N := 130) Tryz.ntmps5 300 ?_
      simp only [go_sem, dn, List.length_map]
      refine aloop (ι := Nat) (fun k => cs.length - k)
        (fun k => [(100, .int .i64 k), (99, .int .i64 cs.length), (98, .fz 3 (cs.map clpA)), (19, .int .i64 (sumC (cs.take k))), (12, .fz 3 (es.map evA)), (36, .int .i64 i), (35, .int .i64 x.scenes.length), (34, .fz 5 (x.scenes.map scA)), (4, .ptr 1 1 0 0), (5, .fz 5 RS), (6, .fz 9 (l.map tkA))])
        (fun k => [.arr 2 [str L k'], .arr 2 [.agg [.str x.title, .fz 5 (x.scenes.map scA)]]]) (fun k => k ≤ cs.length) 0 (by simp) ?_ ?_
      · refine Shift.low 2 (by simp) (by simp) ?_ ?_
        · simp only [List.take_succ_cons, List.take_zero, List.all_cons, List.all_nil, lowB, str, flat, cellsOf, lowC, Av.frozen, List.append_nil, List.cons_append, List.nil_append, Bool.and_self]
        · simp only [wkl, lowV, lowC, Av.get, go_sem, List.length_map, List.take_zero, sumC]
      intro k f1 J2 hJ2
      have hck := hcb k
      by_cases gk : k < cs.length
      · have dk : decide ((k : Int) < (cs.length : Int)) = true := by simp; omega
        have hgk := clpA_get cs k gk
        have hck2 := hcb (k + 1)
        have hfin2 := hJ2 (k + 1) (by omega) (by omega)
        rw [sumC_step cs k gk] at hfin2 hck2
        have hszk := hsz _ (List.getElem_mem gk)
        generalize cs[k] = c at *
        generalize sumC (cs.take k) = A at *
        clear hJ2 hfin
        refine goB (N := 130) Tryz.ntmps5 300 ?_
        simp only [go_sem, dk, hgk, List.length_map]
        repeat refine And.intro (by first | omega | rfl | (simp; done) | (simp; omega)) ?_
        rw [show (k : Int) + 1 = ((k + 1 : Nat) : Int) by omega]
        refine ainv hfin2 ?_
        refine Shift.low 2 (by simp) (by simp) ?_ ?_
        · simp only [List.take_succ_cons, List.take_zero, List.all_cons, List.all_nil, lowB, str, flat, cellsOf, lowC, Av.frozen, List.append_nil, List.cons_append, List.nil_append, Bool.and_self]
        · simp only [wkl, lowV, lowC, Av.get, go_sem]
      · have dk : decide ((k : Int) < (cs.length : Int)) = false := by simp; omega
        have hk : cs.take k = cs := List.take_of_length_le (by omega)
        rw [hk] at hck ⊢
        rw [← hsm] at hck ⊢
        clear hJ2
        refine goB (N := 130) Tryz.ntmps5 300 ?_
        simp only [go_sem, dk, List.length_map]
        refine aloop (ι := Nat) (fun m => es.length - m)
          (fun m => [(114, .int .i64 m), (113, .int .i64 es.length), (112, .fz 3 (es.map evA)), (19, .int .i64 (sumE es - sumE (es.take m))), (36, .int .i64 i), (35, .int .i64 x.scenes.length), (34, .fz 5 (x.scenes.map scA)), (4, .ptr 1 1 0 0), (5, .fz 5 RS), (6, .fz 9 (l.map tkA))])
          (fun m => [.arr 2 [str L k'], .arr 2 [.agg [.str x.title, .fz 5 (x.scenes.map scA)]]]) (fun m => m ≤ es.length) 0 (by simp) ?_ ?_
        · refine Shift.weakS ?_ rfl
          simp only [wk, go_sem, List.length_map, List.take_zero, sumE, Int.sub_zero]
        intro m q1 J3 hJ3
        have hem := heb m
        by_cases gm : m < es.length
        · have dm : decide ((m : Int) < (es.length : Int)) = true := by simp; omega
          have hgm := evA_get es m gm
          have hem2 := heb (m + 1)
          have hfin3 := hJ3 (m + 1) (by omega) (by omega)
          rw [sumE_step es m gm] at hfin3 hem2
          have hlm := heo.lt _ (List.getElem_mem gm)
          have hbm := heo.bd _ (List.getElem_mem gm)
          generalize es[m] = e at *
          obtain ⟨B, hB⟩ : ∃ z, z = sumE (es.take m) := ⟨_, rfl⟩
          obtain ⟨T, hT⟩ : ∃ z, z = sumE es := ⟨_, rfl⟩
          rw [← hB, ← hT] at hfin3
          rw [← hB] at hem hem2
          rw [← hT] at hem hem2 hck
          rw [← hB, ← hT]
          rw [show T - (B + (e.out - e.inn)) = T - B - (e.out - e.inn) by omega] at hfin3
          clear hJ3 hfin
          refine goB (N := 130) Tryz.ntmps5 300 ?_
          simp only [go_sem, dm, hgm, List.length_map]
          repeat refine And.intro (by first | omega | rfl | (simp; done) | (simp; omega)) ?_
          rw [show (m : Int) + 1 = ((m + 1 : Nat) : Int) by omega]
          refine ainv hfin3 ?_
          refine Shift.low 2 (by simp) (by simp) ?_ ?_
          · simp only [List.take_succ_cons, List.take_zero, List.all_cons, List.all_nil, lowB, str, flat, cellsOf, lowC, Av.frozen, List.append_nil, List.cons_append, List.nil_append, Bool.and_self]
          · simp only [wkl, lowV, lowC, Av.get, go_sem]
        · have dm : decide ((m : Int) < (es.length : Int)) = false := by simp; omega
          rw [show es.take m = es from List.take_of_length_le (by omega), Int.sub_self]
          clear hJ3
          refine goB (N := 130) Tryz.ntmps5 300 ?_
          simp only [go_sem, dm]
          repeat refine And.intro (by first | omega | rfl | (simp; done) | (simp; omega)) ?_
          rw [show (i : Int) + 1 = ((i + 1 : Nat) : Int) by omega]
          refine ainv hfin (Shift.weakS ?_ rfl)
          simp only [wk, go_sem]
    · rw [hv2 hne]
      refine goB (N := 130) Tryz.ntmps5 300 ?_
      simp only [go_sem]
      repeat refine And.intro (by first | omega | rfl | (simp; done) | (simp; omega)) ?_
      rw [show (i : Int) + 1 = ((i + 1 : Nat) : Int) by omega]
      refine ainv hfin ?_
      refine Shift.low 2 (by simp) (by simp) ?_ ?_
      · simp only [List.take_succ_cons, List.take_zero, List.all_cons, List.all_nil, lowB, str, flat, cellsOf, lowC, Av.frozen, List.append_nil, List.cons_append, List.nil_append, Bool.and_self]
      · simp only [wkl, lowV, lowC, Av.get, go_sem]
  · have di : decide ((i : Int) < (x.scenes.length : Int)) = false := by simp; omega
    refine goB (N := 130) Tryz.ntmps5 300 ?_
    simp only [go_sem, di]
    refine pcall1 (htk) rfl (N := 130) Tryz.ntmps5 rfl (goB (N := 130) Tryz.ntmps5 300 ?_)
    simp only [go_sem]
    exact aret [2] rfl ⟨rfl, rfl⟩
end Go.Proofs.YtkfpiadgjbhcpaaGreatDoor
