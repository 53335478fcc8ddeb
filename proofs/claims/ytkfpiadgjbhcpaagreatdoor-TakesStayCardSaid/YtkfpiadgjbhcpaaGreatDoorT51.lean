/- take.Reel, walked; takes that are the same. Own work of this seat. -/
import Derived.Test.YtkfpiadgjbhcpaaGreatDoorT50
import Derived.Test.YtkfpiadgjbhcpaaGreatDoorT46
import Derived.Test.YtkfpiadgjbhcpaaGreatDoorT21
import Derived.Test.YtkfpiadgjbhcpaaGreatDoorT49
set_option maxRecDepth 100000
set_option linter.unusedSimpArgs false
set_option linter.unusedVariables false
namespace Go.Proofs.YtkfpiadgjbhcpaaGreatDoor
open Go Go.Av Go.RowKit

theorem clpA_frz : ∀ l : List Clp, (flat (l.map clpA)).all Av.frozen = true
  | [] => rfl
  | x :: r => by simpa [flat, cellsOf, clpA, Av.frozen] using clpA_frz r
theorem clipsA_map (l : List (List Pp')) : clipsA l = (l.map clipR).map clpA := by simp [clipsA]
theorem clips_few' {y : Sc} {l : List Tk} (hne : ∀ z ∈ rowsU y l, z.2 ≠ []) (hp : y.paras.length ≤ 60) : (runsF (bestC y l)).length ≤ 60 := by
  have h1 := runs_len (runs_ok (bestC y l))
  have h2 : (bestC y l).length ≤ 60 := by
    unfold bestC
    have := chosen_len _ _ _ (chosenF_ok (stepsN (rowsU y l)) none (stepsN_ok _ hne))
    rw [this, stepsN_len]
    unfold rowsU
    rw [List.length_map]
    exact Nat.le_trans (needF_len _ _) hp
  omega
set_option maxHeartbeats 8000000 in
theorem reel_cth {S : Std} (hS : LibR S) (x : Sr) (r : Rl) (rs : List Rl) (l : List Tk) (hf : FilmOk x r rs l) :
    CtH Tryz.prog S 16 [srA x, .fz 5 ((r :: rs).map rlA), .fz 9 (l.map tkA)] [] (fun v s => ∃ (cs : List Clp) (a : AV), v = .tup [.sl 0 0 cs.length cs.length, a, .int .i64 0] ∧ s = [.arr 3 (cs.map clpA)] ∧ cs.length ≤ 1000) := by
  have hx := hf.story
  have hlen := hx.len
  have hll := hf.len
  have hgd : ∀ t ∈ l, t.good = true := fun t ht => (hf.takes t ht).good
  have h1 := checkTakes_pch hS x r rs l hf
  have h4 := covering_ct0 x r rs l hf
  have h5 := fun (G : Nat → List Gq) (T : List Blk) (hC : CovI x.scenes G T) (hp : ∀ i (h : i < x.scenes.length) p, partsG (G i) p = partsN l x.scenes[i].no p l.length) (i : Nat) (hi : i < x.scenes.length) =>
    assembled_ct x.scenes[i] (paras_le hx hi) l hgd (by omega) (G i) (i + 1 + 1) T (cov_grp hf hC hp hi)
  have hrl := refs_len x.scenes.length
  simp only [srA, List.map_cons, rlA] at h1 h4 h5 ⊢
  refine cth_intro Tryz.func16 rfl Tryz.ntmps16 hB16 (by simp) fun h ρ w hg => goB (N := 60) Tryz.ntmps16 300 ?_
  simp only [go_sem]
  refine pcallH1 hg (h1) rfl (N := 60) Tryz.ntmps16 rfl (goB (N := 60) Tryz.ntmps16 300 ?_)
  simp only [go_sem]
  refine acall (h4) (N := 60) Tryz.ntmps16 rfl ?_
  rintro _ T ⟨G, rfl, hC, hp⟩
  refine goB (N := 60) Tryz.ntmps16 300 ?_
  simp only [go_sem, List.length_map]
  refine aloop (ι := Nat × List Clp × List (List UInt8)) (fun y => x.scenes.length - y.1)
    (fun y => [(31, .int .i64 y.1), (30, .int .i64 x.scenes.length), (29, .fz 5 (x.scenes.map scA)), (12, .sl (T.length + 1) 0 y.2.2.length y.2.2.length), (11, .sl T.length 0 y.2.1.length y.2.1.length), (10, .sl 1 0 x.scenes.length x.scenes.length), (2, .fz 9 (l.map tkA))])
    (fun y => T ++ [.arr 3 (y.2.1.map clpA), .arr 1 (strs y.2.2)]) (fun y => y.1 ≤ x.scenes.length ∧ y.2.1.length ≤ 100 * y.1 ∧ y.2.2.length ≤ y.1) (0, [], []) ⟨by simp, by simp, by simp⟩ ?_ ?_
  · refine Shift.trans (Shift.nilsl 11 3 rfl) (Shift.trans (Shift.nilsl 12 1 rfl) (Shift.weakS ?_ ?_))
    · simp only [wk, go_sem, List.length_map]
      repeat (first | rfl | (simp; done) | (simp; omega) | refine And.intro (by first | rfl | (simp; done) | (simp; omega)) ?_)
    · simp
  rintro ⟨i, cs, ns⟩ ⟨g1, g2, g3⟩ J hJ
  simp only at g1 g2 g3 hJ ⊢
  by_cases gi : i < x.scenes.length
  · have di : decide ((i : Int) < (x.scenes.length : Int)) = true := by simp; omega
    have hget := scA_get x.scenes i gi
    have hrg := refs_get x.scenes.length i gi
    have hC3 := ((hC.more (y := .arr 3 (cs.map clpA)) (low_all (clpA_frz cs))).more (y := .arr 1 (strs ns)) (low_all (strs_frz ns))).more (y := .arr 5 [scA x.scenes[i]]) (low_all (by simp [flat, cellsOf, scA, Av.frozen]))
    rw [List.append_assoc, List.append_assoc] at hC3
    have h5' := h5 G _ hC3 hp i gi
    rw [rows_eq hf hp gi] at h5'
    have k1 := gt_old hC.h1
    have hfew := fun (hne : ∀ z ∈ rowsU x.scenes[i] l, z.2 ≠ []) => clips_few' hne (paras_le hx gi)
    simp only [scA, List.cons_append, List.nil_append] at h5'
    refine goB (N := 60) Tryz.ntmps16 300 ?_
    simp only [go_sem, di, hget, gt_at, gt_at0, st_at, st_at0, List.append_assoc, List.length_map]
    repeat refine And.intro (by first | omega | (simp; done) | (simp; omega) | kernel_rfl) ?_
    refine adrawC [6] (T.length+9) [] mixed (by decide) (N := 60) Tryz.ntmps16 (by decide) 100 ?_
    simp only [go_sem, Go.Av.dxn, Go.Av.dxnc, ↓Go.Av.dbrn_true, ↓Go.Av.dbrn_false, Go.Av.dbrn, gt_at, gt_at0, k1, hrl, hrg, List.length_map]
    repeat refine And.intro (by first | omega | rfl | (simp; done) | (simp; omega)) ?_
    generalize hy : x.scenes[i] = y at *
    by_cases hne : ∀ z ∈ rowsU y l, z.2 ≠ []
    · refine icc h5' ⟨_, _, rfl, fun _ => rfl, fun h => absurd hne h⟩ ?_
      rintro v s' ⟨rfl, hv, _⟩
      rw [hv hne]
      refine ⟨Agr.rfl', ?_⟩
      have hfw := hfew hne
      have hfin := hJ (i + 1, cs ++ (runsF (bestC y l)).map clipR, ns) ⟨by simp only; omega, by simp; omega, by simp only; omega⟩ (by simp only; omega)
      have hcl : clipsA (runsF (chosenF none (stepsN (rowsU y l)))) = ((runsF (bestC y l)).map clipR).map clpA := clipsA_map _
      rw [hcl]
      generalize hu : (runsF (bestC y l)).map clipR = u at *
      have hul : u.length ≤ 60 := by rw [← hu, List.length_map]; exact hfw
      simp only [List.map_append, List.length_append] at hfin
      simp only [go_sem, Go.Av.dxn, Go.Av.dxnc, ↓Go.Av.dbrn_true, ↓Go.Av.dbrn_false, Go.Av.dbrn]
      refine goB (N := 60) Tryz.ntmps16 300 ?_
      simp only [go_sem, gt_at, gt_at0, st_at, st_at0, List.append_assoc, List.length_map]
      repeat refine And.intro (by first | omega | (simp; done) | (simp; omega) | kernel_rfl | exact .inl rfl | exact .inl trivial) ?_
      rw [show (i : Int) + 1 = ((i + 1 : Nat) : Int) by omega]
      refine ainv hfin (shift_lowE T [_, _] [_] rfl (by simp) hC.low ?_ ?_)
      · simp only [List.all_cons, List.all_nil, lowB, flat_append, List.all_append, low_all (clpA_frz cs), low_all (clpA_frz u), low_all (strs_frz ns), Bool.and_self]
      · simp only [wkl, lowV, lowC, Av.get, go_sem]
        repeat (first | rfl | (simp; done) | (simp; omega) | refine And.intro (by first | rfl | (simp; done) | (simp; omega)) ?_)
    · refine icc h5' ⟨_, _, rfl, fun h => absurd h hne, fun _ => rfl⟩ ?_
      rintro v s' ⟨rfl, _, hv⟩
      rw [hv hne]
      refine ⟨Agr.rfl', ?_⟩
      have hfin := hJ (i + 1, cs, ns ++ [y.no]) ⟨by simp only; omega, by simp only; omega, by simp; omega⟩ (by simp only; omega)
      have hsn : strs ns ++ [.str y.no] = strs (ns ++ [y.no]) := by simp
      simp only [List.length_append, List.length_cons, List.length_nil, Nat.zero_add] at hfin
      simp only [go_sem, Go.Av.dxn, Go.Av.dxnc, ↓Go.Av.dbrn_true, ↓Go.Av.dbrn_false, Go.Av.dbrn]
      refine goB (N := 60) Tryz.ntmps16 300 ?_
      simp only [go_sem, gt_at, gt_at0, st_at, st_at0, hsn, List.append_assoc, List.length_map]
      repeat refine And.intro (by first | omega | (simp; done) | (simp; omega) | kernel_rfl | exact .inl rfl | exact .inl trivial) ?_
      rw [show (i : Int) + 1 = ((i + 1 : Nat) : Int) by omega]
      refine ainv hfin (shift_lowE T [_, _] [_] rfl (by simp) hC.low ?_ ?_)
      · simp only [List.all_cons, List.all_nil, lowB, low_all (clpA_frz cs), low_all (strs_frz (ns ++ [y.no])), Bool.and_self]
      · simp only [wkl, lowV, lowC, Av.get, go_sem]
        repeat (first | rfl | (simp; done) | (simp; omega) | refine And.intro (by first | rfl | (simp; done) | (simp; omega)) ?_)
  · have di : decide ((i : Int) < (x.scenes.length : Int)) = false := by simp; omega
    refine goB (N := 60) Tryz.ntmps16 300 ?_
    simp only [go_sem, di]
    refine ARet.shift (Shift.only 0 T.length (e' := [(6, .sl 0 0 cs.length cs.length), (8, .int .i64 0)]) (by simp) (Nat.zero_le _) gt_at0 (by simp) (clpA_frz cs) (by simp) ?_) ?_
    · simp [wkg, okg, go_sem, Av.frozen]
    · exact aret [6, 7, 8] rfl ⟨cs, _, rfl, rfl, by omega⟩
theorem eqCv_pc (a : List Cv) (ha : a.length < 100000) : Pc Tryz.prog 56 [.fz 4 (a.map cvA), .fz 4 (a.map cvA)] (· = .bool true) := by
  have d0 : ((a.length : Int) != (a.length : Int)) = false := by simp
  refine pc_intro (ct_intro Tryz.func56 rfl Tryz.ntmps56 hB56 (by simp) fun h ρ w => goB (N := 26) Tryz.ntmps56 300 ?_)
  simp only [go_sem, d0, List.length_map]
  refine aloop (ι := Nat) (fun i => a.length - i) (fun i => [(13, .int .i64 i), (12, .int .i64 a.length), (1, .fz 4 (a.map cvA)), (0, .fz 4 (a.map cvA))]) (fun _ => []) (fun i => i ≤ a.length) 0 (by simp) ?_ ?_
  · refine Shift.weak ?_
    simp only [wk, go_sem]
  · intro i g1 J hJ
    by_cases gi : i < a.length
    · have di : decide ((i : Int) < (a.length : Int)) = true := by simp; omega
      have h1 := cvA_get a i gi
      have hfin := hJ (i + 1) (by omega) (by omega)
      generalize a[i] = e at *
      refine goB (N := 26) Tryz.ntmps56 300 ?_
      simp only [go_sem, di]
      refine adraw [] mixed (by decide) (N := 26) Tryz.ntmps56 (by decide) 100 ?_
      simp only [go_sem, h1, beq_self_eq_true, Bool.and_self, Bool.not_true, List.length_map]
      repeat refine And.intro (by first | omega | rfl | kernel_rfl | (simp; done) | (simp; omega)) ?_
      refine goB (N := 26) Tryz.ntmps56 300 ?_
      simp only [go_sem]
      repeat refine And.intro (by first | omega | (simp; done) | (simp; omega)) ?_
      rw [show (i : Int) + 1 = ((i + 1 : Nat) : Int) by omega]
      refine ainv hfin (Shift.weak ?_)
      simp only [wk, go_sem]
    · have di : decide ((i : Int) < (a.length : Int)) = false := by simp; omega
      refine goB (N := 26) Tryz.ntmps56 300 ?_
      simp only [go_sem, di]
      exact aret [4] rfl ⟨rfl, rfl⟩
theorem eqRl_pc (a : List Rl) (ha : a.length < 100000) : Pc Tryz.prog 18 [.fz 5 (a.map rlA), .fz 5 (a.map rlA)] (· = .bool true) := by
  have d0 : ((a.length : Int) != (a.length : Int)) = false := by simp
  refine pc_intro (ct_intro Tryz.func18 rfl Tryz.ntmps18 hB18 (by simp) fun h ρ w => goB (N := 26) Tryz.ntmps18 300 ?_)
  simp only [go_sem, d0, List.length_map]
  refine aloop (ι := Nat) (fun i => a.length - i) (fun i => [(13, .int .i64 i), (12, .int .i64 a.length), (1, .fz 5 (a.map rlA)), (0, .fz 5 (a.map rlA))]) (fun _ => []) (fun i => i ≤ a.length) 0 (by simp) ?_ ?_
  · refine Shift.weak ?_
    simp only [wk, go_sem]
  · intro i g1 J hJ
    by_cases gi : i < a.length
    · have di : decide ((i : Int) < (a.length : Int)) = true := by simp; omega
      have h1 := rlA_get a i gi
      have hfin := hJ (i + 1) (by omega) (by omega)
      generalize a[i] = e at *
      refine goB (N := 26) Tryz.ntmps18 300 ?_
      simp only [go_sem, di]
      refine adraw [] mixed (by decide) (N := 26) Tryz.ntmps18 (by decide) 100 ?_
      simp only [go_sem, h1, beq_self_eq_true, Bool.and_self, Bool.not_true, List.length_map]
      repeat refine And.intro (by first | omega | rfl | kernel_rfl | (simp; done) | (simp; omega)) ?_
      refine goB (N := 26) Tryz.ntmps18 300 ?_
      simp only [go_sem]
      repeat refine And.intro (by first | omega | (simp; done) | (simp; omega)) ?_
      rw [show (i : Int) + 1 = ((i + 1 : Nat) : Int) by omega]
      refine ainv hfin (Shift.weak ?_)
      simp only [wk, go_sem]
    · have di : decide ((i : Int) < (a.length : Int)) = false := by simp; omega
      refine goB (N := 26) Tryz.ntmps18 300 ?_
      simp only [go_sem, di]
      exact aret [4] rfl ⟨rfl, rfl⟩
theorem sameTk_pc (t : Tk) (hlt : t.covers.length < 100000) : Pc Tryz.prog 55 [tkA t, tkA t] (· = .bool true) := by
  simp only [tkA]
  refine pc_intro (ct_intro Tryz.func55 rfl Tryz.ntmps55 hB55 (by simp) fun h ρ w => goB (N := 66) Tryz.ntmps55 300 ?_)
  simp only [go_sem, beq_self_eq_true]
  refine pcall1 (eqCv_pc t.covers hlt) rfl (N := 66) Tryz.ntmps55 rfl (goB (N := 66) Tryz.ntmps55 300 ?_)
  simp only [go_sem, beq_self_eq_true]
  exact aret [4] rfl ⟨rfl, rfl⟩
theorem eqTks_pc (l : List Tk) (hl : l.length < 100000) (hc : ∀ t ∈ l, t.covers.length < 100000) : Pc Tryz.prog 54 [.fz 9 (l.map tkA), .fz 9 (l.map tkA), .fn (.func 55) []] (· = .bool true) := by
  have d0 : ((l.length : Int) != (l.length : Int)) = false := by simp
  refine pc_intro (ct_intro Tryz.func54 rfl Tryz.ntmps54 hB54 (by simp) fun h ρ w => goB (N := 32) Tryz.ntmps54 300 ?_)
  simp only [go_sem, d0, List.length_map]
  refine aloop (ι := Nat) (fun i => l.length - i) (fun i => [(17, .int .i64 i), (16, .int .i64 l.length), (15, .fz 9 (l.map tkA)), (2, .fn (.func 55) []), (1, .fz 9 (l.map tkA))]) (fun _ => []) (fun i => i ≤ l.length) 0 (by simp) ?_ ?_
  · refine Shift.weak ?_
    simp only [wk, go_sem]
  · intro i g1 J hJ
    by_cases gi : i < l.length
    · have di : decide ((i : Int) < (l.length : Int)) = true := by simp; omega
      have hg' := tkA_get l i gi
      have hcc := sameTk_pc l[i] (hc _ (List.getElem_mem gi))
      have hfin := hJ (i + 1) (by omega) (by omega)
      simp only [tkA] at hcc
      generalize l[i] = t at *
      refine goB (N := 32) Tryz.ntmps54 300 ?_
      simp only [go_sem, di, hg', List.length_map]
      repeat refine And.intro (by first | omega | simpa using gi | rfl) ?_
      refine pcall1 (hcc) rfl (N := 32) Tryz.ntmps54 rfl (goB (N := 32) Tryz.ntmps54 300 ?_)
      simp only [go_sem]
      repeat refine And.intro (by first | omega | simpa using gi | rfl) ?_
      rw [show (i : Int) + 1 = ((i + 1 : Nat) : Int) by omega]
      refine ainv hfin (Shift.low 0 (by simp) (by simp) rfl ?_)
      simp only [wkl, lowV, lowC, Av.get, go_sem, List.all_nil]
    · have di : decide ((i : Int) < (l.length : Int)) = false := by simp; omega
      refine goB (N := 32) Tryz.ntmps54 300 ?_
      simp only [go_sem, di]
      exact aret [6] rfl ⟨rfl, rfl⟩
theorem sameTakes_pc (l : List Tk) (hl : l.length < 100000) (hc : ∀ t ∈ l, t.covers.length < 100000) : Pc Tryz.prog 19 [.fz 9 (l.map tkA), .fz 9 (l.map tkA)] (· = .bool true) := by
  refine pc_intro (ct_intro Tryz.func19 rfl Tryz.ntmps19 hB19 (by simp) fun h ρ w => goB (N := 8) Tryz.ntmps19 300 ?_)
  simp only [go_sem]
  refine pcall1 (eqTks_pc l hl hc) rfl (N := 8) Tryz.ntmps19 rfl (goB (N := 8) Tryz.ntmps19 300 ?_)
  simp only [go_sem]
  exact aret [4] rfl ⟨rfl, rfl⟩
/-- what stands while the lists are spoilt: takes with covers of their own, clips -/
structure SpT (T : List Blk) (z n k m : Nat) : Prop where
  rows : ∃ R : List (Tk × Nat), T[z]? = some (.arr 9 (R.map rowH)) ∧ R.length = n ∧ ∀ q ∈ R, q.1.covers.length ≤ 1000 ∧ ∃ cs : List Cv, T[q.2]? = some (.arr 4 (cs.map cvA)) ∧ cs.length = q.1.covers.length
  clip : ∃ cs : List Clp, T[k]? = some (.arr 3 (cs.map clpA)) ∧ cs.length = m
theorem SpT.app {T : List Blk} {z n k m : Nat} (h : SpT T z n k m) (y : Blk) : SpT (T ++ [y]) z n k m := by
  obtain ⟨R, h1, h2, h3⟩ := h.rows
  obtain ⟨cs, h4, h5⟩ := h.clip
  exact ⟨⟨R, atT_app h1 y, h2, fun q hq => ⟨(h3 q hq).1, by obtain ⟨c, c1, c2⟩ := (h3 q hq).2; exact ⟨c, atT_app c1 y, c2⟩⟩⟩, ⟨cs, atT_app h4 y, h5⟩⟩
theorem SpT.cov {T : List Blk} {z n k m j : Nat} {l l' : List Cv} (h : SpT T z n k m) (hj : T[j]? = some (.arr 4 (l.map cvA))) (hl : l'.length = l.length) : SpT (T.set j (.arr 4 (l'.map cvA))) z n k m := by
  obtain ⟨R, h1, h2, h3⟩ := h.rows
  obtain ⟨cs, h4, h5⟩ := h.clip
  have hjl := (List.getElem?_eq_some_iff.1 hj).1
  refine ⟨⟨R, gd_set h1 (fun e => by subst e; rw [h1] at hj; simp at hj) _, h2, fun q hq => ⟨(h3 q hq).1, ?_⟩⟩, ⟨cs, gd_set h4 (fun e => by subst e; rw [h4] at hj; simp at hj) _, h5⟩⟩
  obtain ⟨c, c1, c2⟩ := (h3 q hq).2
  by_cases e : j = q.2
  · subst e
    rw [c1] at hj
    have hll := congrArg (fun b => match b with | some (Blk.arr _ r) => r.length | _ => 0) hj
    simp only [List.length_map] at hll
    exact ⟨l', by rw [List.getElem?_set_self hjl], by omega⟩
  · exact ⟨c, gd_set c1 e _, c2⟩
theorem SpT.clp {T : List Blk} {z n k m : Nat} {l l' : List Clp} (h : SpT T z n k m) (hj : T[k]? = some (.arr 3 (l.map clpA))) (hl : l'.length = m) : SpT (T.set k (.arr 3 (l'.map clpA))) z n k m := by
  obtain ⟨R, h1, h2, h3⟩ := h.rows
  have hjl := (List.getElem?_eq_some_iff.1 hj).1
  refine ⟨⟨R, gd_set h1 (fun e => by subst e; rw [h1] at hj; simp at hj) _, h2, fun q hq => ⟨(h3 q hq).1, ?_⟩⟩, ⟨l', by rw [List.getElem?_set_self hjl], hl⟩⟩
  obtain ⟨c, c1, c2⟩ := (h3 q hq).2
  exact ⟨c, gd_set c1 (fun e => by rw [← e, hj] at c1; simp at c1) _, c2⟩
theorem cvA_set (l : List Cv) (i : Nat) (c : Cv) : (l.map cvA).set i (.agg [.int .i64 c.para, .int .i64 c.inn, .int .i64 c.out, .bool c.on]) = (l.set i c).map cvA := by rw [List.map_set]; rfl
theorem clpA_set (l : List Clp) (i : Nat) (c : Clp) : (l.map clpA).set i (.agg [.int .i64 c.take, .int .i64 c.inn, .int .i64 c.out]) = (l.set i c).map clpA := by rw [List.map_set]; rfl
theorem rowH_get (R : List (Tk × Nat)) (i : Nat) (h : i < R.length) : List.getD (R.map rowH) i .any = rowH R[i] := by simp [List.getD, h]
set_option maxHeartbeats 8000000 in
theorem takesStay_pch {S : Std} (hS : LibR S) (L : List Int) : PcH Tryz.prog S 4 [.fz 1 (L.map (.int .i64))] (· = .bool true) := by
  obtain ⟨x, r, rs, l, k', hf, hk1, hk2, hfilm⟩ := filmX hS L 0 (by omega) (by omega)
  have htk := takes_pc
  have hx := hf.story
  have hxl := hx.len
  have hll := hf.len
  have hmany : (r :: rs).length < 100000 := by have := hf.many; simp; omega
  have hpl : ∀ y ∈ x.scenes, y.paras.length ≤ 60 := fun y hy => by
    obtain ⟨i, hi, rfl⟩ := List.getElem_of_mem hy
    exact paras_le hx hi
  have hbx : ∀ z ∈ x.scenes, (∀ p ∈ z.paras, 0 ≤ p.kind ∧ p.kind ≤ 999 ∧ p.text.length ≤ 100000) ∧ z.paras.length ≤ 1000 := fun z hz => by
    refine ⟨fun p hp => ?_, by have := hpl z hz; omega⟩
    obtain ⟨i, hi, rfl⟩ := List.getElem_of_mem hz
    have hd := (hx.all i hi).all p hp
    have hk := hd.kind
    have ho := hd.ok
    simp only [paraOk, Bool.and_eq_true, decide_eq_true_eq] at ho
    have := ho.2.2.2.2.1
    exact ⟨by omega, by omega, by omega⟩
  have hcl : ∀ t ∈ l, t.covers.length ≤ 1000 := fun t ht => by have := (hf.takes t ht).len; omega
  have hin : ∀ t ∈ l, ∃ i, ∃ (h : i < x.scenes.length), x.scenes[i].no = t.scene := fun t ht => by
    obtain ⟨j, hj, rfl⟩ := List.getElem_of_mem ht
    have hti := hf.ok.at' j _ (List.getElem?_eq_getElem hj)
    obtain ⟨i, hi, his⟩ := (sceneIx_bd x l[j].scene).resolve_left (by have := hti.scene; omega)
    exact ⟨i, hi, (scenes_at hx hi his).1⟩
  have hdx : ∀ i (h : i < x.scenes.length) j (h2 : j < x.scenes.length), x.scenes[i].no = x.scenes[j].no → i = j := fun i h j h2 e => hx.inj h h2 e
  have hcf := conform_cth hS.ok x x ((r :: rs).map rlA) l (checkTakes_pch hS x r rs l hf) (scriptFault_pch hS x hx) (scenesOf_ct0 x hx) (scenesOf_ct0 x hx) hdx hdx hin hbx hbx (by omega) (by omega) hcl (by omega)
  have hre := reel_cth hS x r rs l hf
  have hsame := same_pc x (by omega) (fun y hy => by have := hpl y hy; omega)
  have hrl := eqRl_pc (r :: rs) hmany
  have htks := sameTakes_pc l (by omega) (fun t ht => by have := hcl t ht; omega)
  obtain ⟨RS, hRS⟩ : ∃ z, z = (r :: rs).map rlA := ⟨_, rfl⟩
  rw [← hRS] at hfilm hcf hre hrl
  simp only [srA] at hfilm hcf hre hsame
  refine pch_intro (cth_intro Tryz.func4 rfl Tryz.ntmps4 hB4 (by simp) fun h ρ w hg => goF (N := 105) Tryz.ntmps4 300 ?_)
  simp only [go_sem]
  refine mcallH hg (agg := str L 0) hfilm rfl rfl (id := 0) rfl (N := 105) Tryz.ntmps4 rfl ?_
  rintro _ _ ⟨rfl, rfl⟩
  refine goF (N := 105) Tryz.ntmps4 300 ?_
  simp only [go_sem]
  refine mcallH hg (agg := str L 0) hfilm rfl rfl (id := 1) rfl (N := 105) Tryz.ntmps4 rfl ?_
  rintro _ _ ⟨rfl, rfl⟩
  refine goF (N := 105) Tryz.ntmps4 17 ?_
  simp only [go_sem]
  refine AWp.shift (Shift.weak (e' := [(10, .fz 9 (l.map tkA)), (9, .fz 5 RS), (8, .ptr 3 1 0 0), (7, .fz 9 (l.map tkA)), (6, .fz 5 RS), (5, .ptr 2 1 0 0)]) ?_) ?_
  · simp only [wk, go_sem]
  refine AWp.shift (Shift.frz 3 (es := 2) (l := [.agg [.str x.title, .fz 5 (x.scenes.map scA)]]) rfl rfl) ?_
  refine AWp.shift (Shift.frz 2 (es := 2) (l := [.agg [.str x.title, .fz 5 (x.scenes.map scA)]]) rfl rfl) ?_
  refine AWp.shift (Shift.low 0 (e' := [(10, .fz 9 (l.map tkA)), (9, .fz 5 RS), (8, .pin 2 [.agg [.str x.title, .fz 5 (x.scenes.map scA)]] 0 0), (7, .fz 9 (l.map tkA)), (6, .fz 5 RS), (5, .pin 2 [.agg [.str x.title, .fz 5 (x.scenes.map scA)]] 0 0)]) (by simp) (by simp) rfl ?_) ?_
  · simp only [wkl, frzE, frz, frz1, lowV, lowC, Av.get, go_sem]
  simp only [List.take_zero]
  refine goF (N := 105) Tryz.ntmps4 300 ?_
  simp only [go_sem]
  refine acallH hg (hcf) (N := 105) Tryz.ntmps4 rfl ?_
  rintro _ T1 ⟨R, rfl, hR, hI⟩
  refine goF (N := 105) Tryz.ntmps4 300 ?_
  simp only [go_sem]
  refine acallH hg (hre.liftN rfl (by rintro _ _ ⟨cs, a, _, rfl, _⟩; rfl) T1) (N := 105) Tryz.ntmps4 rfl ?_
  rintro _ _ ⟨_, _, ⟨cs, a, rfl, rfl, hcs⟩, rfl, rfl⟩
  have hRl : R.length ≤ 1000 := by
    have := congrArg List.length hR
    rw [List.length_map] at this
    rw [this]
    unfold confL
    rw [List.length_map]
    have := List.length_filter_le (fun t => x.scenes.any fun z => z.no == t.scene) l
    omega
  have hcsh : (cs.map clpA).map (shC T1.length) = cs.map clpA := by
    rw [List.map_map]
    exact List.map_congr_left fun c _ => rfl
  simp only [shV, shC, sh1, shB, hcsh, List.map_cons, List.map_nil, Nat.zero_add]
  have hsp : SpT (T1 ++ [.arr 3 (cs.map clpA)]) 3 R.length T1.length cs.length := by
    refine ⟨⟨R, atT_app hI.h3 _, rfl, fun q hq => ⟨?_, q.1.covers, atT_app (hI.rows q hq).2 _, rfl⟩⟩, ⟨cs, atT_end _ _, rfl⟩⟩
    have hm : q.1 ∈ confL x.scenes x.scenes l := by rw [← hR]; exact List.mem_map.2 ⟨q, hq, rfl⟩
    unfold confL at hm
    obtain ⟨t, ht, hte⟩ := List.mem_map.1 hm
    rw [← hte]
    have h1 := hcl t (List.mem_filter.1 ht).1
    have h2 := List.length_filterMap_le (confC (psOf x.scenes x.scenes t.scene)) t.covers
    simp only [confT]
    omega
  generalize T1 ++ [Blk.arr 3 (cs.map clpA)] = T2 at *
  generalize T1.length = k at *
  generalize R.length = n at *
  generalize cs.length = m at *
  clear hI hR hcsh
  obtain ⟨R0, q1, q2, q3⟩ := hsp.rows
  have k1 := gd_of q1
  refine go (N := 105) Tryz.ntmps4 300 ?_
  simp only [go_sem, k1, q2, List.length_map]
  refine aloop (ι := Nat × List Blk) (fun y => n - y.1)
    (fun y => [(62, .int .i64 y.1), (61, .int .i64 n), (60, .sl 3 0 n n), (13, .sl k 0 m m), (8, .pin 2 [.agg [.str x.title, .fz 5 (x.scenes.map scA)]] 0 0), (5, .pin 2 [.agg [.str x.title, .fz 5 (x.scenes.map scA)]] 0 0), (10, .fz 9 (l.map tkA)), (9, .fz 5 RS), (7, .fz 9 (l.map tkA)), (6, .fz 5 RS)])
    (fun y => y.2) (fun y => y.1 ≤ n ∧ SpT y.2 3 n k m) (0, T2) ⟨by simp, hsp⟩ ?_ ?_
  · refine Shift.weakS ?_ rfl
    simp only [wk, go_sem]
  clear hsp q1 q2 q3 k1
  rintro ⟨i, T⟩ ⟨g1, g2⟩ J hJ
  simp only at g1 g2 hJ ⊢
  by_cases gi : i < n
  · have di : decide ((i : Int) < (n : Int)) = true := by simp; omega
    obtain ⟨R0, q1, q2, q3⟩ := g2.rows
    have k1 := gd_of q1
    have hget := rowH_get R0 i (by omega)
    obtain ⟨c1, c0, c2, c3⟩ := q3 R0[i] (List.getElem_mem (by omega))
    generalize R0[i] = q at hget c1 c2 c3
    obtain ⟨u, j⟩ := q
    simp only [rowH, tkH] at hget
    simp only at c1 c2 c3
    obtain ⟨cl, hcl0⟩ : ∃ z, z = u.covers.length := ⟨_, rfl⟩
    rw [← hcl0] at c1 c3 hget
    have hfin : ∀ T', SpT T' 3 n k m → _ := fun T' h => hJ (i + 1, T') ⟨by simp only; omega, h⟩ (by simp only; omega)
    clear hJ
    have k5 := gd_app c2
    have k5' : ∀ b, (T ++ [b]).getD T.length .dead = b := fun b => gd_end T b _
    obtain ⟨row, hrow⟩ : ∃ z, z = AV.agg [.str u.scene, .str u.setup, .int .i64 u.number, .str u.roll, .str u.sound, .int .i64 u.inn, .int .i64 u.out, .bool u.good, .sl j 0 cl cl] := ⟨_, rfl⟩
    have hs2 := g2.app (.arr 9 [row])
    have c2' := atT_app c2 (.arr 9 [row])
    have hro : (T ++ [Blk.arr 9 [row]])[T.length]? = some (.arr 9 [row]) := atT_end _ _
    refine go (N := 105) Tryz.ntmps4 300 ?_
    simp only [go_sem, di, k1, q2, hget, gd_end, st_end, k5, c3, List.length_map]
    repeat refine And.intro (by first | omega | rfl | kernel_rfl | (simp; done) | (simp; omega)) ?_
    rw [← hrow]
    generalize T ++ [Blk.arr 9 [row]] = T3 at *
    generalize T.length = tl at *
    refine aloop (ι := Nat × List Blk × List Cv) (fun y => cl - y.1)
      (fun y => [(69, .int .i64 y.1), (68, .int .i64 cl), (17, .ptr tl 1 0 0), (62, .int .i64 i), (61, .int .i64 n), (60, .sl 3 0 n n), (13, .sl k 0 m m), (8, .pin 2 [.agg [.str x.title, .fz 5 (x.scenes.map scA)]] 0 0), (5, .pin 2 [.agg [.str x.title, .fz 5 (x.scenes.map scA)]] 0 0), (10, .fz 9 (l.map tkA)), (9, .fz 5 RS), (7, .fz 9 (l.map tkA)), (6, .fz 5 RS)])
      (fun y => y.2.1) (fun y => y.1 ≤ cl ∧ SpT y.2.1 3 n k m ∧ y.2.1[j]? = some (.arr 4 (y.2.2.map cvA)) ∧ y.2.2.length = cl ∧ y.2.1[tl]? = some (.arr 9 [row])) (0, T3, c0) ⟨by simp, hs2, c2', c3, hro⟩ ?_ ?_
    · refine Shift.weakS ?_ rfl
      simp only [wk, go_sem]
    clear hs2 c2' hro k5 k5' c2 c3
    rintro ⟨c, T, cs⟩ ⟨f1, f2, f3, f4, f5⟩ J2 hJ2
    simp only at f1 f2 f3 f4 f5 hJ2 ⊢
    by_cases gc : c < cl
    · have dc : decide ((c : Int) < (cl : Int)) = true := by simp; omega
      have hgc := cvA_get cs c (by omega)
      have hst := cvA_set cs c ⟨-7, cs[c].inn, cs[c].out, cs[c].on⟩
      have k6 := gd_of f3
      have k7 := gd_of f5
      have hjl := (List.getElem?_eq_some_iff.1 f3).1
      have hjt : j ≠ tl := fun e => by subst e; rw [f3] at f5; simp at f5
      have hw := f2.cov (l' := cs.set c ⟨-7, cs[c].inn, cs[c].out, cs[c].on⟩) f3 (by simp)
      have hfin2 := hJ2 (c + 1, _, _) ⟨by simp only; omega, hw, by simp only; rw [List.getElem?_set_self hjl], by simp only; rw [List.length_set]; exact f4, gd_set f5 hjt _⟩ (by simp only; omega)
      simp only at hst
      rw [hrow] at k7
      clear hJ2
      refine go (N := 105) Tryz.ntmps4 300 ?_
      simp only [go_sem, dc, hgc, k6, k7, f4, hst, List.length_map]
      repeat refine And.intro (by first | omega | rfl | kernel_rfl | (simp; done) | (simp; omega)) ?_
      rw [show (c : Int) + 1 = ((c + 1 : Nat) : Int) by omega]
      refine ainv hfin2 (Shift.weakS ?_ rfl)
      simp only [wk, go_sem]
    · have dc : decide ((c : Int) < (cl : Int)) = false := by simp; omega
      have hfin3 := hfin T f2
      clear hJ2
      refine go (N := 105) Tryz.ntmps4 300 ?_
      simp only [go_sem, dc]
      repeat refine And.intro (by first | omega | rfl | kernel_rfl | (simp; done) | (simp; omega)) ?_
      rw [show (i : Int) + 1 = ((i + 1 : Nat) : Int) by omega]
      refine ainv hfin3 (Shift.weakS ?_ rfl)
      simp only [wk, go_sem]
  · have di : decide ((i : Int) < (n : Int)) = false := by simp; omega
    clear hJ
    obtain ⟨cs0, p1, p2⟩ := g2.clip
    have k1 := gd_of p1
    refine go (N := 105) Tryz.ntmps4 300 ?_
    simp only [go_sem, di, k1, p2, List.length_map]
    repeat refine And.intro (by first | omega | rfl | kernel_rfl | (simp; done) | (simp; omega)) ?_
    refine aloop (ι := Nat × List Blk) (fun y => m - y.1)
      (fun y => [(81, .int .i64 y.1), (80, .int .i64 m), (13, .sl k 0 m m), (8, .pin 2 [.agg [.str x.title, .fz 5 (x.scenes.map scA)]] 0 0), (5, .pin 2 [.agg [.str x.title, .fz 5 (x.scenes.map scA)]] 0 0), (10, .fz 9 (l.map tkA)), (9, .fz 5 RS), (7, .fz 9 (l.map tkA)), (6, .fz 5 RS)])
      (fun y => y.2) (fun y => y.1 ≤ m ∧ SpT y.2 3 n k m) (0, T) ⟨by simp, g2⟩ ?_ ?_
    · refine Shift.weakS ?_ rfl
      simp only [wk, go_sem]
    clear g2 p1 p2 k1
    rintro ⟨c, T⟩ ⟨f1, f2⟩ J2 hJ2
    simp only at f1 f2 hJ2 ⊢
    by_cases gc : c < m
    · have dc : decide ((c : Int) < (m : Int)) = true := by simp; omega
      obtain ⟨cs, p1, p2⟩ := f2.clip
      have k6 := gd_of p1
      have hgc := clpA_get cs c (by omega)
      have hst := clpA_set cs c ⟨cs[c].take, -7, cs[c].out⟩
      have hw := f2.clp (l' := cs.set c ⟨cs[c].take, -7, cs[c].out⟩) p1 (by simp [p2])
      have hfin2 := hJ2 (c + 1, _) ⟨by simp only; omega, hw⟩ (by simp only; omega)
      simp only at hst
      clear hJ2
      refine go (N := 105) Tryz.ntmps4 300 ?_
      simp only [go_sem, dc, hgc, k6, p2, hst, List.length_map]
      repeat refine And.intro (by first | omega | rfl | kernel_rfl | (simp; done) | (simp; omega)) ?_
      rw [show (c : Int) + 1 = ((c + 1 : Nat) : Int) by omega]
      refine ainv hfin2 (Shift.weakS ?_ rfl)
      simp only [wk, go_sem]
    · have dc : decide ((c : Int) < (m : Int)) = false := by simp; omega
      clear hJ2
      refine goB (N := 105) Tryz.ntmps4 300 ?_
      simp only [go_sem, dc]
      refine pcall1 (htk) rfl (N := 105) Tryz.ntmps4 rfl (goB (N := 105) Tryz.ntmps4 300 ?_)
      simp only [go_sem]
      refine pcall1 (hsame) rfl (N := 105) Tryz.ntmps4 rfl (goB (N := 105) Tryz.ntmps4 300 ?_)
      simp only [go_sem]
      refine pcall1 (hrl) rfl (N := 105) Tryz.ntmps4 rfl (goB (N := 105) Tryz.ntmps4 300 ?_)
      simp only [go_sem]
      refine pcall1 (htks) rfl (N := 105) Tryz.ntmps4 rfl (goB (N := 105) Tryz.ntmps4 300 ?_)
      simp only [go_sem]
      exact aret [2] rfl ⟨rfl, rfl⟩
end Go.Proofs.YtkfpiadgjbhcpaaGreatDoor
