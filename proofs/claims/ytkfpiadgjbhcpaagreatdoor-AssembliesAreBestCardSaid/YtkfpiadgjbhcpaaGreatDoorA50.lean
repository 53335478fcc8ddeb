/- What is not covered, told anew. Own work of this seat. -/
import Derived.Test.YtkfpiadgjbhcpaaGreatDoorA49
import Derived.Test.YtkfpiadgjbhcpaaGreatDoorA22
set_option maxRecDepth 100000
set_option linter.unusedSimpArgs false
set_option linter.unusedVariables false
namespace Go.Proofs.YtkfpiadgjbhcpaaGreatDoor
open Go Go.Av Go.RowKit

set_option maxHeartbeats 4000000 in
theorem needed_pc (x : Sc) (hl : x.paras.length ≤ 60) : Pc Tryz.prog 101 [scA x] (· = .fz 1 (natA (needF 0 x.paras))) := by
  simp only [scA]
  refine pc_intro (ct_intro Tryz.func101 rfl Tryz.ntmps101 hB101 (by simp) fun h ρ w => goB (N := 28) Tryz.ntmps101 300 ?_)
  simp only [go_sem, List.length_map]
  refine aloop (ι := Nat) (fun y => x.paras.length - y)
    (fun y => [(9, .int .i64 y), (8, .int .i64 x.paras.length), (7, .fz 2 (x.paras.map paA)), (3, .sl 0 0 (needF 0 (x.paras.take y)).length (needF 0 (x.paras.take y)).length)])
    (fun y => [.arr 1 (natA (needF 0 (x.paras.take y)))]) (fun y => y ≤ x.paras.length) 0 (by simp) ?_ ?_
  · refine Shift.trans (Shift.nilsl 3 1 rfl) (Shift.weakS ?_ ?_)
    · simp only [wk, go_sem, List.length_map, List.take_zero, needF]
    · simp [natA, needF]
  intro i g1 J hJ
  have hnl := needF_len (x.paras.take i) 0
  rw [List.length_take] at hnl
  by_cases gi : i < x.paras.length
  · have di : decide ((i : Int) < (x.paras.length : Int)) = true := by simp; omega
    have hget := paA_get x.paras i gi
    have hstep := needF_step x.paras i gi
    have hfin := hJ (i + 1) (by omega) (by omega)
    rw [hstep] at hfin
    unfold isNeed at hfin
    generalize x.paras[i] = p at *
    generalize needF 0 (x.paras.take i) = u at *
    have hul : (natA u).length = u.length := by simp [natA]
    cases h1 : p.kind == 1 with
    | true =>
      simp only [h1, Bool.true_or, Bool.or_true, if_true, natA, List.map_append, List.length_append, List.map_cons, List.map_nil, List.length_cons, List.length_nil, Nat.zero_add] at hfin
      refine goB (N := 28) Tryz.ntmps101 300 ?_
      simp only [go_sem, di, hget, h1, List.length_map]
      repeat refine And.intro (by first | omega | rfl | exact .inl trivial | (simp; done) | (simp; omega)) ?_
      simp only [natA]
      refine goB (N := 28) Tryz.ntmps101 300 ?_
      simp only [go_sem, List.length_map]
      repeat refine And.intro (by first | omega | rfl | exact .inl trivial | (simp; done) | (simp; omega)) ?_
      rw [show (i : Int) + 1 = ((i + 1 : Nat) : Int) by omega]
      refine ainv hfin (Shift.low 1 (by simp) (by simp) ?_ ?_)
      · simp only [List.take_succ_cons, List.take_zero, List.all_cons, List.all_nil, lowB, flat, cellsOf, lowC, Av.frozen, List.append_nil, flat_append, List.all_append, low_all (ints_frz _), Bool.and_self]
      · simp only [wkl, lowV, lowC, Av.get, go_sem]
    | false =>
      cases h4 : p.kind == 4 with
      | true =>
        simp only [h1, h4, Bool.true_or, Bool.or_true, if_true, natA, List.map_append, List.length_append, List.map_cons, List.map_nil, List.length_cons, List.length_nil, Nat.zero_add] at hfin
        refine goB (N := 28) Tryz.ntmps101 300 ?_
        simp only [go_sem, di, hget, h1, h4, List.length_map]
        repeat refine And.intro (by first | omega | rfl | exact .inl trivial | (simp; done) | (simp; omega)) ?_
        simp only [natA]
        refine goB (N := 28) Tryz.ntmps101 300 ?_
        simp only [go_sem, List.length_map]
        repeat refine And.intro (by first | omega | rfl | exact .inl trivial | (simp; done) | (simp; omega)) ?_
        rw [show (i : Int) + 1 = ((i + 1 : Nat) : Int) by omega]
        refine ainv hfin (Shift.low 1 (by simp) (by simp) ?_ ?_)
        · simp only [List.take_succ_cons, List.take_zero, List.all_cons, List.all_nil, lowB, flat, cellsOf, lowC, Av.frozen, List.append_nil, flat_append, List.all_append, low_all (ints_frz _), Bool.and_self]
        · simp only [wkl, lowV, lowC, Av.get, go_sem]
      | false =>
        simp only [h1, h4, Bool.or_self, Bool.false_eq_true, if_false, List.append_nil] at hfin
        refine goB (N := 28) Tryz.ntmps101 300 ?_
        simp only [go_sem, di, hget, h1, h4, List.length_map]
        repeat refine And.intro (by first | omega | rfl | exact .inl trivial | (simp; done) | (simp; omega)) ?_
        rw [show (i : Int) + 1 = ((i + 1 : Nat) : Int) by omega]
        refine ainv hfin (Shift.low 1 (by simp) (by simp) ?_ ?_)
        · simp only [List.take_succ_cons, List.take_zero, List.all_cons, List.all_nil, lowB, natA, low_all (ints_frz _), Bool.and_self]
        · simp only [wkl, lowV, lowC, Av.get, go_sem]
  · have di : decide ((i : Int) < (x.paras.length : Int)) = false := by simp; omega
    rw [show x.paras.take i = x.paras from List.take_of_length_le (by omega)]
    clear hJ hnl
    generalize needF 0 x.paras = u
    refine AWp.shift (Shift.freeze 3 (id := 0) (l := natA u) rfl rfl (by simp [natA]) (Nat.le_refl _) (ints_frz _)) ?_
    have htk : List.take u.length (List.drop 0 (natA u)) = natA u := by rw [List.drop_zero, natA, List.take_of_length_le (by simp)]
    rw [htk]
    refine goB (N := 28) Tryz.ntmps101 300 ?_
    simp only [go_sem, di]
    exact aret [2] rfl ⟨rfl, rfl⟩
def cvZ : Cv := ⟨0, 0, 0, false⟩
def covT : Option Cv → AV
  | some c => .tup [cvA c, .bool true]
  | none => .tup [cvA cvZ, .bool false]
set_option maxHeartbeats 4000000 in
theorem coverOf_pc (t : Tk) (k : Int) (hl : t.covers.length ≤ 60) : Pc Tryz.prog 102 [tkA t, .int .i64 k] (· = covT (t.covers.find? fun c => c.para == k)) := by
  simp only [tkA]
  refine pc_intro (ct_intro Tryz.func102 rfl Tryz.ntmps102 hB102 (by simp) fun h ρ w => goB (N := 22) Tryz.ntmps102 300 ?_)
  simp only [go_sem, List.length_map]
  refine aloop (ι := Nat) (fun i => t.covers.length - i)
    (fun i => [(11, .int .i64 i), (10, .int .i64 t.covers.length), (9, .fz 4 (t.covers.map cvA)), (5, .bool false), (4, .ptr 0 1 0 0), (1, .int .i64 k)])
    (fun _ => [.arr 4 [.agg [.int .i64 0, .int .i64 0, .int .i64 0, .bool false]]]) (fun i => i ≤ t.covers.length ∧ ∀ j, (hj : j < t.covers.length) → j < i → (t.covers[j].para == k) = false) 0 ⟨by simp, fun j _ h => absurd h (by omega)⟩ ?_ ?_
  · refine Shift.weakS ?_ rfl
    simp only [wk, go_sem, List.length_map]
  rintro i ⟨g1, g2⟩ J hJ
  by_cases gi : i < t.covers.length
  · have di : decide ((i : Int) < (t.covers.length : Int)) = true := by simp; omega
    have hget := cvA_get t.covers i gi
    cases hp : t.covers[i].para == k with
    | true =>
      have hfi : t.covers.find? (fun c => c.para == k) = some t.covers[i] := by
        rw [List.find?_eq_some_iff_getElem]
        exact ⟨hp, i, gi, rfl, fun j hj => by simpa using g2 j (by omega) hj⟩
      rw [hfi]
      generalize t.covers[i] = c at *
      refine goB (N := 22) Tryz.ntmps102 300 ?_
      simp only [go_sem, di, hget, hp, List.length_map]
      repeat refine And.intro (by first | omega | rfl | (simp; done) | (simp; omega)) ?_
      exact aretc [.cell 4 61, .tmp 5] rfl [_, _] ⟨by simp only [go_sem, sideIs, cvA], by simp only [go_sem, sideIs], trivial⟩ ⟨rfl, rfl⟩
    | false =>
      have hfin := hJ (i + 1) ⟨by omega, fun j hj h => by
        rcases Nat.lt_or_ge j i with h2 | h2
        · exact g2 j hj h2
        · have : j = i := by omega
          subst this; exact hp⟩ (by omega)
      generalize t.covers[i] = c at *
      refine goB (N := 22) Tryz.ntmps102 300 ?_
      simp only [go_sem, di, hget, hp, List.length_map]
      repeat refine And.intro (by first | omega | rfl | (simp; done) | (simp; omega)) ?_
      rw [show (i : Int) + 1 = ((i + 1 : Nat) : Int) by omega]
      refine ainv hfin ?_
      refine Shift.low 1 (by simp) (by simp) ?_ ?_
      · simp only [List.take_succ_cons, List.take_zero, List.all_cons, List.all_nil, lowB, flat, cellsOf, lowC, Av.frozen, List.append_nil, List.cons_append, List.nil_append, Bool.and_self]
      · simp only [wkl, lowV, lowC, Av.get, go_sem]
  · have di : decide ((i : Int) < (t.covers.length : Int)) = false := by simp; omega
    have hfi : t.covers.find? (fun c => c.para == k) = none := by
      rw [List.find?_eq_none]
      intro c hc
      obtain ⟨j, hj, rfl⟩ := List.getElem_of_mem hc
      have := g2 j hj (by omega)
      simpa using this
    rw [hfi]
    refine goB (N := 22) Tryz.ntmps102 300 ?_
    simp only [go_sem, di]
    repeat refine And.intro (by first | omega | rfl | (simp; done) | (simp; omega)) ?_
    exact aretc [.cell 4 61, .tmp 5] rfl [_, _] ⟨by simp only [go_sem, sideIs, cvZ, cvA], by simp only [go_sem, sideIs], trivial⟩ ⟨rfl, rfl⟩
/-- how often a paragraph is covered -/
def cntU (l : List Tk) (no : List UInt8) (k : Nat) (j : Nat) : Nat := (partsU l no k j).length
def onU (l : List Tk) (no : List UInt8) (k : Nat) (j : Nat) : Nat := (partsU l no k j).countP fun q => q.cv.on
def cdA (l : List Tk) (no : List UInt8) (k : Nat) (j : Nat) : AV := .agg [.int .i64 k, .int .i64 (cntU l no k j), .int .i64 (cntU l no k j), .int .i64 (onU l no k j)]
theorem on_le (l : List Tk) (no : List UInt8) (k j : Nat) : onU l no k j ≤ j := Nat.le_trans List.countP_le_length (partsU_len j)
theorem cd_frz (l : List Tk) (no : List UInt8) : ∀ ks : List Nat, (flat (ks.map fun k => cdA l no k l.length)).all Av.frozen = true
  | [] => rfl
  | k :: r => by simpa [flat, cellsOf, cdA, Av.frozen] using cd_frz l no r
theorem cnt_none {l : List Tk} {no : List UInt8} {k j : Nat} (h : j < l.length) (hn : partU no k j l[j] = []) : cntU l no k (j + 1) = cntU l no k j ∧ onU l no k (j + 1) = onU l no k j := by
  unfold cntU onU
  rw [partsU_succ l no k j h, hn, List.append_nil]
  exact ⟨rfl, rfl⟩
theorem cnt_some {l : List Tk} {no : List UInt8} {k j : Nat} {c : Cv} (h : j < l.length) (hn : partU no k j l[j] = [⟨j, c⟩]) : cntU l no k (j + 1) = cntU l no k j + 1 ∧ onU l no k (j + 1) = onU l no k j + (if c.on then 1 else 0) := by
  unfold cntU onU
  rw [partsU_succ l no k j h, hn]
  simp [List.countP_append]
set_option maxHeartbeats 8000000 in
theorem coverageOf_pc (x : Sr) (l : List Tk) (i : Nat) (hi : i < x.scenes.length) (hp : x.scenes[i].paras.length ≤ 60) (hxl : x.scenes.length ≤ 5) (hll : l.length ≤ 15) (hcl : ∀ t ∈ l, t.covers.length ≤ 60) (hgd : ∀ t ∈ l, t.good = true) :
    Pc Tryz.prog 42 [srA x, .fz 9 (l.map tkA), .int .i64 i] (· = .fz 4 ((needF 0 x.scenes[i].paras).map fun k => cdA l x.scenes[i].no k l.length)) := by
  have hnd := needed_pc x.scenes[i] hp
  have hnl := needF_len x.scenes[i].paras 0
  have hget := scA_get x.scenes i hi
  obtain ⟨y, hy⟩ : ∃ y, y = x.scenes[i] := ⟨_, rfl⟩
  rw [← hy] at hnd hnl hget hp ⊢
  obtain ⟨ks, hks⟩ : ∃ ks, ks = needF 0 y.paras := ⟨_, rfl⟩
  rw [← hks] at hnd hnl ⊢
  have hkb : ∀ k ∈ ks, k < 100 := fun k hk => by
    rw [hks] at hk
    have := needF_mem _ _ k hk
    omega
  simp only [srA, scA] at hnd ⊢
  refine pc_intro (ct_intro Tryz.func42 rfl Tryz.ntmps42 hB42 (by simp) fun h ρ w => goB (N := 80) Tryz.ntmps42 300 ?_)
  simp only [go_sem, hget, List.length_map]
  repeat refine And.intro (by first | omega | rfl | (simp; done) | (simp; omega)) ?_
  refine pcall1 (hnd) rfl (N := 80) Tryz.ntmps42 rfl (goB (N := 80) Tryz.ntmps42 300 ?_)
  simp only [go_sem, natA_len]
  refine aloop (ι := Nat) (fun u => ks.length - u)
    (fun u => [(22, .int .i64 u), (21, .int .i64 ks.length), (20, .fz 1 (natA ks)), (7, .sl 0 0 u u), (3, .pin 2 [.agg [.str x.title, .fz 5 (x.scenes.map scA)]] 0 0), (1, .fz 9 (l.map tkA)), (2, .int .i64 i)])
    (fun u => [.arr 4 ((ks.take u).map fun k => cdA l y.no k l.length)]) (fun u => u ≤ ks.length) 0 (by simp) ?_ ?_
  · refine Shift.trans (Shift.nilsl 7 4 rfl) (Shift.weakS ?_ ?_)
    · simp only [wk, go_sem, natA_len]
    · simp
  intro u g1 J hJ
  by_cases gu : u < ks.length
  · have du : decide ((u : Int) < (ks.length : Int)) = true := by simp; omega
    have hgk := natA_get ks u gu
    have hfin := hJ (u + 1) (by omega) (by omega)
    rw [List.take_add_one, List.getElem?_eq_getElem gu] at hfin
    simp only [Option.toList, List.map_append, List.map_cons, List.map_nil] at hfin
    have hk100 := hkb _ (List.getElem_mem gu)
    generalize ks[u] = k at *
    have hol : ((ks.take u).map fun k => cdA l y.no k l.length).length = u := by simp; omega
    have hoz := cd_frz l y.no (ks.take u)
    generalize ((ks.take u).map fun k => cdA l y.no k l.length) = O at *
    clear hJ
    refine goB (N := 80) Tryz.ntmps42 300 ?_
    simp only [go_sem, du, hgk, natA_len, List.length_map]
    repeat refine And.intro (by first | omega | rfl | (simp; done) | (simp; omega)) ?_
    refine aloop (ι := Nat) (fun j => l.length - j)
      (fun j => [(30, .int .i64 j), (29, .int .i64 l.length), (28, .fz 9 (l.map tkA)), (10, .ptr 1 1 0 0), (9, .int .i64 k), (22, .int .i64 u), (21, .int .i64 ks.length), (20, .fz 1 (natA ks)), (7, .sl 0 0 u u), (3, .pin 2 [.agg [.str x.title, .fz 5 (x.scenes.map scA)]] 0 0), (1, .fz 9 (l.map tkA)), (2, .int .i64 i)])
      (fun j => [.arr 4 O, .arr 4 [.agg [.int .i64 k, .int .i64 (cntU l y.no k j), .int .i64 (cntU l y.no k j), .int .i64 (onU l y.no k j)]]]) (fun j => j ≤ l.length) 0 (by simp) ?_ ?_
    · refine Shift.weakS ?_ rfl
      simp only [wk, go_sem, List.length_map]
    intro j f1 J2 hJ2
    by_cases gj : j < l.length
    · have dj : decide ((j : Int) < (l.length : Int)) = true := by simp; omega
      have htg := tkA_get l j gj
      have hcov := coverOf_pc l[j] k (hcl _ (List.getElem_mem gj))
      have hgo := hgd _ (List.getElem_mem gj)
      have hfin2 := hJ2 (j + 1) (by omega) (by omega)
      have hn := fun h => cnt_none (no := y.no) (k := k) gj h
      have hs := fun c h => cnt_some (no := y.no) (k := k) (c := c) gj h
      have hcb : cntU l y.no k j ≤ j := partsU_len j
      have hob := on_le l y.no k j
      simp only [partU] at hn hs
      generalize l[j] = t at *
      rw [hgo] at htg
      simp only [tkA, hgo] at hcov
      clear hJ2
      cases hfi : t.covers.find? (fun c => c.para == (k : Int)) with
      | none =>
        rw [hfi] at hcov
        obtain ⟨q1, q2⟩ := hn (by simp only [hfi]; split <;> rfl)
        rw [q1, q2] at hfin2
        simp only [covT, cvA, cvZ] at hcov
        refine goB (N := 80) Tryz.ntmps42 300 ?_
        simp only [go_sem, dj, htg, List.length_map]
        repeat refine And.intro (by first | omega | rfl | (simp; done) | (simp; omega)) ?_
        refine pcall1 (hcov) rfl (N := 80) Tryz.ntmps42 rfl (goB (N := 80) Tryz.ntmps42 300 ?_)
        simp only [go_sem]
        refine adraw [] mixed (by decide) (N := 80) Tryz.ntmps42 (by decide) 100 ?_
        simp only [go_sem, htg, hget, List.length_map]
        repeat refine And.intro (by first | omega | rfl | (simp; done) | (simp; omega)) ?_
        refine goB (N := 80) Tryz.ntmps42 300 ?_
        simp only [go_sem]
        repeat refine And.intro (by first | omega | rfl | (simp; done) | (simp; omega)) ?_
        rw [show (j : Int) + 1 = ((j + 1 : Nat) : Int) by omega]
        refine ainv hfin2 ?_
        refine Shift.low 2 (by simp) (by simp) ?_ ?_
        · simp only [List.take_succ_cons, List.take_zero, List.all_cons, List.all_nil, lowB, low_all hoz, flat, cellsOf, lowC, Av.frozen, List.append_nil, List.cons_append, List.nil_append, Bool.and_self]
        · simp only [wkl, lowV, lowC, Av.get, go_sem]
      | some c =>
        rw [hfi] at hcov
        simp only [covT, cvA] at hcov
        cases hsc : t.scene == y.no with
        | false =>
          obtain ⟨q1, q2⟩ := hn (by simp [hsc])
          rw [q1, q2] at hfin2
          have hsn : (t.scene != y.no) = true := by simp [bne, hsc]
          refine goB (N := 80) Tryz.ntmps42 300 ?_
          simp only [go_sem, dj, htg, List.length_map]
          repeat refine And.intro (by first | omega | rfl | (simp; done) | (simp; omega)) ?_
          refine pcall1 (hcov) rfl (N := 80) Tryz.ntmps42 rfl (goB (N := 80) Tryz.ntmps42 300 ?_)
          simp only [go_sem]
          refine adraw [] mixed (by decide) (N := 80) Tryz.ntmps42 (by decide) 100 ?_
          simp only [go_sem, htg, hget, hsc, hsn, List.length_map]
          repeat refine And.intro (by first | omega | rfl | (simp; done) | (simp; omega)) ?_
          refine goB (N := 80) Tryz.ntmps42 300 ?_
          simp only [go_sem]
          repeat refine And.intro (by first | omega | rfl | (simp; done) | (simp; omega)) ?_
          rw [show (j : Int) + 1 = ((j + 1 : Nat) : Int) by omega]
          refine ainv hfin2 ?_
          refine Shift.low 2 (by simp) (by simp) ?_ ?_
          · simp only [List.take_succ_cons, List.take_zero, List.all_cons, List.all_nil, lowB, low_all hoz, flat, cellsOf, lowC, Av.frozen, List.append_nil, List.cons_append, List.nil_append, Bool.and_self]
          · simp only [wkl, lowV, lowC, Av.get, go_sem]
        | true =>
          obtain ⟨q1, q2⟩ := hs c (by simp [hsc, hfi])
          rw [q1, q2] at hfin2
          have hsn : (t.scene != y.no) = false := by simp [bne, hsc]
          cases hon : c.on with
          | false =>
            rw [hon] at hcov hfin2
            simp only [Bool.false_eq_true, if_false, Nat.add_zero, Int.natCast_add, Int.natCast_one] at hfin2
            refine goB (N := 80) Tryz.ntmps42 300 ?_
            simp only [go_sem, dj, htg, List.length_map]
            repeat refine And.intro (by first | omega | rfl | (simp; done) | (simp; omega)) ?_
            refine pcall1 (hcov) rfl (N := 80) Tryz.ntmps42 rfl (goB (N := 80) Tryz.ntmps42 300 ?_)
            simp only [go_sem]
            refine adraw [] mixed (by decide) (N := 80) Tryz.ntmps42 (by decide) 100 ?_
            simp only [go_sem, htg, hget, hsc, hsn, List.length_map]
            repeat refine And.intro (by first | omega | rfl | (simp; done) | (simp; omega)) ?_
            refine goB (N := 80) Tryz.ntmps42 300 ?_
            simp only [go_sem]
            repeat refine And.intro (by first | omega | rfl | (simp; done) | (simp; omega)) ?_
            refine ainv hfin2 ?_
            refine Shift.low 2 (by simp) (by simp) ?_ ?_
            · simp only [List.take_succ_cons, List.take_zero, List.all_cons, List.all_nil, lowB, low_all hoz, flat, cellsOf, lowC, Av.frozen, List.append_nil, List.cons_append, List.nil_append, Bool.and_self]
            · simp only [wkl, lowV, lowC, Av.get, go_sem]
          | true =>
            rw [hon] at hcov hfin2
            simp only [if_true, Int.natCast_add, Int.natCast_one] at hfin2
            refine goB (N := 80) Tryz.ntmps42 300 ?_
            simp only [go_sem, dj, htg, List.length_map]
            repeat refine And.intro (by first | omega | rfl | (simp; done) | (simp; omega)) ?_
            refine pcall1 (hcov) rfl (N := 80) Tryz.ntmps42 rfl (goB (N := 80) Tryz.ntmps42 300 ?_)
            simp only [go_sem]
            refine adraw [] mixed (by decide) (N := 80) Tryz.ntmps42 (by decide) 100 ?_
            simp only [go_sem, htg, hget, hsc, hsn, List.length_map]
            repeat refine And.intro (by first | omega | rfl | (simp; done) | (simp; omega)) ?_
            refine goB (N := 80) Tryz.ntmps42 300 ?_
            simp only [go_sem]
            repeat refine And.intro (by first | omega | rfl | (simp; done) | (simp; omega)) ?_
            refine ainv hfin2 ?_
            refine Shift.low 2 (by simp) (by simp) ?_ ?_
            · simp only [List.take_succ_cons, List.take_zero, List.all_cons, List.all_nil, lowB, low_all hoz, flat, cellsOf, lowC, Av.frozen, List.append_nil, List.cons_append, List.nil_append, Bool.and_self]
            · simp only [wkl, lowV, lowC, Av.get, go_sem]
    · have dj : decide ((j : Int) < (l.length : Int)) = false := by simp; omega
      have : j = l.length := by omega
      subst this
      simp only [cdA] at hfin
      refine goB (N := 80) Tryz.ntmps42 300 ?_
      simp only [go_sem, dj, hol]
      repeat refine And.intro (by first | omega | rfl | exact .inl rfl | exact .inl trivial | (simp; done) | (simp; omega)) ?_
      rw [show (u : Int) + 1 = ((u + 1 : Nat) : Int) by omega]
      refine ainv hfin ?_
      refine Shift.low 1 (by simp) (by simp) ?_ ?_
      · simp only [List.take_succ_cons, List.take_zero, List.all_cons, List.all_nil, lowB, flat_append, List.all_append, low_all hoz, flat, cellsOf, lowC, Av.frozen, List.append_nil, List.cons_append, List.nil_append, Bool.and_self]
      · simp only [wkl, lowV, lowC, Av.get, go_sem]
  · have hu : u = ks.length := by omega
    have du : decide ((u : Int) < (ks.length : Int)) = false := by simp; omega
    rw [show ks.take u = ks from List.take_of_length_le (by omega)]
    clear hJ
    refine AWp.shift (Shift.freeze 7 (id := 0) (l := ks.map fun k => cdA l y.no k l.length) rfl rfl (by simp; omega) (Nat.le_refl _) (cd_frz _ _ _)) ?_
    have htk : List.take u (List.drop 0 (ks.map fun k => cdA l y.no k l.length)) = ks.map fun k => cdA l y.no k l.length := by rw [List.drop_zero, List.take_of_length_le (by simp; omega)]
    rw [htk]
    refine goB (N := 80) Tryz.ntmps42 300 ?_
    simp only [go_sem, du]
    exact aret [6] rfl ⟨rfl, rfl⟩
end Go.Proofs.YtkfpiadgjbhcpaaGreatDoor
/- What has no good take, told anew. Own work of this seat. -/
set_option maxRecDepth 100000
set_option linter.unusedSimpArgs false
set_option linter.unusedVariables false
namespace Go.Proofs.YtkfpiadgjbhcpaaGreatDoor
open Go Go.Av Go.RowKit

/-- what some paragraphs of a scene lack -/
def missS (l : List Tk) (no : List UInt8) (i : Nat) (ks : List Nat) : List Spt := (ks.filter fun (k : Nat) => (partsU l no k l.length).isEmpty).map fun (k : Nat) => ⟨i, k, 0⟩
def missX (x : Sr) (l : List Tk) : Nat → List Spt
  | 0 => []
  | i + 1 => missX x l i ++ (match x.scenes[i]? with
    | some y => missS l y.no i (needF 0 y.paras)
    | none => [])
theorem missS_len (l : List Tk) (no : List UInt8) (i : Nat) (ks : List Nat) : (missS l no i ks).length ≤ ks.length := by
  unfold missS
  rw [List.length_map]
  exact List.length_filter_le _ _
theorem missS_step (l : List Tk) (no : List UInt8) (i : Nat) (ks : List Nat) (m : Nat) (h : m < ks.length) : missS l no i (ks.take (m + 1)) = missS l no i (ks.take m) ++ (if (partsU l no ks[m] l.length).isEmpty then [⟨i, ks[m], 0⟩] else []) := by
  unfold missS
  rw [List.take_add_one, List.getElem?_eq_getElem h, List.filter_append, List.map_append]
  congr 1
  simp only [Option.toList, List.filter_cons, List.filter_nil]
  split <;> rfl
theorem missX_succ (x : Sr) (l : List Tk) (i : Nat) (h : i < x.scenes.length) : missX x l (i + 1) = missX x l i ++ missS l x.scenes[i].no i (needF 0 x.scenes[i].paras) := by
  simp only [missX, List.getElem?_eq_getElem h]
theorem missX_len (x : Sr) (l : List Tk) (hp : ∀ i (h : i < x.scenes.length), x.scenes[i].paras.length ≤ 60) : ∀ i, i ≤ x.scenes.length → (missX x l i).length ≤ 60 * i
  | 0, _ => by simp [missX]
  | i + 1, h => by
    have ih := missX_len x l hp i (by omega)
    rw [missX_succ x l i (by omega), List.length_append]
    have h1 := missS_len l x.scenes[i].no i (needF 0 x.scenes[i].paras)
    have h2 := needF_len x.scenes[i].paras 0
    have h3 := hp i (by omega)
    omega
theorem missX_mono {x : Sr} {l : List Tk} {s : Spt} : ∀ {j i : Nat}, i ≤ j → s ∈ missX x l i → s ∈ missX x l j
  | 0, i, h, hs => by rw [show i = 0 by omega] at hs; exact hs
  | j + 1, i, h, hs => by
    rcases Nat.lt_or_ge i (j + 1) with h1 | h1
    · simp only [missX, List.mem_append]
      exact .inl (missX_mono (by omega) hs)
    · rw [show i = j + 1 by omega] at hs; exact hs
/-- a scene whose rows are not all covered is told -/
theorem miss_any {x : Sr} {l : List Tk} {i : Nat} (hi : i < x.scenes.length) (h : ¬ ∀ z ∈ rowsU x.scenes[i] l, z.2 ≠ []) : (missX x l x.scenes.length).any (fun s => s.scene == (i : Int)) = true := by
  obtain ⟨z, hz⟩ := Classical.not_forall.1 h
  obtain ⟨hz1, hz2⟩ := Classical.not_imp.1 hz
  obtain ⟨k, hk, rfl⟩ := List.mem_map.1 hz1
  simp only [ne_eq, Classical.not_not] at hz2
  rw [List.any_eq_true]
  refine ⟨⟨i, k, 0⟩, missX_mono (i := i + 1) (by omega) ?_, by simp⟩
  rw [missX_succ x l i hi, List.mem_append]
  right
  refine List.mem_map.2 ⟨k, List.mem_filter.2 ⟨hk, ?_⟩, rfl⟩
  rw [hz2]; rfl
theorem spt_frz : ∀ l : List Spt, (flat (l.map sptA)).all Av.frozen = true
  | [] => rfl
  | x :: r => by simpa [flat, cellsOf, sptA, Av.frozen] using spt_frz r
theorem cd_get (l : List Tk) (no : List UInt8) (ks : List Nat) (m : Nat) (h : m < ks.length) : List.getD (ks.map fun k => cdA l no k l.length) m .any = .agg [.int .i64 (ks[m] : Nat), .int .i64 (cntU l no ks[m] l.length), .int .i64 (cntU l no ks[m] l.length), .int .i64 (onU l no ks[m] l.length)] := by simp [List.getD, h, cdA]
set_option maxHeartbeats 8000000 in
theorem missingOf_pc (x : Sr) (l : List Tk) (hp : ∀ i (h : i < x.scenes.length), x.scenes[i].paras.length ≤ 60) (hxl : x.scenes.length ≤ 5) (hll : l.length ≤ 15) (hcl : ∀ t ∈ l, t.covers.length ≤ 60) (hgd : ∀ t ∈ l, t.good = true) :
    Pc Tryz.prog 10 [srA x, .fz 9 (l.map tkA)] (· = .fz 3 ((missX x l x.scenes.length).map sptA)) := by
  have hcv := fun i hi => coverageOf_pc x l i hi (hp i hi) hxl hll hcl hgd
  have hml := missX_len x l hp
  simp only [srA] at hcv ⊢
  refine pc_intro (ct_intro Tryz.func10 rfl Tryz.ntmps10 hB10 (by simp) fun h ρ w => goB (N := 37) Tryz.ntmps10 300 ?_)
  simp only [go_sem, List.length_map]
  refine aloop (ι := Nat) (fun u => x.scenes.length - u)
    (fun u => [(12, .int .i64 u), (11, .int .i64 x.scenes.length), (5, .sl 0 0 (missX x l u).length (missX x l u).length), (2, .pin 2 [.agg [.str x.title, .fz 5 (x.scenes.map scA)]] 0 0), (1, .fz 9 (l.map tkA))])
    (fun u => [.arr 3 ((missX x l u).map sptA)]) (fun u => u ≤ x.scenes.length) 0 (by simp) ?_ ?_
  · refine Shift.trans (Shift.nilsl 5 3 rfl) (Shift.weakS ?_ ?_)
    · simp only [wk, go_sem, List.length_map, missX, List.length_nil]
    · simp [missX]
  intro u g1 J hJ
  have hmu := hml u g1
  by_cases gu : u < x.scenes.length
  · have du : decide ((u : Int) < (x.scenes.length : Int)) = true := by simp; omega
    have hcu := hcv u gu
    have hfin := hJ (u + 1) (by omega) (by omega)
    rw [missX_succ x l u gu] at hfin
    have hpu := hp u gu
    have hnl := needF_len x.scenes[u].paras 0
    generalize x.scenes[u] = y at *
    obtain ⟨ks, hks⟩ : ∃ ks, ks = needF 0 y.paras := ⟨_, rfl⟩
    rw [← hks] at hcu hfin hnl
    generalize missX x l u = M at *
    clear hJ
    refine goB (N := 37) Tryz.ntmps10 300 ?_
    simp only [go_sem, du, List.length_map]
    refine pcall1 (hcu) rfl (N := 37) Tryz.ntmps10 rfl (goB (N := 37) Tryz.ntmps10 300 ?_)
    simp only [go_sem, List.length_map]
    refine aloop (ι := Nat) (fun m => ks.length - m)
      (fun m => [(20, .int .i64 m), (19, .int .i64 ks.length), (18, .fz 4 (ks.map fun k => cdA l y.no k l.length)), (6, .int .i64 u), (12, .int .i64 u), (11, .int .i64 x.scenes.length), (5, .sl 0 0 (M ++ missS l y.no u (ks.take m)).length (M ++ missS l y.no u (ks.take m)).length), (2, .pin 2 [.agg [.str x.title, .fz 5 (x.scenes.map scA)]] 0 0), (1, .fz 9 (l.map tkA))])
      (fun m => [.arr 3 ((M ++ missS l y.no u (ks.take m)).map sptA)]) (fun m => m ≤ ks.length) 0 (by simp) ?_ ?_
    · refine Shift.weakS ?_ ?_
      · simp only [wk, go_sem, List.length_map, List.take_zero, missS, List.filter_nil, List.map_nil, List.append_nil]
      · simp [missS]
    intro m f1 J2 hJ2
    have hsl := missS_len l y.no u (ks.take m)
    rw [List.length_take] at hsl
    by_cases gm : m < ks.length
    · have dm : decide ((m : Int) < (ks.length : Int)) = true := by simp; omega
      have hcg := cd_get l y.no ks m gm
      have hfin2 := hJ2 (m + 1) (by omega) (by omega)
      rw [missS_step l y.no u ks m gm, ← List.append_assoc] at hfin2
      have hel : (M ++ missS l y.no u (ks.take m)).length ≤ 100000 := by rw [List.length_append]; omega
      have hez := spt_frz (M ++ missS l y.no u (ks.take m))
      generalize M ++ missS l y.no u (ks.take m) = E at *
      generalize ks[m] = k at *
      clear hJ2
      cases hb : (partsU l y.no k l.length).isEmpty with
      | true =>
        have hz : ((cntU l y.no k l.length : Nat) : Int) == 0 := by
          rw [List.isEmpty_iff] at hb
          simp [cntU, hb]
        rw [hb] at hfin2
        simp only [if_true, List.length_append, List.length_cons, List.length_nil, List.map_append, List.map_cons, List.map_nil, sptA] at hfin2
        refine goB (N := 37) Tryz.ntmps10 300 ?_
        simp only [go_sem, dm, hcg, hz, List.length_map]
        repeat refine And.intro (by first | omega | rfl | exact .inl rfl | exact .inl trivial | (simp; done) | (simp; omega)) ?_
        rw [show (m : Int) + 1 = ((m + 1 : Nat) : Int) by omega]
        refine ainv hfin2 ?_
        refine Shift.low 1 (by simp) (by simp) ?_ ?_
        · simp only [List.take_succ_cons, List.take_zero, List.all_cons, List.all_nil, lowB, flat_append, List.all_append, low_all hez, flat, cellsOf, lowC, Av.frozen, List.append_nil, List.cons_append, List.nil_append, Bool.and_self]
        · simp only [wkl, lowV, lowC, Av.get, go_sem]
      | false =>
        have hz : (((cntU l y.no k l.length : Nat) : Int) == 0) = false := by
          cases hq : partsU l y.no k l.length with
          | nil => rw [hq] at hb; cases hb
          | cons a b => simp [cntU, hq]; omega
        rw [hb] at hfin2
        simp only [Bool.false_eq_true, if_false, List.append_nil] at hfin2
        refine goB (N := 37) Tryz.ntmps10 300 ?_
        simp only [go_sem, dm, hcg, hz, List.length_map]
        repeat refine And.intro (by first | omega | rfl | exact .inl rfl | exact .inl trivial | (simp; done) | (simp; omega)) ?_
        rw [show (m : Int) + 1 = ((m + 1 : Nat) : Int) by omega]
        refine ainv hfin2 ?_
        refine Shift.low 1 (by simp) (by simp) ?_ ?_
        · simp only [List.take_succ_cons, List.take_zero, List.all_cons, List.all_nil, lowB, low_all hez, flat, cellsOf, lowC, Av.frozen, List.append_nil, List.cons_append, List.nil_append, Bool.and_self]
        · simp only [wkl, lowV, lowC, Av.get, go_sem]
    · have dm : decide ((m : Int) < (ks.length : Int)) = false := by simp; omega
      rw [show ks.take m = ks from List.take_of_length_le (by omega)] at hsl ⊢
      clear hJ2
      refine goB (N := 37) Tryz.ntmps10 300 ?_
      simp only [go_sem, dm]
      repeat refine And.intro (by first | omega | rfl | (simp; done) | (simp; omega)) ?_
      rw [show (u : Int) + 1 = ((u + 1 : Nat) : Int) by omega]
      refine ainv hfin (Shift.weakS ?_ rfl)
      simp only [wk, go_sem]
  · have hu : u = x.scenes.length := by omega
    have du : decide ((u : Int) < (x.scenes.length : Int)) = false := by simp; omega
    subst hu
    clear hJ
    refine AWp.shift (Shift.freeze 5 (id := 0) (l := (missX x l x.scenes.length).map sptA) rfl rfl (by simp) (Nat.le_refl _) (spt_frz _)) ?_
    have htk : List.take (missX x l x.scenes.length).length (List.drop 0 ((missX x l x.scenes.length).map sptA)) = (missX x l x.scenes.length).map sptA := by rw [List.drop_zero, List.take_of_length_le (by simp)]
    rw [htk]
    refine goB (N := 37) Tryz.ntmps10 300 ?_
    simp only [go_sem, du]
    exact aret [4] rfl ⟨rfl, rfl⟩
theorem bestFn_pc (s : Spt) (i : Nat) : Pc Tryz.prog 11 [sptA s, .pin 1 [.int .i64 i] 0 0] (· = .bool (s.scene == (i : Int))) := by
  simp only [sptA]
  refine pc_intro (ct_intro Tryz.func11 rfl Tryz.ntmps11 hB11 (by simp) fun h ρ w => goB (N := 8) Tryz.ntmps11 300 ?_)
  simp only [go_sem]
  exact aret [3] rfl ⟨rfl, rfl⟩
theorem showsFn_pc (c : Cv) (ks : List Nat) (k : Nat) (hk : k < ks.length) (at' : Int) : Pc Tryz.prog 44 [cvA c, .pin 1 [.fz 1 (natA ks)] 0 0, .pin 1 [.int .i64 k] 0 0, .pin 1 [.int .i64 at'] 0 0] (· = .bool (c.para == (ks[k] : Nat) && c.inn == at')) := by
  have hg := natA_get ks k hk
  simp only [cvA]
  refine pc_intro (ct_intro Tryz.func44 rfl Tryz.ntmps44 hB44 (by simp) fun h ρ w => goB (N := 19) Tryz.ntmps44 300 ?_)
  simp only [go_sem]
  cases h1 : c.para == ((ks[k] : Nat) : Int) with
  | false =>
    refine adraw [] mixed (by decide) (N := 19) Tryz.ntmps44 (by decide) 100 ?_
    simp only [go_sem, hg, h1, natA_len]
    repeat refine And.intro (by first | omega | rfl | (simp; done) | (simp; omega)) ?_
    refine goB (N := 19) Tryz.ntmps44 300 ?_
    simp only [go_sem]
    exact aret [5] rfl ⟨by simp [resV, Av.get, Av.put], rfl⟩
  | true =>
    refine adraw [] mixed (by decide) (N := 19) Tryz.ntmps44 (by decide) 100 ?_
    simp only [go_sem, hg, h1, natA_len]
    repeat refine And.intro (by first | omega | rfl | (simp; done) | (simp; omega)) ?_
    refine goB (N := 19) Tryz.ntmps44 300 ?_
    simp only [go_sem]
    exact aret [5] rfl ⟨by simp [resV, Av.get, Av.put], rfl⟩
end Go.Proofs.YtkfpiadgjbhcpaaGreatDoor
