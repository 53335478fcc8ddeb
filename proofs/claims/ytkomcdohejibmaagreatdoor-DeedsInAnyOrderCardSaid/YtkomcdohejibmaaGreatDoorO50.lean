/- What departments have: Parts, Deeds. Own work of this seat. -/
import Derived.Test.YtkomcdohejibmaaGreatDoorO48
import Derived.Test.YtkomcdohejibmaaGreatDoorO49
import Derived.Test.YtkomcdohejibmaaGreatDoorO40
import Derived.Test.YtkomcdohejibmaaGreatDoorO23
import Derived.Test.YtkomcdohejibmaaGreatDoorO31
import Derived.Test.YtkomcdohejibmaaGreatDoorO46
import Derived.Test.YtkomcdohejibmaaGreatDoorO32
set_option maxRecDepth 100000
set_option linter.unusedSimpArgs false
set_option linter.unusedVariables false
namespace Go.Proofs.YtkomcdohejibmaaGreatDoor
open Go Go.Av Go.RowKit

def psA (p : List De) : AV := .fz 7 (p.map deA)
theorem psA_frz : ∀ l : List (List De), (flat (l.map psA)).all Av.frozen = true
  | [] => rfl
  | a :: l => by simp only [List.map_cons, flat, psA, cellsOf, List.cons_append, List.nil_append, List.all_cons, Av.frozen, psA_frz l, Bool.and_self]
theorem psA_get (ps : List (List De)) (j : Nat) (h : j < ps.length) : List.getD (ps.map psA) j .any = .fz 7 (ps[j].map deA) := by simp [List.getD, h, psA]
theorem psA_set (ps : List (List De)) (j : Nat) (l : List De) : (ps.map psA).set j (.fz 7 (l.map deA)) = (ps.set j l).map psA := by simp [List.map_set, psA]
theorem psA_one (ps : List (List De)) : ∀ x ∈ ps.map psA, (cellsOf x).length = 1 := by
  intro x hx
  obtain ⟨p, _, rfl⟩ := List.mem_map.1 hx
  rfl
theorem badD_key : ∀ x ∈ badD, keyL x = false := by decide
/-- the sizes of a deed that is added -/
theorem add_sz {l : List De} {d : De} (h : CkOk l) (hk : keyL d.st.dept = true) (hz : SzD d) : SzD (addD l d.st.dept d.kind d.paper d.text d.person) := by
  have hv := vec_ok h.srt
  refine ⟨?_, by have := keyL_le hk; simp only [addD]; omega, hz.paper, hz.text, hz.person, fun s hs => ?_⟩
  · have h1 := vec_len l
    have h2 : (addSeen (vecL l) d.st.dept).length ≤ (vecL l).length := List.length_filter_le _ _
    have := h.len
    simp only [addD]
    omega
  · obtain ⟨x, hx, rfl⟩ := hv.mem s (List.mem_filter.1 hs).1
    have := keyL_le (h.key hx)
    omega
theorem perm_mem {l l' : List De} {d : De} (h : l'.Perm (l ++ [d])) (e : De) : e ∈ l' ↔ e ∈ l ∨ e = d := by
  rw [h.mem_iff, List.mem_append, List.mem_singleton]

set_option maxHeartbeats 8000000 in
theorem parts_mch {S : Std} (hS : LibD S) (L : List Int) (k : Int) (h3 : 0 ≤ k) (h4 : k ≤ 1000) :
    McH Tryz.prog S 14 2 (str L k) [] (fun r s => ∃ (ps : List (List De)) (G : List De) (k' : Int), r = .fz 1 (ps.map psA) ∧ Hist 15 G ps ∧ s = str L k' ∧ k ≤ k' ∧ k' ≤ k + 1000) := by
  have hdp := depts_pc
  refine cth_intro Tryz.func14 rfl Tryz.ntmps14 hB14 (by simp) fun h ρ w hg => goB (N := 59) Tryz.ntmps14 300 ?_
  simp only [go_sem]
  repeat refine And.intro (by first | omega | rfl | exact .inl rfl | exact .inl trivial | (simp; done) | (simp; omega)) ?_
  refine mcall (next_mc L k 16 (by omega) (by omega) h3 (by omega)) rfl rfl (id := 0) rfl (N := 59) Tryz.ntmps14 rfl ?_
  rintro _ _ ⟨⟨v, rfl, hv0, hv1⟩, rfl⟩
  refine goB (N := 59) Tryz.ntmps14 300 ?_
  simp only [go_sem]
  refine aloop (ι := Nat × List (List De) × List De × Int) (fun y => v.toNat - y.1) (fun y => [(12, .int .i64 y.1), (11, .int .i64 v), (3, .sl 1 0 3 3), (0, .ptr 0 1 0 0)])
    (fun y => [.arr 2 [str L y.2.2.2], .arr 1 (y.2.1.map psA)]) (fun y => (y.1 : Int) ≤ v ∧ Hist y.1 y.2.2.1 y.2.1 ∧ k ≤ y.2.2.2 ∧ y.2.2.2 ≤ k + 1 + 40 * y.1) (0, [[], [], []], [], k + 1) ⟨by simp; omega, hist_nil, by simp only; omega, by simp⟩ ?_ ?_
  · refine Shift.trans (Shift.cells 1 1 ([[], [], []].map psA) rfl rfl (psA_one _) ⟨.fz, .fz, .fz, trivial⟩) (Shift.low 2 (by simp) (by simp) ?_ ?_)
    · rfl
    · simp only [wkl, lowV, lowC, Av.get, go_sem]
  rintro ⟨i, ps, G, kk⟩ ⟨g1, g2, g3, g4⟩ J hJ
  simp only at g1 g2 g3 g4 hJ ⊢
  by_cases gi : (i : Int) < v
  · have di : decide ((i : Int) < v) = true := by simpa using gi
    refine goB (N := 59) Tryz.ntmps14 300 ?_
    simp only [go_sem, di]
    refine mcall (next_mc L kk 3 (by omega) (by omega) (by omega) (by omega)) rfl rfl (id := 0) rfl (N := 59) Tryz.ntmps14 rfl ?_
    rintro _ _ ⟨⟨q, rfl, hq0, hq1⟩, rfl⟩
    obtain ⟨j, rfl⟩ : ∃ j : Nat, q = j := ⟨q.toNat, by omega⟩
    have hjp : j < ps.length := by rw [g2.len]; omega
    have hmj := List.getElem_mem hjp
    have hga := psA_get ps j hjp
    have hszj := g2.szl (by omega) hmj
    have hlej := g2.le hmj
    have hpl : (ps.map psA).length = 3 := by rw [List.length_map, g2.len]
    refine goB (N := 59) Tryz.ntmps14 300 ?_
    simp only [go_sem]
    refine mcall (flip_mc L (kk + 1) 3 (by decide) (by decide) (by omega) (by omega)) rfl rfl (id := 0) rfl (N := 59) Tryz.ntmps14 rfl ?_
    rintro _ _ ⟨⟨b, rfl⟩, rfl⟩
    cases b with
    | true =>
      refine goB (N := 59) Tryz.ntmps14 300 ?_
      simp only [go_sem]
      refine adrawC [6, 9] 0 [] mixed (by decide) (N := 59) Tryz.ntmps14 (by decide) 100 ?_
      simp only [go_sem, Go.Av.dxn, Go.Av.dxnc, ↓Go.Av.dbrn_true, ↓Go.Av.dbrn_false, Go.Av.dbrn, hga, hpl]
      repeat refine And.intro (by first | omega | rfl | exact .inl rfl | exact .inl trivial | (simp; done) | (simp; omega)) ?_
      refine icc_mc (next_mc L (kk + 1 + 1) 3 (by omega) (by omega) (by omega) (by omega)) rfl rfl rfl ⟨.int .i64 0, str L (kk + 1 + 1 + 1), ⟨⟨0, rfl, by omega, by omega⟩, rfl⟩, rfl⟩ ?_
      rintro _ _ ⟨⟨q2, rfl, hq20, hq21⟩, rfl⟩
      obtain ⟨j2, rfl⟩ : ∃ j : Nat, q2 = j := ⟨q2.toNat, by omega⟩
      have hjp2 : j2 < ps.length := by rw [g2.len]; omega
      have hmj2 := List.getElem_mem hjp2
      have hga2 := psA_get ps j2 hjp2
      have hszj2 := g2.szl (by omega) hmj2
      have hlej2 := g2.le hmj2
      simp only [go_sem, Go.Av.dxn, Go.Av.dxnc, ↓Go.Av.dbrn_true, ↓Go.Av.dbrn_false, Go.Av.dbrn, hga, hga2, hpl]
      repeat refine And.intro (by first | omega | rfl | exact .inl rfl | exact .inl trivial | (simp; done) | (simp; omega)) ?_
      refine icc_pch hg (joinOf_pch hS ps[j] ps[j2] hszj hszj2 (by omega)) rfl ⟨_, [], 1, rfl, fun _ => rfl, fun h => absurd h (by decide)⟩ ?_
      rintro _ ⟨l, n, rfl, hn0, hn⟩
      simp only [go_sem, Go.Av.dxn, Go.Av.dxnc, ↓Go.Av.dbrn_true, ↓Go.Av.dbrn_false, Go.Av.dbrn]
      have hset := psA_set ps j l
      cases e0 : n == 0 with
      | true =>
        have hn' := hn (by simpa using e0)
        have hfin := hJ (i + 1, ps.set j l, G, kk + 1 + 1 + 1) ⟨by simp only; omega, (g2.join (List.getElem?_eq_getElem hjp) hmj2 hn'.1 hn'.2).mono (by simp only; omega), by simp only; omega, by simp only; omega⟩ (by simp only; omega)
        simp only at hfin
        refine goB (N := 59) Tryz.ntmps14 300 ?_
        simp only [go_sem, e0, hga, hpl, hset]
        repeat refine And.intro (by first | omega | rfl | exact .inl rfl | exact .inl trivial | (simp; done) | (simp; omega)) ?_
        rw [show (i : Int) + 1 = ((i + 1 : Nat) : Int) by omega]
        refine ainv hfin (Shift.weakS ?_ rfl)
        simp only [wk, go_sem]
      | false =>
        have hfin := hJ (i + 1, ps, G, kk + 1 + 1 + 1) ⟨by simp only; omega, g2.mono (by simp only; omega), by simp only; omega, by simp only; omega⟩ (by simp only; omega)
        simp only at hfin
        refine goB (N := 59) Tryz.ntmps14 300 ?_
        simp only [go_sem, e0, hpl]
        repeat refine And.intro (by first | omega | rfl | exact .inl rfl | exact .inl trivial | (simp; done) | (simp; omega)) ?_
        rw [show (i : Int) + 1 = ((i + 1 : Nat) : Int) by omega]
        refine ainv hfin (Shift.weakS ?_ rfl)
        simp only [wk, go_sem]
    | false =>
      have hjd : j < deptL.length := by show j < 3; omega
      have hdl : (deptL.map AV.str).length = 3 := rfl
      have hgd : List.getD (deptL.map AV.str) j .any = .str deptL[j] := by simp [List.getD, hjd]
      have hdn : deptL[j].length ≤ 10 := short_mem (l := deptL) (by decide) (List.getElem_mem hjd)
      have hdj : deptL[j]? = some deptL[j] := List.getElem?_eq_getElem hjd
      generalize deptL[j] = dn at *
      refine goB (N := 59) Tryz.ntmps14 300 ?_
      simp only [go_sem]
      refine adrawC [9, 10] 0 [.fz 1 (deptL.map .str)] mixed (by decide) (N := 59) Tryz.ntmps14 (by decide) 100 ?_
      simp only [go_sem, Go.Av.dxn, Go.Av.dxnc, ↓Go.Av.dbrn_true, ↓Go.Av.dbrn_false, Go.Av.dbrn, hga, hpl, hdl, hgd]
      repeat refine And.intro (by first | exact hdp.at | omega | rfl | exact .inl rfl | exact .inl trivial | (simp; done) | (simp; omega)) ?_
      refine icc_mch hg (deed_mch (S := S) L (kk + 1 + 1) dn hdn (by omega) (by omega)) rfl rfl rfl ⟨deA ⟨⟨dn, 0⟩, [], 0, [], [], []⟩, str L (kk + 1 + 1), ⟨_, _, rfl, ⟨by simp, by simp only; omega, by simp, by simp, by simp, by simp⟩, rfl, .inl rfl, rfl, by omega, by omega⟩, rfl⟩ ?_
      rintro _ _ ⟨d, k', rfl, hsz, hseen, hdd, rfl, hk1, hk2⟩
      simp only [go_sem, Go.Av.dxn, Go.Av.dxnc, ↓Go.Av.dbrn_true, ↓Go.Av.dbrn_false, Go.Av.dbrn]
      refine icc_pch hg (putOf_pch hS ps[j] d hszj (by omega) hsz) rfl ⟨_, [], 1, rfl, fun _ => rfl, fun h => absurd h (by decide)⟩ ?_
      rintro _ ⟨l, n, rfl, hn0, hn⟩
      simp only [go_sem, Go.Av.dxn, Go.Av.dxnc, ↓Go.Av.dbrn_true, ↓Go.Av.dbrn_false, Go.Av.dbrn]
      have hset := psA_set ps j l
      cases e0 : n == 0 with
      | true =>
        obtain ⟨c0, c1, c2, c3, c4, c5⟩ := hn (by simpa using e0)
        have hdept : d.st.dept = dn := by
          rcases hdd with h | h
          · exact h
          · rw [badD_key _ h] at c2; cases c2
        have hm := perm_mem c5
        have hok := add_ok c0 d.st.dept d.kind d.paper d.text d.person
        have hck := add_law c0 hok c1 c2 c3 c4 hm (by rw [c5.length_eq]; simp; omega)
        have hfin := hJ (i + 1, ps.set j l, _, k') ⟨by simp only; omega, g2.put (List.getElem?_eq_getElem hjp) (by rw [hdj, ← hdept]; rfl) hok (fun y hy e => by
          rcases knows_iff.1 (hok.all y hy) with h | ⟨x, hx, h1, h2⟩
          · exact h.2
          · exact absurd (h1.trans e) (hok.sok.own x hx).1) hck hm (add_sz c0 c2 hsz), by simp only; omega, by simp only; omega⟩ (by simp only; omega)
        simp only at hfin
        refine goB (N := 59) Tryz.ntmps14 300 ?_
        simp only [go_sem, e0, hga, hpl, hset]
        repeat refine And.intro (by first | omega | rfl | exact .inl rfl | exact .inl trivial | (simp; done) | (simp; omega)) ?_
        rw [show (i : Int) + 1 = ((i + 1 : Nat) : Int) by omega]
        refine ainv hfin (Shift.weakS ?_ rfl)
        simp only [wk, go_sem]
      | false =>
        have hfin := hJ (i + 1, ps, G, k') ⟨by simp only; omega, g2.mono (by simp only; omega), by simp only; omega, by simp only; omega⟩ (by simp only; omega)
        simp only at hfin
        refine goB (N := 59) Tryz.ntmps14 300 ?_
        simp only [go_sem, e0, hpl]
        repeat refine And.intro (by first | omega | rfl | exact .inl rfl | exact .inl trivial | (simp; done) | (simp; omega)) ?_
        rw [show (i : Int) + 1 = ((i + 1 : Nat) : Int) by omega]
        refine ainv hfin (Shift.weakS ?_ rfl)
        simp only [wk, go_sem]
  · have di : decide ((i : Int) < v) = false := by simp; omega
    have htk : ((ps.map psA).drop 0).take 3 = ps.map psA := by rw [List.drop_zero, List.take_of_length_le (by rw [List.length_map, g2.len]; omega)]
    clear hJ
    refine goB (N := 59) Tryz.ntmps14 300 ?_
    simp only [go_sem, di]
    exact ARet.shift (Shift.freeze 2 (id := 1) (l := ps.map psA) rfl rfl (by rw [List.length_map, g2.len]) (Nat.le_refl _) (psA_frz _)) (aret [2] rfl ⟨str L kk, [.dead], rfl, ⟨ps, G, kk, by simp only [resV, Av.get, Av.put, beq_self_eq_true, cond_true, htk], g2.mono (by omega), rfl, by omega, by omega⟩, rfl, rfl⟩)

end Go.Proofs.YtkomcdohejibmaaGreatDoor
/- The law DeedsByDifferences, walked. Own work of this seat. -/
set_option maxRecDepth 100000
set_option linter.unusedSimpArgs false
set_option linter.unusedVariables false
namespace Go.Proofs.YtkomcdohejibmaaGreatDoor
open Go Go.Av Go.RowKit

theorem deedsB_pc : Pc Tryz.prog 13 [] (· = .bool true) := by
  have hadd := (add_pc [] [97, 114, 116] 1 [112, 108, 97, 110] [120, 10] [] ⟨by simp, by simp⟩ (by simp) (by simp) (by simp) (by simp) (by simp)).nilarg
  refine pc_intro (ct_intro Tryz.func13 rfl Tryz.ntmps13 hB13 (by simp) fun h ρ w => goB (N := 14) Tryz.ntmps13 300 ?_)
  simp only [go_sem]
  refine pcall (hadd) rfl (N := 14) Tryz.ntmps13 rfl ?_
  rintro _ ⟨l', n, rfl, h1, h2⟩
  have hn : n = 0 := h2 ckOk_nil (by simp) (by decide) (by decide) (.inl rfl)
  subst hn
  have hl := (h1 rfl).2.2.2.2.2.length_eq
  simp only [List.nil_append, List.length_cons, List.length_nil, Nat.zero_add] at hl
  refine goB (N := 14) Tryz.ntmps13 300 ?_
  simp only [go_sem, List.length_map, hl]
  repeat refine And.intro (by first | omega | rfl | (simp; done) | (simp; omega)) ?_
  exact aret [0] rfl ⟨rfl, rfl⟩
end Go.Proofs.YtkomcdohejibmaaGreatDoor
/- Orders that are drawn; the law DeedsInAnyOrder, walked. Own work of this seat. -/
set_option maxRecDepth 100000
set_option linter.unusedSimpArgs false
set_option linter.unusedVariables false
namespace Go.Proofs.YtkomcdohejibmaaGreatDoor
open Go Go.Av Go.RowKit

def inA (n : Nat) : AV := .int .i64 n
theorem inA_get (l : List Nat) (i : Nat) (h : i < l.length) : (l.map inA).getD i .any = .int .i64 l[i] := by simp [List.getD, h, inA]
theorem inA_set (l : List Nat) (i x : Nat) : (l.map inA).set i (.int .i64 x) = (l.set i x).map inA := by rw [List.map_set]; rfl
theorem inA_frz : ∀ l : List Nat, (flat (l.map inA)).all Av.frozen = true
  | [] => rfl
  | a :: l => by simp only [List.map_cons, flat, inA, cellsOf, List.cons_append, List.nil_append, List.all_cons, Av.frozen, inA_frz l, Bool.and_self]
set_option maxHeartbeats 4000000 in
theorem order_mc (L : List Int) (k : Int) (n : Nat) (hn : n ≤ 1000) (h3 : 0 ≤ k) (h4 : k ≤ 900000) :
    Mc Tryz.prog 16 2 (str L k) [.int .i64 n] (fun r s => ∃ (o : List Nat) (k' : Int), r = .fz 1 (o.map inA) ∧ o.Perm (List.range n) ∧ s = str L k' ∧ k ≤ k' ∧ k' ≤ k + n) := by
  refine ct_intro Tryz.func16 rfl Tryz.ntmps16 hB16 (by simp) fun h ρ w => goB (N := 43) Tryz.ntmps16 300 ?_
  simp only [go_sem]
  refine aloop (ι := Nat) (fun i => n - i) (fun i => [(10, .int .i64 i), (9, .int .i64 n), (5, .sl 1 0 i i), (1, .int .i64 n), (0, .ptr 0 1 0 0)]) (fun i => [.arr 2 [str L k], .arr 1 ((List.range i).map inA)]) (fun i => i ≤ n) 0 (by simp) ?_ ?_
  · refine Shift.trans (Shift.nilsl 5 1 rfl) (Shift.weakS ?_ rfl)
    simp only [wk, go_sem]
    try rfl
  intro i g1 J hJ
  by_cases gi : i < n
  · have di : decide ((i : Int) < (n : Int)) = true := by simp; omega
    have hfin := hJ (i + 1) (by omega) (by omega)
    simp only [List.range_succ, List.map_append, List.map_cons, List.map_nil, inA] at hfin
    refine goB (N := 43) Tryz.ntmps16 300 ?_
    simp only [go_sem, di, List.length_map, List.length_range]
    repeat refine And.intro (by first | omega | rfl | exact .inl rfl | exact .inl trivial | (simp; done) | (simp; omega)) ?_
    rw [show (i : Int) + 1 = ((i + 1 : Nat) : Int) by omega]
    refine ainv hfin (Shift.weakS ?_ rfl)
    simp only [wk, go_sem]
  have di : decide ((i : Int) < (n : Int)) = false := by simp; omega
  have hi : i = n := by omega
  subst hi
  clear hJ
  by_cases h0 : i = 0
  · subst h0
    refine goB (N := 43) Tryz.ntmps16 300 ?_
    simp only [go_sem, di]
    repeat refine And.intro (by first | omega | rfl | (simp; done) | (simp; omega)) ?_
    refine aenter (around ?_)
    refine goB (N := 43) Tryz.ntmps16 300 ?_
    simp only [go_sem]
    exact ARet.shift (Shift.freeze 4 (id := 1) (l := []) rfl rfl (by simp) (Nat.le_refl _) rfl) (aret [4] rfl ⟨str L k, [.dead], rfl, ⟨[], k, rfl, .refl _, rfl, by omega, by omega⟩, rfl, rfl⟩)
  have hpos : 0 < i := by omega
  refine goB (N := 43) Tryz.ntmps16 300 ?_
  simp only [go_sem, di]
  repeat refine And.intro (by first | omega | rfl | (simp; done) | (simp; omega)) ?_
  refine aloop (ι := Nat × List Nat × Int) (fun y => y.1) (fun y => [(7, .int .i64 y.1), (5, .sl 1 0 i i), (0, .ptr 0 1 0 0)]) (fun y => [.arr 2 [str L y.2.2], .arr 1 (y.2.1.map inA)])
    (fun y => y.1 < i ∧ y.2.1.Perm (List.range i) ∧ k ≤ y.2.2 ∧ y.2.2 + y.1 ≤ k + i) (i - 1, List.range i, k) ⟨by simp; omega, .refl _, by simp, by simp only; omega⟩ ?_ ?_
  · refine Shift.weakS ?_ rfl
    simp only [wk, go_sem]
    rw [show ((i : Int) - 1) = ((i - 1 : Nat) : Int) by omega]
  rintro ⟨j, o, kk⟩ ⟨q1, q2, q3, q4⟩ K hK
  simp only at q1 q2 q3 q4 hK ⊢
  have hol : o.length = i := by rw [q2.length_eq, List.length_range]
  by_cases gj : 0 < j
  · have dj : decide ((j : Int) > 0) = true := by simp; omega
    refine goB (N := 43) Tryz.ntmps16 300 ?_
    simp only [go_sem, dj]
    repeat refine And.intro (by first | omega | rfl | (simp; done) | (simp; omega)) ?_
    refine mcall (next_mc L kk (j + 1) (by omega) (by omega) (by omega) (by omega)) rfl rfl (id := 0) rfl (N := 43) Tryz.ntmps16 rfl ?_
    rintro _ _ ⟨⟨v, rfl, hv0, hv1⟩, rfl⟩
    obtain ⟨t, rfl⟩ : ∃ t : Nat, v = t := ⟨v.toNat, by omega⟩
    have p1 := inA_get o j (by omega)
    have p2 := inA_get o t (by omega)
    have p3 := inA_get (o.set j (o[t]'(by omega))) t (by simp; omega)
    have s1 := inA_set o j (o[t]'(by omega))
    have s2 := inA_set (o.set j (o[t]'(by omega))) t (o[j]'(by omega))
    have hfin := hK (j - 1, (o.set j (o[t]'(by omega))).set t (o[j]'(by omega)), kk + 1) ⟨by simp only; omega, (List.set_set_perm (by omega) (by omega)).trans q2, by simp only; omega, by simp only; omega⟩ (by simp only; omega)
    simp only at hfin
    refine goB (N := 43) Tryz.ntmps16 300 ?_
    simp only [go_sem]
    refine adrawS [] mixed (by decide) (N := 43) Tryz.ntmps16 (by decide) 100 ?_
    simp only [go_sem, p1, p2, p3, s1, s2, hol, List.length_map, List.length_set]
    repeat refine And.intro (by first | omega | rfl | (simp; done) | (simp; omega)) ?_
    refine goB (N := 43) Tryz.ntmps16 300 ?_
    simp only [go_sem]
    repeat refine And.intro (by first | omega | rfl | (simp; done) | (simp; omega)) ?_
    rw [show (j : Int) - 1 = ((j - 1 : Nat) : Int) by omega]
    refine ainv hfin (Shift.weakS ?_ rfl)
    simp only [wk, go_sem]
  · have dj : decide ((j : Int) > 0) = false := by simp; omega
    clear hK
    have htk : ((o.map inA).drop 0).take i = o.map inA := by rw [List.drop_zero, List.take_of_length_le (by simp; omega)]
    refine goB (N := 43) Tryz.ntmps16 300 ?_
    simp only [go_sem, dj]
    exact ARet.shift (Shift.freeze 4 (id := 1) (l := o.map inA) rfl rfl (by simp; omega) (Nat.le_refl _) (inA_frz _)) (aret [4] rfl ⟨str L kk, [.dead], rfl, ⟨o, kk, by simp only [resV, Av.get, Av.put, beq_self_eq_true, cond_true, htk], q2, rfl, by omega, by omega⟩, rfl, rfl⟩)

set_option maxHeartbeats 4000000 in
theorem joinAll_ct {n : Nat} {G : List De} {ps : List (List De)} (hh : Hist n G ps) (hn : n ≤ 100) (o : List Nat) (ho : o.Perm (List.range 3)) (b0 : Blk) (hb0 : lowB 2 b0 = true) :
    Ct Tryz.prog 15 [.fz 1 (o.map inA), .ptr 1 1 0 0] [b0, .arr 1 [.fz 1 (ps.map psA)]] (fun r s => (∃ a : List De, r = .tup [.fz 7 (a.map deA), .bool true] ∧ CkOk a ∧ (∀ d, d ∈ a ↔ ∃ p ∈ ps, d ∈ p)) ∧ s = [b0, .arr 1 [.fz 1 (ps.map psA)]]) := by
  have hol : o.length = 3 := by rw [ho.length_eq, List.length_range]
  have hpl : (ps.map psA).length = 3 := by rw [List.length_map, hh.len]
  have hglen := hh.glen
  refine ct_intro Tryz.func15 rfl Tryz.ntmps15 hB15 (by simp) fun h ρ w => goB (N := 30) Tryz.ntmps15 300 ?_
  simp only [go_sem, List.length_map, hol]
  refine aloop (ι := Nat × List De) (fun y => 3 - y.1) (fun y => [(12, .int .i64 y.1), (11, .int .i64 3), (10, .fz 1 (o.map inA)), (5, .fz 7 (y.2.map deA)), (1, .ptr 1 1 0 0)]) (fun y => [b0, .arr 1 [.fz 1 (ps.map psA)]])
    (fun y => y.1 ≤ 3 ∧ CkOk y.2 ∧ ∀ d, d ∈ y.2 ↔ ∃ k ∈ o.take y.1, ∃ p, ps[k]? = some p ∧ d ∈ p) (0, []) ⟨by simp, ckOk_nil, by simp⟩ ?_ ?_
  · refine Shift.trans (Shift.nilfz 5 7 rfl) (Shift.weakS ?_ rfl)
    simp only [wk, go_sem]
    try rfl
  rintro ⟨i, a⟩ ⟨g1, g2, g3⟩ J hJ
  simp only at g1 g2 g3 hJ ⊢
  have hag : ∀ d ∈ a, d ∈ G := fun d hd => by
    obtain ⟨k, _, p, h1, h2⟩ := (g3 d).1 hd
    exact hh.sub p (List.mem_of_getElem? h1) d h2
  have hal := srt_le g2.srt hag
  have hsza : SzL a := ⟨by omega, fun d hd => hh.sz d (hag d hd)⟩
  by_cases gi : i < 3
  · have di : decide ((i : Int) < 3) = true := by simp; omega
    have p1 := inA_get o i (by omega)
    have hki : o[i] < 3 := by
      have := ho.mem_iff.1 (List.getElem_mem (by omega : i < o.length))
      simpa using this
    have hst : o.take (i + 1) = o.take i ++ [o[i]] := List.take_succ_eq_append_getElem (by omega)
    generalize o[i] = j at *
    have hjp : j < ps.length := by rw [hh.len]; exact hki
    have p2 := psA_get ps j hjp
    have hmj := List.getElem_mem hjp
    have hszj := hh.szl (by omega) hmj
    have hjo := join_pc a ps[j] hsza hszj (by omega)
    have hcan : CanJoin a ps[j] := can_join (n := n) g2 (hh.ok _ hmj) hag (hh.sub _ hmj) hh.uniq hh.pos (by omega)
    refine goB (N := 30) Tryz.ntmps15 300 ?_
    simp only [go_sem, di, p1, p2, hpl, List.length_map, hol]
    repeat refine And.intro (by first | omega | rfl | (simp; done) | (simp; omega)) ?_
    refine pcall (hjo) rfl (N := 30) Tryz.ntmps15 rfl ?_
    rintro _ ⟨l, m, rfl, h1, h2⟩
    have hm : m = 0 := h2 hcan
    subst hm
    obtain ⟨hsr, hck, hmem⟩ := h1 rfl
    have hfin := hJ (i + 1, l) ⟨by simp only; omega, hck, fun d => by
      simp only
      rw [hmem d, g3 d, hst]
      constructor
      · rintro (⟨k, hk, p, h1, h2⟩ | h)
        · exact ⟨k, List.mem_append_left _ hk, p, h1, h2⟩
        · exact ⟨j, by simp, ps[j], List.getElem?_eq_getElem hjp, h⟩
      · rintro ⟨k, hk, p, h1, h2⟩
        rcases List.mem_append.1 hk with hk | hk
        · exact .inl ⟨k, hk, p, h1, h2⟩
        · rw [List.mem_singleton.1 hk, List.getElem?_eq_getElem hjp] at h1
          cases h1
          exact .inr h2⟩ (by simp only; omega)
    refine goB (N := 30) Tryz.ntmps15 300 ?_
    simp only [go_sem]
    repeat refine And.intro (by first | omega | rfl | (simp; done) | (simp; omega)) ?_
    rw [show (i : Int) + 1 = ((i + 1 : Nat) : Int) by omega]
    refine ainv hfin (Shift.weakS ?_ rfl)
    simp only [wk, go_sem]
  · have di : decide ((i : Int) < 3) = false := by simp; omega
    have hi : i = 3 := by omega
    have hall : ∀ d, d ∈ a ↔ ∃ p ∈ ps, d ∈ p := fun d => by
      rw [g3 d, List.take_of_length_le (by omega)]
      constructor
      · rintro ⟨k, _, p, h1, h2⟩
        exact ⟨p, List.mem_of_getElem? h1, h2⟩
      · rintro ⟨p, hp, h2⟩
        obtain ⟨k, hk, rfl⟩ := List.getElem_of_mem hp
        refine ⟨k, ho.mem_iff.2 (by rw [List.mem_range, ← hh.len]; exact hk), _, List.getElem?_eq_getElem hk, h2⟩
    clear hJ
    refine goB (N := 30) Tryz.ntmps15 300 ?_
    simp only [go_sem, di]
    exact aret [3, 4] rfl ⟨⟨a, rfl, g2, hall⟩, rfl⟩
set_option maxHeartbeats 4000000 in
theorem anyOrder_pch {S : Std} (hS : LibD S) (L : List Int) : PcH Tryz.prog S 4 [.fz 1 (L.map (.int .i64))] (· = .bool true) := by
  have hdb := deedsB_pc
  refine pch_intro (cth_intro Tryz.func4 rfl Tryz.ntmps4 hB4 (by simp) fun h ρ w hg => goF (N := 87) Tryz.ntmps4 300 ?_)
  simp only [go_sem]
  refine mcallH hg (agg := str L 0) (parts_mch hS L 0 (by omega) (by omega)) rfl rfl (id := 0) rfl (N := 87) Tryz.ntmps4 rfl ?_
  rintro _ _ ⟨ps, G, k', rfl, hh, rfl, hk1, hk2⟩
  have hj := joinAll_ct hh (by omega) [0, 1, 2] (.refl _) (.arr 2 [str L k']) rfl
  simp only [List.map_cons, List.map_nil, inA] at hj
  refine goF (N := 87) Tryz.ntmps4 300 ?_
  simp only [go_sem]
  repeat refine And.intro (by first | omega | rfl | exact .inl rfl | exact .inl trivial | (simp; done) | (simp; omega)) ?_
  refine acall (hj) (N := 87) Tryz.ntmps4 rfl ?_
  rintro _ _ ⟨⟨a, rfl, ha1, ha2⟩, rfl⟩
  refine goF (N := 87) Tryz.ntmps4 300 ?_
  simp only [go_sem]
  refine mcall (order_mc L k' 3 (by omega) (by omega) (by omega)) rfl rfl (id := 0) rfl (N := 87) Tryz.ntmps4 rfl ?_
  rintro _ _ ⟨o, k2, rfl, hop, rfl, hk3, hk4⟩
  have hj2 := joinAll_ct hh (by omega) o hop (.arr 2 [str L k2]) rfl
  refine goF (N := 87) Tryz.ntmps4 300 ?_
  simp only [go_sem]
  refine acall (hj2) (N := 87) Tryz.ntmps4 rfl ?_
  rintro _ _ ⟨⟨b, rfl, hb1, hb2⟩, rfl⟩
  have hab : b = a := srt_ext hb1.srt ha1.srt fun d => by rw [hb2, ha2]
  subst hab
  have haG : ∀ d ∈ b, d ∈ G := fun d hd => by
    obtain ⟨p, hp, h2⟩ := (ha2 d).1 hd
    exact hh.sub p hp d h2
  have hbl := Nat.le_trans (srt_le ha1.srt haG) hh.glen
  have hszb : SzL b := ⟨by omega, fun d hd => hh.sz d (haG d hd)⟩
  have hjo := join_pc b b hszb hszb (by omega)
  have hcan : CanJoin b b := can_join (n := 15) ha1 ha1 haG haG hh.uniq hh.pos (by have := hh.glen; omega)
  have hsame := sameDeeds_pc b b hszb.sz hszb.sz
  have hself : decide (b = b) = true := by simp
  have hpa := papers_pc b hszb (by omega)
  have hpl := papersL_len b
  have hsp := samePapers_pc (papersL b) (papersL b) (by omega) (by omega) (fun x hx => by have := hpl.2 x hx; omega) (fun x hx => by have := hpl.2 x hx; omega)
  have hself2 : decide (papersL b = papersL b) = true := by simp
  refine goF (N := 87) Tryz.ntmps4 300 ?_
  simp only [go_sem]
  refine pcall (hjo) rfl (N := 87) Tryz.ntmps4 rfl ?_
  rintro _ ⟨tw, m, rfl, h1, h2⟩
  have hm : m = 0 := h2 hcan
  subst hm
  obtain ⟨hsr, hck, hmem⟩ := h1 rfl
  have htw : tw = b := srt_ext hsr ha1.srt fun d => by rw [hmem, or_self]
  subst htw
  refine goF (N := 87) Tryz.ntmps4 300 ?_
  simp only [go_sem]
  refine pcall1 (hsame) rfl (N := 87) Tryz.ntmps4 rfl (goF (N := 87) Tryz.ntmps4 300 ?_)
  simp only [go_sem, hself]
  refine pcall1 (hsame) rfl (N := 87) Tryz.ntmps4 rfl (goF (N := 87) Tryz.ntmps4 300 ?_)
  simp only [go_sem, hself]
  refine pcall (hpa) rfl (N := 87) Tryz.ntmps4 rfl ?_
  rintro _ ⟨o1, m1, rfl, h3⟩
  obtain ⟨rfl, rfl⟩ := h3 ha1
  refine goF (N := 87) Tryz.ntmps4 300 ?_
  simp only [go_sem]
  refine pcall (hpa) rfl (N := 87) Tryz.ntmps4 rfl ?_
  rintro _ ⟨o2, m2, rfl, h4⟩
  obtain ⟨rfl, rfl⟩ := h4 ha1
  refine goF (N := 87) Tryz.ntmps4 300 ?_
  simp only [go_sem]
  refine pcall1 (hdb) rfl (N := 87) Tryz.ntmps4 rfl (goF (N := 87) Tryz.ntmps4 300 ?_)
  simp only [go_sem]
  refine pcall1 (hsp) rfl (N := 87) Tryz.ntmps4 rfl (goF (N := 87) Tryz.ntmps4 300 ?_)
  simp only [go_sem, hself2]
  exact aret [2] rfl ⟨rfl, rfl⟩
end Go.Proofs.YtkomcdohejibmaaGreatDoor
