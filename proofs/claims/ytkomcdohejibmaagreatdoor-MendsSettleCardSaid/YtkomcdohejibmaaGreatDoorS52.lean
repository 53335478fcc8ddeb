/- What departments have: Parts, Deeds. Own work of this seat. -/
import Derived.Test.YtkomcdohejibmaaGreatDoorS50
import Derived.Test.YtkomcdohejibmaaGreatDoorS51
import Derived.Test.YtkomcdohejibmaaGreatDoorS38
import Derived.Test.YtkomcdohejibmaaGreatDoorS23
import Derived.Test.YtkomcdohejibmaaGreatDoorS31
set_option maxRecDepth 100000
set_option linter.unusedSimpArgs false
set_option linter.unusedVariables false
namespace Go.Proofs.YtkomcdohejibmaaGreatDoor
open Go Go.Av Go.RowKit

def psA (p : List De) : AV := .fz 7 (p.map deA)
theorem psA_frz : ∀ l : List (List De), (flat (l.map psA)).all Av.frozen = true
  | [] => rfl
  | a :: l => by simp only [List.map_cons, flat, psA, cellsOf, List.cons_append, List.nil_append, List.all_cons, Av.frozen, psA_frz l, Bool.and_self]
theorem psA_get (ps : List (List De)) (j : Nat) (h : j < ps.length) : List.getD (ps.map psA) j .any = .fz 7 (ps[j].map deA) := by simp [List.getD, h, psA]
theorem psA_set (ps : List (List De)) (j : Nat) (l : List De) : (ps.map psA).set j (.fz 7 (l.map deA)) = (ps.set j l).map psA := by simp [List.map_set, psA]
theorem psA_one (ps : List (List De)) : ∀ x ∈ ps.map psA, (cellsOf x).length = 1 := by
  intro x hx
  obtain ⟨p, _, rfl⟩ := List.mem_map.1 hx
  rfl
theorem badD_key : ∀ x ∈ badD, keyL x = false := by decide
/-- the sizes of a deed that is added -/
theorem add_sz {l : List De} {d : De} (h : CkOk l) (hk : keyL d.st.dept = true) (hz : SzD d) : SzD (addD l d.st.dept d.kind d.paper d.text d.person) := by
  have hv := vec_ok h.srt
  refine ⟨?_, by have := keyL_le hk; simp only [addD]; omega, hz.paper, hz.text, hz.person, fun s hs => ?_⟩
  · have h1 := vec_len l
    have h2 : (addSeen (vecL l) d.st.dept).length ≤ (vecL l).length := List.length_filter_le _ _
    have := h.len
    simp only [addD]
    omega
  · obtain ⟨x, hx, rfl⟩ := hv.mem s (List.mem_filter.1 hs).1
    have := keyL_le (h.key hx)
    omega
theorem perm_mem {l l' : List De} {d : De} (h : l'.Perm (l ++ [d])) (e : De) : e ∈ l' ↔ e ∈ l ∨ e = d := by
  rw [h.mem_iff, List.mem_append, List.mem_singleton]

set_option maxHeartbeats 8000000 in
theorem parts_mch {S : Std} (hS : LibD S) (L : List Int) (k : Int) (h3 : 0 ≤ k) (h4 : k ≤ 1000) :
    McH Tryz.prog S 14 2 (str L k) [] (fun r s => ∃ (ps : List (List De)) (G : List De) (k' : Int), r = .fz 1 (ps.map psA) ∧ Hist 15 G ps ∧ s = str L k' ∧ k ≤ k' ∧ k' ≤ k + 1000) := by
  have hdp := depts_pc
  refine cth_intro Tryz.func14 rfl Tryz.ntmps14 hB14 (by simp) fun h ρ w hg => goB (N := 59) Tryz.ntmps14 300 ?_
  simp only [go_sem]
  repeat refine And.intro (by first | omega | rfl | exact .inl rfl | exact .inl trivial | (simp; done) | (simp; omega)) ?_
  refine mcall (next_mc L k 16 (by omega) (by omega) h3 (by omega)) rfl rfl (id := 0) rfl (N := 59) Tryz.ntmps14 rfl ?_
  rintro _ _ ⟨⟨v, rfl, hv0, hv1⟩, rfl⟩
  refine goB (N := 59) Tryz.ntmps14 300 ?_
  simp only [go_sem]
  refine aloop (ι := Nat × List (List De) × List De × Int) (fun y => v.toNat - y.1) (fun y => [(12, .int .i64 y.1), (11, .int .i64 v), (3, .sl 1 0 3 3), (0, .ptr 0 1 0 0)])
    (fun y => [.arr 2 [str L y.2.2.2], .arr 1 (y.2.1.map psA)]) (fun y => (y.1 : Int) ≤ v ∧ Hist y.1 y.2.2.1 y.2.1 ∧ k ≤ y.2.2.2 ∧ y.2.2.2 ≤ k + 1 + 40 * y.1) (0, [[], [], []], [], k + 1) ⟨by simp; omega, hist_nil, by simp only; omega, by simp⟩ ?_ ?_
  · refine Shift.trans (Shift.cells 1 1 ([[], [], []].map psA) rfl rfl (psA_one _) ⟨.fz, .fz, .fz, trivial⟩) (Shift.low 2 (by simp) (by simp) ?_ ?_)
    · rfl
    · simp only [wkl, lowV, lowC, Av.get, go_sem]
  rintro ⟨i, ps, G, kk⟩ ⟨g1, g2, g3, g4⟩ J hJ
  simp only at g1 g2 g3 g4 hJ ⊢
  by_cases gi : (i : Int) < v
  · have di : decide ((i : Int) < v) = true := by simpa using gi
    refine goB (N := 59) Tryz.ntmps14 300 ?_
    simp only [go_sem, di]
    refine mcall (next_mc L kk 3 (by omega) (by omega) (by omega) (by omega)) rfl rfl (id := 0) rfl (N := 59) Tryz.ntmps14 rfl ?_
    rintro _ _ ⟨⟨q, rfl, hq0, hq1⟩, rfl⟩
    obtain ⟨j, rfl⟩ : ∃ j : Nat, q = j := ⟨q.toNat, by omega⟩
    have hjp : j < ps.length := by rw [g2.len]; omega
    have hmj := List.getElem_mem hjp
    have hga := psA_get ps j hjp
    have hszj := g2.szl (by omega) hmj
    have hlej := g2.le hmj
    have hpl : (ps.map psA).length = 3 := by rw [List.length_map, g2.len]
    refine goB (N := 59) Tryz.ntmps14 300 ?_
    simp only [go_sem]
    refine mcall (flip_mc L (kk + 1) 3 (by decide) (by decide) (by omega) (by omega)) rfl rfl (id := 0) rfl (N := 59) Tryz.ntmps14 rfl ?_
    rintro _ _ ⟨⟨b, rfl⟩, rfl⟩
    cases b with
    | true =>
      refine goB (N := 59) Tryz.ntmps14 300 ?_
      simp only [go_sem]
      refine adrawC [6, 9] 0 [] mixed (by decide) (N := 59) Tryz.ntmps14 (by decide) 100 ?_
      simp only [go_sem, Go.Av.dxn, Go.Av.dxnc, ↓Go.Av.dbrn_true, ↓Go.Av.dbrn_false, Go.Av.dbrn, hga, hpl]
      repeat refine And.intro (by first | omega | rfl | exact .inl rfl | exact .inl trivial | (simp; done) | (simp; omega)) ?_
      refine icc_mc (next_mc L (kk + 1 + 1) 3 (by omega) (by omega) (by omega) (by omega)) rfl rfl rfl ⟨.int .i64 0, str L (kk + 1 + 1 + 1), ⟨⟨0, rfl, by omega, by omega⟩, rfl⟩, rfl⟩ ?_
      rintro _ _ ⟨⟨q2, rfl, hq20, hq21⟩, rfl⟩
      obtain ⟨j2, rfl⟩ : ∃ j : Nat, q2 = j := ⟨q2.toNat, by omega⟩
      have hjp2 : j2 < ps.length := by rw [g2.len]; omega
      have hmj2 := List.getElem_mem hjp2
      have hga2 := psA_get ps j2 hjp2
      have hszj2 := g2.szl (by omega) hmj2
      have hlej2 := g2.le hmj2
      simp only [go_sem, Go.Av.dxn, Go.Av.dxnc, ↓Go.Av.dbrn_true, ↓Go.Av.dbrn_false, Go.Av.dbrn, hga, hga2, hpl]
      repeat refine And.intro (by first | omega | rfl | exact .inl rfl | exact .inl trivial | (simp; done) | (simp; omega)) ?_
      refine icc_pch hg (joinOf_pch hS ps[j] ps[j2] hszj hszj2 (by omega)) rfl ⟨_, [], 1, rfl, fun _ => rfl, fun h => absurd h (by decide)⟩ ?_
      rintro _ ⟨l, n, rfl, hn0, hn⟩
      simp only [go_sem, Go.Av.dxn, Go.Av.dxnc, ↓Go.Av.dbrn_true, ↓Go.Av.dbrn_false, Go.Av.dbrn]
      have hset := psA_set ps j l
      cases e0 : n == 0 with
      | true =>
        have hn' := hn (by simpa using e0)
        have hfin := hJ (i + 1, ps.set j l, G, kk + 1 + 1 + 1) ⟨by simp only; omega, (g2.join (List.getElem?_eq_getElem hjp) hmj2 hn'.1 hn'.2).mono (by simp only; omega), by simp only; omega, by simp only; omega⟩ (by simp only; omega)
        simp only at hfin
        refine goB (N := 59) Tryz.ntmps14 300 ?_
        simp only [go_sem, e0, hga, hpl, hset]
        repeat refine And.intro (by first | omega | rfl | exact .inl rfl | exact .inl trivial | (simp; done) | (simp; omega)) ?_
        rw [show (i : Int) + 1 = ((i + 1 : Nat) : Int) by omega]
        refine ainv hfin (Shift.weakS ?_ rfl)
        simp only [wk, go_sem]
      | false =>
        have hfin := hJ (i + 1, ps, G, kk + 1 + 1 + 1) ⟨by simp only; omega, g2.mono (by simp only; omega), by simp only; omega, by simp only; omega⟩ (by simp only; omega)
        simp only at hfin
        refine goB (N := 59) Tryz.ntmps14 300 ?_
        simp only [go_sem, e0, hpl]
        repeat refine And.intro (by first | omega | rfl | exact .inl rfl | exact .inl trivial | (simp; done) | (simp; omega)) ?_
        rw [show (i : Int) + 1 = ((i + 1 : Nat) : Int) by omega]
        refine ainv hfin (Shift.weakS ?_ rfl)
        simp only [wk, go_sem]
    | false =>
      have hjd : j < deptL.length := by show j < 3; omega
      have hdl : (deptL.map AV.str).length = 3 := rfl
      have hgd : List.getD (deptL.map AV.str) j .any = .str deptL[j] := by simp [List.getD, hjd]
      have hdn : deptL[j].length ≤ 10 := short_mem (l := deptL) (by decide) (List.getElem_mem hjd)
      have hdj : deptL[j]? = some deptL[j] := List.getElem?_eq_getElem hjd
      generalize deptL[j] = dn at *
      refine goB (N := 59) Tryz.ntmps14 300 ?_
      simp only [go_sem]
      refine adrawC [9, 10] 0 [.fz 1 (deptL.map .str)] mixed (by decide) (N := 59) Tryz.ntmps14 (by decide) 100 ?_
      simp only [go_sem, Go.Av.dxn, Go.Av.dxnc, ↓Go.Av.dbrn_true, ↓Go.Av.dbrn_false, Go.Av.dbrn, hga, hpl, hdl, hgd]
      repeat refine And.intro (by first | exact hdp.at | omega | rfl | exact .inl rfl | exact .inl trivial | (simp; done) | (simp; omega)) ?_
      refine icc_mch hg (deed_mch (S := S) L (kk + 1 + 1) dn hdn (by omega) (by omega)) rfl rfl rfl ⟨deA ⟨⟨dn, 0⟩, [], 0, [], [], []⟩, str L (kk + 1 + 1), ⟨_, _, rfl, ⟨by simp, by simp only; omega, by simp, by simp, by simp, by simp⟩, rfl, .inl rfl, rfl, by omega, by omega⟩, rfl⟩ ?_
      rintro _ _ ⟨d, k', rfl, hsz, hseen, hdd, rfl, hk1, hk2⟩
      simp only [go_sem, Go.Av.dxn, Go.Av.dxnc, ↓Go.Av.dbrn_true, ↓Go.Av.dbrn_false, Go.Av.dbrn]
      refine icc_pch hg (putOf_pch hS ps[j] d hszj (by omega) hsz) rfl ⟨_, [], 1, rfl, fun _ => rfl, fun h => absurd h (by decide)⟩ ?_
      rintro _ ⟨l, n, rfl, hn0, hn⟩
      simp only [go_sem, Go.Av.dxn, Go.Av.dxnc, ↓Go.Av.dbrn_true, ↓Go.Av.dbrn_false, Go.Av.dbrn]
      have hset := psA_set ps j l
      cases e0 : n == 0 with
      | true =>
        obtain ⟨c0, c1, c2, c3, c4, c5⟩ := hn (by simpa using e0)
        have hdept : d.st.dept = dn := by
          rcases hdd with h | h
          · exact h
          · rw [badD_key _ h] at c2; cases c2
        have hm := perm_mem c5
        have hok := add_ok c0 d.st.dept d.kind d.paper d.text d.person
        have hck := add_law c0 hok c1 c2 c3 c4 hm (by rw [c5.length_eq]; simp; omega)
        have hfin := hJ (i + 1, ps.set j l, _, k') ⟨by simp only; omega, g2.put (List.getElem?_eq_getElem hjp) (by rw [hdj, ← hdept]; rfl) hok (fun y hy e => by
          rcases knows_iff.1 (hok.all y hy) with h | ⟨x, hx, h1, h2⟩
          · exact h.2
          · exact absurd (h1.trans e) (hok.sok.own x hx).1) hck hm (add_sz c0 c2 hsz), by simp only; omega, by simp only; omega⟩ (by simp only; omega)
        simp only at hfin
        refine goB (N := 59) Tryz.ntmps14 300 ?_
        simp only [go_sem, e0, hga, hpl, hset]
        repeat refine And.intro (by first | omega | rfl | exact .inl rfl | exact .inl trivial | (simp; done) | (simp; omega)) ?_
        rw [show (i : Int) + 1 = ((i + 1 : Nat) : Int) by omega]
        refine ainv hfin (Shift.weakS ?_ rfl)
        simp only [wk, go_sem]
      | false =>
        have hfin := hJ (i + 1, ps, G, k') ⟨by simp only; omega, g2.mono (by simp only; omega), by simp only; omega, by simp only; omega⟩ (by simp only; omega)
        simp only at hfin
        refine goB (N := 59) Tryz.ntmps14 300 ?_
        simp only [go_sem, e0, hpl]
        repeat refine And.intro (by first | omega | rfl | exact .inl rfl | exact .inl trivial | (simp; done) | (simp; omega)) ?_
        rw [show (i : Int) + 1 = ((i + 1 : Nat) : Int) by omega]
        refine ainv hfin (Shift.weakS ?_ rfl)
        simp only [wk, go_sem]
  · have di : decide ((i : Int) < v) = false := by simp; omega
    have htk : ((ps.map psA).drop 0).take 3 = ps.map psA := by rw [List.drop_zero, List.take_of_length_le (by rw [List.length_map, g2.len]; omega)]
    clear hJ
    refine goB (N := 59) Tryz.ntmps14 300 ?_
    simp only [go_sem, di]
    exact ARet.shift (Shift.freeze 2 (id := 1) (l := ps.map psA) rfl rfl (by rw [List.length_map, g2.len]) (Nat.le_refl _) (psA_frz _)) (aret [2] rfl ⟨str L kk, [.dead], rfl, ⟨ps, G, kk, by simp only [resV, Av.get, Av.put, beq_self_eq_true, cond_true, htk], g2.mono (by omega), rfl, by omega, by omega⟩, rfl, rfl⟩)

set_option maxHeartbeats 4000000 in
theorem deeds_mch {S : Std} (hS : LibD S) (L : List Int) (k : Int) (h3 : 0 ≤ k) (h4 : k ≤ 1000) :
    McH Tryz.prog S 8 2 (str L k) [] (fun r s => ∃ (l : List De) (k' : Int), r = .fz 7 (l.map deA) ∧ CkOk l ∧ l.length ≤ 15 ∧ SzL l ∧ s = str L k' ∧ k ≤ k' ∧ k' ≤ k + 1000) := by
  refine cth_intro Tryz.func8 rfl Tryz.ntmps8 hB8 (by simp) fun h ρ w hg => goB (N := 21) Tryz.ntmps8 300 ?_
  simp only [go_sem]
  refine mcallH hg (parts_mch hS L k h3 h4) rfl rfl (id := 0) rfl (N := 21) Tryz.ntmps8 rfl ?_
  rintro _ _ ⟨ps, G, k', rfl, hh, rfl, hk1, hk2⟩
  have hpl : (ps.map psA).length = 3 := by rw [List.length_map, hh.len]
  refine goB (N := 21) Tryz.ntmps8 300 ?_
  simp only [go_sem, hpl]
  refine aloop (ι := Nat × List De) (fun y => 3 - y.1) (fun y => [(9, .int .i64 y.1), (8, .int .i64 3), (7, .fz 1 (ps.map psA)), (3, .fz 7 (y.2.map deA)), (0, .ptr 0 1 0 0)]) (fun y => [.arr 2 [str L k']])
    (fun y => y.1 ≤ 3 ∧ CkOk y.2 ∧ ∀ d ∈ y.2, d ∈ G) (0, []) ⟨by simp, ckOk_nil, by simp⟩ ?_ ?_
  · refine Shift.trans (Shift.nilfz 3 7 rfl) (Shift.weakS ?_ rfl)
    simp only [wk, go_sem]
    try rfl
  rintro ⟨i, o⟩ ⟨g1, g2, g3⟩ J hJ
  simp only at g1 g2 g3 hJ ⊢
  have hszo : SzL o := ⟨by have := g2.len; omega, fun d hd => hh.sz d (g3 d hd)⟩
  have hol := Nat.le_trans (srt_le g2.srt g3) hh.glen
  by_cases gi : i < 3
  · have di : decide ((i : Int) < 3) = true := by simp; omega
    have hip : i < ps.length := by rw [hh.len]; omega
    have hmi := List.getElem_mem hip
    have hga := psA_get ps i hip
    refine goB (N := 21) Tryz.ntmps8 300 ?_
    simp only [go_sem, di, hga, hpl]
    repeat refine And.intro (by first | omega | rfl | (simp; done) | (simp; omega)) ?_
    refine pcallH hg (joinOf_pch hS o ps[i] hszo (hh.szl (by omega) hmi) (by omega)) rfl (N := 21) Tryz.ntmps8 rfl ?_
    rintro _ ⟨l, n, rfl, hn0, hn⟩
    have hfin := hJ (i + 1, l) ⟨by simp only; omega, by
      by_cases e : n = 0
      · exact (hn e).1
      · rw [hn0 e]; exact ckOk_nil, by
      by_cases e : n = 0
      · exact fun d hd => (((hn e).2 d).1 hd).elim (g3 d) (hh.sub _ hmi d)
      · rw [hn0 e]; simp⟩ (by simp only; omega)
    refine goB (N := 21) Tryz.ntmps8 300 ?_
    simp only [go_sem]
    repeat refine And.intro (by first | omega | rfl | (simp; done) | (simp; omega)) ?_
    rw [show (i : Int) + 1 = ((i + 1 : Nat) : Int) by omega]
    refine ainv hfin (Shift.weakS ?_ rfl)
    simp only [wk, go_sem]
  · have di : decide ((i : Int) < 3) = false := by simp; omega
    refine goB (N := 21) Tryz.ntmps8 300 ?_
    simp only [go_sem, di]
    exact aret [2] rfl ⟨str L k', [], rfl, ⟨o, k', rfl, g2, hol, hszo, rfl, by omega, by omega⟩, rfl, rfl⟩
end Go.Proofs.YtkomcdohejibmaaGreatDoor
/- The law DeedsByDifferences, walked. Own work of this seat. -/
set_option maxRecDepth 100000
set_option linter.unusedSimpArgs false
set_option linter.unusedVariables false
namespace Go.Proofs.YtkomcdohejibmaaGreatDoor
open Go Go.Av Go.RowKit

theorem deedsB_pc : Pc Tryz.prog 13 [] (· = .bool true) := by
  have hadd := (add_pc [] [97, 114, 116] 1 [112, 108, 97, 110] [120, 10] [] ⟨by simp, by simp⟩ (by simp) (by simp) (by simp) (by simp) (by simp)).nilarg
  refine pc_intro (ct_intro Tryz.func13 rfl Tryz.ntmps13 hB13 (by simp) fun h ρ w => goB (N := 14) Tryz.ntmps13 300 ?_)
  simp only [go_sem]
  refine pcall (hadd) rfl (N := 14) Tryz.ntmps13 rfl ?_
  rintro _ ⟨l', n, rfl, h1, h2⟩
  have hn : n = 0 := h2 ckOk_nil (by simp) (by decide) (by decide) (.inl rfl)
  subst hn
  have hl := (h1 rfl).2.2.2.2.2.length_eq
  simp only [List.nil_append, List.length_cons, List.length_nil, Nat.zero_add] at hl
  refine goB (N := 14) Tryz.ntmps13 300 ?_
  simp only [go_sem, List.length_map, hl]
  repeat refine And.intro (by first | omega | rfl | (simp; done) | (simp; omega)) ?_
  exact aret [0] rfl ⟨rfl, rfl⟩
end Go.Proofs.YtkomcdohejibmaaGreatDoor
