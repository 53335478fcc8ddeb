/- PutOf, told exactly. Own work of this seat. -/
import Derived.Test.YtkomcdohejibmaaGreatDoorY45
import Derived.Test.YtkomcdohejibmaaGreatDoorY46
import Derived.Test.YtkomcdohejibmaaGreatDoorY22
set_option maxRecDepth 100000
set_option linter.unusedSimpArgs false
set_option linter.unusedVariables false
namespace Go.Proofs.YtkomcdohejibmaaGreatDoor
open Go Go.Av Go.RowKit

def PutC (l : List De) (kind : Int) (paper person : List UInt8) : Prop := kind = 1 ∨ (thereL l paper = true ∧ (kind = 3 → rmayP l paper person = false) ∧ (kind = 4 → rmayP l paper person = true))
def PutK (l : List De) (d : De) : Prop := RefOk l ∧ keyO d.st.dept = true ∧ l.length ≠ 500 ∧ contentL d.kind d.paper d.text d.person = 0 ∧ PutC l d.kind d.paper d.person
theorem may_in (l : List De) (paper : List UInt8) (hl : l.length ≤ 1000) : ∃ r : AV, ∃ o : List (List UInt8), r = .fz 1 (o.map .str) ∧ o.length ≤ 1000 ∧ ∀ k, k ∈ o ↔ rmayP l paper k = true := by
  refine ⟨_, (l.map (·.person)).filter (rmayP l paper), rfl, Nat.le_trans (List.length_filter_le _ _) (by simpa using hl), fun k => ?_⟩
  rw [List.mem_filter]
  refine ⟨fun h => h.2, fun h => ⟨?_, h⟩⟩
  unfold rmayP at h
  rw [Bool.and_eq_true, List.any_eq_true] at h
  obtain ⟨d, hd, e⟩ := h.1
  exact List.mem_map.2 ⟨d, (List.mem_filter.1 hd).1, by simpa using e⟩
/-- what PutOf comes to: the list, and whether it is right -/
def PutX (S : Std) (l : List De) (d : De) (pl : List De) (pok : Prop) : Prop :=
  (pok → CkOk l ∧ l.length < 500 ∧ keyL d.st.dept = true ∧ bodyL d.kind d.paper d.text d.person = 0 ∧ Srt pl ∧ pl.Perm (l ++ [addD l d.st.dept d.kind d.paper d.text d.person])) ∧ (¬ pok → pl = []) ∧
  PcH Tryz.prog S 52 [.fz 7 (l.map deA), deA d] (fun r => ∃ n : Int, r = .tup [.fz 7 (pl.map deA), .int .i64 n] ∧ (n = 0 ↔ pok))
set_option maxHeartbeats 8000000 in
theorem putX {S : Std} (hS : LibD S) (l : List De) (d : De) (hl : SzL l) (hlen : l.length ≤ 1000) (hd : SzD d) : ∃ (pl : List De) (pok : Prop), PutX S l d pl pok := by
  have hfacts : PutK l d → CkOk l ∧ l.length < 500 ∧ keyL d.st.dept = true ∧ bodyL d.kind d.paper d.text d.person = 0 := fun h => ⟨h.1.1, by have := h.1.1.len; have := h.2.2.1; omega, keyO_keyL h.2.1, content_body h.2.2.2.1⟩
  obtain ⟨pl, hp1, hp2⟩ : ∃ pl : List De, (PutK l d → Srt pl ∧ pl.Perm (l ++ [addD l d.st.dept d.kind d.paper d.text d.person])) ∧ (¬ PutK l d → pl = []) := by
    by_cases h : PutK l d
    · obtain ⟨c1, c2, c3, c4⟩ := hfacts h
      obtain ⟨pl, h1, h2⟩ := ins_srt (addD l d.st.dept d.kind d.paper d.text d.person) l c1.srt (add_ok c1 _ _ _ _ _).new
      exact ⟨pl, fun _ => ⟨h1, h2.trans (List.perm_append_comm (l₁ := [addD l d.st.dept d.kind d.paper d.text d.person]) (l₂ := l))⟩, fun h3 => absurd h h3⟩
    · exact ⟨[], fun h2 => absurd h2 h, fun _ => rfl⟩
  refine ⟨pl, PutK l d, fun h => ?_, hp2, ?_⟩
  · obtain ⟨c1, c2, c3, c4⟩ := hfacts h
    exact ⟨c1, c2, c3, c4, hp1 h⟩
  have hfa := faultX_pch hS l hl
  have hki := keyOf_pc d.st.dept hd.dept
  have hct := content_pch hS d hd.paper hd.text hd.person
  have hth := there_pc l d.paper hl.sz
  have hvec := rvec_pc l hl.len
  have herr : ∀ m : Int, m ≠ 0 → ¬ PutK l d → ∃ n : Int, (AV.tup [.fz 7 [], .int .i64 m]) = .tup [.fz 7 (pl.map deA), .int .i64 n] ∧ (n = 0 ↔ PutK l d) := fun m hm h => by
    rw [hp2 h]
    exact ⟨m, rfl, fun e => absurd e hm, fun e => absurd e h⟩
  have hfine : PutK l d → ∀ l' : List De, l'.Perm (l ++ [addD l d.st.dept d.kind d.paper d.text d.person]) → (l'.Pairwise fun x y => ¬ stLt y.st x.st) → ∃ n : Int, (AV.tup [.fz 7 (l'.map deA), .int .i64 0]) = .tup [.fz 7 (pl.map deA), .int .i64 n] ∧ (n = 0 ↔ PutK l d) := fun h l' h5 h6 => by
    obtain ⟨c1, c2, c3, c4⟩ := hfacts h
    obtain ⟨e1, e2⟩ := hp1 h
    have : l' = pl := srt_ext (put_sorted c1 (add_ok c1 _ _ _ _ _) h5 h6) e1 fun e => by rw [h5.mem_iff, e2.mem_iff]
    rw [this]
    exact ⟨0, rfl, fun _ => h, fun _ => rfl⟩
  unfold PutK at herr hfine
  obtain ⟨⟨dept, no⟩, seen, kind, paper, text, person⟩ := d
  simp only [deA] at hct ⊢
  simp only at hki hth hfine hct herr
  refine pch_intro (cth_intro Tryz.func52 rfl Tryz.ntmps52 hB52 (by simp) fun h ρ w hg => goF (N := 99) Tryz.ntmps52 300 ?_)
  simp only [go_sem]
  refine pcallH hg (hfa) rfl (N := 99) Tryz.ntmps52 rfl ?_
  rintro _ ⟨n, rfl, hn⟩
  cases e0 : n != 0 with
  | true =>
    refine goF (N := 99) Tryz.ntmps52 300 ?_
    simp only [go_sem, e0]
    exact ARet.shift (Shift.trans (Shift.low 0 (e' := [(4, .raw (.slice none 0 0)), (5, .int .i64 n)]) (by simp) (by simp) rfl (by simp only [wkl, lowV, lowC, Av.get, go_sem])) (Shift.nilfz 4 7 rfl)) (aret [4, 5] rfl ⟨herr n (by simpa using e0) (fun h => absurd (hn.2 h.1) (by simpa using e0)), rfl⟩)
  | false =>
  have cr : RefOk l := hn.1 (by simpa using e0)
  have c0 : CkOk l := cr.1
  refine goF (N := 99) Tryz.ntmps52 300 ?_
  simp only [go_sem, e0]
  refine pcall1 (hki) rfl (N := 99) Tryz.ntmps52 rfl (goF (N := 99) Tryz.ntmps52 300 ?_)
  cases hk : keyO dept with
  | false =>
    simp only [go_sem]
    exact ARet.shift (Shift.trans (Shift.low 0 (e' := [(4, .raw (.slice none 0 0)), (5, .int .i64 5)]) (by simp) (by simp) rfl (by simp only [wkl, lowV, lowC, Av.get, go_sem])) (Shift.nilfz 4 7 rfl)) (aret [4, 5] rfl ⟨herr 5 (by decide) (fun h => by have h2 := h.2.1; rw [hk] at h2; cases h2), rfl⟩)
  | true =>
  cases hbig : ((l.length : Int) == 500) with
  | true =>
    simp only [go_sem, hbig, List.length_map]
    exact ARet.shift (Shift.trans (Shift.low 0 (e' := [(4, .raw (.slice none 0 0)), (5, .int .i64 2)]) (by simp) (by simp) rfl (by simp only [wkl, lowV, lowC, Av.get, go_sem])) (Shift.nilfz 4 7 rfl)) (aret [4, 5] rfl ⟨herr 2 (by decide) (fun h => absurd (show l.length = 500 by simp at hbig; omega) h.2.2.1), rfl⟩)
  | false =>
  have hl500 : l.length < 500 := by have := c0.len; simp at hbig; omega
  simp only [go_sem, hbig, List.length_map]
  repeat refine And.intro (by first | omega | rfl | (simp; done) | (simp; omega)) ?_
  refine pcallH1 hg (hct) rfl (N := 99) Tryz.ntmps52 rfl (goF (N := 99) Tryz.ntmps52 300 ?_)
  cases e1 : contentL kind paper text person != 0 with
  | true =>
    simp only [go_sem, e1]
    exact ARet.shift (Shift.trans (Shift.low 0 (e' := [(4, .raw (.slice none 0 0)), (5, .int .i64 (contentL kind paper text person))]) (by simp) (by simp) rfl (by simp only [wkl, lowV, lowC, Av.get, go_sem])) (Shift.nilfz 4 7 rfl)) (aret [4, 5] rfl ⟨herr _ (by simpa using e1) (fun h => absurd h.2.2.2.1 (by simpa using e1)), rfl⟩)
  | false =>
  have c1 : bodyL kind paper text person = 0 := content_body (by simpa using e1)
  simp only [go_sem, e1]
  refine adrawC [3, 6] 99 [] mixed (by decide) (N := 99) Tryz.ntmps52 (by decide) 100 ?_
  simp only [go_sem, Go.Av.dxn, Go.Av.dxnc, ↓Go.Av.dbrn_true, ↓Go.Av.dbrn_false, Go.Av.dbrn]
  repeat refine And.intro (by first | omega | rfl | (simp; done) | (simp; omega)) ?_
  refine icc_pc (mayOfX_pc sortStrs l paper hl hlen) rfl (may_in l paper hlen) ?_
  rintro _ ⟨o, rfl, ho, hom⟩
  simp only [go_sem, Go.Av.dxn, Go.Av.dxnc, ↓Go.Av.dbrn_true, ↓Go.Av.dbrn_false, Go.Av.dbrn]
  repeat refine And.intro (by first | omega | rfl | (simp; done) | (simp; omega)) ?_
  refine icc_pc (dcontains_pc o person (by omega)) rfl ⟨_, rfl⟩ ?_
  rintro _ rfl
  have hdec : decide (person ∈ o) = rmayP l paper person := by
    cases h : rmayP l paper person with
    | true => exact decide_eq_true ((hom _).2 h)
    | false => exact decide_eq_false fun h2 => by rw [(hom _).1 h2] at h; cases h
  rw [hdec]
  obtain ⟨hv, hhv⟩ : ∃ hv, rmayP l paper person = hv := ⟨_, rfl⟩
  rw [hhv]
  refine goF (N := 99) Tryz.ntmps52 1 ?_
  simp only [go_sem]
  refine acut (ι := Unit) (fun _ => [(3, .ptr 0 1 0 0), (0, .fz 7 (l.map deA))]) (fun _ => [.arr 7 [.agg [.str dept, .int .i64 no, .fz 2 (seen.map stA), .int .i64 kind, .str paper, .str text, .str person]]]) (fun _ => PutC l kind paper person) ?_ ?_
  · intro J hJ
    have hfin0 := hJ ()
    clear hJ
    cases k1 : kind != 1 with
    | true =>
      refine goF (N := 99) Tryz.ntmps52 300 ?_
      simp only [go_sem, k1]
      refine pcall1 (hth) rfl (N := 99) Tryz.ntmps52 rfl (goF (N := 99) Tryz.ntmps52 300 ?_)
      cases ht : thereL l paper with
      | false =>
        simp only [go_sem]
        exact ARet.shift (Shift.trans (Shift.low 0 (e' := [(4, .raw (.slice none 0 0)), (5, .int .i64 8)]) (by simp) (by simp) rfl (by simp only [wkl, lowV, lowC, Av.get, go_sem])) (Shift.nilfz 4 7 rfl)) (aret [4, 5] rfl ⟨herr 8 (by decide) (fun h => by
                    have h2 := h.2.2.2.2
                    unfold PutC at h2
                    simp at k1
                    rcases h2 with h2 | h2
                    · exact k1 h2
                    · rw [ht] at h2; cases h2.1), rfl⟩)
      | true =>
        cases k3 : kind == 3 with
        | true =>
          have k4 : (kind == 4) = false := by simp at k3 ⊢; omega
          cases hv with
          | true =>
            simp only [go_sem, k3]
            exact ARet.shift (Shift.trans (Shift.low 0 (e' := [(4, .raw (.slice none 0 0)), (5, .int .i64 6)]) (by simp) (by simp) rfl (by simp only [wkl, lowV, lowC, Av.get, go_sem])) (Shift.nilfz 4 7 rfl)) (aret [4, 5] rfl ⟨herr 6 (by decide) (fun h => by
                    have h2 := h.2.2.2.2
                    unfold PutC at h2
                    simp at k1 k3
                    rcases h2 with h2 | h2
                    · exact k1 h2
                    · have h3 := h2.2.1 k3; rw [hhv] at h3; cases h3), rfl⟩)
          | false =>
            have hfin := hfin0 (.inr ⟨ht, fun _ => hhv, fun e => by simp at k4; exact absurd e k4⟩)
            simp only [go_sem, k3, k4]
            refine ainv hfin (Shift.weakS ?_ rfl)
            simp only [wk, go_sem]
        | false =>
          cases k4 : kind == 4 with
          | true =>
            cases hv with
            | true =>
              have hfin := hfin0 (.inr ⟨ht, fun e => by simp at k3; exact absurd e k3, fun _ => hhv⟩)
              simp only [go_sem, k3, k4]
              refine ainv hfin (Shift.weakS ?_ rfl)
              simp only [wk, go_sem]
            | false =>
              simp only [go_sem, k3, k4]
              exact ARet.shift (Shift.trans (Shift.low 0 (e' := [(4, .raw (.slice none 0 0)), (5, .int .i64 8)]) (by simp) (by simp) rfl (by simp only [wkl, lowV, lowC, Av.get, go_sem])) (Shift.nilfz 4 7 rfl)) (aret [4, 5] rfl ⟨herr 8 (by decide) (fun h => by
                    have h2 := h.2.2.2.2
                    unfold PutC at h2
                    simp at k1 k4
                    rcases h2 with h2 | h2
                    · exact k1 h2
                    · have h3 := h2.2.2 k4; rw [hhv] at h3; cases h3), rfl⟩)
          | false =>
            have hfin := hfin0 (.inr ⟨ht, fun e => by simp at k3; exact absurd e k3, fun e => by simp at k4; exact absurd e k4⟩)
            simp only [go_sem, k3, k4]
            refine ainv hfin (Shift.weakS ?_ rfl)
            simp only [wk, go_sem]
    | false =>
      have k3 : (kind == 3) = false := by simp at k1 ⊢; omega
      have k4 : (kind == 4) = false := by simp at k1 ⊢; omega
      have hfin := hfin0 (.inl (by simpa using k1))
      refine goF (N := 99) Tryz.ntmps52 300 ?_
      simp only [go_sem, k1, k3, k4]
      refine ainv hfin (Shift.weakS ?_ rfl)
      simp only [wk, go_sem]
  rintro ⟨⟩ hcond
  clear hth hct hki hfa herr hn
  have hvo := vec_ok c0.srt
  have hvno : ∀ s ∈ vecL l, 1 ≤ s.no ∧ s.no ≤ 500 := fun s hs => by
    obtain ⟨x, hx, rfl⟩ := hvo.mem s hs
    exact ⟨c0.pos hx, c0.no_le hx⟩
  have hvl := vec_len l
  have hfine := hfine ⟨cr, hk, by omega, by simpa using e1, hcond⟩
  simp only [addD] at hfine
  clear hvo
  generalize vecL l = v at *
  refine goF (N := 99) Tryz.ntmps52 300 ?_
  simp only [go_sem]
  refine pcall1 (hvec) rfl (N := 99) Tryz.ntmps52 rfl (goF (N := 99) Tryz.ntmps52 300 ?_)
  simp only [go_sem, List.length_map]
  repeat refine And.intro (by first | omega | rfl | exact .inl rfl | exact .inl trivial | (simp; done) | (simp; omega)) ?_
  refine aloop (ι := Nat) (fun i => v.length - i) (fun i => [(69, .int .i64 i), (68, .int .i64 v.length), (67, .fz 2 (v.map stA)), (3, .ptr 0 1 0 0), (0, .fz 7 (l.map deA))])
    (fun i => [.arr 7 [.agg [.str dept, .int .i64 (addNo (v.take i) dept), .sl 1 0 (addSeen (v.take i) dept).length (addSeen (v.take i) dept).length, .int .i64 kind, .str paper, .str text, .str person]], .arr 2 ((addSeen (v.take i) dept).map stA)]) (fun i => i ≤ v.length) 0 (by simp) ?_ ?_
  · refine Shift.trans (Shift.cells 0 2 [.agg [.str dept, .int .i64 1, .sl 1 0 0 0, .int .i64 kind, .str paper, .str text, .str person]] rfl rfl (by simp [cellsOf]) ⟨.refl, .refl, .sl, .refl, .refl, .refl, .refl, trivial⟩) (Shift.weakS ?_ rfl)
    simp only [wk, go_sem]
  intro i g1 J hJ
  by_cases gi : i < v.length
  · have di : decide ((i : Int) < (v.length : Int)) = true := by simp; omega
    have p1 := stA_get v i gi
    have hfin := hJ (i + 1) (by omega) (by omega)
    rw [addNo_step v dept i gi, addSeen_step v dept i gi] at hfin
    have hle : (addSeen (v.take i) dept).length ≤ i := Nat.le_trans (List.length_filter_le _ _) (by simp; omega)
    generalize addNo (v.take i) dept = n0 at *
    generalize addSeen (v.take i) dept = o at *
    have hb := hvno v[i] (List.getElem_mem gi)
    have hlow0 : ∀ n m k, lowB 2 (.arr 7 [.agg [.str dept, .int .i64 n, .sl 1 0 m k, .int .i64 kind, .str paper, .str text, .str person]]) = true := fun _ _ _ => rfl
    by_cases dp : v[i].dept = dept
    · have dd : (v[i].dept == dept) = true := by simpa using dp
      rw [if_pos dp, if_pos dp] at hfin
      refine goF (N := 99) Tryz.ntmps52 300 ?_
      simp only [go_sem, di, p1, dd, List.length_map]
      repeat refine And.intro (by first | omega | rfl | exact .inl rfl | exact .inl trivial | (simp; done) | (simp; omega)) ?_
      rw [show (i : Int) + 1 = ((i + 1 : Nat) : Int) by omega]
      refine ainv hfin (Shift.low 2 (by simp) (by simp) ?_ ?_)
      · simp only [List.take_succ_cons, List.take_zero, List.all_cons, List.all_nil, low_sts, hlow0, Bool.and_self]
      · simp only [wkl, lowV, lowC, Av.get, go_sem]
    · have dd : (v[i].dept == dept) = false := by simpa using dp
      rw [if_neg dp, if_neg dp] at hfin
      have hlow1 := low_sts 2 (o ++ [v[i]])
      simp only [List.length_append, List.length_cons, List.length_nil, List.map_append, List.map_cons, List.map_nil, Nat.zero_add, stA] at hfin hlow1
      refine goF (N := 99) Tryz.ntmps52 300 ?_
      simp only [go_sem, di, p1, dd, List.length_map]
      repeat refine And.intro (by first | omega | rfl | exact .inl rfl | exact .inl trivial | (simp; done) | (simp; omega)) ?_
      rw [show (i : Int) + 1 = ((i + 1 : Nat) : Int) by omega]
      refine ainv hfin (Shift.low 2 (by simp) (by simp) ?_ ?_)
      · simp only [List.take_succ_cons, List.take_zero, List.all_cons, List.all_nil, hlow1, hlow0, Bool.and_self]
      · simp only [wkl, lowV, lowC, Av.get, go_sem]
  have di : decide ((i : Int) < (v.length : Int)) = false := by simp; omega
  have hi : i = v.length := by omega
  subst hi
  rw [List.take_length]
  clear hJ
  generalize hd' : (⟨⟨dept, addNo v dept⟩, addSeen v dept, kind, paper, text, person⟩ : De) = d' at *
  have hdA : deA d' = .agg [.str dept, .int .i64 (addNo v dept), .fz 2 ((addSeen v dept).map stA), .int .i64 kind, .str paper, .str text, .str person] := by rw [← hd']; rfl
  generalize addNo v dept = n0 at *
  generalize addSeen v dept = o at *
  have htk := take_map stA o
  refine AWp.shift (Shift.frz 1 rfl (stA_frz _)) ?_
  simp only [frzE, frz, frz1, frzC, frzB, List.map_cons, List.map_nil, List.set_cons_succ, List.set_cons_zero, Nat.reduceBEq, cond_true, cond_false, Bool.false_and, Bool.true_and, List.length_map, Nat.zero_add, decide_true, Nat.le_refl, List.drop_zero, htk, beq_self_eq_true]
  refine AWp.shift (Shift.low 1 (e' := [(69, .int .i64 v.length), (68, .int .i64 v.length), (67, .fz 2 (v.map stA)), (3, .ptr 0 1 0 0), (0, .fz 7 (l.map deA))]) (by simp) (by simp) rfl ?_) ?_
  · simp only [wkl, lowV, lowC, Av.get, go_sem]
  simp only [List.take_succ_cons, List.take_zero]
  refine goF (N := 99) Tryz.ntmps52 300 ?_
  simp only [go_sem, di]
  refine adrawC [1] 99 [] mixed (by decide) (N := 99) Tryz.ntmps52 (by decide) 100 ?_
  simp only [go_sem, Go.Av.dxn, Go.Av.dxnc, ↓Go.Av.dbrn_true, ↓Go.Av.dbrn_false, Go.Av.dbrn]
  repeat refine And.intro (by first | omega | rfl | exact .inl rfl | exact .inl trivial | (simp; done) | (simp; omega)) ?_
  refine icc (cloneDe_ct2 l (by omega) _) ⟨_, _, rfl, rfl⟩ ?_
  rintro _ _ ⟨rfl, rfl⟩
  refine ⟨.push' (by simp) _, ?_⟩
  simp only [go_sem, Go.Av.dxn, Go.Av.dxnc, ↓Go.Av.dbrn_true, ↓Go.Av.dbrn_false, Go.Av.dbrn, List.length_map]
  repeat refine And.intro (by first | omega | rfl | exact .inl rfl | exact .inl trivial | (simp; done) | (simp; omega)) ?_
  have hss := sortDe_ct (g := 107) hB107 put1_calls (s := [.arr 7 [deA d'], .arr 7 ((l ++ [d']).map deA)]) (bid := 1) (l := l ++ [d']) rfl (by simp; omega)
  simp only [List.length_append, List.length_cons, List.length_nil, Nat.zero_add, List.map_append, List.map_cons, List.map_nil, hdA] at hss
  refine goF (N := 99) Tryz.ntmps52 300 ?_
  simp only [go_sem]
  refine acall (hss) (N := 99) Tryz.ntmps52 rfl ?_
  rintro _ _ ⟨rfl, l', rfl, hp, hsrt⟩
  have hl' := hp.length_eq
  simp only [List.length_append, List.length_cons, List.length_nil, Nat.zero_add] at hl'
  have htk2 : ((l'.map deA).drop 0).take (l.length + 1) = l'.map deA := by rw [← hl', List.drop_zero, take_map]
  refine goF (N := 99) Tryz.ntmps52 300 ?_
  simp only [go_sem]
  refine ARet.shift (Shift.freeze 4 (id := 1) (l := l'.map deA) rfl rfl (by simp; omega) (Nat.le_refl _) (deA_frz _)) (aret [4, 5] rfl ⟨?_, ?_⟩)
  · simp only [resV, Av.get, Av.put, beq_self_eq_true, cond_true, htk2]
    exact hfine l' hp hsrt
  · rfl
end Go.Proofs.YtkomcdohejibmaaGreatDoor
