/- The reference's PutOf. Own work of this seat. -/
import Derived.Test.YtkomcdohejibmaaGreatDoorM40
import Derived.Test.YtkomcdohejibmaaGreatDoorM41
import Derived.Test.YtkomcdohejibmaaGreatDoorM42
import Derived.Test.YtkomcdohejibmaaGreatDoorM23
set_option maxRecDepth 100000
set_option linter.unusedSimpArgs false
set_option linter.unusedVariables false
namespace Go.Proofs.YtkomcdohejibmaaGreatDoor
open Go Go.Av Go.RowKit

theorem cloneDe_ct2 (l : List De) (hl : l.length ≤ 100000) (r : List Blk) :
    Ct Tryz.prog 106 [.fz 7 (l.map deA)] r (fun v s => v = .sl r.length 0 l.length l.length ∧ s = r ++ [.arr 7 (l.map deA)]) := by
  cases l with
  | nil =>
    refine ct_intro Tryz.func106 rfl Tryz.ntmps106 hB106 (by simp) fun h ρ w => go (N := 8) Tryz.ntmps106 300 ?_
    simp only [go_sem, List.map_nil]
    intro b
    cases b with
    | true =>
      refine go (N := 8) Tryz.ntmps106 300 ?_
      simp only [go_sem]
      exact ARet.shift (Shift.nilsl 2 7 rfl) (aret [2] rfl ⟨by simp [resV, Av.get, Av.put], rfl⟩)
    | false =>
      refine go (N := 8) Tryz.ntmps106 300 ?_
      simp only [go_sem, getD_end, set_end]
      repeat refine And.intro (by first | omega | rfl | exact .inl rfl | exact .inl trivial | (simp; done) | (simp; omega)) ?_
      exact aret [2] rfl ⟨by simp [resV, Av.get, Av.put], rfl⟩
  | cons x xs =>
    simp only [List.length_cons] at hl
    refine ct_intro Tryz.func106 rfl Tryz.ntmps106 hB106 (by simp) fun h ρ w => go (N := 8) Tryz.ntmps106 300 ?_
    simp only [go_sem, deA, getD_end, set_end, List.length_map]
    repeat refine And.intro (by first | omega | rfl | exact .inl rfl | exact .inl trivial | (simp; done) | (simp; omega)) ?_
    exact aret [2] rfl ⟨by simp [resV, Av.get, Av.put], rfl⟩
theorem addNo_step (v : List St) (dept : List UInt8) (i : Nat) (h : i < v.length) : addNo (v.take (i + 1)) dept = if v[i].dept = dept then v[i].no + 1 else addNo (v.take i) dept := by
  unfold addNo
  rw [List.take_succ_eq_append_getElem h, List.foldl_append]
  rfl
theorem addSeen_step (v : List St) (dept : List UInt8) (i : Nat) (h : i < v.length) : addSeen (v.take (i + 1)) dept = if v[i].dept = dept then addSeen (v.take i) dept else addSeen (v.take i) dept ++ [v[i]] := by
  unfold addSeen
  rw [filter_step _ v i h]
  by_cases e : v[i].dept = dept
  · simp [e]
  · simp [e]
theorem CkOk.no_le {l : List De} (h : CkOk l) {d : De} (hd : d ∈ l) : d.st.no ≤ 500 := by
  obtain ⟨i, hi, rfl⟩ := List.getElem_of_mem hd
  have h1 := (h.at2 hi).no
  have h2 : cnt (l.take i) l[i].st.dept ≤ i := Nat.le_trans List.countP_le_length (by simp; omega)
  have := h.len
  omega
/-- what adding a deed is told to be -/
def PutR (l : List De) (d : De) (r : AV) : Prop := ∃ (l' : List De) (n : Int), r = .tup [.fz 7 (l'.map deA), .int .i64 n] ∧ (n ≠ 0 → l' = []) ∧
  (n = 0 → CkOk l ∧ l.length < 500 ∧ keyL d.st.dept = true ∧ bodyL d.kind d.paper d.text d.person = 0 ∧ Srt l' ∧ l'.Perm (l ++ [addD l d.st.dept d.kind d.paper d.text d.person]))
theorem put_sorted {l l' : List De} {d : De} (h : CkOk l) (ha : AddOk l d) (hp : l'.Perm (l ++ [d])) (hs : l'.Pairwise fun x y => ¬ stLt y.st x.st) : Srt l' := by
  refine srt_sorted hp hs ?_
  rw [List.pairwise_append]
  refine ⟨List.Pairwise.imp (fun {a b} h e => by rw [e] at h; exact stLt_irrefl _ h) h.srt, List.pairwise_singleton .., fun x hx y hy => ?_⟩
  rw [List.mem_singleton.1 hy]
  exact ha.new x hx
set_option maxHeartbeats 8000000 in
theorem putOf_pch {S : Std} (hS : LibD S) (l : List De) (d : De) (hl : SzL l) (hlen : l.length ≤ 1000) (hd : SzD d) : PcH Tryz.prog S 52 [.fz 7 (l.map deA), deA d] (PutR l d) := by
  have hfa := fault_pch hS l hl
  have hki := keyOf_pc d.st.dept hd.dept
  have hct := content_pch hS d hd.paper hd.text hd.person
  have hth := there_pc l d.paper hl.sz
  have hvec := rvec_pc l hl.len
  have herr : ∀ m : Int, m ≠ 0 → PutR l d (.tup [.fz 7 [], .int .i64 m]) := fun m hm => ⟨[], m, rfl, fun _ => rfl, fun h => absurd h hm⟩
  have hfine : CkOk l → l.length < 500 → keyL d.st.dept = true → bodyL d.kind d.paper d.text d.person = 0 → ∀ l' : List De, l'.Perm (l ++ [addD l d.st.dept d.kind d.paper d.text d.person]) → (l'.Pairwise fun x y => ¬ stLt y.st x.st) → PutR l d (.tup [.fz 7 (l'.map deA), .int .i64 0]) :=
    fun h1 h2 h3 h4 l' h5 h6 => ⟨l', 0, rfl, fun h => absurd rfl h, fun _ => ⟨h1, h2, h3, h4, put_sorted h1 (add_ok h1 _ _ _ _ _) h5 h6, h5⟩⟩
  generalize hR : PutR l d = R at *
  obtain ⟨⟨dept, no⟩, seen, kind, paper, text, person⟩ := d
  simp only [deA] at hct ⊢
  simp only at hki hth hfine hct
  refine pch_intro (cth_intro Tryz.func52 rfl Tryz.ntmps52 hB52 (by simp) fun h ρ w hg => goF (N := 99) Tryz.ntmps52 300 ?_)
  simp only [go_sem]
  refine pcallH hg (hfa) rfl (N := 99) Tryz.ntmps52 rfl ?_
  rintro _ ⟨n, rfl, hn⟩
  cases e0 : n != 0 with
  | true =>
    refine goF (N := 99) Tryz.ntmps52 300 ?_
    simp only [go_sem, e0]
    exact ARet.shift (Shift.trans (Shift.low 0 (e' := [(4, .raw (.slice none 0 0)), (5, .int .i64 n)]) (by simp) (by simp) rfl (by simp only [wkl, lowV, lowC, Av.get, go_sem])) (Shift.nilfz 4 7 rfl)) (aret [4, 5] rfl ⟨herr n (by simpa using e0), rfl⟩)
  | false =>
  have c0 : CkOk l := hn (by simpa using e0)
  refine goF (N := 99) Tryz.ntmps52 300 ?_
  simp only [go_sem, e0]
  refine pcall1 (hki) rfl (N := 99) Tryz.ntmps52 rfl (goF (N := 99) Tryz.ntmps52 300 ?_)
  cases hk : keyO dept with
  | false =>
    simp only [go_sem]
    exact ARet.shift (Shift.trans (Shift.low 0 (e' := [(4, .raw (.slice none 0 0)), (5, .int .i64 5)]) (by simp) (by simp) rfl (by simp only [wkl, lowV, lowC, Av.get, go_sem])) (Shift.nilfz 4 7 rfl)) (aret [4, 5] rfl ⟨herr 5 (by decide), rfl⟩)
  | true =>
  cases hbig : ((l.length : Int) == 500) with
  | true =>
    simp only [go_sem, hbig, List.length_map]
    exact ARet.shift (Shift.trans (Shift.low 0 (e' := [(4, .raw (.slice none 0 0)), (5, .int .i64 2)]) (by simp) (by simp) rfl (by simp only [wkl, lowV, lowC, Av.get, go_sem])) (Shift.nilfz 4 7 rfl)) (aret [4, 5] rfl ⟨herr 2 (by decide), rfl⟩)
  | false =>
  have hl500 : l.length < 500 := by have := c0.len; simp at hbig; omega
  simp only [go_sem, hbig, List.length_map]
  repeat refine And.intro (by first | omega | rfl | (simp; done) | (simp; omega)) ?_
  refine pcallH1 hg (hct) rfl (N := 99) Tryz.ntmps52 rfl (goF (N := 99) Tryz.ntmps52 300 ?_)
  cases e1 : contentL kind paper text person != 0 with
  | true =>
    simp only [go_sem, e1]
    exact ARet.shift (Shift.trans (Shift.low 0 (e' := [(4, .raw (.slice none 0 0)), (5, .int .i64 (contentL kind paper text person))]) (by simp) (by simp) rfl (by simp only [wkl, lowV, lowC, Av.get, go_sem])) (Shift.nilfz 4 7 rfl)) (aret [4, 5] rfl ⟨herr _ (by simpa using e1), rfl⟩)
  | false =>
  have c1 : bodyL kind paper text person = 0 := content_body (by simpa using e1)
  simp only [go_sem, e1]
  refine adrawC [3, 6] 99 [] mixed (by decide) (N := 99) Tryz.ntmps52 (by decide) 100 ?_
  simp only [go_sem, Go.Av.dxn, Go.Av.dxnc, ↓Go.Av.dbrn_true, ↓Go.Av.dbrn_false, Go.Av.dbrn]
  repeat refine And.intro (by first | omega | rfl | (simp; done) | (simp; omega)) ?_
  refine icc_pc (mayOf_pc sortStrs l paper hl hlen) rfl ⟨_, [], rfl, by simp⟩ ?_
  rintro _ ⟨o, rfl, ho⟩
  simp only [go_sem, Go.Av.dxn, Go.Av.dxnc, ↓Go.Av.dbrn_true, ↓Go.Av.dbrn_false, Go.Av.dbrn]
  repeat refine And.intro (by first | omega | rfl | (simp; done) | (simp; omega)) ?_
  refine icc_pc (dcontains_pc o person (by omega)) rfl ⟨_, rfl⟩ ?_
  rintro _ rfl
  generalize decide (person ∈ o) = hv
  refine goF (N := 99) Tryz.ntmps52 1 ?_
  simp only [go_sem]
  refine acut (ι := Unit) (fun _ => [(3, .ptr 0 1 0 0), (0, .fz 7 (l.map deA))]) (fun _ => [.arr 7 [.agg [.str dept, .int .i64 no, .fz 2 (seen.map stA), .int .i64 kind, .str paper, .str text, .str person]]]) (fun _ => True) ?_ ?_
  · intro J hJ
    have hfin := hJ () trivial
    cases k1 : kind != 1 with
    | true =>
      refine goF (N := 99) Tryz.ntmps52 300 ?_
      simp only [go_sem, k1]
      refine pcall1 (hth) rfl (N := 99) Tryz.ntmps52 rfl (goF (N := 99) Tryz.ntmps52 300 ?_)
      cases ht : thereL l paper with
      | false =>
        simp only [go_sem]
        exact ARet.shift (Shift.trans (Shift.low 0 (e' := [(4, .raw (.slice none 0 0)), (5, .int .i64 8)]) (by simp) (by simp) rfl (by simp only [wkl, lowV, lowC, Av.get, go_sem])) (Shift.nilfz 4 7 rfl)) (aret [4, 5] rfl ⟨herr 8 (by decide), rfl⟩)
      | true =>
        cases k3 : kind == 3 with
        | true =>
          have k4 : (kind == 4) = false := by simp at k3 ⊢; omega
          cases hv with
          | true =>
            simp only [go_sem, k3]
            exact ARet.shift (Shift.trans (Shift.low 0 (e' := [(4, .raw (.slice none 0 0)), (5, .int .i64 6)]) (by simp) (by simp) rfl (by simp only [wkl, lowV, lowC, Av.get, go_sem])) (Shift.nilfz 4 7 rfl)) (aret [4, 5] rfl ⟨herr 6 (by decide), rfl⟩)
          | false =>
            simp only [go_sem, k3, k4]
            refine ainv hfin (Shift.weakS ?_ rfl)
            simp only [wk, go_sem]
        | false =>
          cases k4 : kind == 4 with
          | true =>
            cases hv with
            | true =>
              simp only [go_sem, k3, k4]
              refine ainv hfin (Shift.weakS ?_ rfl)
              simp only [wk, go_sem]
            | false =>
              simp only [go_sem, k3, k4]
              exact ARet.shift (Shift.trans (Shift.low 0 (e' := [(4, .raw (.slice none 0 0)), (5, .int .i64 8)]) (by simp) (by simp) rfl (by simp only [wkl, lowV, lowC, Av.get, go_sem])) (Shift.nilfz 4 7 rfl)) (aret [4, 5] rfl ⟨herr 8 (by decide), rfl⟩)
          | false =>
            simp only [go_sem, k3, k4]
            refine ainv hfin (Shift.weakS ?_ rfl)
            simp only [wk, go_sem]
    | false =>
      have k3 : (kind == 3) = false := by simp at k1 ⊢; omega
      have k4 : (kind == 4) = false := by simp at k1 ⊢; omega
      refine goF (N := 99) Tryz.ntmps52 300 ?_
      simp only [go_sem, k1, k3, k4]
      refine ainv hfin (Shift.weakS ?_ rfl)
      simp only [wk, go_sem]
  rintro ⟨⟩ _
  clear hth hct hki hfa herr hn
  have hvo := vec_ok c0.srt
  have hvno : ∀ s ∈ vecL l, 1 ≤ s.no ∧ s.no ≤ 500 := fun s hs => by
    obtain ⟨x, hx, rfl⟩ := hvo.mem s hs
    exact ⟨c0.pos hx, c0.no_le hx⟩
  have hvl := vec_len l
  have hfine := hfine c0 hl500 (keyO_keyL hk) c1
  simp only [addD] at hfine
  clear hvo
  generalize vecL l = v at *
  refine goF (N := 99) Tryz.ntmps52 300 ?_
  simp only [go_sem]
  refine pcall1 (hvec) rfl (N := 99) Tryz.ntmps52 rfl (goF (N := 99) Tryz.ntmps52 300 ?_)
  simp only [go_sem, List.length_map]
  repeat refine And.intro (by first | omega | rfl | exact .inl rfl | exact .inl trivial | (simp; done) | (simp; omega)) ?_
  refine aloop (ι := Nat) (fun i => v.length - i) (fun i => [(69, .int .i64 i), (68, .int .i64 v.length), (67, .fz 2 (v.map stA)), (3, .ptr 0 1 0 0), (0, .fz 7 (l.map deA))])
    (fun i => [.arr 7 [.agg [.str dept, .int .i64 (addNo (v.take i) dept), .sl 1 0 (addSeen (v.take i) dept).length (addSeen (v.take i) dept).length, .int .i64 kind, .str paper, .str text, .str person]], .arr 2 ((addSeen (v.take i) dept).map stA)]) (fun i => i ≤ v.length) 0 (by simp) ?_ ?_
  · refine Shift.trans (Shift.cells 0 2 [.agg [.str dept, .int .i64 1, .sl 1 0 0 0, .int .i64 kind, .str paper, .str text, .str person]] rfl rfl (by simp [cellsOf]) ⟨.refl, .refl, .sl, .refl, .refl, .refl, .refl, trivial⟩) (Shift.weakS ?_ rfl)
    simp only [wk, go_sem]
  intro i g1 J hJ
  by_cases gi : i < v.length
  · have di : decide ((i : Int) < (v.length : Int)) = true := by simp; omega
    have p1 := stA_get v i gi
    have hfin := hJ (i + 1) (by omega) (by omega)
    rw [addNo_step v dept i gi, addSeen_step v dept i gi] at hfin
    have hle : (addSeen (v.take i) dept).length ≤ i := Nat.le_trans (List.length_filter_le _ _) (by simp; omega)
    generalize addNo (v.take i) dept = n0 at *
    generalize addSeen (v.take i) dept = o at *
    have hb := hvno v[i] (List.getElem_mem gi)
    have hlow0 : ∀ n m k, lowB 2 (.arr 7 [.agg [.str dept, .int .i64 n, .sl 1 0 m k, .int .i64 kind, .str paper, .str text, .str person]]) = true := fun _ _ _ => rfl
    by_cases dp : v[i].dept = dept
    · have dd : (v[i].dept == dept) = true := by simpa using dp
      rw [if_pos dp, if_pos dp] at hfin
      refine goF (N := 99) Tryz.ntmps52 300 ?_
      simp only [go_sem, di, p1, dd, List.length_map]
      repeat refine And.intro (by first | omega | rfl | exact .inl rfl | exact .inl trivial | (simp; done) | (simp; omega)) ?_
      rw [show (i : Int) + 1 = ((i + 1 : Nat) : Int) by omega]
      refine ainv hfin (Shift.low 2 (by simp) (by simp) ?_ ?_)
      · simp only [List.take_succ_cons, List.take_zero, List.all_cons, List.all_nil, low_sts, hlow0, Bool.and_self]
      · simp only [wkl, lowV, lowC, Av.get, go_sem]
    · have dd : (v[i].dept == dept) = false := by simpa using dp
      rw [if_neg dp, if_neg dp] at hfin
      have hlow1 := low_sts 2 (o ++ [v[i]])
      simp only [List.length_append, List.length_cons, List.length_nil, List.map_append, List.map_cons, List.map_nil, Nat.zero_add, stA] at hfin hlow1
      refine goF (N := 99) Tryz.ntmps52 300 ?_
      simp only [go_sem, di, p1, dd, List.length_map]
      repeat refine And.intro (by first | omega | rfl | exact .inl rfl | exact .inl trivial | (simp; done) | (simp; omega)) ?_
      rw [show (i : Int) + 1 = ((i + 1 : Nat) : Int) by omega]
      refine ainv hfin (Shift.low 2 (by simp) (by simp) ?_ ?_)
      · simp only [List.take_succ_cons, List.take_zero, List.all_cons, List.all_nil, hlow1, hlow0, Bool.and_self]
      · simp only [wkl, lowV, lowC, Av.get, go_sem]
  have di : decide ((i : Int) < (v.length : Int)) = false := by simp; omega
  have hi : i = v.length := by omega
  subst hi
  rw [List.take_length]
  clear hJ
  generalize hd' : (⟨⟨dept, addNo v dept⟩, addSeen v dept, kind, paper, text, person⟩ : De) = d' at *
  have hdA : deA d' = .agg [.str dept, .int .i64 (addNo v dept), .fz 2 ((addSeen v dept).map stA), .int .i64 kind, .str paper, .str text, .str person] := by rw [← hd']; rfl
  generalize addNo v dept = n0 at *
  generalize addSeen v dept = o at *
  have htk := take_map stA o
  refine AWp.shift (Shift.frz 1 rfl (stA_frz _)) ?_
  simp only [frzE, frz, frz1, frzC, frzB, List.map_cons, List.map_nil, List.set_cons_succ, List.set_cons_zero, Nat.reduceBEq, cond_true, cond_false, Bool.false_and, Bool.true_and, List.length_map, Nat.zero_add, decide_true, Nat.le_refl, List.drop_zero, htk, beq_self_eq_true]
  refine AWp.shift (Shift.low 1 (e' := [(69, .int .i64 v.length), (68, .int .i64 v.length), (67, .fz 2 (v.map stA)), (3, .ptr 0 1 0 0), (0, .fz 7 (l.map deA))]) (by simp) (by simp) rfl ?_) ?_
  · simp only [wkl, lowV, lowC, Av.get, go_sem]
  simp only [List.take_succ_cons, List.take_zero]
  refine goF (N := 99) Tryz.ntmps52 300 ?_
  simp only [go_sem, di]
  refine adrawC [1] 99 [] mixed (by decide) (N := 99) Tryz.ntmps52 (by decide) 100 ?_
  simp only [go_sem, Go.Av.dxn, Go.Av.dxnc, ↓Go.Av.dbrn_true, ↓Go.Av.dbrn_false, Go.Av.dbrn]
  repeat refine And.intro (by first | omega | rfl | exact .inl rfl | exact .inl trivial | (simp; done) | (simp; omega)) ?_
  refine icc (cloneDe_ct2 l (by omega) _) ⟨_, _, rfl, rfl⟩ ?_
  rintro _ _ ⟨rfl, rfl⟩
  refine ⟨.push' (by simp) _, ?_⟩
  simp only [go_sem, Go.Av.dxn, Go.Av.dxnc, ↓Go.Av.dbrn_true, ↓Go.Av.dbrn_false, Go.Av.dbrn, List.length_map]
  repeat refine And.intro (by first | omega | rfl | exact .inl rfl | exact .inl trivial | (simp; done) | (simp; omega)) ?_
  have hss := sortDe_ct (g := 107) hB107 put1_calls (s := [.arr 7 [deA d'], .arr 7 ((l ++ [d']).map deA)]) (bid := 1) (l := l ++ [d']) rfl (by simp; omega)
  simp only [List.length_append, List.length_cons, List.length_nil, Nat.zero_add, List.map_append, List.map_cons, List.map_nil, hdA] at hss
  refine goF (N := 99) Tryz.ntmps52 300 ?_
  simp only [go_sem]
  refine acall (hss) (N := 99) Tryz.ntmps52 rfl ?_
  rintro _ _ ⟨rfl, l', rfl, hp, hsrt⟩
  have hl' := hp.length_eq
  simp only [List.length_append, List.length_cons, List.length_nil, Nat.zero_add] at hl'
  have htk2 : ((l'.map deA).drop 0).take (l.length + 1) = l'.map deA := by rw [← hl', List.drop_zero, take_map]
  refine goF (N := 99) Tryz.ntmps52 300 ?_
  simp only [go_sem]
  refine ARet.shift (Shift.freeze 4 (id := 1) (l := l'.map deA) rfl rfl (by simp; omega) (Nat.le_refl _) (deA_frz _)) (aret [4, 5] rfl ⟨?_, ?_⟩)
  · simp only [resV, Av.get, Av.put, beq_self_eq_true, cond_true, htk2]
    exact hfine l' hp hsrt
  · rfl
end Go.Proofs.YtkomcdohejibmaaGreatDoor
/- slices.Sorted over a map's keys. Own work of this seat. -/
set_option maxRecDepth 100000
set_option linter.unusedSimpArgs false
set_option linter.unusedVariables false
namespace Go.Av
open Go Go.RowKit
/-- the cells of a row that a call has made are told frozen -/
theorem Mine.adoptFz {h : Mem} {ρ : Own} {s : List Blk} {w w' : World} (m : Mine h ρ s w) (sm : Same w w') (g : Nat) (cs : List Value) (hg : w.heap.size ≤ g) (hc : ∀ o v, cs[o]? = some v → w'.cell? ⟨g, o, none⟩ = some v) (h1 : ∀ v ∈ cs, v.oneCell' = true) :
    Mine (Mem.add h g cs) ρ s w' ∧ Later h ρ s w (Mem.add h g cs) ρ s w' := by
  have m1 := m.same sm
  have hle : ∀ b o v, h b o = some v → Mem.add h g cs b o = some v := by
    intro b o v e
    have := m.memlt e
    simp [Mem.add, show b ≠ g by omega, e]
  refine ⟨⟨?_, ?_, m1.out, m1.inj, ?_⟩, ⟨hle, ?_, fun _ _ x => x, sm.os, sm.tape, sm.output, sm.size, fun k hk _ => sm.block k hk, fun i _ t x => .inl ⟨i, t, x⟩⟩⟩
  · intro b o v e
    by_cases hb : b = g
    · subst hb
      simp only [Mem.add, if_true] at e
      exact ⟨hc o v e, h1 v (List.mem_of_getElem? e)⟩
    · simp only [Mem.add, hb, if_false] at e
      exact m1.mem b o v e
  · exact fun id blk e => (m1.own id blk e).mono hle (fun _ _ x => x) rfl (fun _ _ _ => rfl)
  · intro i g' t e o
    have := m.lt e
    simp [Mem.add, show g' ≠ g by omega, m.disj i g' t e o]
  · intro b o e n
    by_cases hb : b = g
    · exact .inr (by omega)
    · simp [Mem.add, hb, e] at n
end Go.Av
namespace Go.Proofs.YtkomcdohejibmaaGreatDoor
open Go Go.Av Go.RowKit Go.Shelf Go.Sort

theorem insert_perm (x : Lit × DataW Unit) : ∀ l : List (Lit × DataW Unit), (DataW.insert x l).Perm (x :: l)
  | [] => .refl _
  | y :: r => by
    unfold DataW.insert
    split
    · exact .refl _
    · exact (List.Perm.cons y (insert_perm x r)).trans (List.Perm.swap x y r)
theorem foldr_perm : ∀ l : List (Lit × DataW Unit), (l.foldr DataW.insert []).Perm l
  | [] => .refl _
  | x :: l => (insert_perm x _).trans (List.Perm.cons x (foldr_perm l))

/-- what is read of a map's entries: nothing but their keys -/
def readK : Value → Option (DataW Unit × List MemPlace) := fun _ => some (.lit (.bool true), [])
def Gives (kf : Nat) : Prop := ∀ (Bm b nn : Nat) (D0 : DataW Unit) (w : World), Bm < w.heap.size → w.cell? ⟨Bm, 0, none⟩ = some (.map (some b)) → w.ownsMap Tryz.prog 9 readK b nn D0 →
  SeqGives Fence.wide 2 Tryz.prog kf #[.pointer (some ⟨Bm, 0, none⟩)] encStr (fun ss => ss.Perm (strKeys D0)) (Maps.size D0) w
theorem givesP : Gives 138 := fun Bm b nn D0 w h1 h2 h3 => AnyZ.keys_gives (ρ := Tryz.keysP_ren) { Tryz.keysP with } Fence.wide 2 trivial rfl (by omega) Bm b nn D0 w h1 h2 h3
theorem sortsW (m : Nat) : AnyZ.SortsIn Tryz.prog Tryz.sorted_ren Fence.wide m :=
  ⟨fun blk off cap ss W hH hblk hsz => callsIn_wide.2 (AnyM.slices_Sort_string Tryz.sortS blk off cap ss W hH hblk hsz),
   fun p cap W => callsIn_wide.2 (AnyM.slices_Sort_string_none Tryz.sortS p cap W)⟩
/-- keys in order -/
def srtK (ks : List (List UInt8)) : List (List UInt8) := ks.mergeSort fun x y => decide (x ≤ y)
theorem srtK_perm (ks : List (List UInt8)) : (srtK ks).Perm ks := List.mergeSort_perm _ _
theorem srtK_of {ks ks' : List (List UInt8)} (h : ks.Perm ks') : srtK ks = srtK ks' := mergeSort_of_perm h
theorem strs_rlt {h : Mem} {L : Value → AV → Prop} : ∀ (l : List (List UInt8)), RL h L true (l.map encStr) (flat (l.map AV.str))
  | [] => .nil
  | x :: l => by
    simp only [List.map_cons, flat, cellsOf, List.cons_append, List.nil_append]
    exact .cons (.str x) (strs_rlt l)
theorem en_key {P : Program} {k : TypeId} (hk : P.underlying k = some .string) {s : List UInt8} (hs : s.length ≤ 1000000) : keyOf P k (.string ⟨s.toArray⟩) = some (.string s) := by
  unfold keyOf
  rw [hk]
  simp only [mapKey, hk]
  rw [if_pos (by show s.toArray.size ≤ maxLen; simp [maxLen]; omega)]
set_option maxHeartbeats 2000000 in
theorem sorted_ct {kf : Nat} (hg : Gives kf) (hkf : ∀ args w, (callFunc kf args).run Tryz.prog w = .ok (.enter kf args) w) {s : List Blk} {j m : Nat} {es : List (AV × AV)} (ks : List (List UInt8)) (hj : s[j]? = some (.arr 1 [.mp m])) (hm : s[m]? = some (.mp es)) (hks : es.map (·.1) = ks.map .str) (hlen : ks.length ≤ 1000) (hsz : ∀ k ∈ ks, k.length ≤ 1000000) :
    Ct Tryz.prog 86 [.fn (.func kf) [.ptr j 1 0 0]] s (fun r s' => r = .fz 1 ((srtK ks).map .str) ∧ s' = s) := by
  refine ⟨hB86, fun h ρ w vs M r => ?_⟩
  cases r with
  | @cons _ v0 _ _ _ r0 r =>
  cases r
  obtain ⟨vs1, rfl, rl⟩ : ∃ vs1 : List Value, v0 = .func (.func kf) #[] vs1.toArray ∧ RL h (Lf ρ s) false vs1 [.ptr j 1 0 0] := by
    cases r0 with
    | leaf p => exact p.2.elim
    | fn _ vs1 _ rl => exact ⟨vs1, rfl, rl⟩
  cases rl with
  | @cons _ p0 _ _ _ rp rl =>
  cases rl
  have hL := (inv_ptr rp).2
  simp only [LfC, hj] at hL
  obtain ⟨_, g, tot, hρ, rfl⟩ := hL.2 rfl
  rcases M.own j _ hj with ⟨hn, _⟩ | ⟨g', tot', cur, tt, i3, i4, i5, i6, i7, i8, i9, i10, i11⟩
  · cases hn
  rw [hρ] at i3
  simp only [Option.some.injEq, Prod.mk.injEq] at i3
  obtain ⟨rfl, rfl⟩ := i3
  obtain ⟨c0, hc0, rc⟩ := i11.get (k := 0) (a := .mp m) rfl
  have hLm := (inv_mp rc).2
  simp only [LfC, hm] at hLm
  obtain ⟨g2, hρ2, rfl⟩ := hLm
  obtain ⟨g3, en, clock, e1, e2, e3, e4, e5⟩ := M.own m _ hm
  rw [hρ2] at e1
  simp only [Option.some.injEq, Prod.mk.injEq, and_true] at e1
  subst e1
  have hkl : en.toList.length = ks.length := by
    have := congrArg List.length hks
    simp only [List.length_map] at this
    omega
  have hkeys : ∀ (i : Nat) (y : MapEntry), en.toList[i]? = some y → ∃ k, ks[i]? = some k ∧ y.key = .string ⟨k.toArray⟩ := by
    intro i y hy
    have hi := (List.getElem?_eq_some_iff.1 hy).1
    have hi2 : i < es.length := by omega
    have h1 := (e4 i es[i] y (List.getElem?_eq_getElem hi2) hy).1
    have h2 : (es.map (·.1))[i]? = some es[i].1 := by rw [List.getElem?_map, List.getElem?_eq_getElem hi2]; rfl
    rw [hks, List.getElem?_map, List.getElem?_eq_getElem (by omega)] at h2
    simp only [Option.map_some, Option.some.injEq] at h2
    refine ⟨ks[i]'(by omega), List.getElem?_eq_getElem (by omega), ?_⟩
    rw [← inv_str (h2 ▸ h1)]
  have hcell : w.cell? ⟨g, 0, none⟩ = some (.map (some g2)) := by
    rw [i4.cell, ← Array.getElem?_toList]
    rw [List.getElem?_take] at hc0
    split at hc0
    · exact hc0
    · cases hc0
  have hgl : g < w.heap.size := M.lt hρ
  have hread : ∀ x ∈ en.toList, ∃ k ∈ ks, x.key = .string ⟨k.toArray⟩ ∧ WideElems.rd Tryz.prog 9 readK x = some (.string k, .lit (.bool true)) := by
    intro x hx
    obtain ⟨i, hi, e⟩ := List.getElem_of_mem hx
    obtain ⟨k, hk, hk2⟩ := hkeys i x (by rw [List.getElem?_eq_getElem hi, e])
    have hkm := List.mem_of_getElem? hk
    refine ⟨k, hkm, hk2, ?_⟩
    obtain ⟨key, val, born⟩ := x
    exact WideElems.rd_mk (yv := (.lit (.bool true), [])) (by rw [show key = _ from hk2]; exact en_key Tryz.underlying9 (hsz k hkm)) rfl
  have hown : w.ownsMap Tryz.prog 9 readK g2 en.size (.map ((en.toList.map (WideElems.rg Tryz.prog 9 readK)).foldr DataW.insert [])) := by
    refine ⟨en, clock, e2, ⟨?_, ⟨fun x hx => ?_, ?_, ?_⟩, fun x hx => ?_⟩, Nat.le_refl _, rfl⟩
    · have : en.size = en.toList.length := by simp
      unfold maxLen
      omega
    · obtain ⟨i, hi, e⟩ := List.getElem_of_mem hx
      have := e5.2.1 i x (by rw [List.getElem?_eq_getElem hi, e])
      rw [this, e5.1]
      exact hi
    · rw [List.nodup_iff_pairwise_ne, List.pairwise_iff_getElem]
      intro a b ha hb hab e
      simp only [List.length_map] at ha hb
      have h1 := e5.2.1 a _ (List.getElem?_eq_getElem ha)
      have h2 := e5.2.1 b _ (List.getElem?_eq_getElem hb)
      simp only [List.getElem_map] at e
      omega
    · exact List.pairwise_map.2 e5.2.2
    · obtain ⟨k, _, _, h2⟩ := hread x hx
      exact ⟨_, h2⟩
  have hD : (strKeys (.map ((en.toList.map (WideElems.rg Tryz.prog 9 readK)).foldr DataW.insert []) : DataW Unit)).Perm ks := by
    show (List.map (fun p => strOf p.1) ((en.toList.map (WideElems.rg Tryz.prog 9 readK)).foldr DataW.insert [])).Perm ks
    refine ((foldr_perm _).map _).trans ?_
    rw [List.map_map]
    have : List.map ((fun p => strOf p.1) ∘ WideElems.rg Tryz.prog 9 readK) en.toList = ks := by
      apply List.ext_getElem?
      intro i
      rw [List.getElem?_map]
      cases hy : en.toList[i]? with
      | none =>
        rw [List.getElem?_eq_none_iff] at hy
        rw [List.getElem?_eq_none (by omega)]
        rfl
      | some y =>
        obtain ⟨k, hk, hk2⟩ := hkeys i y hy
        obtain ⟨k2, _, h3, h4⟩ := hread y (List.mem_of_getElem? hy)
        rw [hk]
        simp only [Option.map_some, Function.comp, WideElems.rg_of h4, strOf]
        rw [hk2] at h3
        simp only [Value.string.injEq, ByteArray.mk.injEq] at h3
        have := congrArg Array.toList h3
        simp at this
        rw [this]
    rw [this]
  have hsize : Maps.size (.map ((en.toList.map (WideElems.rg Tryz.prog 9 readK)).foldr DataW.insert []) : DataW Unit) = ks.length := by
    rw [Maps.size_eq, (foldr_perm _).length_eq, List.length_map, hkl]
  have cS := AnyZ.sorted_in Tryz.sorted Fence.wide 5 trivial trivial trivial trivial rfl (by omega) (sortsW _) (enters_of Tryz.func111 (by kernel_rfl) rfl) kf #[.pointer (some ⟨g, 0, none⟩)] trivial hkf _ _ (by rw [hsize]; unfold maxLen; omega) (by rw [hsize]; omega) w (hg g g2 en.size _ w hgl hcell hown)
  have cS' := callsIn_wide.1 cS
  refine Calls.mono (f := 86) cS' ?_
  rintro e w' ⟨v, ss, rfl, hS, hrow, hnil, hb⟩
  have hssk : srtK ss = srtK ks := srtK_of (hS.trans hD)
  obtain ⟨q, hq⟩ : ∃ q, ss.mergeSort (fun x y => decide (x ≤ y)) = q := ⟨_, rfl⟩
  have hqk : srtK ks = q := by rw [← hssk]; exact hq
  rw [hq] at hrow
  have hqs : q.length = ss.length := by rw [← hq]; exact (List.mergeSort_perm ss _).length_eq
  have sm : Same w w' := ⟨hb.os, hb.tape, ⟨hb.output, trivial⟩, hb.size, hb.block⟩
  have hqone : ∀ x ∈ q.map AV.str, (cellsOf x).length = 1 := fun x hx => by
    obtain ⟨y, _, rfl⟩ := List.mem_map.1 hx
    rfl
  rcases hrow.2 with ⟨rfl, hz⟩ | ⟨gb, cap, cur2, rfl, b1, b2, b3, b4, b5, b6⟩
  · have hq0 : q = [] := List.eq_nil_of_length_eq_zero (by omega)
    have m1 := M.same sm
    exact ⟨_, _, _, h, ρ, rfl, ⟨by rw [hqk], rfl⟩, m1, .same sm, by rw [hq0]; exact .fznil 1⟩
  · have hcell2 : ∀ o v, (q.map encStr)[o]? = some v → w'.cell? ⟨gb, o, none⟩ = some v := by
      intro o v e
      have e2 : cur2.toList[o]? = some v := by
        have ho := (List.getElem?_eq_some_iff.1 e).1
        rw [← b6, List.getElem?_take] at e
        split at e
        · exact e
        · cases e
      rw [HRow.cell ⟨(0, 0), b2, .inl rfl⟩, ← Array.getElem?_toList]
      exact e2
    obtain ⟨m1, L1⟩ := M.adoptFz sm gb (q.map encStr) b1 hcell2 (fun v hv => by
      obtain ⟨z, _, rfl⟩ := List.mem_map.1 hv
      rfl)
    refine ⟨_, _, _, _, ρ, rfl, ⟨by rw [hqk], rfl⟩, m1, L1, ?_⟩
    have hz := RV.fz (h := Mem.add h gb (q.map encStr)) (Lf := Lf ρ s) (fl := false) gb 0 cap 1 (q.map .str) (q.map encStr) (strs_rlt q) hqone (fun k v e => by simp [Mem.add, e]) (by rw [List.length_map]; omega)
    rw [List.length_map, hqs] at hz
    exact hz
end Go.Proofs.YtkomcdohejibmaaGreatDoor
