/- The reference's PutOf. Own work of this seat. -/
import Derived.Test.YtkomcdohejibmaaGreatDoorS44
import Derived.Test.YtkomcdohejibmaaGreatDoorS46
import Derived.Test.YtkomcdohejibmaaGreatDoorS48
import Derived.Test.YtkomcdohejibmaaGreatDoorS23
import Derived.Test.YtkomcdohejibmaaGreatDoorS22
import Derived.Test.YtkomcdohejibmaaGreatDoorS13
set_option maxRecDepth 100000
set_option linter.unusedSimpArgs false
set_option linter.unusedVariables false
namespace Go.Proofs.YtkomcdohejibmaaGreatDoor
open Go Go.Av Go.RowKit

theorem cloneDe_ct2 (l : List De) (hl : l.length ≤ 100000) (r : List Blk) :
    Ct Tryz.prog 106 [.fz 7 (l.map deA)] r (fun v s => v = .sl r.length 0 l.length l.length ∧ s = r ++ [.arr 7 (l.map deA)]) := by
  cases l with
  | nil =>
    refine ct_intro Tryz.func106 rfl Tryz.ntmps106 hB106 (by simp) fun h ρ w => go (N := 8) Tryz.ntmps106 300 ?_
    simp only [go_sem, List.map_nil]
    intro b
    cases b with
    | true =>
      refine go (N := 8) Tryz.ntmps106 300 ?_
      simp only [go_sem]
      exact ARet.shift (Shift.nilsl 2 7 rfl) (aret [2] rfl ⟨by simp [resV, Av.get, Av.put], rfl⟩)
    | false =>
      refine go (N := 8) Tryz.ntmps106 300 ?_
      simp only [go_sem, getD_end, set_end]
      repeat refine And.intro (by first | omega | rfl | exact .inl rfl | exact .inl trivial | (simp; done) | (simp; omega)) ?_
      exact aret [2] rfl ⟨by simp [resV, Av.get, Av.put], rfl⟩
  | cons x xs =>
    simp only [List.length_cons] at hl
    refine ct_intro Tryz.func106 rfl Tryz.ntmps106 hB106 (by simp) fun h ρ w => go (N := 8) Tryz.ntmps106 300 ?_
    simp only [go_sem, deA, getD_end, set_end, List.length_map]
    repeat refine And.intro (by first | omega | rfl | exact .inl rfl | exact .inl trivial | (simp; done) | (simp; omega)) ?_
    exact aret [2] rfl ⟨by simp [resV, Av.get, Av.put], rfl⟩
theorem addNo_step (v : List St) (dept : List UInt8) (i : Nat) (h : i < v.length) : addNo (v.take (i + 1)) dept = if v[i].dept = dept then v[i].no + 1 else addNo (v.take i) dept := by
  unfold addNo
  rw [List.take_succ_eq_append_getElem h, List.foldl_append]
  rfl
theorem addSeen_step (v : List St) (dept : List UInt8) (i : Nat) (h : i < v.length) : addSeen (v.take (i + 1)) dept = if v[i].dept = dept then addSeen (v.take i) dept else addSeen (v.take i) dept ++ [v[i]] := by
  unfold addSeen
  rw [filter_step _ v i h]
  by_cases e : v[i].dept = dept
  · simp [e]
  · simp [e]
theorem CkOk.no_le {l : List De} (h : CkOk l) {d : De} (hd : d ∈ l) : d.st.no ≤ 500 := by
  obtain ⟨i, hi, rfl⟩ := List.getElem_of_mem hd
  have h1 := (h.at2 hi).no
  have h2 : cnt (l.take i) l[i].st.dept ≤ i := Nat.le_trans List.countP_le_length (by simp; omega)
  have := h.len
  omega
/-- what adding a deed is told to be -/
def PutR (l : List De) (d : De) (r : AV) : Prop := ∃ (l' : List De) (n : Int), r = .tup [.fz 7 (l'.map deA), .int .i64 n] ∧ (n ≠ 0 → l' = []) ∧
  (n = 0 → CkOk l ∧ l.length < 500 ∧ keyL d.st.dept = true ∧ bodyL d.kind d.paper d.text d.person = 0 ∧ Srt l' ∧ l'.Perm (l ++ [addD l d.st.dept d.kind d.paper d.text d.person]))
theorem put_sorted {l l' : List De} {d : De} (h : CkOk l) (ha : AddOk l d) (hp : l'.Perm (l ++ [d])) (hs : l'.Pairwise fun x y => ¬ stLt y.st x.st) : Srt l' := by
  refine srt_sorted hp hs ?_
  rw [List.pairwise_append]
  refine ⟨List.Pairwise.imp (fun {a b} h e => by rw [e] at h; exact stLt_irrefl _ h) h.srt, List.pairwise_singleton .., fun x hx y hy => ?_⟩
  rw [List.mem_singleton.1 hy]
  exact ha.new x hx
set_option maxHeartbeats 8000000 in
theorem putOf_pch {S : Std} (hS : LibD S) (l : List De) (d : De) (hl : SzL l) (hlen : l.length ≤ 1000) (hd : SzD d) : PcH Tryz.prog S 52 [.fz 7 (l.map deA), deA d] (PutR l d) := by
  have hfa := fault_pch hS l hl
  have hki := keyOf_pc d.st.dept hd.dept
  have hct := content_pch hS d hd.paper hd.text hd.person
  have hth := there_pc l d.paper hl.sz
  have hvec := rvec_pc l hl.len
  have herr : ∀ m : Int, m ≠ 0 → PutR l d (.tup [.fz 7 [], .int .i64 m]) := fun m hm => ⟨[], m, rfl, fun _ => rfl, fun h => absurd h hm⟩
  have hfine : CkOk l → l.length < 500 → keyL d.st.dept = true → bodyL d.kind d.paper d.text d.person = 0 → ∀ l' : List De, l'.Perm (l ++ [addD l d.st.dept d.kind d.paper d.text d.person]) → (l'.Pairwise fun x y => ¬ stLt y.st x.st) → PutR l d (.tup [.fz 7 (l'.map deA), .int .i64 0]) :=
    fun h1 h2 h3 h4 l' h5 h6 => ⟨l', 0, rfl, fun h => absurd rfl h, fun _ => ⟨h1, h2, h3, h4, put_sorted h1 (add_ok h1 _ _ _ _ _) h5 h6, h5⟩⟩
  generalize hR : PutR l d = R at *
  obtain ⟨⟨dept, no⟩, seen, kind, paper, text, person⟩ := d
  simp only [deA] at hct ⊢
  simp only at hki hth hfine hct
  refine pch_intro (cth_intro Tryz.func52 rfl Tryz.ntmps52 hB52 (by simp) fun h ρ w hg => goF (N := 99) Tryz.ntmps52 300 ?_)
  simp only [go_sem]
  refine pcallH hg (hfa) rfl (N := 99) Tryz.ntmps52 rfl ?_
  rintro _ ⟨n, rfl, hn⟩
  cases e0 : n != 0 with
  | true =>
    refine goF (N := 99) Tryz.ntmps52 300 ?_
    simp only [go_sem, e0]
    exact ARet.shift (Shift.trans (Shift.low 0 (e' := [(4, .raw (.slice none 0 0)), (5, .int .i64 n)]) (by simp) (by simp) rfl (by simp only [wkl, lowV, lowC, Av.get, go_sem])) (Shift.nilfz 4 7 rfl)) (aret [4, 5] rfl ⟨herr n (by simpa using e0), rfl⟩)
  | false =>
  have c0 : CkOk l := hn (by simpa using e0)
  refine goF (N := 99) Tryz.ntmps52 300 ?_
  simp only [go_sem, e0]
  refine pcall1 (hki) rfl (N := 99) Tryz.ntmps52 rfl (goF (N := 99) Tryz.ntmps52 300 ?_)
  cases hk : keyO dept with
  | false =>
    simp only [go_sem]
    exact ARet.shift (Shift.trans (Shift.low 0 (e' := [(4, .raw (.slice none 0 0)), (5, .int .i64 5)]) (by simp) (by simp) rfl (by simp only [wkl, lowV, lowC, Av.get, go_sem])) (Shift.nilfz 4 7 rfl)) (aret [4, 5] rfl ⟨herr 5 (by decide), rfl⟩)
  | true =>
  cases hbig : ((l.length : Int) == 500) with
  | true =>
    simp only [go_sem, hbig, List.length_map]
    exact ARet.shift (Shift.trans (Shift.low 0 (e' := [(4, .raw (.slice none 0 0)), (5, .int .i64 2)]) (by simp) (by simp) rfl (by simp only [wkl, lowV, lowC, Av.get, go_sem])) (Shift.nilfz 4 7 rfl)) (aret [4, 5] rfl ⟨herr 2 (by decide), rfl⟩)
  | false =>
  have hl500 : l.length < 500 := by have := c0.len; simp at hbig; omega
  simp only [go_sem, hbig, List.length_map]
  repeat refine And.intro (by first | omega | rfl | (simp; done) | (simp; omega)) ?_
  refine pcallH1 hg (hct) rfl (N := 99) Tryz.ntmps52 rfl (goF (N := 99) Tryz.ntmps52 300 ?_)
  cases e1 : contentL kind paper text person != 0 with
  | true =>
    simp only [go_sem, e1]
    exact ARet.shift (Shift.trans (Shift.low 0 (e' := [(4, .raw (.slice none 0 0)), (5, .int .i64 (contentL kind paper text person))]) (by simp) (by simp) rfl (by simp only [wkl, lowV, lowC, Av.get, go_sem])) (Shift.nilfz 4 7 rfl)) (aret [4, 5] rfl ⟨herr _ (by simpa using e1), rfl⟩)
  | false =>
  have c1 : bodyL kind paper text person = 0 := content_body (by simpa using e1)
  simp only [go_sem, e1]
  refine adrawC [3, 6] 99 [] mixed (by decide) (N := 99) Tryz.ntmps52 (by decide) 100 ?_
  simp only [go_sem, Go.Av.dxn, Go.Av.dxnc, ↓Go.Av.dbrn_true, ↓Go.Av.dbrn_false, Go.Av.dbrn]
  repeat refine And.intro (by first | omega | rfl | (simp; done) | (simp; omega)) ?_
  refine icc_pc (mayOf_pc sortStrs l paper hl hlen) rfl ⟨_, [], rfl, by simp⟩ ?_
  rintro _ ⟨o, rfl, ho⟩
  simp only [go_sem, Go.Av.dxn, Go.Av.dxnc, ↓Go.Av.dbrn_true, ↓Go.Av.dbrn_false, Go.Av.dbrn]
  repeat refine And.intro (by first | omega | rfl | (simp; done) | (simp; omega)) ?_
  refine icc_pc (dcontains_pc o person (by omega)) rfl ⟨_, rfl⟩ ?_
  rintro _ rfl
  generalize decide (person ∈ o) = hv
  refine goF (N := 99) Tryz.ntmps52 1 ?_
  simp only [go_sem]
  refine acut (ι := Unit) (fun _ => [(3, .ptr 0 1 0 0), (0, .fz 7 (l.map deA))]) (fun _ => [.arr 7 [.agg [.str dept, .int .i64 no, .fz 2 (seen.map stA), .int .i64 kind, .str paper, .str text, .str person]]]) (fun _ => True) ?_ ?_
  · intro J hJ
    have hfin := hJ () trivial
    cases k1 : kind != 1 with
    | true =>
      refine goF (N := 99) Tryz.ntmps52 300 ?_
      simp only [go_sem, k1]
      refine pcall1 (hth) rfl (N := 99) Tryz.ntmps52 rfl (goF (N := 99) Tryz.ntmps52 300 ?_)
      cases ht : thereL l paper with
      | false =>
        simp only [go_sem]
        exact ARet.shift (Shift.trans (Shift.low 0 (e' := [(4, .raw (.slice none 0 0)), (5, .int .i64 8)]) (by simp) (by simp) rfl (by simp only [wkl, lowV, lowC, Av.get, go_sem])) (Shift.nilfz 4 7 rfl)) (aret [4, 5] rfl ⟨herr 8 (by decide), rfl⟩)
      | true =>
        cases k3 : kind == 3 with
        | true =>
          have k4 : (kind == 4) = false := by simp at k3 ⊢; omega
          cases hv with
          | true =>
            simp only [go_sem, k3]
            exact ARet.shift (Shift.trans (Shift.low 0 (e' := [(4, .raw (.slice none 0 0)), (5, .int .i64 6)]) (by simp) (by simp) rfl (by simp only [wkl, lowV, lowC, Av.get, go_sem])) (Shift.nilfz 4 7 rfl)) (aret [4, 5] rfl ⟨herr 6 (by decide), rfl⟩)
          | false =>
            simp only [go_sem, k3, k4]
            refine ainv hfin (Shift.weakS ?_ rfl)
            simp only [wk, go_sem]
        | false =>
          cases k4 : kind == 4 with
          | true =>
            cases hv with
            | true =>
              simp only [go_sem, k3, k4]
              refine ainv hfin (Shift.weakS ?_ rfl)
              simp only [wk, go_sem]
            | false =>
              simp only [go_sem, k3, k4]
              exact ARet.shift (Shift.trans (Shift.low 0 (e' := [(4, .raw (.slice none 0 0)), (5, .int .i64 8)]) (by simp) (by simp) rfl (by simp only [wkl, lowV, lowC, Av.get, go_sem])) (Shift.nilfz 4 7 rfl)) (aret [4, 5] rfl ⟨herr 8 (by decide), rfl⟩)
          | false =>
            simp only [go_sem, k3, k4]
            refine ainv hfin (Shift.weakS ?_ rfl)
            simp only [wk, go_sem]
    | false =>
      have k3 : (kind == 3) = false := by simp at k1 ⊢; omega
      have k4 : (kind == 4) = false := by simp at k1 ⊢; omega
      refine goF (N := 99) Tryz.ntmps52 300 ?_
      simp only [go_sem, k1, k3, k4]
      refine ainv hfin (Shift.weakS ?_ rfl)
      simp only [wk, go_sem]
  rintro ⟨⟩ _
  clear hth hct hki hfa herr hn
  have hvo := vec_ok c0.srt
  have hvno : ∀ s ∈ vecL l, 1 ≤ s.no ∧ s.no ≤ 500 := fun s hs => by
    obtain ⟨x, hx, rfl⟩ := hvo.mem s hs
    exact ⟨c0.pos hx, c0.no_le hx⟩
  have hvl := vec_len l
  have hfine := hfine c0 hl500 (keyO_keyL hk) c1
  simp only [addD] at hfine
  clear hvo
  generalize vecL l = v at *
  refine goF (N := 99) Tryz.ntmps52 300 ?_
  simp only [go_sem]
  refine pcall1 (hvec) rfl (N := 99) Tryz.ntmps52 rfl (goF (N := 99) Tryz.ntmps52 300 ?_)
  simp only [go_sem, List.length_map]
  repeat refine And.intro (by first | omega | rfl | exact .inl rfl | exact .inl trivial | (simp; done) | (simp; omega)) ?_
  refine aloop (ι := Nat) (fun i => v.length - i) (fun i => [(69, .int .i64 i), (68, .int .i64 v.length), (67, .fz 2 (v.map stA)), (3, .ptr 0 1 0 0), (0, .fz 7 (l.map deA))])
    (fun i => [.arr 7 [.agg [.str dept, .int .i64 (addNo (v.take i) dept), .sl 1 0 (addSeen (v.take i) dept).length (addSeen (v.take i) dept).length, .int .i64 kind, .str paper, .str text, .str person]], .arr 2 ((addSeen (v.take i) dept).map stA)]) (fun i => i ≤ v.length) 0 (by simp) ?_ ?_
  · refine Shift.trans (Shift.cells 0 2 [.agg [.str dept, .int .i64 1, .sl 1 0 0 0, .int .i64 kind, .str paper, .str text, .str person]] rfl rfl (by simp [cellsOf]) ⟨.refl, .refl, .sl, .refl, .refl, .refl, .refl, trivial⟩) (Shift.weakS ?_ rfl)
    simp only [wk, go_sem]
  intro i g1 J hJ
  by_cases gi : i < v.length
  · have di : decide ((i : Int) < (v.length : Int)) = true := by simp; omega
    have p1 := stA_get v i gi
    have hfin := hJ (i + 1) (by omega) (by omega)
    rw [addNo_step v dept i gi, addSeen_step v dept i gi] at hfin
    have hle : (addSeen (v.take i) dept).length ≤ i := Nat.le_trans (List.length_filter_le _ _) (by simp; omega)
    generalize addNo (v.take i) dept = n0 at *
    generalize addSeen (v.take i) dept = o at *
    have hb := hvno v[i] (List.getElem_mem gi)
    have hlow0 : ∀ n m k, lowB 2 (.arr 7 [.agg [.str dept, .int .i64 n, .sl 1 0 m k, .int .i64 kind, .str paper, .str text, .str person]]) = true := fun _ _ _ => rfl
    by_cases dp : v[i].dept = dept
    · have dd : (v[i].dept == dept) = true := by simpa using dp
      rw [if_pos dp, if_pos dp] at hfin
      refine goF (N := 99) Tryz.ntmps52 300 ?_
      simp only [go_sem, di, p1, dd, List.length_map]
      repeat refine And.intro (by first | omega | rfl | exact .inl rfl | exact .inl trivial | (simp; done) | (simp; omega)) ?_
      rw [show (i : Int) + 1 = ((i + 1 : Nat) : Int) by omega]
      refine ainv hfin (Shift.low 2 (by simp) (by simp) ?_ ?_)
      · simp only [List.take_succ_cons, List.take_zero, List.all_cons, List.all_nil, low_sts, hlow0, Bool.and_self]
      · simp only [wkl, lowV, lowC, Av.get, go_sem]
    · have dd : (v[i].dept == dept) = false := by simpa using dp
      rw [if_neg dp, if_neg dp] at hfin
      have hlow1 := low_sts 2 (o ++ [v[i]])
      simp only [List.length_append, List.length_cons, List.length_nil, List.map_append, List.map_cons, List.map_nil, Nat.zero_add, stA] at hfin hlow1
      refine goF (N := 99) Tryz.ntmps52 300 ?_
      simp only [go_sem, di, p1, dd, List.length_map]
      repeat refine And.intro (by first | omega | rfl | exact .inl rfl | exact .inl trivial | (simp; done) | (simp; omega)) ?_
      rw [show (i : Int) + 1 = ((i + 1 : Nat) : Int) by omega]
      refine ainv hfin (Shift.low 2 (by simp) (by simp) ?_ ?_)
      · simp only [List.take_succ_cons, List.take_zero, List.all_cons, List.all_nil, hlow1, hlow0, Bool.and_self]
      · simp only [wkl, lowV, lowC, Av.get, go_sem]
  have di : decide ((i : Int) < (v.length : Int)) = false := by simp; omega
  have hi : i = v.length := by omega
  subst hi
  rw [List.take_length]
  clear hJ
  generalize hd' : (⟨⟨dept, addNo v dept⟩, addSeen v dept, kind, paper, text, person⟩ : De) = d' at *
  have hdA : deA d' = .agg [.str dept, .int .i64 (addNo v dept), .fz 2 ((addSeen v dept).map stA), .int .i64 kind, .str paper, .str text, .str person] := by rw [← hd']; rfl
  generalize addNo v dept = n0 at *
  generalize addSeen v dept = o at *
  have htk := take_map stA o
  refine AWp.shift (Shift.frz 1 rfl (stA_frz _)) ?_
  simp only [frzE, frz, frz1, frzC, frzB, List.map_cons, List.map_nil, List.set_cons_succ, List.set_cons_zero, Nat.reduceBEq, cond_true, cond_false, Bool.false_and, Bool.true_and, List.length_map, Nat.zero_add, decide_true, Nat.le_refl, List.drop_zero, htk, beq_self_eq_true]
  refine AWp.shift (Shift.low 1 (e' := [(69, .int .i64 v.length), (68, .int .i64 v.length), (67, .fz 2 (v.map stA)), (3, .ptr 0 1 0 0), (0, .fz 7 (l.map deA))]) (by simp) (by simp) rfl ?_) ?_
  · simp only [wkl, lowV, lowC, Av.get, go_sem]
  simp only [List.take_succ_cons, List.take_zero]
  refine goF (N := 99) Tryz.ntmps52 300 ?_
  simp only [go_sem, di]
  refine adrawC [1] 99 [] mixed (by decide) (N := 99) Tryz.ntmps52 (by decide) 100 ?_
  simp only [go_sem, Go.Av.dxn, Go.Av.dxnc, ↓Go.Av.dbrn_true, ↓Go.Av.dbrn_false, Go.Av.dbrn]
  repeat refine And.intro (by first | omega | rfl | exact .inl rfl | exact .inl trivial | (simp; done) | (simp; omega)) ?_
  refine icc (cloneDe_ct2 l (by omega) _) ⟨_, _, rfl, rfl⟩ ?_
  rintro _ _ ⟨rfl, rfl⟩
  refine ⟨.push' (by simp) _, ?_⟩
  simp only [go_sem, Go.Av.dxn, Go.Av.dxnc, ↓Go.Av.dbrn_true, ↓Go.Av.dbrn_false, Go.Av.dbrn, List.length_map]
  repeat refine And.intro (by first | omega | rfl | exact .inl rfl | exact .inl trivial | (simp; done) | (simp; omega)) ?_
  have hss := sortDe_ct (g := 107) hB107 put1_calls (s := [.arr 7 [deA d'], .arr 7 ((l ++ [d']).map deA)]) (bid := 1) (l := l ++ [d']) rfl (by simp; omega)
  simp only [List.length_append, List.length_cons, List.length_nil, Nat.zero_add, List.map_append, List.map_cons, List.map_nil, hdA] at hss
  refine goF (N := 99) Tryz.ntmps52 300 ?_
  simp only [go_sem]
  refine acall (hss) (N := 99) Tryz.ntmps52 rfl ?_
  rintro _ _ ⟨rfl, l', rfl, hp, hsrt⟩
  have hl' := hp.length_eq
  simp only [List.length_append, List.length_cons, List.length_nil, Nat.zero_add] at hl'
  have htk2 : ((l'.map deA).drop 0).take (l.length + 1) = l'.map deA := by rw [← hl', List.drop_zero, take_map]
  refine goF (N := 99) Tryz.ntmps52 300 ?_
  simp only [go_sem]
  refine ARet.shift (Shift.freeze 4 (id := 1) (l := l'.map deA) rfl rfl (by simp; omega) (Nat.le_refl _) (deA_frz _)) (aret [4, 5] rfl ⟨?_, ?_⟩)
  · simp only [resV, Av.get, Av.put, beq_self_eq_true, cond_true, htk2]
    exact hfine l' hp hsrt
  · rfl
end Go.Proofs.YtkomcdohejibmaaGreatDoor
/- A call that makes one new block, over every table; nil as an argument. Own work of this seat. -/
set_option linter.unusedSimpArgs false
set_option linter.unusedVariables false
set_option linter.unusedSectionVars false
namespace Go.Av
open Go Go.RowKit
variable [Tr]
/-- a call that makes one new block, over every table -/
theorem Ct.lift {P : Program} {f : FuncId} {args : List AV} {n es : Nat} {l : List AV} (hc : Ct P f args [] (fun r s => r = .sl 0 0 n n ∧ s = [.arr es l])) (ha : args.all nr1 = true) (hf : (flat l).all frozen = true)
    (s : List Blk) : Ct P f args s (fun r s' => r = .sl s.length 0 n n ∧ s' = s ++ [.arr es l]) := by
  refine ⟨hc.1, fun h ρ w vs m r => ?_⟩
  have hm0 : Mine h (fun _ => none) [] w := ⟨m.mem, fun id blk e => by simp at e, fun _ _ => rfl, fun i j g t t' e => by simp at e, fun i g t e => by simp at e⟩
  refine (hc.2 h (fun _ => none) w vs hm0 ((nofrzL (Lf' := Lf0) r ha).thaw (fun _ _ _ x => x))).mono ?_
  rintro en w' ⟨v, r, s1, h', ρ1, rfl, ⟨rfl, rfl⟩, m', lt, rv⟩
  have hgood : ∀ i g t, ρ1 i = some (g, t) → w.heap.size ≤ g := fun i g t e => by
    rcases lt.newown i g t e with ⟨j, t', hj⟩ | h
    · cases hj
    · exact h
  have hblk : ∀ k, k < w.heap.size → w'.heap[k]? = w.heap[k]? := fun k hk => lt.block k hk (fun i t e => by cases e)
  have hnew : ∀ b o, h b o = none → h' b o ≠ none → w.heap.size ≤ b := fun b o e n => by
    rcases lt.hnew b o e n with ⟨j, t', hj⟩ | h
    · cases hj
    · exact h
  have hρ : ∀ i, i ≠ s.length → upd ρ s.length (ρ1 0) i = ρ i := fun i hi => by simp [upd, hi]
  have hρi : upd ρ s.length (ρ1 0) s.length = ρ1 0 := by simp [upd]
  have hkeep : ∀ v a, Lf ρ s v a → Lf (upd ρ s.length (ρ1 0)) (s ++ [.arr es l]) v a := fun v a x => Lf_push x
  have hown : ∀ i g t, upd ρ s.length (ρ1 0) i = some (g, t) → (i ≠ s.length ∧ ρ i = some (g, t) ∧ g < w.heap.size) ∨ (i = s.length ∧ ρ1 0 = some (g, t) ∧ w.heap.size ≤ g) := fun i g t e => by
    by_cases hi : i = s.length
    · rw [hi, hρi] at e
      exact .inr ⟨hi, e, hgood 0 g t e⟩
    · rw [hρ i hi] at e
      exact .inl ⟨hi, e, m.lt e⟩
  refine ⟨v, _, _, h', upd ρ s.length (ρ1 0), rfl, ⟨rfl, rfl⟩, ⟨m'.mem, ?_, ?_, ?_, ?_⟩, ⟨lt.hle, fun b o e n => .inr (hnew b o e n), hkeep, lt.os, lt.tape, lt.output, lt.size, fun k hk _ => hblk k hk, ?_⟩, ?_⟩
  · intro i blk e
    by_cases hi : i = s.length
    · subst hi
      simp at e
      subst e
      rcases m'.own 0 (.arr es l) rfl with ⟨h1, h2⟩ | ⟨g, tot, cur, t, h1, h2, h3, h4, h5, h6, h7, h8, h9⟩
      · exact .inl ⟨h1, hρi.trans h2⟩
      · exact .inr ⟨g, tot, cur, t, hρi.trans h1, h2, h3, h4, h5, h6, h7, h8, rl_frozen hf h9⟩
    · have hlt : i < s.length := by
        have := (List.getElem?_eq_some_iff.1 e).1
        simp at this
        omega
      rw [List.getElem?_append_left hlt] at e
      exact (m.own i blk e).mono lt.hle hkeep (hρ i hi) (fun g t hg => hblk g (m.lt hg))
  · intro i hi
    simp at hi
    rw [hρ i (by omega)]
    exact m.out i (by omega)
  · intro i j g t t' hi hj
    rcases hown i g t hi with ⟨a1, a2, a3⟩ | ⟨a1, a2, a3⟩ <;> rcases hown j g t' hj with ⟨b1, b2, b3⟩ | ⟨b1, b2, b3⟩
    · exact m.inj i j g t t' a2 b2
    · omega
    · omega
    · omega
  · intro i g t e o
    rcases hown i g t e with ⟨a1, a2, a3⟩ | ⟨a1, a2, a3⟩
    · cases hq : h' g o with
      | none => rfl
      | some z =>
        have := hnew g o (m.disj i g t a2 o) (by rw [hq]; simp)
        omega
    · exact m'.disj 0 g t a2 o
  · intro i g t e
    rcases hown i g t e with ⟨a1, a2, a3⟩ | ⟨a1, a2, a3⟩
    · exact .inl ⟨i, t, a2⟩
    · exact .inr a3
  · have q := inv_sl rv
    exact .leaf ⟨q.1, LfC_at (blk := .arr es l) rfl (by simp) hρi q.2⟩
/-- nil is an empty list -/
theorem Pc.nilarg {P : Program} {f : FuncId} {es : Nat} {args : List AV} {post : AV → Prop} (hc : Pc P f (.fz es [] :: args) post) : Pc P f (.raw (.slice none 0 0) :: args) post := by
  refine ⟨hc.1, fun h w vs hm hv => hc.2 h w vs hm ?_⟩
  cases hv with
  | cons r1 r2 =>
    have : _ = Value.slice none 0 0 := inv_raw (ρ := fun _ => none) (sto := []) (r1.thaw (fun _ _ _ x => x) (fl := false))
    subst this
    exact .cons (.fznil es) r2
/-- a third cell that is nil, told as an empty list -/
theorem rl_raw3 {h : Mem} {L : Value → AV → Prop} {fl : Bool} {a b : AV} {r : List AV} {es : Nat} {vs : List Value} (hl : ∀ v a, L v a → False) (x : RL h L fl vs (a :: b :: .raw (.slice none 0 0) :: r)) : RL h L fl vs (a :: b :: .fz es [] :: r) := by
  cases x with
  | cons r1 x =>
  cases x with
  | cons r2 x =>
  cases x with
  | cons r3 x =>
    refine .cons r1 (.cons r2 (.cons ?_ x))
    cases r3 with
    | leaf p => exact (hl _ _ p).elim
    | raw => exact .fznil es
theorem Pc.rawcell {P : Program} {f : FuncId} {es : Nat} {a b : AV} {r : List AV} {post : AV → Prop} (hc : Pc P f [.agg (a :: b :: .fz es [] :: r)] post) : Pc P f [.agg (a :: b :: .raw (.slice none 0 0) :: r)] post := by
  refine ⟨hc.1, fun h w vs hm hv => hc.2 h w vs hm ?_⟩
  cases hv with
  | cons r1 r2 =>
    cases r2
    cases r1 with
    | agg vs l rl => exact .cons (.agg _ _ (rl_raw3 (fun _ _ p => p) rl)) .nil
end Go.Av
