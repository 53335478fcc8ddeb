/- office.Add. Own work of this seat. -/
import Derived.Test.YtkomcdohejibmaaGreatDoorY39
import Derived.Test.YtkomcdohejibmaaGreatDoorY37
import Derived.Test.YtkomcdohejibmaaGreatDoorY45
import Derived.Test.YtkomcdohejibmaaGreatDoorY22
import Derived.Test.YtkomcdohejibmaaGreatDoorY40
import Derived.Test.YtkomcdohejibmaaGreatDoorY29
import Derived.Test.YtkomcdohejibmaaGreatDoorY36
set_option maxRecDepth 100000
set_option linter.unusedSimpArgs false
set_option linter.unusedVariables false
namespace Go.Proofs.YtkomcdohejibmaaGreatDoor
open Go Go.Av Go.RowKit

theorem chosen_ct0 (f : FuncId) (caps : List AV) (hc : caps.all frozen0 = true) (p : De → Bool) (l : List De) (hl : Sz l) (hf : ∀ x ∈ l, Pc Tryz.prog f (deA x :: caps) (· = .bool (p x))) :
    Ct Tryz.prog 38 [.fz 7 (l.map deA), .fn (.func f) caps] [] (fun v s => v = .sl 0 0 (l.filter p).length (l.filter p).length ∧ s = [.arr 7 ((l.filter p).map deA)]) := by
  have h1 := hl.1
  refine ct_intro Tryz.func38 rfl Tryz.ntmps38 hB38 (by simp) fun h ρ w => goB (N := 24) Tryz.ntmps38 300 ?_
  simp only [go_sem]
  refine aloop (ι := Nat) (fun i => l.length - i) (fun i => [(10, .int .i64 i), (9, .int .i64 l.length), (8, .fz 7 (l.map deA)), (5, .sl 0 0 ((l.take i).filter p).length ((l.take i).filter p).length), (1, .fn (.func f) caps)])
    (fun i => [.arr 7 (((l.take i).filter p).map deA)]) (fun i => i ≤ l.length) 0 (by simp) ?_ ?_
  · refine Shift.trans (Shift.nilsl 5 7 rfl) (Shift.weak ?_)
    simp only [wk, go_sem, List.length_map, List.filter_nil]
  · intro i g1 J hJ
    by_cases gi : i < l.length
    · have di : decide ((i : Int) < (l.length : Int)) = true := by simp; omega
      have hfx := hf _ (List.getElem_mem gi)
      have hcp := copied_pc l[i] (hl.2 _ (List.getElem_mem gi))
      have hst := filter_step p l i gi
      have hle : ((l.take i).filter p).length ≤ i := Nat.le_trans (List.length_filter_le _ _) (by simp; omega)
      generalize (l.take i).filter p = o at *
      have hfin := hJ (i + 1) (by omega) (by omega)
      simp only [hst] at hfin
      simp only [deA] at hfx hcp
      cases hp : p l[i] with
      | true =>
        rw [hp] at hfx hfin
        refine goB (N := 24) Tryz.ntmps38 300 ?_
        simp only [go_sem, di, deA_get l i gi, List.length_map]
        repeat refine And.intro (by first | omega | rfl | (simp; omega)) ?_
        refine pcall1 hfx (nr1_cons rfl hc) (N := 24) Tryz.ntmps38 rfl (goB (N := 24) Tryz.ntmps38 300 ?_)
        simp only [go_sem, List.length_map]
        refine pcall1 hcp rfl (N := 24) Tryz.ntmps38 rfl (goB (N := 24) Tryz.ntmps38 300 ?_)
        simp only [go_sem, List.length_map]
        repeat refine And.intro (by first | omega | rfl | exact .inl rfl | exact .inl trivial | (simp; done) | (simp; omega)) ?_
        rw [show (i : Int) + 1 = ((i + 1 : Nat) : Int) by omega]
        simp only [if_true, List.length_append, List.length_cons, List.length_nil, List.map_append, List.map_cons, List.map_nil, Nat.zero_add] at hfin
        simp only [deA] at hfin
        refine ainv hfin (Shift.low 1 (by simp) (by simp) ?_ ?_)
        · have := low_des 1 (o ++ [l[i]])
          simp only [List.map_append, List.map_cons, List.map_nil, deA] at this
          simp only [List.take_succ_cons, List.take_zero, List.all_cons, List.all_nil, deA, this, Bool.and_self]
        · simp only [wkl, lowV, lowC, Av.get, go_sem, hc, low_caps hc]
      | false =>
        rw [hp] at hfx hfin
        refine goB (N := 24) Tryz.ntmps38 300 ?_
        simp only [go_sem, di, deA_get l i gi, List.length_map]
        repeat refine And.intro (by first | omega | rfl | (simp; omega)) ?_
        refine pcall1 hfx (nr1_cons rfl hc) (N := 24) Tryz.ntmps38 rfl (goB (N := 24) Tryz.ntmps38 300 ?_)
        simp only [go_sem, List.length_map]
        repeat refine And.intro (by first | omega | rfl | exact .inl rfl | exact .inl trivial | (simp; done) | (simp; omega)) ?_
        rw [show (i : Int) + 1 = ((i + 1 : Nat) : Int) by omega]
        simp only [Bool.false_eq_true, if_false, List.append_nil] at hfin
        refine ainv hfin (Shift.low 1 (by simp) (by simp) ?_ ?_)
        · simp only [List.take_succ_cons, List.take_zero, List.all_cons, List.all_nil, low_des, Bool.and_self]
        · simp only [wkl, lowV, lowC, Av.get, go_sem, hc, low_caps hc]
    · have di : decide ((i : Int) < (l.length : Int)) = false := by simp; omega
      have : i = l.length := by omega
      subst this
      rw [List.take_length]
      refine goB (N := 24) Tryz.ntmps38 300 ?_
      simp only [go_sem, di]
      exact aret [4] rfl ⟨by simp only [resV, Av.get, Av.put, beq_self_eq_true, cond_true], rfl⟩

theorem addAll_pc (d : De) : Pc Tryz.prog 39 [deA d] (· = .bool true) := by
  simp only [deA]
  refine pc_intro (ct_intro Tryz.func39 rfl Tryz.ntmps39 hB39 (by simp) fun h ρ w => goB (N := 3) Tryz.ntmps39 300 ?_)
  simp only [go_sem]
  exact aret [2] rfl ⟨rfl, rfl⟩
theorem chosenAll_ct (l : List De) (hl : Sz l) (s : List Blk) : Ct Tryz.prog 38 [.fz 7 (l.map deA), .fn (.func 39) []] s (fun v s' => v = .sl s.length 0 l.length l.length ∧ s' = s ++ [.arr 7 (l.map deA)]) := by
  have h := chosen_ct0 39 [] rfl (fun _ => true) l hl fun x _ => addAll_pc x
  rw [show (fun _ : De => true) = fun _ => true from rfl, List.filter_eq_self.2 (fun _ _ => rfl)] at h
  exact h.lift rfl (deA_frz l) s
/-- what adding a deed is told to be -/
def AddR (l : List De) (dept : List UInt8) (kind : Int) (paper text person : List UInt8) (r : AV) : Prop := ∃ (l' : List De) (n : Int), r = .tup [.fz 7 (l'.map deA), .int .i64 n] ∧
  (n = 0 → CkOk l ∧ l.length < 500 ∧ keyL dept = true ∧ bodyL kind paper text person = 0 ∧ Srt l' ∧ l'.Perm (l ++ [addD l dept kind paper text person])) ∧
  (CkOk l → l.length < 500 → keyL dept = true → bodyL kind paper text person = 0 → (kind = 1 ∨ (kind ≠ 3 ∧ kind ≠ 4 ∧ thereL l paper = true)) → n = 0)
set_option maxHeartbeats 8000000 in
theorem add_pc (l : List De) (dept : List UInt8) (kind : Int) (paper text person : List UInt8) (hl : SzL l) (hlen : l.length ≤ 1000) (hd : dept.length < 1000000) (hp : paper.length < 1000000) (ht : text.length < 1000000) (hpe : person.length < 1000000) :
    Pc Tryz.prog 9 [.fz 7 (l.map deA), .str dept, .int .i64 kind, .str paper, .str text, .str person] (AddR l dept kind paper text person) := by
  have hck := check_pc l hl
  have hki := isKey_pc dept hd
  have hbf := bodyFault_pc ⟨⟨dept, 1⟩, [], kind, paper, text, person⟩ hp ht hpe
  have hvs := vers_pc l paper hl.sz
  have hvl0 : (versL l paper).length < 1000000 := by
    unfold versL
    rw [List.length_map]
    exact ((hl.sz.filter (verP paper)).filter (lastP _)).1
  have hth := isThere_pc l (versL l paper) hl.len hvl0
  have hvec := ovec_pc l hl.len
  have herr : ∀ m : Int, m ≠ 0 → ¬ (CkOk l ∧ l.length < 500 ∧ keyL dept = true ∧ bodyL kind paper text person = 0 ∧ (kind = 1 ∨ (kind ≠ 3 ∧ kind ≠ 4 ∧ thereL l paper = true))) → AddR l dept kind paper text person (.tup [.fz 7 [], .int .i64 m]) :=
    fun m hm hno => ⟨[], m, rfl, fun h => absurd h hm, fun a b c d e => absurd ⟨a, b, c, d, e⟩ hno⟩
  have hfine : CkOk l → l.length < 500 → keyL dept = true → bodyL kind paper text person = 0 → ∀ l' : List De, l'.Perm (l ++ [addD l dept kind paper text person]) → (l'.Pairwise fun x y => ¬ stLt y.st x.st) → AddR l dept kind paper text person (.tup [.fz 7 (l'.map deA), .int .i64 0]) :=
    fun h1 h2 h3 h4 l' h5 h6 => ⟨l', 0, rfl, fun _ => ⟨h1, h2, h3, h4, put_sorted h1 (add_ok h1 _ _ _ _ _) h5 h6, h5⟩, fun _ _ _ _ _ => rfl⟩
  generalize hR : AddR l dept kind paper text person = R at *
  have hbf := Pc.rawcell hbf
  refine pc_intro (ct_intro Tryz.func9 rfl Tryz.ntmps9 hB9 (by simp) fun h ρ w => goF (N := 106) Tryz.ntmps9 300 ?_)
  simp only [go_sem]
  refine pcall (hck) rfl (N := 106) Tryz.ntmps9 rfl ?_
  rintro _ ⟨n, rfl, hn⟩
  cases e0 : n != 0 with
  | true =>
    have e0' : n ≠ 0 := by simpa using e0
    refine goF (N := 106) Tryz.ntmps9 300 ?_
    simp only [go_sem, e0]
    exact ARet.shift (Shift.trans (Shift.low 0 (e' := [(12, .raw (.slice none 0 0)), (13, .int .i64 n)]) (by simp) (by simp) rfl (by simp only [wkl, lowV, lowC, Av.get, go_sem])) (Shift.nilfz 12 7 rfl)) (aret [12, 13] rfl ⟨(herr n e0' fun h => e0' (hn.2 h.1)), rfl⟩)
  | false =>
  have c0 : CkOk l := hn.1 (by simpa using e0)
  refine goF (N := 106) Tryz.ntmps9 300 ?_
  simp only [go_sem, e0]
  refine pcall1 (hki) rfl (N := 106) Tryz.ntmps9 rfl (goF (N := 106) Tryz.ntmps9 300 ?_)
  cases hk : keyL dept with
  | false =>
    simp only [go_sem]
    exact ARet.shift (Shift.trans (Shift.low 0 (e' := [(12, .raw (.slice none 0 0)), (13, .int .i64 5)]) (by simp) (by simp) rfl (by simp only [wkl, lowV, lowC, Av.get, go_sem])) (Shift.nilfz 12 7 rfl)) (aret [12, 13] rfl ⟨(herr 5 (by decide) fun h => by have := h.2.2.1; rw [hk] at this; cases this), rfl⟩)
  | true =>
  cases hbig : decide ((l.length : Int) ≥ 500) with
  | true =>
    simp only [go_sem, hbig, List.length_map]
    exact ARet.shift (Shift.trans (Shift.low 0 (e' := [(12, .raw (.slice none 0 0)), (13, .int .i64 2)]) (by simp) (by simp) rfl (by simp only [wkl, lowV, lowC, Av.get, go_sem])) (Shift.nilfz 12 7 rfl)) (aret [12, 13] rfl ⟨(herr 2 (by decide) fun h => by have := h.2.1; simp at hbig; omega), rfl⟩)
  | false =>
  have hl500 : l.length < 500 := by simp at hbig; omega
  simp only [go_sem, hbig, List.length_map]
  repeat refine And.intro (by first | omega | rfl | exact .inl rfl | exact .inl trivial | (simp; done) | (simp; omega)) ?_
  refine pcall1 (hbf) rfl (N := 106) Tryz.ntmps9 rfl (goF (N := 106) Tryz.ntmps9 300 ?_)
  cases e1 : bodyL kind paper text person != 0 with
  | true =>
    simp only [go_sem, e1]
    exact ARet.shift (Shift.trans (Shift.low 0 (e' := [(12, .raw (.slice none 0 0)), (13, .int .i64 (bodyL kind paper text person))]) (by simp) (by simp) rfl (by simp only [wkl, lowV, lowC, Av.get, go_sem])) (Shift.nilfz 12 7 rfl)) (aret [12, 13] rfl ⟨(herr _ (by simpa using e1) fun h => by have := h.2.2.2.1; rw [this] at e1; cases e1), rfl⟩)
  | false =>
  have c1 : bodyL kind paper text person = 0 := by simpa using e1
  simp only [go_sem, e1]
  refine pcall1 (may_pc l paper hl hlen) rfl (N := 106) Tryz.ntmps9 rfl (goF (N := 106) Tryz.ntmps9 300 ?_)
  simp only [go_sem]
  refine pcall1 (dcontains_pc (mayL l paper) person (by have := mayL_len l paper; omega)) rfl (N := 106) Tryz.ntmps9 rfl ?_
  refine goF (N := 106) Tryz.ntmps9 4 ?_
  simp only [go_sem]
  generalize decide (person ∈ mayL l paper) = hv
  refine acut (ι := Unit) (fun _ => [(15, .ptr 0 1 0 0), (1, .str dept), (0, .fz 7 (l.map deA))]) (fun _ => [.arr 7 [.agg [.str dept, .int .i64 1, .raw (.slice none 0 0), .int .i64 kind, .str paper, .str text, .str person]]]) (fun _ => True) ?_ ?_
  · intro J hJ
    have hfin := hJ () trivial
    cases k1 : kind != 1 with
    | true =>
      rw [there_isPut c0 paper] at hth
      refine goF (N := 106) Tryz.ntmps9 300 ?_
      simp only [go_sem, k1]
      refine pcall1 (hvs) rfl (N := 106) Tryz.ntmps9 rfl (goF (N := 106) Tryz.ntmps9 300 ?_)
      simp only [go_sem]
      refine pcall1 (hth) rfl (N := 106) Tryz.ntmps9 rfl (goF (N := 106) Tryz.ntmps9 300 ?_)
      cases ht : thereL l paper with
      | false =>
        have hno : ¬ (CkOk l ∧ l.length < 500 ∧ keyL dept = true ∧ bodyL kind paper text person = 0 ∧ (kind = 1 ∨ (kind ≠ 3 ∧ kind ≠ 4 ∧ thereL l paper = true))) := fun h => by
          rcases h.2.2.2.2 with h | h
          · rw [h] at k1; cases k1
          · rw [ht] at h; cases h.2.2
        simp only [go_sem]
        exact ARet.shift (Shift.trans (Shift.low 0 (e' := [(12, .raw (.slice none 0 0)), (13, .int .i64 8)]) (by simp) (by simp) rfl (by simp only [wkl, lowV, lowC, Av.get, go_sem])) (Shift.nilfz 12 7 rfl)) (aret [12, 13] rfl ⟨(herr 8 (by decide) hno), rfl⟩)
      | true =>
        cases k3 : kind == 3 with
        | true =>
          have k4 : (kind == 4) = false := by simp at k3 ⊢; omega
          have hno : ¬ (CkOk l ∧ l.length < 500 ∧ keyL dept = true ∧ bodyL kind paper text person = 0 ∧ (kind = 1 ∨ (kind ≠ 3 ∧ kind ≠ 4 ∧ thereL l paper = true))) := fun h => by
            simp at k3
            omega
          cases hv with
          | true =>
            simp only [go_sem, k3]
            exact ARet.shift (Shift.trans (Shift.low 0 (e' := [(12, .raw (.slice none 0 0)), (13, .int .i64 6)]) (by simp) (by simp) rfl (by simp only [wkl, lowV, lowC, Av.get, go_sem])) (Shift.nilfz 12 7 rfl)) (aret [12, 13] rfl ⟨(herr 6 (by decide) hno), rfl⟩)
          | false =>
            simp only [go_sem, k3, k4]
            refine ainv hfin (Shift.weakS ?_ rfl)
            simp only [wk, go_sem]
        | false =>
          cases k4 : kind == 4 with
          | true =>
            have hno : ¬ (CkOk l ∧ l.length < 500 ∧ keyL dept = true ∧ bodyL kind paper text person = 0 ∧ (kind = 1 ∨ (kind ≠ 3 ∧ kind ≠ 4 ∧ thereL l paper = true))) := fun h => by
              simp at k4
              omega
            cases hv with
            | true =>
              simp only [go_sem, k3, k4]
              refine ainv hfin (Shift.weakS ?_ rfl)
              simp only [wk, go_sem]
            | false =>
              simp only [go_sem, k3, k4]
              exact ARet.shift (Shift.trans (Shift.low 0 (e' := [(12, .raw (.slice none 0 0)), (13, .int .i64 8)]) (by simp) (by simp) rfl (by simp only [wkl, lowV, lowC, Av.get, go_sem])) (Shift.nilfz 12 7 rfl)) (aret [12, 13] rfl ⟨(herr 8 (by decide) hno), rfl⟩)
          | false =>
            simp only [go_sem, k3, k4]
            refine ainv hfin (Shift.weakS ?_ rfl)
            simp only [wk, go_sem]
    | false =>
      have k3 : (kind == 3) = false := by simp at k1 ⊢; omega
      have k4 : (kind == 4) = false := by simp at k1 ⊢; omega
      refine goF (N := 106) Tryz.ntmps9 300 ?_
      simp only [go_sem, k1, k3, k4]
      refine ainv hfin (Shift.weakS ?_ rfl)
      simp only [wk, go_sem]
  rintro ⟨⟩ _
  clear hth hvs hki herr hn hbf hck
  have hvo := vec_ok c0.srt
  have hvno : ∀ s ∈ vecL l, 1 ≤ s.no ∧ s.no ≤ 500 := fun s hs => by
    obtain ⟨x, hx, rfl⟩ := hvo.mem s hs
    exact ⟨c0.pos hx, c0.no_le hx⟩
  have hvl := vec_len l
  have hfine := hfine c0 hl500 hk c1
  simp only [addD] at hfine
  clear hvo
  generalize vecL l = v at *
  refine goF (N := 106) Tryz.ntmps9 300 ?_
  simp only [go_sem]
  refine pcall1 (hvec) rfl (N := 106) Tryz.ntmps9 rfl (goF (N := 106) Tryz.ntmps9 300 ?_)
  simp only [go_sem, List.length_map]
  repeat refine And.intro (by first | omega | rfl | exact .inl rfl | exact .inl trivial | (simp; done) | (simp; omega)) ?_
  refine aloop (ι := Nat) (fun i => v.length - i) (fun i => [(78, .int .i64 i), (77, .int .i64 v.length), (76, .fz 2 (v.map stA)), (15, .ptr 0 1 0 0), (1, .str dept), (0, .fz 7 (l.map deA))])
    (fun i => [.arr 7 [.agg [.str dept, .int .i64 (addNo (v.take i) dept), .sl 1 0 (addSeen (v.take i) dept).length (addSeen (v.take i) dept).length, .int .i64 kind, .str paper, .str text, .str person]], .arr 2 ((addSeen (v.take i) dept).map stA)]) (fun i => i ≤ v.length) 0 (by simp) ?_ ?_
  · refine Shift.trans (Shift.cells 0 2 [.agg [.str dept, .int .i64 1, .sl 1 0 0 0, .int .i64 kind, .str paper, .str text, .str person]] rfl rfl (by simp [cellsOf]) ⟨.refl, .refl, .sl, .refl, .refl, .refl, .refl, trivial⟩) (Shift.weakS ?_ rfl)
    simp only [wk, go_sem]
  intro i g1 J hJ
  by_cases gi : i < v.length
  · have di : decide ((i : Int) < (v.length : Int)) = true := by simp; omega
    have p1 := stA_get v i gi
    have hfin := hJ (i + 1) (by omega) (by omega)
    rw [addNo_step v dept i gi, addSeen_step v dept i gi] at hfin
    have hle : (addSeen (v.take i) dept).length ≤ i := Nat.le_trans (List.length_filter_le _ _) (by simp; omega)
    generalize addNo (v.take i) dept = n0 at *
    generalize addSeen (v.take i) dept = o at *
    have hb := hvno v[i] (List.getElem_mem gi)
    have hlow0 : ∀ n m k, lowB 2 (.arr 7 [.agg [.str dept, .int .i64 n, .sl 1 0 m k, .int .i64 kind, .str paper, .str text, .str person]]) = true := fun _ _ _ => rfl
    by_cases dp : v[i].dept = dept
    · have dd : (v[i].dept == dept) = true := by simpa using dp
      rw [if_pos dp, if_pos dp] at hfin
      refine goF (N := 106) Tryz.ntmps9 300 ?_
      simp only [go_sem, di, p1, dd, List.length_map]
      repeat refine And.intro (by first | omega | rfl | exact .inl rfl | exact .inl trivial | (simp; done) | (simp; omega)) ?_
      rw [show (i : Int) + 1 = ((i + 1 : Nat) : Int) by omega]
      refine ainv hfin (Shift.low 2 (by simp) (by simp) ?_ ?_)
      · simp only [List.take_succ_cons, List.take_zero, List.all_cons, List.all_nil, low_sts, hlow0, Bool.and_self]
      · simp only [wkl, lowV, lowC, Av.get, go_sem]
    · have dd : (v[i].dept == dept) = false := by simpa using dp
      rw [if_neg dp, if_neg dp] at hfin
      have hlow1 := low_sts 2 (o ++ [v[i]])
      simp only [List.length_append, List.length_cons, List.length_nil, List.map_append, List.map_cons, List.map_nil, Nat.zero_add, stA] at hfin hlow1
      refine goF (N := 106) Tryz.ntmps9 300 ?_
      simp only [go_sem, di, p1, dd, List.length_map]
      repeat refine And.intro (by first | omega | rfl | exact .inl rfl | exact .inl trivial | (simp; done) | (simp; omega)) ?_
      rw [show (i : Int) + 1 = ((i + 1 : Nat) : Int) by omega]
      refine ainv hfin (Shift.low 2 (by simp) (by simp) ?_ ?_)
      · simp only [List.take_succ_cons, List.take_zero, List.all_cons, List.all_nil, hlow1, hlow0, Bool.and_self]
      · simp only [wkl, lowV, lowC, Av.get, go_sem]
  have di : decide ((i : Int) < (v.length : Int)) = false := by simp; omega
  have hi : i = v.length := by omega
  subst hi
  rw [List.take_length]
  clear hJ
  generalize hd' : (⟨⟨dept, addNo v dept⟩, addSeen v dept, kind, paper, text, person⟩ : De) = d' at *
  have hdA : deA d' = .agg [.str dept, .int .i64 (addNo v dept), .fz 2 ((addSeen v dept).map stA), .int .i64 kind, .str paper, .str text, .str person] := by rw [← hd']; rfl
  generalize addNo v dept = n0 at *
  generalize addSeen v dept = o at *
  have htk := take_map stA o
  refine AWp.shift (Shift.frz 1 rfl (stA_frz _)) ?_
  simp only [frzE, frz, frz1, frzC, frzB, List.map_cons, List.map_nil, List.set_cons_succ, List.set_cons_zero, Nat.reduceBEq, cond_true, cond_false, Bool.false_and, Bool.true_and, List.length_map, Nat.zero_add, decide_true, Nat.le_refl, List.drop_zero, htk, beq_self_eq_true]
  refine AWp.shift (Shift.low 1 (e' := [(78, .int .i64 v.length), (77, .int .i64 v.length), (76, .fz 2 (v.map stA)), (15, .ptr 0 1 0 0), (1, .str dept), (0, .fz 7 (l.map deA))]) (by simp) (by simp) rfl ?_) ?_
  · simp only [wkl, lowV, lowC, Av.get, go_sem]
  simp only [List.take_succ_cons, List.take_zero]
  refine goF (N := 106) Tryz.ntmps9 300 ?_
  simp only [go_sem, di]
  refine adrawC [1] 99 [] mixed (by decide) (N := 106) Tryz.ntmps9 (by decide) 100 ?_
  simp only [go_sem, Go.Av.dxn, Go.Av.dxnc, ↓Go.Av.dbrn_true, ↓Go.Av.dbrn_false, Go.Av.dbrn]
  repeat refine And.intro (by first | omega | rfl | exact .inl rfl | exact .inl trivial | (simp; done) | (simp; omega)) ?_
  refine icc (chosenAll_ct l hl.sz _) ⟨_, _, rfl, rfl⟩ ?_
  rintro _ _ ⟨rfl, rfl⟩
  refine ⟨.push' (by simp) _, ?_⟩
  simp only [go_sem, Go.Av.dxn, Go.Av.dxnc, ↓Go.Av.dbrn_true, ↓Go.Av.dbrn_false, Go.Av.dbrn, List.length_map]
  repeat refine And.intro (by first | omega | rfl | exact .inl rfl | exact .inl trivial | (simp; done) | (simp; omega)) ?_
  have hss := sortDe_ct (g := 41) hB41 add2_calls (s := [.arr 7 [deA d'], .arr 7 ((l ++ [d']).map deA)]) (bid := 1) (l := l ++ [d']) rfl (by simp; omega)
  simp only [List.length_append, List.length_cons, List.length_nil, Nat.zero_add, List.map_append, List.map_cons, List.map_nil, hdA] at hss
  refine goF (N := 106) Tryz.ntmps9 300 ?_
  simp only [go_sem]
  refine acall (hss) (N := 106) Tryz.ntmps9 rfl ?_
  rintro _ _ ⟨rfl, l', rfl, hp, hsrt⟩
  have hl' := hp.length_eq
  simp only [List.length_append, List.length_cons, List.length_nil, Nat.zero_add] at hl'
  have htk2 : ((l'.map deA).drop 0).take (l.length + 1) = l'.map deA := by rw [← hl', List.drop_zero, take_map]
  refine goF (N := 106) Tryz.ntmps9 300 ?_
  simp only [go_sem]
  refine ARet.shift (Shift.freeze 12 (id := 1) (l := l'.map deA) rfl rfl (by simp; omega) (Nat.le_refl _) (deA_frz _)) (aret [12, 13] rfl ⟨?_, ?_⟩)
  · simp only [resV, Av.get, Av.put, beq_self_eq_true, cond_true, htk2]
    exact hfine l' hp hsrt
  · rfl
end Go.Proofs.YtkomcdohejibmaaGreatDoor
/- The law DeedsByDifferences, walked. Own work of this seat. -/
set_option maxRecDepth 100000
set_option linter.unusedSimpArgs false
set_option linter.unusedVariables false
namespace Go.Proofs.YtkomcdohejibmaaGreatDoor
open Go Go.Av Go.RowKit

theorem deedsB_pc : Pc Tryz.prog 13 [] (· = .bool true) := by
  have hadd := (add_pc [] [97, 114, 116] 1 [112, 108, 97, 110] [120, 10] [] ⟨by simp, by simp⟩ (by simp) (by simp) (by simp) (by simp) (by simp)).nilarg
  refine pc_intro (ct_intro Tryz.func13 rfl Tryz.ntmps13 hB13 (by simp) fun h ρ w => goB (N := 14) Tryz.ntmps13 300 ?_)
  simp only [go_sem]
  refine pcall (hadd) rfl (N := 14) Tryz.ntmps13 rfl ?_
  rintro _ ⟨l', n, rfl, h1, h2⟩
  have hn : n = 0 := h2 ckOk_nil (by simp) (by decide) (by decide) (.inl rfl)
  subst hn
  have hl := (h1 rfl).2.2.2.2.2.length_eq
  simp only [List.nil_append, List.length_cons, List.length_nil, Nat.zero_add] at hl
  refine goB (N := 14) Tryz.ntmps13 300 ?_
  simp only [go_sem, List.length_map, hl]
  repeat refine And.intro (by first | omega | rfl | (simp; done) | (simp; omega)) ?_
  exact aret [0] rfl ⟨rfl, rfl⟩
end Go.Proofs.YtkomcdohejibmaaGreatDoor
/- Faults of papers; what a person has; who is late. Own work of this seat. -/
set_option maxRecDepth 100000
set_option linter.unusedSimpArgs false
set_option linter.unusedVariables false
namespace Go.Proofs.YtkomcdohejibmaaGreatDoor
open Go Go.Av Go.RowKit

end Go.Proofs.YtkomcdohejibmaaGreatDoor
/- What a person has of a paper; who is late. Own work of this seat. -/
set_option maxRecDepth 100000
set_option linter.unusedSimpArgs false
set_option linter.unusedVariables false
namespace Go.Proofs.YtkomcdohejibmaaGreatDoor
open Go Go.Av Go.RowKit

end Go.Proofs.YtkomcdohejibmaaGreatDoor
/- Names of papers, papers: the reference. Own work of this seat. -/
set_option maxRecDepth 100000
set_option linter.unusedSimpArgs false
set_option linter.unusedVariables false
namespace Go.Proofs.YtkomcdohejibmaaGreatDoor
open Go Go.Av Go.RowKit

end Go.Proofs.YtkomcdohejibmaaGreatDoor
/- Mail makes nobody late: the plain law. Own work of this seat. -/
set_option maxRecDepth 100000
set_option linter.unusedSimpArgs false
set_option linter.unusedVariables false
namespace Go.Proofs.YtkomcdohejibmaaGreatDoor
open Go Go.Av Go.RowKit

end Go.Proofs.YtkomcdohejibmaaGreatDoor
/- The law MailMakesNobodyLate, walked. Own work of this seat. -/
set_option maxRecDepth 100000
set_option linter.unusedSimpArgs false
set_option linter.unusedVariables false
namespace Go.Proofs.YtkomcdohejibmaaGreatDoor
open Go Go.Av Go.RowKit

theorem ins_srt (d : De) : ∀ (l : List De), Srt l → (∀ y ∈ l, y.st ≠ d.st) → ∃ l', Srt l' ∧ l'.Perm (d :: l)
  | [], _, _ => ⟨[d], List.pairwise_singleton .., .refl _⟩
  | y :: l, hs, hn => by
    have hs' := List.pairwise_cons.1 hs
    by_cases h : stLt d.st y.st
    · refine ⟨d :: y :: l, List.pairwise_cons.2 ⟨fun z hz => ?_, hs⟩, .refl _⟩
      rcases List.mem_cons.1 hz with rfl | hz
      · exact h
      · exact stLt_trans h (hs'.1 z hz)
    · have hy : stLt y.st d.st := by
        apply Classical.byContradiction
        intro h2
        exact hn y (by simp) (stLt_total h2 h)
      obtain ⟨l', h1, h2⟩ := ins_srt d l hs'.2 fun z hz => hn z (List.mem_cons_of_mem _ hz)
      refine ⟨y :: l', List.pairwise_cons.2 ⟨fun z hz => ?_, h1⟩, (List.Perm.cons y h2).trans (List.Perm.swap d y l)⟩
      rcases List.mem_cons.1 (h2.mem_iff.1 hz) with rfl | hz
      · exact hy
      · exact hs'.1 z hz
end Go.Proofs.YtkomcdohejibmaaGreatDoor
