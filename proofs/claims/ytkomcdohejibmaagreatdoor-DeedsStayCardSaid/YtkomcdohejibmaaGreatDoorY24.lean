/- Parts of lists of deeds. Own work of this seat. -/
import Derived.Test.YtkomcdohejibmaaGreatDoorY23
import Derived.Test.YtkomcdohejibmaaGreatDoorY16
import Derived.Test.YtkomcdohejibmaaGreatDoorY21
import Derived.Test.YtkomcdohejibmaaGreatDoorY22
import Derived.Test.YtkomcdohejibmaaGreatDoorY17
set_option maxRecDepth 100000
set_option linter.unusedSimpArgs false
set_option linter.unusedVariables false
namespace Go.Proofs.YtkomcdohejibmaaGreatDoor
open Go Go.Av Go.RowKit

theorem filter_step {α : Type} (p : α → Bool) (l : List α) (i : Nat) (h : i < l.length) : (l.take (i + 1)).filter p = (l.take i).filter p ++ (if p l[i] then [l[i]] else []) := by
  rw [List.take_add_one, List.filter_append]
  congr 1
  simp [h]
  split <;> simp_all
theorem low_caps {caps : List AV} (hc : caps.all frozen0 = true) (n : Nat) : caps.all (lowC n) = true := by
  rw [List.all_eq_true] at hc ⊢
  exact fun x hx => low_of_frozen (frozen_of0 (hc x hx))
theorem take_map {α β : Type} (f : α → β) (l : List α) : (l.map f).take l.length = l.map f := by rw [← List.length_map f, List.take_length]
theorem map_step {α : Type} (l : List α) (i : Nat) (h : i < l.length) : l.take (i + 1) = l.take i ++ [l[i]] := by
  rw [List.take_add_one]
  simp [h]

theorem copied_pc (d : De) (hl : d.seen.length < 1000000) : Pc Tryz.prog 45 [deA d] (· = deA d) := by
  have hc := cloneSt_pc d.seen hl
  simp only [deA]
  refine pc_intro (ct_intro Tryz.func45 rfl Tryz.ntmps45 hB45 (by simp) fun h ρ w => go (N := 8) Tryz.ntmps45 300 ?_)
  simp only [go_sem]
  refine pcall1 (hc) rfl (N := 8) Tryz.ntmps45 rfl (go (N := 8) Tryz.ntmps45 300 ?_)
  simp only [go_sem]
  exact aretc [.cell 2 41] rfl [deA d] (by simp only [ResOk, sideIs, go_sem, deA]) ⟨by simp [resT, deA], rfl⟩

theorem chosen_pc (f : FuncId) (caps : List AV) (hc : caps.all frozen0 = true) (p : De → Bool) (l : List De) (hl : Sz l) (hf : ∀ x ∈ l, Pc Tryz.prog f (deA x :: caps) (· = .bool (p x))) :
    Pc Tryz.prog 38 [.fz 7 (l.map deA), .fn (.func f) caps] (· = .fz 7 ((l.filter p).map deA)) := by
  have h1 := hl.1
  refine pc_intro (ct_intro Tryz.func38 rfl Tryz.ntmps38 hB38 (by simp) fun h ρ w => goB (N := 24) Tryz.ntmps38 300 ?_)
  simp only [go_sem]
  refine aloop (ι := Nat) (fun i => l.length - i) (fun i => [(10, .int .i64 i), (9, .int .i64 l.length), (8, .fz 7 (l.map deA)), (5, .sl 0 0 ((l.take i).filter p).length ((l.take i).filter p).length), (1, .fn (.func f) caps)])
    (fun i => [.arr 7 (((l.take i).filter p).map deA)]) (fun i => i ≤ l.length) 0 (by simp) ?_ ?_
  · refine Shift.trans (Shift.nilsl 5 7 rfl) (Shift.weak ?_)
    simp only [wk, go_sem, List.length_map, List.filter_nil]
  · intro i g1 J hJ
    by_cases gi : i < l.length
    · have di : decide ((i : Int) < (l.length : Int)) = true := by simp; omega
      have hfx := hf _ (List.getElem_mem gi)
      have hcp := copied_pc l[i] (hl.2 _ (List.getElem_mem gi))
      have hst := filter_step p l i gi
      have hle : ((l.take i).filter p).length ≤ i := Nat.le_trans (List.length_filter_le _ _) (by simp; omega)
      generalize (l.take i).filter p = o at *
      have hfin := hJ (i + 1) (by omega) (by omega)
      simp only [hst] at hfin
      simp only [deA] at hfx hcp
      cases hp : p l[i] with
      | true =>
        rw [hp] at hfx hfin
        refine goB (N := 24) Tryz.ntmps38 300 ?_
        simp only [go_sem, di, deA_get l i gi, List.length_map]
        repeat refine And.intro (by first | omega | rfl | (simp; omega)) ?_
        refine pcall1 hfx (nr1_cons rfl hc) (N := 24) Tryz.ntmps38 rfl (goB (N := 24) Tryz.ntmps38 300 ?_)
        simp only [go_sem, List.length_map]
        refine pcall1 hcp rfl (N := 24) Tryz.ntmps38 rfl (goB (N := 24) Tryz.ntmps38 300 ?_)
        simp only [go_sem, List.length_map]
        repeat refine And.intro (by first | omega | rfl | exact .inl rfl | exact .inl trivial | (simp; done) | (simp; omega)) ?_
        rw [show (i : Int) + 1 = ((i + 1 : Nat) : Int) by omega]
        simp only [if_true, List.length_append, List.length_cons, List.length_nil, List.map_append, List.map_cons, List.map_nil, Nat.zero_add] at hfin
        simp only [deA] at hfin
        refine ainv hfin (Shift.low 1 (by simp) (by simp) ?_ ?_)
        · have := low_des 1 (o ++ [l[i]])
          simp only [List.map_append, List.map_cons, List.map_nil, deA] at this
          simp only [List.take_succ_cons, List.take_zero, List.all_cons, List.all_nil, deA, this, Bool.and_self]
        · simp only [wkl, lowV, lowC, Av.get, go_sem, hc, low_caps hc]
      | false =>
        rw [hp] at hfx hfin
        refine goB (N := 24) Tryz.ntmps38 300 ?_
        simp only [go_sem, di, deA_get l i gi, List.length_map]
        repeat refine And.intro (by first | omega | rfl | (simp; omega)) ?_
        refine pcall1 hfx (nr1_cons rfl hc) (N := 24) Tryz.ntmps38 rfl (goB (N := 24) Tryz.ntmps38 300 ?_)
        simp only [go_sem, List.length_map]
        repeat refine And.intro (by first | omega | rfl | exact .inl rfl | exact .inl trivial | (simp; done) | (simp; omega)) ?_
        rw [show (i : Int) + 1 = ((i + 1 : Nat) : Int) by omega]
        simp only [Bool.false_eq_true, if_false, List.append_nil] at hfin
        refine ainv hfin (Shift.low 1 (by simp) (by simp) ?_ ?_)
        · simp only [List.take_succ_cons, List.take_zero, List.all_cons, List.all_nil, low_des, Bool.and_self]
        · simp only [wkl, lowV, lowC, Av.get, go_sem, hc, low_caps hc]
    · have di : decide ((i : Int) < (l.length : Int)) = false := by simp; omega
      have : i = l.length := by omega
      subst this
      rw [List.take_length]
      refine goB (N := 24) Tryz.ntmps38 300 ?_
      simp only [go_sem, di]
      exact ARet.shift (Shift.freeze 4 (id := 0) (l := (l.filter p).map deA) rfl rfl (by simp) (Nat.le_refl _) (deA_frz _)) (aret [4] rfl ⟨by simp only [resV, Av.get, Av.put, beq_self_eq_true, cond_true, List.drop_zero, take_map], rfl⟩)

theorem rchosen_pc (f : FuncId) (caps : List AV) (hc : caps.all frozen0 = true) (p : De → Bool) (l : List De) (hl : Sz l) (hf : ∀ x ∈ l, Pc Tryz.prog f (deA x :: caps) (· = .bool (p x))) :
    Pc Tryz.prog 165 [.fz 7 (l.map deA), .fn (.func f) caps] (· = .fz 7 ((l.filter p).map deA)) := by
  have h1 := hl.1
  refine pc_intro (ct_intro Tryz.func165 rfl Tryz.ntmps165 hB165 (by simp) fun h ρ w => goB (N := 23) Tryz.ntmps165 300 ?_)
  simp only [go_sem]
  refine aloop (ι := Nat) (fun i => l.length - i) (fun i => [(10, .int .i64 i), (9, .int .i64 l.length), (8, .fz 7 (l.map deA)), (5, .sl 0 0 ((l.take i).filter p).length ((l.take i).filter p).length), (1, .fn (.func f) caps)])
    (fun i => [.arr 7 (((l.take i).filter p).map deA)]) (fun i => i ≤ l.length) 0 (by simp) ?_ ?_
  · refine Shift.trans (Shift.nilsl 5 7 rfl) (Shift.weak ?_)
    simp only [wk, go_sem, List.length_map, List.filter_nil]
  · intro i g1 J hJ
    by_cases gi : i < l.length
    · have di : decide ((i : Int) < (l.length : Int)) = true := by simp; omega
      have hfx := hf _ (List.getElem_mem gi)
      have hcp := copied_pc l[i] (hl.2 _ (List.getElem_mem gi))
      have hst := filter_step p l i gi
      have hle : ((l.take i).filter p).length ≤ i := Nat.le_trans (List.length_filter_le _ _) (by simp; omega)
      generalize (l.take i).filter p = o at *
      have hfin := hJ (i + 1) (by omega) (by omega)
      simp only [hst] at hfin
      simp only [deA] at hfx hcp
      cases hp : p l[i] with
      | true =>
        rw [hp] at hfx hfin
        refine goB (N := 23) Tryz.ntmps165 300 ?_
        simp only [go_sem, di, deA_get l i gi, List.length_map]
        repeat refine And.intro (by first | omega | rfl | (simp; omega)) ?_
        refine pcall1 hfx (nr1_cons rfl hc) (N := 23) Tryz.ntmps165 rfl (goB (N := 23) Tryz.ntmps165 300 ?_)
        simp only [go_sem, List.length_map]
        repeat refine And.intro (by first | omega | rfl | exact .inl rfl | exact .inl trivial | (simp; done) | (simp; omega)) ?_
        rw [show (i : Int) + 1 = ((i + 1 : Nat) : Int) by omega]
        simp only [if_true, List.length_append, List.length_cons, List.length_nil, List.map_append, List.map_cons, List.map_nil, Nat.zero_add] at hfin
        simp only [deA] at hfin
        refine ainv hfin (Shift.low 1 (by simp) (by simp) ?_ ?_)
        · have := low_des 1 (o ++ [l[i]])
          simp only [List.map_append, List.map_cons, List.map_nil, deA] at this
          simp only [List.take_succ_cons, List.take_zero, List.all_cons, List.all_nil, deA, this, Bool.and_self]
        · simp only [wkl, lowV, lowC, Av.get, go_sem, hc, low_caps hc]
      | false =>
        rw [hp] at hfx hfin
        refine goB (N := 23) Tryz.ntmps165 300 ?_
        simp only [go_sem, di, deA_get l i gi, List.length_map]
        repeat refine And.intro (by first | omega | rfl | (simp; omega)) ?_
        refine pcall1 hfx (nr1_cons rfl hc) (N := 23) Tryz.ntmps165 rfl (goB (N := 23) Tryz.ntmps165 300 ?_)
        simp only [go_sem, List.length_map]
        repeat refine And.intro (by first | omega | rfl | exact .inl rfl | exact .inl trivial | (simp; done) | (simp; omega)) ?_
        rw [show (i : Int) + 1 = ((i + 1 : Nat) : Int) by omega]
        simp only [Bool.false_eq_true, if_false, List.append_nil] at hfin
        refine ainv hfin (Shift.low 1 (by simp) (by simp) ?_ ?_)
        · simp only [List.take_succ_cons, List.take_zero, List.all_cons, List.all_nil, low_des, Bool.and_self]
        · simp only [wkl, lowV, lowC, Av.get, go_sem, hc, low_caps hc]
    · have di : decide ((i : Int) < (l.length : Int)) = false := by simp; omega
      have : i = l.length := by omega
      subst this
      rw [List.take_length]
      refine goB (N := 23) Tryz.ntmps165 300 ?_
      simp only [go_sem, di]
      exact ARet.shift (Shift.freeze 4 (id := 0) (l := (l.filter p).map deA) rfl rfl (by simp) (Nat.le_refl _) (deA_frz _)) (aret [4] rfl ⟨by simp only [resV, Av.get, Av.put, beq_self_eq_true, cond_true, List.drop_zero, take_map], rfl⟩)
end Go.Proofs.YtkomcdohejibmaaGreatDoor
/- The reference's words on deeds: heads, versions. Own work of this seat. -/
set_option maxRecDepth 100000
set_option linter.unusedSimpArgs false
set_option linter.unusedVariables false
namespace Go.Proofs.YtkomcdohejibmaaGreatDoor
open Go Go.Av Go.RowKit

theorem frz_deM (id e : Nat) (l : List AV) (o : List De) : (o.map deA).map (frzC id e l) = o.map deA := by
  rw [List.map_map]
  rfl

theorem rcovFn_pc (s x : St) : Pc Tryz.prog 207 [stA x, .pin 2 [stA s] 0 0] (· = .bool (covP s x)) := by
  simp only [stA, covP]
  refine pc_intro (ct_intro Tryz.func207 rfl Tryz.ntmps207 hB207 (by simp) fun h ρ w => goB (N := 16) Tryz.ntmps207 300 ?_)
  cases h1 : x.dept == s.dept with
  | true =>
    simp only [go_sem, h1]
    exact aret [3] rfl ⟨rfl, rfl⟩
  | false =>
    simp only [go_sem, h1]
    exact aret [3] rfl ⟨rfl, rfl⟩
theorem rcovers_pc (seen : List St) (s : St) (hl : seen.length < 1000000) : Pc Tryz.prog 175 [.fz 2 (seen.map stA), stA s] (· = .bool (coversL seen s)) := by
  have hf := anySt_pc 207 [.pin 2 [stA s] 0 0] rfl (covP s) seen (by omega) fun x _ => rcovFn_pc s x
  simp only [stA] at hf ⊢
  refine pc_intro (ct_intro Tryz.func175 rfl Tryz.ntmps175 hB175 (by simp) fun h ρ w => goB (N := 8) Tryz.ntmps175 300 ?_)
  simp only [go_sem]
  refine pcall1 (hf) rfl (N := 8) Tryz.ntmps175 rfl (goB (N := 8) Tryz.ntmps175 300 ?_)
  simp only [go_sem]
  exact aret [4] rfl ⟨rfl, rfl⟩
theorem rknows_pc (d : De) (s : St) (hl : d.seen.length < 1000000) : Pc Tryz.prog 133 [deA d, stA s] (· = .bool (rknowsL d s)) := by
  have hc := rcovers_pc d.seen s hl
  simp only [stA, deA] at hc ⊢
  refine pc_intro (ct_intro Tryz.func133 rfl Tryz.ntmps133 hB133 (by simp) fun h ρ w => goB (N := 21) Tryz.ntmps133 300 ?_)
  cases h1 : d.st.dept == s.dept with
  | true =>
    have h2 : d.st.dept = s.dept := by simpa using h1
    simp only [go_sem, h1]
    exact aret [4] rfl ⟨by simp [resV, Av.get, Av.put, rknowsL, h2], rfl⟩
  | false =>
    have h2 : ¬ d.st.dept = s.dept := by simpa using h1
    simp only [go_sem, h1]
    refine pcall1 (hc) rfl (N := 21) Tryz.ntmps133 rfl (goB (N := 21) Tryz.ntmps133 300 ?_)
    simp only [go_sem]
    exact aret [4] rfl ⟨by simp [resV, Av.get, Av.put, rknowsL, h2], rfl⟩
theorem headFn_pc (d x : De) (hl : x.seen.length < 1000000) : Pc Tryz.prog 187 [deA x, .pin 7 [deA d] 0 0] (· = .bool (rknowsL x d.st)) := by
  have hc := rknows_pc x d.st hl
  simp only [stA, deA] at hc ⊢
  refine pc_intro (ct_intro Tryz.func187 rfl Tryz.ntmps187 hB187 (by simp) fun h ρ w => goB (N := 8) Tryz.ntmps187 300 ?_)
  simp only [go_sem]
  refine pcall1 (hc) rfl (N := 8) Tryz.ntmps187 rfl (goB (N := 8) Tryz.ntmps187 300 ?_)
  simp only [go_sem]
  exact aret [3] rfl ⟨rfl, rfl⟩
def headP (l : List De) (d : De) : Bool := !l.any fun x => rknowsL x d.st
def headsL (l : List De) : List De := l.filter (headP l)
theorem heads_pc (l : List De) (hl : Sz l) : Pc Tryz.prog 159 [.fz 7 (l.map deA)] (· = .fz 7 ((headsL l).map deA)) := by
  have h1 := hl.1
  unfold headsL
  refine pc_intro (ct_intro Tryz.func159 rfl Tryz.ntmps159 hB159 (by simp) fun h ρ w => goB (N := 22) Tryz.ntmps159 300 ?_)
  simp only [go_sem]
  refine aloop (ι := Nat) (fun i => l.length - i) (fun i => [(8, .int .i64 i), (7, .int .i64 l.length), (6, .fz 7 (l.map deA)), (3, .sl 0 0 ((l.take i).filter (headP l)).length ((l.take i).filter (headP l)).length), (0, .fz 7 (l.map deA))])
    (fun i => [.arr 7 (((l.take i).filter (headP l)).map deA)]) (fun i => i ≤ l.length) 0 (by simp) ?_ ?_
  · refine Shift.trans (Shift.nilsl 3 7 rfl) (Shift.weak ?_)
    simp only [wk, go_sem, List.length_map, List.filter_nil]
  · intro i g1 J hJ
    by_cases gi : i < l.length
    · have di : decide ((i : Int) < (l.length : Int)) = true := by simp; omega
      have hfx := anyDe_pc 187 [.pin 7 [deA l[i]] 0 0] rfl (fun x => rknowsL x l[i].st) l (by omega) fun x hx => headFn_pc l[i] x (hl.2 x hx)
      have hst := filter_step (headP l) l i gi
      have hhp : headP l l[i] = !l.any fun x => rknowsL x l[i].st := rfl
      have hle : ((l.take i).filter (headP l)).length ≤ i := Nat.le_trans (List.length_filter_le _ _) (by simp; omega)
      generalize (l.take i).filter (headP l) = o at *
      have hfin := hJ (i + 1) (by omega) (by omega)
      simp only [hst] at hfin
      have hdA : deA l[i] = .agg [.str l[i].st.dept, .int .i64 l[i].st.no, .fz 2 (l[i].seen.map stA), .int .i64 l[i].kind, .str l[i].paper, .str l[i].text, .str l[i].person] := rfl
      rw [hdA] at hfx
      refine goB (N := 22) Tryz.ntmps159 22 ?_
      simp only [go_sem, di, deA_get l i gi, List.length_map]
      repeat refine And.intro (by first | omega | rfl | (simp; omega)) ?_
      refine AWp.shift (Shift.frz 1 (es := 7) rfl rfl) ?_
      simp only [frzE, frz, frz1, frzB, frzC, List.set_cons_zero, List.set_cons_succ, List.map_cons, List.map_nil, frz_deM, Nat.reduceBEq, Bool.false_and, Bool.true_and, cond_false, cond_true, List.length_cons, List.length_nil, Nat.zero_add, decide_true]
      refine goB (N := 22) Tryz.ntmps159 300 ?_
      cases hp : headP l l[i] with
      | true =>
        rw [hhp] at hp
        rw [hhp, hp] at hfin
        have hp2 : (l.any fun x => rknowsL x l[i].st) = false := by simpa using hp
        rw [hp2] at hfx
        simp only [go_sem, List.length_map]
        refine pcall1 (hfx) rfl (N := 22) Tryz.ntmps159 rfl (goB (N := 22) Tryz.ntmps159 300 ?_)
        simp only [go_sem, List.length_map]
        repeat refine And.intro (by first | omega | rfl | exact .inl rfl | exact .inl trivial | (simp; done) | (simp; omega)) ?_
        rw [show (i : Int) + 1 = ((i + 1 : Nat) : Int) by omega]
        simp only [if_true, List.length_append, List.length_cons, List.length_nil, List.map_append, List.map_cons, List.map_nil, Nat.zero_add, hdA] at hfin
        refine ainv hfin (Shift.low 1 (by simp) (by simp) ?_ ?_)
        · have := low_des 1 (o ++ [l[i]])
          simp only [List.map_append, List.map_cons, List.map_nil, hdA] at this
          simp only [List.take_succ_cons, List.take_zero, List.all_cons, List.all_nil, this, Bool.and_self]
        · simp only [wkl, lowV, lowC, Av.get, go_sem]
      | false =>
        rw [hhp] at hp
        rw [hhp, hp] at hfin
        have hp2 : (l.any fun x => rknowsL x l[i].st) = true := by simpa using hp
        rw [hp2] at hfx
        simp only [go_sem, List.length_map]
        refine pcall1 (hfx) rfl (N := 22) Tryz.ntmps159 rfl (goB (N := 22) Tryz.ntmps159 300 ?_)
        simp only [go_sem, List.length_map]
        repeat refine And.intro (by first | omega | rfl | exact .inl rfl | exact .inl trivial | (simp; done) | (simp; omega)) ?_
        rw [show (i : Int) + 1 = ((i + 1 : Nat) : Int) by omega]
        simp only [Bool.false_eq_true, if_false, List.append_nil] at hfin
        refine ainv hfin (Shift.low 1 (by simp) (by simp) ?_ ?_)
        · simp only [List.take_succ_cons, List.take_zero, List.all_cons, List.all_nil, low_des, Bool.and_self]
        · simp only [wkl, lowV, lowC, Av.get, go_sem]
    · have di : decide ((i : Int) < (l.length : Int)) = false := by simp; omega
      have : i = l.length := by omega
      subst this
      rw [List.take_length]
      refine goB (N := 22) Tryz.ntmps159 300 ?_
      simp only [go_sem, di]
      exact ARet.shift (Shift.freeze 2 (id := 0) (l := (l.filter (headP l)).map deA) rfl rfl (by simp) (Nat.le_refl _) (deA_frz _)) (aret [2] rfl ⟨by simp only [resV, Av.get, Av.put, beq_self_eq_true, cond_true, List.drop_zero, take_map], rfl⟩)
def verP (paper : List UInt8) (d : De) : Bool := d.paper == paper && (d.kind == 1 || d.kind == 2)
theorem rverFn_pc (paper : List UInt8) (d : De) : Pc Tryz.prog 166 [deA d, .pin 1 [.str paper] 0 0] (· = .bool (verP paper d)) := by
  simp only [deA]
  refine pc_intro (ct_intro Tryz.func166 rfl Tryz.ntmps166 hB166 (by simp) fun h ρ w => goB (N := 18) Tryz.ntmps166 300 ?_)
  cases h1 : d.paper == paper with
  | true =>
    cases h2 : d.kind == 1 with
    | true =>
      simp only [go_sem, h1, h2]
      exact aret [3] rfl ⟨by simp [resV, Av.get, Av.put, verP, h1, h2], rfl⟩
    | false =>
      simp only [go_sem, h1, h2]
      exact aret [3] rfl ⟨by simp [resV, Av.get, Av.put, verP, h1, h2], rfl⟩
  | false =>
    simp only [go_sem, h1]
    exact aret [3] rfl ⟨by simp [resV, Av.get, Av.put, verP, h1], rfl⟩
def rversL (l : List De) (paper : List UInt8) : List De := headsL (l.filter (verP paper))
theorem rvers_pc (l : List De) (paper : List UInt8) (hl : Sz l) : Pc Tryz.prog 113 [.fz 7 (l.map deA), .str paper] (· = .fz 7 ((rversL l paper).map deA)) := by
  have hf := rchosen_pc 166 [.pin 1 [.str paper] 0 0] rfl (verP paper) l hl fun x _ => rverFn_pc paper x
  refine pc_intro (ct_intro Tryz.func113 rfl Tryz.ntmps113 hB113 (by simp) fun h ρ w => goB (N := 9) Tryz.ntmps113 300 ?_)
  simp only [go_sem]
  refine pcall1 (hf) rfl (N := 9) Tryz.ntmps113 rfl (goB (N := 9) Tryz.ntmps113 300 ?_)
  simp only [go_sem]
  refine pcall1 (heads_pc _ (hl.filter _)) rfl (N := 9) Tryz.ntmps113 rfl (goB (N := 9) Tryz.ntmps113 300 ?_)
  simp only [go_sem]
  exact aret [4] rfl ⟨rfl, rfl⟩
def putP (d : De) : Bool := d.kind == 1
theorem rputFn_pc (d : De) : Pc Tryz.prog 114 [deA d] (· = .bool (putP d)) := by
  simp only [deA]
  refine pc_intro (ct_intro Tryz.func114 rfl Tryz.ntmps114 hB114 (by simp) fun h ρ w => goB (N := 6) Tryz.ntmps114 300 ?_)
  simp only [go_sem]
  exact aret [2] rfl ⟨rfl, rfl⟩
theorem Sz.heads {l : List De} (h : Sz l) : Sz (headsL l) := h.filter _
def thereL (l : List De) (paper : List UInt8) : Bool := (rversL l paper).any putP
theorem there_pc (l : List De) (paper : List UInt8) (hl : Sz l) : Pc Tryz.prog 58 [.fz 7 (l.map deA), .str paper] (· = .bool (thereL l paper)) := by
  have hs := (hl.filter (verP paper)).heads
  have hf := anyDe_pc 114 [] rfl putP (rversL l paper) (by have := hs.1; unfold rversL; omega) fun x _ => rputFn_pc x
  refine pc_intro (ct_intro Tryz.func58 rfl Tryz.ntmps58 hB58 (by simp) fun h ρ w => goB (N := 9) Tryz.ntmps58 300 ?_)
  simp only [go_sem]
  refine pcall1 (rvers_pc l paper hl) rfl (N := 9) Tryz.ntmps58 rfl (goB (N := 9) Tryz.ntmps58 300 ?_)
  simp only [go_sem]
  refine pcall1 (hf) rfl (N := 9) Tryz.ntmps58 rfl (goB (N := 9) Tryz.ntmps58 300 ?_)
  simp only [go_sem]
  exact aret [4] rfl ⟨rfl, rfl⟩
end Go.Proofs.YtkomcdohejibmaaGreatDoor
/- Papers of deeds: the program's words. Own work of this seat. -/
set_option maxRecDepth 100000
set_option linter.unusedSimpArgs false
set_option linter.unusedVariables false
namespace Go.Proofs.YtkomcdohejibmaaGreatDoor
open Go Go.Av Go.RowKit

theorem lastFn2_pc (d x : De) (hl : x.seen.length < 1000000) : Pc Tryz.prog 140 [deA x, .pin 7 [deA d] 0 0] (· = .bool (knowsL x d.st)) := by
  have hc := knows_pc x d.st hl
  simp only [stA, deA] at hc ⊢
  refine pc_intro (ct_intro Tryz.func140 rfl Tryz.ntmps140 hB140 (by simp) fun h ρ w => goB (N := 8) Tryz.ntmps140 300 ?_)
  simp only [go_sem]
  refine pcall1 (hc) rfl (N := 8) Tryz.ntmps140 rfl (goB (N := 8) Tryz.ntmps140 300 ?_)
  simp only [go_sem]
  exact aret [3] rfl ⟨rfl, rfl⟩
def lastP (l : List De) (d : De) : Bool := !l.any fun x => knowsL x d.st
def lastL (l : List De) : List De := l.filter (lastP l)
theorem lastFn_pc (l : List De) (hl : Sz l) (d : De) : Pc Tryz.prog 139 [deA d, .pin 1 [.fz 7 (l.map deA)] 0 0] (· = .bool (lastP l d)) := by
  have hf := anyDe_pc 140 [.pin 7 [deA d] 0 0] rfl (fun x => knowsL x d.st) l (by have := hl.1; omega) fun x hx => lastFn2_pc d x (hl.2 x hx)
  simp only [deA] at hf ⊢
  refine pc_intro (ct_intro Tryz.func139 rfl Tryz.ntmps139 hB139 (by simp) fun h ρ w => goB (N := 8) Tryz.ntmps139 300 ?_)
  simp only [go_sem]
  refine pcall1 (hf) rfl (N := 8) Tryz.ntmps139 rfl (goB (N := 8) Tryz.ntmps139 300 ?_)
  simp only [go_sem]
  exact aret [3] rfl ⟨rfl, rfl⟩
theorem last_pc (l : List De) (hl : Sz l) : Pc Tryz.prog 88 [.fz 7 (l.map deA)] (· = .fz 7 ((lastL l).map deA)) := by
  have hf := chosen_pc 139 [.pin 1 [.fz 7 (l.map deA)] 0 0] rfl (lastP l) l hl fun x _ => lastFn_pc l hl x
  refine pc_intro (ct_intro Tryz.func88 rfl Tryz.ntmps88 hB88 (by simp) fun h ρ w => goB (N := 6) Tryz.ntmps88 300 ?_)
  simp only [go_sem]
  refine pcall1 (hf) rfl (N := 6) Tryz.ntmps88 rfl (goB (N := 6) Tryz.ntmps88 300 ?_)
  simp only [go_sem]
  exact aret [2] rfl ⟨rfl, rfl⟩
theorem Sz.last {l : List De} (h : Sz l) : Sz (lastL l) := h.filter _
theorem verFn_pc (paper : List UInt8) (d : De) : Pc Tryz.prog 92 [deA d, .pin 1 [.str paper] 0 0] (· = .bool (verP paper d)) := by
  simp only [deA]
  refine pc_intro (ct_intro Tryz.func92 rfl Tryz.ntmps92 hB92 (by simp) fun h ρ w => goB (N := 18) Tryz.ntmps92 300 ?_)
  cases h1 : d.paper == paper with
  | true =>
    cases h2 : d.kind == 1 with
    | true =>
      simp only [go_sem, h1, h2]
      exact aret [3] rfl ⟨by simp [resV, Av.get, Av.put, verP, h1, h2], rfl⟩
    | false =>
      simp only [go_sem, h1, h2]
      exact aret [3] rfl ⟨by simp [resV, Av.get, Av.put, verP, h1, h2], rfl⟩
  | false =>
    simp only [go_sem, h1]
    exact aret [3] rfl ⟨by simp [resV, Av.get, Av.put, verP, h1], rfl⟩
def versL (l : List De) (paper : List UInt8) : List St := (lastL (l.filter (verP paper))).map (·.st)
theorem vers_pc (l : List De) (paper : List UInt8) (hl : Sz l) : Pc Tryz.prog 36 [.fz 7 (l.map deA), .str paper] (· = .fz 2 ((versL l paper).map stA)) := by
  have hf := chosen_pc 92 [.pin 1 [.str paper] 0 0] rfl (verP paper) l hl fun x _ => verFn_pc paper x
  have hs := (hl.filter (verP paper)).last
  have h1 := hs.1
  unfold versL
  refine pc_intro (ct_intro Tryz.func36 rfl Tryz.ntmps36 hB36 (by simp) fun h ρ w => goB (N := 24) Tryz.ntmps36 300 ?_)
  simp only [go_sem]
  refine pcall1 (hf) rfl (N := 24) Tryz.ntmps36 rfl (goB (N := 24) Tryz.ntmps36 300 ?_)
  simp only [go_sem]
  refine pcall1 (last_pc _ (hl.filter _)) rfl (N := 24) Tryz.ntmps36 rfl (goB (N := 24) Tryz.ntmps36 300 ?_)
  generalize lastL (l.filter (verP paper)) = v at *
  simp only [go_sem, List.length_map]
  refine aloop (ι := Nat) (fun i => v.length - i) (fun i => [(13, .int .i64 i), (12, .int .i64 v.length), (11, .fz 7 (v.map deA)), (5, .sl 0 0 i i)])
    (fun i => [.arr 2 (((v.take i).map (·.st)).map stA)]) (fun i => i ≤ v.length) 0 (by simp) ?_ ?_
  · refine Shift.trans (Shift.nilsl 5 2 rfl) (Shift.weak ?_)
    simp only [wk, go_sem, List.length_map]
  · intro i g1 J hJ
    by_cases gi : i < v.length
    · have di : decide ((i : Int) < (v.length : Int)) = true := by simp; omega
      have hst := map_step v i gi
      have hlen : (v.take i).length = i := by simp; omega
      have hfin := hJ (i + 1) (by omega) (by omega)
      simp only [hst] at hfin
      generalize v.take i = o at *
      refine goB (N := 24) Tryz.ntmps36 300 ?_
      simp only [go_sem, di, deA_get v i gi, List.length_map]
      repeat refine And.intro (by first | omega | rfl | exact .inl rfl | exact .inl trivial | (simp; done) | (simp; omega)) ?_
      rw [show (i : Int) + 1 = ((i + 1 : Nat) : Int) by omega]
      simp only [List.map_append, List.map_cons, List.map_nil, stA] at hfin
      refine ainv hfin (Shift.low 1 (by simp) (by simp) ?_ ?_)
      · have := low_sts 1 (o.map (·.st) ++ [v[i].st])
        simp only [List.map_append, List.map_cons, List.map_nil, stA] at this
        simp only [List.take_succ_cons, List.take_zero, List.all_cons, List.all_nil, this, Bool.and_self]
      · simp only [wkl, lowV, lowC, Av.get, go_sem]
    · have di : decide ((i : Int) < (v.length : Int)) = false := by simp; omega
      have : i = v.length := by omega
      subst this
      rw [List.take_length]
      refine goB (N := 24) Tryz.ntmps36 300 ?_
      simp only [go_sem, di]
      exact ARet.shift (Shift.freeze 4 (id := 0) (l := (v.map (·.st)).map stA) rfl rfl (by simp) (Nat.le_refl _) (stA_frz _)) (aret [4] rfl ⟨by simp only [resV, Av.get, Av.put, beq_self_eq_true, cond_true, List.drop_zero]; rw [List.take_of_length_le (by simp)], rfl⟩)

/-! ### the deed with a stamp -/
def stB (a b : St) : Bool := a.dept == b.dept && a.no == b.no
theorem stB_iff {a b : St} : stB a b = true ↔ a = b := by
  cases a; cases b
  simp [stB]
def deedOfL (l : List De) (s : St) : Option De := l.find? fun d => stB d.st s
def optA : Option De → AV
  | some d => deA d
  | none => .agg [.str [], .int .i64 0, .raw (.slice none 0 0), .int .i64 0, .str [], .str [], .str []]
theorem deedFn_pc (s : St) (d : De) : Pc Tryz.prog 122 [deA d, .pin 2 [stA s] 0 0] (· = .bool (stB d.st s)) := by
  simp only [deA, stA, stB]
  refine pc_intro (ct_intro Tryz.func122 rfl Tryz.ntmps122 hB122 (by simp) fun h ρ w => goB (N := 8) Tryz.ntmps122 300 ?_)
  simp only [go_sem]
  repeat refine And.intro (by first | rfl | kernel_rfl) ?_
  exact aret [3] rfl ⟨rfl, rfl⟩
theorem idxP_find {α : Type} {p : α → Bool} {l : List α} : (idxP p l = -1 ∧ l.find? p = none) ∨ ∃ i, ∃ h : i < l.length, idxP p l = (i : Int) ∧ l.find? p = some l[i] := by
  unfold idxP
  cases hq : l.findIdx? p with
  | none =>
    rw [List.findIdx?_eq_none_iff] at hq
    exact .inl ⟨rfl, by rw [List.find?_eq_none]; intro x hx; simp [hq x hx]⟩
  | some i =>
    rw [List.findIdx?_eq_some_iff_getElem] at hq
    obtain ⟨hi, hp, hj⟩ := hq
    refine .inr ⟨i, hi, rfl, ?_⟩
    rw [List.find?_eq_some_iff_getElem]
    exact ⟨hp, i, hi, rfl, fun j hj' => by simpa using hj j hj'⟩
theorem deedOf_pc (l : List De) (s : St) (hl : l.length < 1000000) : Pc Tryz.prog 69 [.fz 7 (l.map deA), stA s] (· = .tup [optA (deedOfL l s), .bool (deedOfL l s).isSome]) := by
  have hf := idxDe_pc 122 [.pin 2 [stA s] 0 0] rfl (fun d => stB d.st s) l (by omega) fun x _ => deedFn_pc s x
  unfold deedOfL
  simp only [stA] at hf ⊢
  refine pc_intro (ct_intro Tryz.func69 rfl Tryz.ntmps69 hB69 (by simp) fun h ρ w => goB (N := 17) Tryz.ntmps69 300 ?_)
  simp only [go_sem]
  refine pcall1 (hf) rfl (N := 17) Tryz.ntmps69 rfl (goB (N := 17) Tryz.ntmps69 300 ?_)
  rcases idxP_find (p := fun d : De => stB d.st s) (l := l) with ⟨h1, h2⟩ | ⟨i, hi, h1, h2⟩
  · rw [h1, h2]
    simp only [go_sem]
    repeat refine And.intro (by first | rfl | omega | (simp; done)) ?_
    exact aretc [.cell 4 41, .tmp 5] rfl [optA none, .bool false] (by simp only [ResOk, sideIs, go_sem, optA]) ⟨by simp [resT], rfl⟩
  · rw [h1, h2]
    have d1 : decide ((i : Int) < 0) = false := by simp
    simp only [go_sem, d1, deA_get l i hi, List.length_map]
    repeat refine And.intro (by first | rfl | omega | (simp; done)) ?_
    exact aretc [.cell 4 41, .tmp 5] rfl [optA (some l[i]), .bool true] (by simp only [ResOk, sideIs, go_sem, optA, deA]) ⟨by simp [resT], rfl⟩
def isPutL (l : List De) (s : St) : Bool := match deedOfL l s with
  | some d => d.kind == 1
  | none => false
theorem isPut_pc (l : List De) (s : St) (hl : l.length < 1000000) : Pc Tryz.prog 68 [.fz 7 (l.map deA), stA s] (· = .bool (isPutL l s)) := by
  have hf := deedOf_pc l s hl
  unfold isPutL
  simp only [stA] at hf ⊢
  refine pc_intro (ct_intro Tryz.func68 rfl Tryz.ntmps68 hB68 (by simp) fun h ρ w => goB (N := 16) Tryz.ntmps68 300 ?_)
  simp only [go_sem]
  refine pcall1 (hf) rfl (N := 16) Tryz.ntmps68 rfl (goB (N := 16) Tryz.ntmps68 300 ?_)
  cases deedOfL l s with
  | none =>
    simp only [go_sem, optA]
    repeat refine And.intro (by first | rfl | omega | (simp; done)) ?_
    exact aret [4] rfl ⟨rfl, rfl⟩
  | some d =>
    simp only [go_sem, optA, deA]
    repeat refine And.intro (by first | rfl | omega | (simp; done)) ?_
    exact aret [4] rfl ⟨rfl, rfl⟩
theorem isThereFn_pc (l : List De) (hl : l.length < 1000000) (s : St) : Pc Tryz.prog 91 [stA s, .pin 1 [.fz 7 (l.map deA)] 0 0] (· = .bool (isPutL l s)) := by
  have hf := isPut_pc l s hl
  simp only [stA] at hf ⊢
  refine pc_intro (ct_intro Tryz.func91 rfl Tryz.ntmps91 hB91 (by simp) fun h ρ w => goB (N := 7) Tryz.ntmps91 300 ?_)
  simp only [go_sem]
  refine pcall1 (hf) rfl (N := 7) Tryz.ntmps91 rfl (goB (N := 7) Tryz.ntmps91 300 ?_)
  simp only [go_sem]
  exact aret [3] rfl ⟨rfl, rfl⟩
theorem isThere_pc (l : List De) (v : List St) (hl : l.length < 1000000) (hv : v.length < 1000000) : Pc Tryz.prog 35 [.fz 7 (l.map deA), .fz 2 (v.map stA)] (· = .bool (v.any (isPutL l))) := by
  have hf := anySt_pc 91 [.pin 1 [.fz 7 (l.map deA)] 0 0] rfl (isPutL l) v (by omega) fun x _ => isThereFn_pc l hl x
  refine pc_intro (ct_intro Tryz.func35 rfl Tryz.ntmps35 hB35 (by simp) fun h ρ w => goB (N := 8) Tryz.ntmps35 300 ?_)
  simp only [go_sem]
  refine pcall1 (hf) rfl (N := 8) Tryz.ntmps35 rfl (goB (N := 8) Tryz.ntmps35 300 ?_)
  simp only [go_sem]
  exact aret [4] rfl ⟨rfl, rfl⟩
theorem closedFn_pc (d : De) (s : St) (hl : d.seen.length < 1000000) : Pc Tryz.prog 135 [stA s, .pin 7 [deA d] 0 0] (· = .bool (!knowsL d s)) := by
  have hc := knows_pc d s hl
  simp only [stA, deA] at hc ⊢
  refine pc_intro (ct_intro Tryz.func135 rfl Tryz.ntmps135 hB135 (by simp) fun h ρ w => goB (N := 8) Tryz.ntmps135 300 ?_)
  simp only [go_sem]
  refine pcall1 (hc) rfl (N := 8) Tryz.ntmps135 rfl (goB (N := 8) Tryz.ntmps135 300 ?_)
  simp only [go_sem]
  exact aret [3] rfl ⟨rfl, rfl⟩
end Go.Proofs.YtkomcdohejibmaaGreatDoor
