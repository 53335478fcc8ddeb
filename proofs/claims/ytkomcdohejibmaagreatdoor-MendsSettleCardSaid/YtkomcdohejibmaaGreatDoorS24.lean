/- What deeds know; parts of lists of deeds. Own work of this seat. -/
import Derived.Test.YtkomcdohejibmaaGreatDoorS23
import Derived.Test.YtkomcdohejibmaaGreatDoorS16
import Derived.Test.YtkomcdohejibmaaGreatDoorS21
import Derived.Test.YtkomcdohejibmaaGreatDoorS17
set_option maxRecDepth 100000
set_option linter.unusedSimpArgs false
set_option linter.unusedVariables false
namespace Go.Proofs.YtkomcdohejibmaaGreatDoor
open Go Go.Av Go.RowKit

def covP (s x : St) : Bool := x.dept == s.dept && decide (x.no ≥ s.no)
def coversL (seen : List St) (s : St) : Bool := seen.any (covP s)
def knowsL (d : De) (s : St) : Bool := (d.st.dept == s.dept && decide (s.no < d.st.no)) || coversL d.seen s
def rknowsL (d : De) (s : St) : Bool := if d.st.dept = s.dept then decide (s.no < d.st.no) else coversL d.seen s
/-- lists of sizes that a machine bears -/
def Sz (l : List De) : Prop := l.length < 1000000 ∧ ∀ d ∈ l, d.seen.length < 1000000
theorem Sz.filter {l : List De} (h : Sz l) (p : De → Bool) : Sz (l.filter p) := ⟨Nat.lt_of_le_of_lt (List.length_filter_le _ _) h.1, fun d hd => h.2 d (List.mem_filter.1 hd).1⟩

theorem covFn_pc (s x : St) : Pc Tryz.prog 120 [stA x, .pin 2 [stA s] 0 0] (· = .bool (covP s x)) := by
  simp only [stA, covP]
  refine pc_intro (ct_intro Tryz.func120 rfl Tryz.ntmps120 hB120 (by simp) fun h ρ w => goB (N := 16) Tryz.ntmps120 300 ?_)
  cases h1 : x.dept == s.dept with
  | true =>
    simp only [go_sem, h1]
    exact aret [3] rfl ⟨rfl, rfl⟩
  | false =>
    simp only [go_sem, h1]
    exact aret [3] rfl ⟨rfl, rfl⟩
theorem covers_pc (seen : List St) (s : St) (hl : seen.length < 1000000) : Pc Tryz.prog 65 [.fz 2 (seen.map stA), stA s] (· = .bool (coversL seen s)) := by
  have hf := anySt_pc 120 [.pin 2 [stA s] 0 0] rfl (covP s) seen (by omega) fun x _ => covFn_pc s x
  simp only [stA] at hf ⊢
  refine pc_intro (ct_intro Tryz.func65 rfl Tryz.ntmps65 hB65 (by simp) fun h ρ w => goB (N := 8) Tryz.ntmps65 300 ?_)
  simp only [go_sem]
  refine pcall1 (hf) rfl (N := 8) Tryz.ntmps65 rfl (goB (N := 8) Tryz.ntmps65 300 ?_)
  simp only [go_sem]
  exact aret [4] rfl ⟨rfl, rfl⟩
theorem knows_pc (d : De) (s : St) (hl : d.seen.length < 1000000) : Pc Tryz.prog 71 [deA d, stA s] (· = .bool (knowsL d s)) := by
  have hc := covers_pc d.seen s hl
  simp only [stA, deA] at hc ⊢
  refine pc_intro (ct_intro Tryz.func71 rfl Tryz.ntmps71 hB71 (by simp) fun h ρ w => goB (N := 25) Tryz.ntmps71 300 ?_)
  cases h1 : d.st.dept == s.dept with
  | true =>
    cases h2 : decide (s.no < d.st.no) with
    | true =>
      simp only [go_sem, h1, h2]
      exact aret [4] rfl ⟨by simp [resV, Av.get, Av.put, knowsL, h1, h2], rfl⟩
    | false =>
      simp only [go_sem, h1, h2]
      refine pcall1 (hc) rfl (N := 25) Tryz.ntmps71 rfl (goB (N := 25) Tryz.ntmps71 300 ?_)
      simp only [go_sem]
      exact aret [4] rfl ⟨by simp only [resV, Av.get, Av.put, knowsL, h1, h2]; simp, rfl⟩
  | false =>
    simp only [go_sem, h1]
    refine pcall1 (hc) rfl (N := 25) Tryz.ntmps71 rfl (goB (N := 25) Tryz.ntmps71 300 ?_)
    simp only [go_sem]
    exact aret [4] rfl ⟨by simp only [resV, Av.get, Av.put, knowsL, h1]; simp, rfl⟩

theorem cloneSt_pc (l : List St) (hl : l.length < 1000000) : Pc Tryz.prog 99 [.fz 2 (l.map stA)] (· = .fz 2 (l.map stA)) := by
  refine pc_intro (ct_intro Tryz.func99 rfl Tryz.ntmps99 hB99 (by simp) fun h ρ w => go (N := 8) Tryz.ntmps99 300 ?_)
  cases hq : l.map stA with
  | nil =>
    simp only [go_sem, hq]
    intro b
    cases b with
    | true =>
      refine go (N := 8) Tryz.ntmps99 300 ?_
      simp only [go_sem]
      exact ARet.shift (Shift.nilfz 2 2 rfl) (aret [2] rfl ⟨rfl, rfl⟩)
    | false =>
      refine go (N := 8) Tryz.ntmps99 300 ?_
      simp only [go_sem]
      repeat refine And.intro (by first | omega | rfl | exact .inl rfl | exact .inl trivial | (simp; done)) ?_
      exact ARet.shift (Shift.freeze 2 (id := 0) rfl rfl rfl (Nat.le_refl _) rfl) (aret [2] rfl ⟨rfl, rfl⟩)
  | cons a r =>
    have hlen : (a :: r).length < 1000000 := by rw [← hq]; simpa using hl
    have hfr : (flat (a :: r)).all Av.frozen = true := by rw [← hq]; exact stA_frz l
    simp only [List.length_cons] at hlen
    simp only [go_sem]
    repeat refine And.intro (by first | omega | rfl | exact .inl rfl | exact .inl trivial | (simp; done) | (simp; omega)) ?_
    exact ARet.shift (Shift.freeze 2 (id := 0) (l := a :: r) rfl rfl (by simp) (by simp) hfr) (aret [2] rfl ⟨by simp [resV, Av.get, Av.put], rfl⟩)
end Go.Proofs.YtkomcdohejibmaaGreatDoor
/- Parts of lists of deeds. Own work of this seat. -/
set_option maxRecDepth 100000
set_option linter.unusedSimpArgs false
set_option linter.unusedVariables false
namespace Go.Proofs.YtkomcdohejibmaaGreatDoor
open Go Go.Av Go.RowKit

theorem filter_step {α : Type} (p : α → Bool) (l : List α) (i : Nat) (h : i < l.length) : (l.take (i + 1)).filter p = (l.take i).filter p ++ (if p l[i] then [l[i]] else []) := by
  rw [List.take_add_one, List.filter_append]
  congr 1
  simp [h]
  split <;> simp_all
theorem low_caps {caps : List AV} (hc : caps.all frozen0 = true) (n : Nat) : caps.all (lowC n) = true := by
  rw [List.all_eq_true] at hc ⊢
  exact fun x hx => low_of_frozen (frozen_of0 (hc x hx))
theorem take_map {α β : Type} (f : α → β) (l : List α) : (l.map f).take l.length = l.map f := by rw [← List.length_map f, List.take_length]
theorem map_step {α : Type} (l : List α) (i : Nat) (h : i < l.length) : l.take (i + 1) = l.take i ++ [l[i]] := by
  rw [List.take_add_one]
  simp [h]

theorem copied_pc (d : De) (hl : d.seen.length < 1000000) : Pc Tryz.prog 45 [deA d] (· = deA d) := by
  have hc := cloneSt_pc d.seen hl
  simp only [deA]
  refine pc_intro (ct_intro Tryz.func45 rfl Tryz.ntmps45 hB45 (by simp) fun h ρ w => go (N := 8) Tryz.ntmps45 300 ?_)
  simp only [go_sem]
  refine pcall1 (hc) rfl (N := 8) Tryz.ntmps45 rfl (go (N := 8) Tryz.ntmps45 300 ?_)
  simp only [go_sem]
  exact aretc [.cell 2 41] rfl [deA d] (by simp only [ResOk, sideIs, go_sem, deA]) ⟨by simp [resT, deA], rfl⟩

theorem chosen_pc (f : FuncId) (caps : List AV) (hc : caps.all frozen0 = true) (p : De → Bool) (l : List De) (hl : Sz l) (hf : ∀ x ∈ l, Pc Tryz.prog f (deA x :: caps) (· = .bool (p x))) :
    Pc Tryz.prog 38 [.fz 7 (l.map deA), .fn (.func f) caps] (· = .fz 7 ((l.filter p).map deA)) := by
  have h1 := hl.1
  refine pc_intro (ct_intro Tryz.func38 rfl Tryz.ntmps38 hB38 (by simp) fun h ρ w => goB (N := 24) Tryz.ntmps38 300 ?_)
  simp only [go_sem]
  refine aloop (ι := Nat) (fun i => l.length - i) (fun i => [(10, .int .i64 i), (9, .int .i64 l.length), (8, .fz 7 (l.map deA)), (5, .sl 0 0 ((l.take i).filter p).length ((l.take i).filter p).length), (1, .fn (.func f) caps)])
    (fun i => [.arr 7 (((l.take i).filter p).map deA)]) (fun i => i ≤ l.length) 0 (by simp) ?_ ?_
  · refine Shift.trans (Shift.nilsl 5 7 rfl) (Shift.weak ?_)
    simp only [wk, go_sem, List.length_map, List.filter_nil]
  · intro i g1 J hJ
    by_cases gi : i < l.length
    · have di : decide ((i : Int) < (l.length : Int)) = true := by simp; omega
      have hfx := hf _ (List.getElem_mem gi)
      have hcp := copied_pc l[i] (hl.2 _ (List.getElem_mem gi))
      have hst := filter_step p l i gi
      have hle : ((l.take i).filter p).length ≤ i := Nat.le_trans (List.length_filter_le _ _) (by simp; omega)
      generalize (l.take i).filter p = o at *
      have hfin := hJ (i + 1) (by omega) (by omega)
      simp only [hst] at hfin
      simp only [deA] at hfx hcp
      cases hp : p l[i] with
      | true =>
        rw [hp] at hfx hfin
        refine goB (N := 24) Tryz.ntmps38 300 ?_
        simp only [go_sem, di, deA_get l i gi, List.length_map]
        repeat refine And.intro (by first | omega | rfl | (simp; omega)) ?_
        refine pcall1 hfx (nr1_cons rfl hc) (N := 24) Tryz.ntmps38 rfl (goB (N := 24) Tryz.ntmps38 300 ?_)
        simp only [go_sem, List.length_map]
        refine pcall1 hcp rfl (N := 24) Tryz.ntmps38 rfl (goB (N := 24) Tryz.ntmps38 300 ?_)
        simp only [go_sem, List.length_map]
        repeat refine And.intro (by first | omega | rfl | exact .inl rfl | exact .inl trivial | (simp; done) | (simp; omega)) ?_
        rw [show (i : Int) + 1 = ((i + 1 : Nat) : Int) by omega]
        simp only [if_true, List.length_append, List.length_cons, List.length_nil, List.map_append, List.map_cons, List.map_nil, Nat.zero_add] at hfin
        simp only [deA] at hfin
        refine ainv hfin (Shift.low 1 (by simp) (by simp) ?_ ?_)
        · have := low_des 1 (o ++ [l[i]])
          simp only [List.map_append, List.map_cons, List.map_nil, deA] at this
          simp only [List.take_succ_cons, List.take_zero, List.all_cons, List.all_nil, deA, this, Bool.and_self]
        · simp only [wkl, lowV, lowC, Av.get, go_sem, hc, low_caps hc]
      | false =>
        rw [hp] at hfx hfin
        refine goB (N := 24) Tryz.ntmps38 300 ?_
        simp only [go_sem, di, deA_get l i gi, List.length_map]
        repeat refine And.intro (by first | omega | rfl | (simp; omega)) ?_
        refine pcall1 hfx (nr1_cons rfl hc) (N := 24) Tryz.ntmps38 rfl (goB (N := 24) Tryz.ntmps38 300 ?_)
        simp only [go_sem, List.length_map]
        repeat refine And.intro (by first | omega | rfl | exact .inl rfl | exact .inl trivial | (simp; done) | (simp; omega)) ?_
        rw [show (i : Int) + 1 = ((i + 1 : Nat) : Int) by omega]
        simp only [Bool.false_eq_true, if_false, List.append_nil] at hfin
        refine ainv hfin (Shift.low 1 (by simp) (by simp) ?_ ?_)
        · simp only [List.take_succ_cons, List.take_zero, List.all_cons, List.all_nil, low_des, Bool.and_self]
        · simp only [wkl, lowV, lowC, Av.get, go_sem, hc, low_caps hc]
    · have di : decide ((i : Int) < (l.length : Int)) = false := by simp; omega
      have : i = l.length := by omega
      subst this
      rw [List.take_length]
      refine goB (N := 24) Tryz.ntmps38 300 ?_
      simp only [go_sem, di]
      exact ARet.shift (Shift.freeze 4 (id := 0) (l := (l.filter p).map deA) rfl rfl (by simp) (Nat.le_refl _) (deA_frz _)) (aret [4] rfl ⟨by simp only [resV, Av.get, Av.put, beq_self_eq_true, cond_true, List.drop_zero, take_map], rfl⟩)

theorem rchosen_pc (f : FuncId) (caps : List AV) (hc : caps.all frozen0 = true) (p : De → Bool) (l : List De) (hl : Sz l) (hf : ∀ x ∈ l, Pc Tryz.prog f (deA x :: caps) (· = .bool (p x))) :
    Pc Tryz.prog 165 [.fz 7 (l.map deA), .fn (.func f) caps] (· = .fz 7 ((l.filter p).map deA)) := by
  have h1 := hl.1
  refine pc_intro (ct_intro Tryz.func165 rfl Tryz.ntmps165 hB165 (by simp) fun h ρ w => goB (N := 23) Tryz.ntmps165 300 ?_)
  simp only [go_sem]
  refine aloop (ι := Nat) (fun i => l.length - i) (fun i => [(10, .int .i64 i), (9, .int .i64 l.length), (8, .fz 7 (l.map deA)), (5, .sl 0 0 ((l.take i).filter p).length ((l.take i).filter p).length), (1, .fn (.func f) caps)])
    (fun i => [.arr 7 (((l.take i).filter p).map deA)]) (fun i => i ≤ l.length) 0 (by simp) ?_ ?_
  · refine Shift.trans (Shift.nilsl 5 7 rfl) (Shift.weak ?_)
    simp only [wk, go_sem, List.length_map, List.filter_nil]
  · intro i g1 J hJ
    by_cases gi : i < l.length
    · have di : decide ((i : Int) < (l.length : Int)) = true := by simp; omega
      have hfx := hf _ (List.getElem_mem gi)
      have hcp := copied_pc l[i] (hl.2 _ (List.getElem_mem gi))
      have hst := filter_step p l i gi
      have hle : ((l.take i).filter p).length ≤ i := Nat.le_trans (List.length_filter_le _ _) (by simp; omega)
      generalize (l.take i).filter p = o at *
      have hfin := hJ (i + 1) (by omega) (by omega)
      simp only [hst] at hfin
      simp only [deA] at hfx hcp
      cases hp : p l[i] with
      | true =>
        rw [hp] at hfx hfin
        refine goB (N := 23) Tryz.ntmps165 300 ?_
        simp only [go_sem, di, deA_get l i gi, List.length_map]
        repeat refine And.intro (by first | omega | rfl | (simp; omega)) ?_
        refine pcall1 hfx (nr1_cons rfl hc) (N := 23) Tryz.ntmps165 rfl (goB (N := 23) Tryz.ntmps165 300 ?_)
        simp only [go_sem, List.length_map]
        repeat refine And.intro (by first | omega | rfl | exact .inl rfl | exact .inl trivial | (simp; done) | (simp; omega)) ?_
        rw [show (i : Int) + 1 = ((i + 1 : Nat) : Int) by omega]
        simp only [if_true, List.length_append, List.length_cons, List.length_nil, List.map_append, List.map_cons, List.map_nil, Nat.zero_add] at hfin
        simp only [deA] at hfin
        refine ainv hfin (Shift.low 1 (by simp) (by simp) ?_ ?_)
        · have := low_des 1 (o ++ [l[i]])
          simp only [List.map_append, List.map_cons, List.map_nil, deA] at this
          simp only [List.take_succ_cons, List.take_zero, List.all_cons, List.all_nil, deA, this, Bool.and_self]
        · simp only [wkl, lowV, lowC, Av.get, go_sem, hc, low_caps hc]
      | false =>
        rw [hp] at hfx hfin
        refine goB (N := 23) Tryz.ntmps165 300 ?_
        simp only [go_sem, di, deA_get l i gi, List.length_map]
        repeat refine And.intro (by first | omega | rfl | (simp; omega)) ?_
        refine pcall1 hfx (nr1_cons rfl hc) (N := 23) Tryz.ntmps165 rfl (goB (N := 23) Tryz.ntmps165 300 ?_)
        simp only [go_sem, List.length_map]
        repeat refine And.intro (by first | omega | rfl | exact .inl rfl | exact .inl trivial | (simp; done) | (simp; omega)) ?_
        rw [show (i : Int) + 1 = ((i + 1 : Nat) : Int) by omega]
        simp only [Bool.false_eq_true, if_false, List.append_nil] at hfin
        refine ainv hfin (Shift.low 1 (by simp) (by simp) ?_ ?_)
        · simp only [List.take_succ_cons, List.take_zero, List.all_cons, List.all_nil, low_des, Bool.and_self]
        · simp only [wkl, lowV, lowC, Av.get, go_sem, hc, low_caps hc]
    · have di : decide ((i : Int) < (l.length : Int)) = false := by simp; omega
      have : i = l.length := by omega
      subst this
      rw [List.take_length]
      refine goB (N := 23) Tryz.ntmps165 300 ?_
      simp only [go_sem, di]
      exact ARet.shift (Shift.freeze 4 (id := 0) (l := (l.filter p).map deA) rfl rfl (by simp) (Nat.le_refl _) (deA_frz _)) (aret [4] rfl ⟨by simp only [resV, Av.get, Av.put, beq_self_eq_true, cond_true, List.drop_zero, take_map], rfl⟩)
end Go.Proofs.YtkomcdohejibmaaGreatDoor
/- The reference's words on deeds: heads, versions. Own work of this seat. -/
set_option maxRecDepth 100000
set_option linter.unusedSimpArgs false
set_option linter.unusedVariables false
namespace Go.Proofs.YtkomcdohejibmaaGreatDoor
open Go Go.Av Go.RowKit

theorem frz_deM (id e : Nat) (l : List AV) (o : List De) : (o.map deA).map (frzC id e l) = o.map deA := by
  rw [List.map_map]
  rfl

theorem rcovFn_pc (s x : St) : Pc Tryz.prog 207 [stA x, .pin 2 [stA s] 0 0] (· = .bool (covP s x)) := by
  simp only [stA, covP]
  refine pc_intro (ct_intro Tryz.func207 rfl Tryz.ntmps207 hB207 (by simp) fun h ρ w => goB (N := 16) Tryz.ntmps207 300 ?_)
  cases h1 : x.dept == s.dept with
  | true =>
    simp only [go_sem, h1]
    exact aret [3] rfl ⟨rfl, rfl⟩
  | false =>
    simp only [go_sem, h1]
    exact aret [3] rfl ⟨rfl, rfl⟩
theorem rcovers_pc (seen : List St) (s : St) (hl : seen.length < 1000000) : Pc Tryz.prog 175 [.fz 2 (seen.map stA), stA s] (· = .bool (coversL seen s)) := by
  have hf := anySt_pc 207 [.pin 2 [stA s] 0 0] rfl (covP s) seen (by omega) fun x _ => rcovFn_pc s x
  simp only [stA] at hf ⊢
  refine pc_intro (ct_intro Tryz.func175 rfl Tryz.ntmps175 hB175 (by simp) fun h ρ w => goB (N := 8) Tryz.ntmps175 300 ?_)
  simp only [go_sem]
  refine pcall1 (hf) rfl (N := 8) Tryz.ntmps175 rfl (goB (N := 8) Tryz.ntmps175 300 ?_)
  simp only [go_sem]
  exact aret [4] rfl ⟨rfl, rfl⟩
theorem rknows_pc (d : De) (s : St) (hl : d.seen.length < 1000000) : Pc Tryz.prog 133 [deA d, stA s] (· = .bool (rknowsL d s)) := by
  have hc := rcovers_pc d.seen s hl
  simp only [stA, deA] at hc ⊢
  refine pc_intro (ct_intro Tryz.func133 rfl Tryz.ntmps133 hB133 (by simp) fun h ρ w => goB (N := 21) Tryz.ntmps133 300 ?_)
  cases h1 : d.st.dept == s.dept with
  | true =>
    have h2 : d.st.dept = s.dept := by simpa using h1
    simp only [go_sem, h1]
    exact aret [4] rfl ⟨by simp [resV, Av.get, Av.put, rknowsL, h2], rfl⟩
  | false =>
    have h2 : ¬ d.st.dept = s.dept := by simpa using h1
    simp only [go_sem, h1]
    refine pcall1 (hc) rfl (N := 21) Tryz.ntmps133 rfl (goB (N := 21) Tryz.ntmps133 300 ?_)
    simp only [go_sem]
    exact aret [4] rfl ⟨by simp [resV, Av.get, Av.put, rknowsL, h2], rfl⟩
theorem headFn_pc (d x : De) (hl : x.seen.length < 1000000) : Pc Tryz.prog 187 [deA x, .pin 7 [deA d] 0 0] (· = .bool (rknowsL x d.st)) := by
  have hc := rknows_pc x d.st hl
  simp only [stA, deA] at hc ⊢
  refine pc_intro (ct_intro Tryz.func187 rfl Tryz.ntmps187 hB187 (by simp) fun h ρ w => goB (N := 8) Tryz.ntmps187 300 ?_)
  simp only [go_sem]
  refine pcall1 (hc) rfl (N := 8) Tryz.ntmps187 rfl (goB (N := 8) Tryz.ntmps187 300 ?_)
  simp only [go_sem]
  exact aret [3] rfl ⟨rfl, rfl⟩
def headP (l : List De) (d : De) : Bool := !l.any fun x => rknowsL x d.st
def headsL (l : List De) : List De := l.filter (headP l)
theorem heads_pc (l : List De) (hl : Sz l) : Pc Tryz.prog 159 [.fz 7 (l.map deA)] (· = .fz 7 ((headsL l).map deA)) := by
  have h1 := hl.1
  unfold headsL
  refine pc_intro (ct_intro Tryz.func159 rfl Tryz.ntmps159 hB159 (by simp) fun h ρ w => goB (N := 22) Tryz.ntmps159 300 ?_)
  simp only [go_sem]
  refine aloop (ι := Nat) (fun i => l.length - i) (fun i => [(8, .int .i64 i), (7, .int .i64 l.length), (6, .fz 7 (l.map deA)), (3, .sl 0 0 ((l.take i).filter (headP l)).length ((l.take i).filter (headP l)).length), (0, .fz 7 (l.map deA))])
    (fun i => [.arr 7 (((l.take i).filter (headP l)).map deA)]) (fun i => i ≤ l.length) 0 (by simp) ?_ ?_
  · refine Shift.trans (Shift.nilsl 3 7 rfl) (Shift.weak ?_)
    simp only [wk, go_sem, List.length_map, List.filter_nil]
  · intro i g1 J hJ
    by_cases gi : i < l.length
    · have di : decide ((i : Int) < (l.length : Int)) = true := by simp; omega
      have hfx := anyDe_pc 187 [.pin 7 [deA l[i]] 0 0] rfl (fun x => rknowsL x l[i].st) l (by omega) fun x hx => headFn_pc l[i] x (hl.2 x hx)
      have hst := filter_step (headP l) l i gi
      have hhp : headP l l[i] = !l.any fun x => rknowsL x l[i].st := rfl
      have hle : ((l.take i).filter (headP l)).length ≤ i := Nat.le_trans (List.length_filter_le _ _) (by simp; omega)
      generalize (l.take i).filter (headP l) = o at *
      have hfin := hJ (i + 1) (by omega) (by omega)
      simp only [hst] at hfin
      have hdA : deA l[i] = .agg [.str l[i].st.dept, .int .i64 l[i].st.no, .fz 2 (l[i].seen.map stA), .int .i64 l[i].kind, .str l[i].paper, .str l[i].text, .str l[i].person] := rfl
      rw [hdA] at hfx
      refine goB (N := 22) Tryz.ntmps159 22 ?_
      simp only [go_sem, di, deA_get l i gi, List.length_map]
      repeat refine And.intro (by first | omega | rfl | (simp; omega)) ?_
      refine AWp.shift (Shift.frz 1 (es := 7) rfl rfl) ?_
      simp only [frzE, frz, frz1, frzB, frzC, List.set_cons_zero, List.set_cons_succ, List.map_cons, List.map_nil, frz_deM, Nat.reduceBEq, Bool.false_and, Bool.true_and, cond_false, cond_true, List.length_cons, List.length_nil, Nat.zero_add, decide_true]
      refine goB (N := 22) Tryz.ntmps159 300 ?_
      cases hp : headP l l[i] with
      | true =>
        rw [hhp] at hp
        rw [hhp, hp] at hfin
        have hp2 : (l.any fun x => rknowsL x l[i].st) = false := by simpa using hp
        rw [hp2] at hfx
        simp only [go_sem, List.length_map]
        refine pcall1 (hfx) rfl (N := 22) Tryz.ntmps159 rfl (goB (N := 22) Tryz.ntmps159 300 ?_)
        simp only [go_sem, List.length_map]
        repeat refine And.intro (by first | omega | rfl | exact .inl rfl | exact .inl trivial | (simp; done) | (simp; omega)) ?_
        rw [show (i : Int) + 1 = ((i + 1 : Nat) : Int) by omega]
        simp only [if_true, List.length_append, List.length_cons, List.length_nil, List.map_append, List.map_cons, List.map_nil, Nat.zero_add, hdA] at hfin
        refine ainv hfin (Shift.low 1 (by simp) (by simp) ?_ ?_)
        · have := low_des 1 (o ++ [l[i]])
          simp only [List.map_append, List.map_cons, List.map_nil, hdA] at this
          simp only [List.take_succ_cons, List.take_zero, List.all_cons, List.all_nil, this, Bool.and_self]
        · simp only [wkl, lowV, lowC, Av.get, go_sem]
      | false =>
        rw [hhp] at hp
        rw [hhp, hp] at hfin
        have hp2 : (l.any fun x => rknowsL x l[i].st) = true := by simpa using hp
        rw [hp2] at hfx
        simp only [go_sem, List.length_map]
        refine pcall1 (hfx) rfl (N := 22) Tryz.ntmps159 rfl (goB (N := 22) Tryz.ntmps159 300 ?_)
        simp only [go_sem, List.length_map]
        repeat refine And.intro (by first | omega | rfl | exact .inl rfl | exact .inl trivial | (simp; done) | (simp; omega)) ?_
        rw [show (i : Int) + 1 = ((i + 1 : Nat) : Int) by omega]
        simp only [Bool.false_eq_true, if_false, List.append_nil] at hfin
        refine ainv hfin (Shift.low 1 (by simp) (by simp) ?_ ?_)
        · simp only [List.take_succ_cons, List.take_zero, List.all_cons, List.all_nil, low_des, Bool.and_self]
        · simp only [wkl, lowV, lowC, Av.get, go_sem]
    · have di : decide ((i : Int) < (l.length : Int)) = false := by simp; omega
      have : i = l.length := by omega
      subst this
      rw [List.take_length]
      refine goB (N := 22) Tryz.ntmps159 300 ?_
      simp only [go_sem, di]
      exact ARet.shift (Shift.freeze 2 (id := 0) (l := (l.filter (headP l)).map deA) rfl rfl (by simp) (Nat.le_refl _) (deA_frz _)) (aret [2] rfl ⟨by simp only [resV, Av.get, Av.put, beq_self_eq_true, cond_true, List.drop_zero, take_map], rfl⟩)
def verP (paper : List UInt8) (d : De) : Bool := d.paper == paper && (d.kind == 1 || d.kind == 2)
theorem rverFn_pc (paper : List UInt8) (d : De) : Pc Tryz.prog 166 [deA d, .pin 1 [.str paper] 0 0] (· = .bool (verP paper d)) := by
  simp only [deA]
  refine pc_intro (ct_intro Tryz.func166 rfl Tryz.ntmps166 hB166 (by simp) fun h ρ w => goB (N := 18) Tryz.ntmps166 300 ?_)
  cases h1 : d.paper == paper with
  | true =>
    cases h2 : d.kind == 1 with
    | true =>
      simp only [go_sem, h1, h2]
      exact aret [3] rfl ⟨by simp [resV, Av.get, Av.put, verP, h1, h2], rfl⟩
    | false =>
      simp only [go_sem, h1, h2]
      exact aret [3] rfl ⟨by simp [resV, Av.get, Av.put, verP, h1, h2], rfl⟩
  | false =>
    simp only [go_sem, h1]
    exact aret [3] rfl ⟨by simp [resV, Av.get, Av.put, verP, h1], rfl⟩
def rversL (l : List De) (paper : List UInt8) : List De := headsL (l.filter (verP paper))
theorem rvers_pc (l : List De) (paper : List UInt8) (hl : Sz l) : Pc Tryz.prog 113 [.fz 7 (l.map deA), .str paper] (· = .fz 7 ((rversL l paper).map deA)) := by
  have hf := rchosen_pc 166 [.pin 1 [.str paper] 0 0] rfl (verP paper) l hl fun x _ => rverFn_pc paper x
  refine pc_intro (ct_intro Tryz.func113 rfl Tryz.ntmps113 hB113 (by simp) fun h ρ w => goB (N := 9) Tryz.ntmps113 300 ?_)
  simp only [go_sem]
  refine pcall1 (hf) rfl (N := 9) Tryz.ntmps113 rfl (goB (N := 9) Tryz.ntmps113 300 ?_)
  simp only [go_sem]
  refine pcall1 (heads_pc _ (hl.filter _)) rfl (N := 9) Tryz.ntmps113 rfl (goB (N := 9) Tryz.ntmps113 300 ?_)
  simp only [go_sem]
  exact aret [4] rfl ⟨rfl, rfl⟩
def putP (d : De) : Bool := d.kind == 1
theorem rputFn_pc (d : De) : Pc Tryz.prog 114 [deA d] (· = .bool (putP d)) := by
  simp only [deA]
  refine pc_intro (ct_intro Tryz.func114 rfl Tryz.ntmps114 hB114 (by simp) fun h ρ w => goB (N := 6) Tryz.ntmps114 300 ?_)
  simp only [go_sem]
  exact aret [2] rfl ⟨rfl, rfl⟩
theorem Sz.heads {l : List De} (h : Sz l) : Sz (headsL l) := h.filter _
def thereL (l : List De) (paper : List UInt8) : Bool := (rversL l paper).any putP
theorem there_pc (l : List De) (paper : List UInt8) (hl : Sz l) : Pc Tryz.prog 58 [.fz 7 (l.map deA), .str paper] (· = .bool (thereL l paper)) := by
  have hs := (hl.filter (verP paper)).heads
  have hf := anyDe_pc 114 [] rfl putP (rversL l paper) (by have := hs.1; unfold rversL; omega) fun x _ => rputFn_pc x
  refine pc_intro (ct_intro Tryz.func58 rfl Tryz.ntmps58 hB58 (by simp) fun h ρ w => goB (N := 9) Tryz.ntmps58 300 ?_)
  simp only [go_sem]
  refine pcall1 (rvers_pc l paper hl) rfl (N := 9) Tryz.ntmps58 rfl (goB (N := 9) Tryz.ntmps58 300 ?_)
  simp only [go_sem]
  refine pcall1 (hf) rfl (N := 9) Tryz.ntmps58 rfl (goB (N := 9) Tryz.ntmps58 300 ?_)
  simp only [go_sem]
  exact aret [4] rfl ⟨rfl, rfl⟩
theorem stampsOf_pc (l : List De) (h1 : l.length < 1000000) : Pc Tryz.prog 115 [.fz 7 (l.map deA)] (· = .fz 2 ((l.map (·.st)).map stA)) := by
  refine pc_intro (ct_intro Tryz.func115 rfl Tryz.ntmps115 hB115 (by simp) fun h ρ w => goB (N := 19) Tryz.ntmps115 300 ?_)
  simp only [go_sem]
  refine aloop (ι := Nat) (fun i => l.length - i) (fun i => [(8, .int .i64 i), (7, .int .i64 l.length), (6, .fz 7 (l.map deA)), (3, .sl 0 0 i i)])
    (fun i => [.arr 2 (((l.take i).map (·.st)).map stA)]) (fun i => i ≤ l.length) 0 (by simp) ?_ ?_
  · refine Shift.trans (Shift.nilsl 3 2 rfl) (Shift.weak ?_)
    simp only [wk, go_sem, List.length_map]
  · intro i g1 J hJ
    by_cases gi : i < l.length
    · have di : decide ((i : Int) < (l.length : Int)) = true := by simp; omega
      have hst := map_step l i gi
      have hlen : (l.take i).length = i := by simp; omega
      have hfin := hJ (i + 1) (by omega) (by omega)
      simp only [hst] at hfin
      generalize l.take i = o at *
      refine goB (N := 19) Tryz.ntmps115 300 ?_
      simp only [go_sem, di, deA_get l i gi, List.length_map]
      repeat refine And.intro (by first | omega | rfl | exact .inl rfl | exact .inl trivial | (simp; done) | (simp; omega)) ?_
      rw [show (i : Int) + 1 = ((i + 1 : Nat) : Int) by omega]
      simp only [List.map_append, List.map_cons, List.map_nil, stA] at hfin
      refine ainv hfin (Shift.low 1 (by simp) (by simp) ?_ ?_)
      · have := low_sts 1 (o.map (·.st) ++ [l[i].st])
        simp only [List.map_append, List.map_cons, List.map_nil, stA] at this
        simp only [List.take_succ_cons, List.take_zero, List.all_cons, List.all_nil, this, Bool.and_self]
      · simp only [wkl, lowV, lowC, Av.get, go_sem]
    · have di : decide ((i : Int) < (l.length : Int)) = false := by simp; omega
      have : i = l.length := by omega
      subst this
      rw [List.take_length]
      refine goB (N := 19) Tryz.ntmps115 300 ?_
      simp only [go_sem, di]
      exact ARet.shift (Shift.freeze 2 (id := 0) (l := (l.map (·.st)).map stA) rfl rfl (by simp) (Nat.le_refl _) (stA_frz _)) (aret [2] rfl ⟨by simp only [resV, Av.get, Av.put, beq_self_eq_true, cond_true, List.drop_zero]; rw [List.take_of_length_le (by simp)], rfl⟩)
theorem versionsOf_pc (l : List De) (paper : List UInt8) (hl : Sz l) : Pc Tryz.prog 59 [.fz 7 (l.map deA), .str paper] (· = .fz 2 (((rversL l paper).map (·.st)).map stA)) := by
  have hs := (hl.filter (verP paper)).heads
  refine pc_intro (ct_intro Tryz.func59 rfl Tryz.ntmps59 hB59 (by simp) fun h ρ w => goB (N := 9) Tryz.ntmps59 300 ?_)
  simp only [go_sem]
  refine pcall1 (rvers_pc l paper hl) rfl (N := 9) Tryz.ntmps59 rfl (goB (N := 9) Tryz.ntmps59 300 ?_)
  simp only [go_sem]
  refine pcall1 (stampsOf_pc _ hs.1) rfl (N := 9) Tryz.ntmps59 rfl (goB (N := 9) Tryz.ntmps59 300 ?_)
  simp only [go_sem]
  exact aret [4] rfl ⟨rfl, rfl⟩
end Go.Proofs.YtkomcdohejibmaaGreatDoor
