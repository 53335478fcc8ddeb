/- Contains, Clone, papers compared. Own work of this seat. -/
import Derived.Test.YtkomcdohejibmaaGreatDoorS38
import Derived.Test.YtkomcdohejibmaaGreatDoorS23
import Derived.WalkKit
set_option maxRecDepth 100000
set_option linter.unusedSimpArgs false
set_option linter.unusedVariables false
namespace Go.Proofs.YtkomcdohejibmaaGreatDoor
open Go Go.Av Go.RowKit

theorem dstr_get {l : List (List UInt8)} {i : Nat} (h : i < l.length) : List.getD (List.map AV.str l) i .any = .str l[i] := by simp [List.getD, h]
theorem dindex_pc (l : List (List UInt8)) (x : List UInt8) (hl : l.length < 1000000) : Pc Tryz.prog 85 [.fz 1 (l.map .str), .str x] (· = .int .i64 (idxP (fun y => x == y) l)) := by
  refine pc_intro (ct_intro Tryz.func85 rfl Tryz.ntmps85 hB85 (by simp) fun h ρ w => goB (N := 19) Tryz.ntmps85 300 ?_)
  simp only [go_sem]
  refine aloop (ι := Nat) (fun i => l.length - i) (fun i => [(8, .int .i64 i), (7, .int .i64 l.length), (1, .str x), (0, .fz 1 (l.map .str))]) (fun _ => []) (fun i => i ≤ l.length ∧ ∀ j < i, ∀ h : j < l.length, (x == l[j]) = false) 0 ⟨by simp, fun j h => absurd h (by omega)⟩ ?_ ?_
  · refine Shift.weak ?_
    simp only [wk, go_sem, List.length_map]
  rintro i ⟨g1, g2⟩ J hJ
  by_cases gi : i < l.length
  · have di : decide ((i : Int) < (l.length : Int)) = true := by simp; omega
    have hx := dstr_get gi
    refine goB (N := 19) Tryz.ntmps85 300 ?_
    cases he : x == l[i] with
    | true =>
      have hidx : idxP (fun y => x == y) l = (i : Int) := by
        unfold idxP
        rw [List.findIdx?_eq_some_iff_getElem.2 ⟨gi, he, fun j hj => by simp [g2 j hj (by omega)]⟩]
      simp only [go_sem, di, hx, he, List.length_map]
      repeat refine And.intro (by first | omega | rfl | (simp; omega)) ?_
      exact aret [4] rfl ⟨by simp [resV, Av.get, Av.put, hidx], rfl⟩
    | false =>
      have hfin := hJ (i + 1) ⟨by omega, fun j hj h => by
        rcases Nat.lt_or_ge j i with hh | hh
        · exact g2 j hh h
        · have : j = i := by omega
          subst this; exact he⟩ (by omega)
      simp only [go_sem, di, hx, he, List.length_map]
      repeat refine And.intro (by first | omega | rfl | (simp; omega)) ?_
      rw [show (i : Int) + 1 = ((i + 1 : Nat) : Int) by omega]
      refine ainv hfin (Shift.weak ?_)
      simp only [wk, go_sem]
  · have di : decide ((i : Int) < (l.length : Int)) = false := by simp; omega
    have hidx : idxP (fun y => x == y) l = -1 := by
      unfold idxP
      rw [List.findIdx?_eq_none_iff.2 fun y hy => by
        obtain ⟨j, hj, rfl⟩ := List.getElem_of_mem hy
        exact g2 j (by omega) hj]
    refine goB (N := 19) Tryz.ntmps85 300 ?_
    simp only [go_sem, di]
    exact aret [4] rfl ⟨by rw [hidx]; rfl, rfl⟩
theorem dcontains_pc (l : List (List UInt8)) (x : List UInt8) (hl : l.length < 1000000) : Pc Tryz.prog 33 [.fz 1 (l.map .str), .str x] (· = .bool (decide (x ∈ l))) := by
  have hi := dindex_pc l x hl
  have hb : decide (idxP (fun y => x == y) l ≥ 0) = decide (x ∈ l) := by
    rcases idxP_find (p := fun y => x == y) (l := l) with ⟨h1, h2⟩ | ⟨i, hi, h1, h2⟩
    · rw [h1]
      have : x ∉ l := fun hm => by
        rw [List.find?_eq_none] at h2
        have := h2 x hm
        simp at this
      simp [this]
    · rw [h1]
      have h3 := List.find?_some h2
      simp only [beq_iff_eq] at h3
      have : x ∈ l := by rw [h3]; exact List.getElem_mem hi
      simp [this]
  rw [← hb]
  refine pc_intro (ct_intro Tryz.func33 rfl Tryz.ntmps33 hB33 (by simp) fun h ρ w => goB (N := 9) Tryz.ntmps33 300 ?_)
  simp only [go_sem]
  refine pcall1 (hi) rfl (N := 9) Tryz.ntmps33 rfl (goB (N := 9) Tryz.ntmps33 300 ?_)
  simp only [go_sem]
  exact aret [4] rfl ⟨rfl, rfl⟩
theorem rmayFn_pc (d : De) : Pc Tryz.prog 160 [deA d] (· = .bool (d.kind == 4)) := by
  simp only [deA]
  refine pc_intro (ct_intro Tryz.func160 rfl Tryz.ntmps160 hB160 (by simp) fun h ρ w => goB (N := 6) Tryz.ntmps160 300 ?_)
  simp only [go_sem]
  exact aret [2] rfl ⟨rfl, rfl⟩
theorem mayFn_pc (d : De) : Pc Tryz.prog 89 [deA d] (· = .bool (d.kind == 4)) := by
  simp only [deA]
  refine pc_intro (ct_intro Tryz.func89 rfl Tryz.ntmps89 hB89 (by simp) fun h ρ w => goB (N := 6) Tryz.ntmps89 300 ?_)
  simp only [go_sem]
  exact aret [2] rfl ⟨rfl, rfl⟩
/-- papers -/
structure Pp where
  name : List UInt8
  vers : List St
def ppA (p : Pp) : AV := .agg [.str p.name, .fz 2 (p.vers.map stA)]
theorem ppA_get (l : List Pp) (i : Nat) (h : i < l.length) : (l.map ppA).getD i .any = .agg [.str l[i].name, .fz 2 (l[i].vers.map stA)] := by simp [List.getD, h, ppA]
end Go.Proofs.YtkomcdohejibmaaGreatDoor
/- Plain law: the longest common part of two lists, the pairs that are kept, edits and what they make. No program in sight. Own work of this seat. -/
set_option linter.unusedSimpArgs false
set_option linter.unusedVariables false
namespace Go.Av

section
variable {α : Type}

/-- pairs that rise in both lists, of equal lines -/
def Rise (a b : List α) : Nat → Nat → List (Nat × Nat) → Prop
  | i, j, [] => i ≤ a.length ∧ j ≤ b.length
  | i, j, p :: r => i ≤ p.1 ∧ j ≤ p.2 ∧ p.1 < a.length ∧ p.2 < b.length ∧ a[p.1]? = b[p.2]? ∧ Rise a b (p.1 + 1) (p.2 + 1) r

theorem Rise.less {a b : List α} {i j i' j' : Nat} (hi : i' ≤ i) (hj : j' ≤ j) : ∀ {ps : List (Nat × Nat)}, Rise a b i j ps → Rise a b i' j' ps
  | [], h => ⟨Nat.le_trans hi h.1, Nat.le_trans hj h.2⟩
  | p :: r, h => ⟨Nat.le_trans hi h.1, Nat.le_trans hj h.2.1, h.2.2⟩

def swpP (p : Nat × Nat) : Nat × Nat := (p.2, p.1)

theorem Rise.swpP {a b : List α} : ∀ {ps : List (Nat × Nat)} {i j : Nat}, Rise a b i j ps → Rise b a j i (ps.map swpP)
  | [], _, _, h => ⟨h.2, h.1⟩
  | p :: r, _, _, h => ⟨h.2.1, h.1, h.2.2.2.1, h.2.2.1, h.2.2.2.2.1.symm, Rise.swpP h.2.2.2.2.2⟩

/-- an edit: where, how many lines go, which come -/
structure Ed (α : Type) where
  at' : Nat
  drop : Nat
  add : List α

/-- edits that may be made: from place 'i' on; 'first': none stands before them -/
def mayL (a : List α) : Bool → Nat → List (Ed α) → Prop
  | _, _, [] => True
  | first, i, e :: r => e.at' ≤ a.length ∧ e.drop ≤ a.length - e.at' ∧ (first = true ∨ i < e.at') ∧ ¬ (e.drop = 0 ∧ e.add = []) ∧ mayL a false (e.at' + e.drop) r

theorem take_add_one {l : List α} {n : Nat} {x : α} (h : l[n]? = some x) : l.take (n + 1) = l.take n ++ [x] := by
  rw [List.take_add_one, h]; rfl
end

section
variable {α : Type} [DecidableEq α]

def lcs : List α → List α → Nat
  | [], _ => 0
  | _ :: _, [] => 0
  | x :: a, y :: b => if x = y then lcs a b + 1 else max (lcs a (y :: b)) (lcs (x :: a) b)
termination_by a b => a.length + b.length

@[simp] theorem lcs_nil (a : List α) : lcs a [] = 0 := by cases a <;> simp [lcs]
@[simp] theorem nil_lcs (b : List α) : lcs [] b = 0 := by simp [lcs]

theorem lcs_le_left : ∀ (a b : List α), lcs a b ≤ a.length
  | [], _ => by simp
  | _ :: _, [] => by simp
  | x :: a, y :: b => by
    have h1 := lcs_le_left a b
    have h2 := lcs_le_left a (y :: b)
    have h3 := lcs_le_left (x :: a) b
    rw [lcs]
    simp only [List.length_cons] at *
    split <;> omega
termination_by a b => a.length + b.length

mutual
theorem lcs_cons_right (a : List α) (y : α) (b : List α) : lcs a b ≤ lcs a (y :: b) ∧ lcs a (y :: b) ≤ lcs a b + 1 :=
  match a with
  | [] => by simp
  | x :: a => by
    rw [lcs]
    split
    · have h := lcs_cons_left x a b
      omega
    · have h := lcs_cons_right a y b
      have h' := lcs_cons_left x a b
      omega
termination_by a.length + b.length + 1
theorem lcs_cons_left (x : α) (a b : List α) : lcs a b ≤ lcs (x :: a) b ∧ lcs (x :: a) b ≤ lcs a b + 1 :=
  match b with
  | [] => by simp
  | y :: b => by
    rw [lcs]
    split
    · have h := lcs_cons_right a y b
      omega
    · have h := lcs_cons_left x a b
      have h' := lcs_cons_right a y b
      omega
termination_by a.length + b.length + 1
end

/-- the first place of x -/
def lix (x : α) : List α → Option Nat
  | [] => none
  | y :: b => if y = x then some 0 else (lix x b).map (· + 1)

theorem lcs_none {x : α} {a : List α} : ∀ {b : List α}, lix x b = none → lcs (x :: a) b = lcs a b
  | [], _ => by simp
  | y :: b, h => by
    simp only [lix] at h
    split at h
    · simp at h
    · rename_i hne
      have hb : lix x b = none := by simpa using h
      rw [lcs, if_neg (Ne.symm hne), lcs_none hb]
      have := (lcs_cons_right a y b).1
      omega

theorem lcs_some {x : α} {a : List α} : ∀ {b : List α} {k : Nat}, lix x b = some k → lcs (x :: a) b = lcs a b ∨ lcs (x :: a) b = lcs a (b.drop (k + 1)) + 1
  | [], _, h => by simp [lix] at h
  | y :: b, k, h => by
    simp only [lix] at h
    split at h
    · rename_i he
      simp at h
      subst h he
      right
      rw [lcs, if_pos rfl]; rfl
    · rename_i hne
      simp only [Option.map_eq_some_iff] at h
      obtain ⟨k', hk, rfl⟩ := h
      have ih := lcs_some (a := a) hk
      rw [lcs, if_neg (Ne.symm hne)]
      have h1 := (lcs_cons_right a y b).1
      have e : (y :: b).drop (k' + 1 + 1) = b.drop (k' + 1) := rfl
      rw [e]
      omega

theorem lcs_pos {x : α} {a : List α} : ∀ {b : List α} {k : Nat}, lix x b = some k → 0 < lcs (x :: a) b
  | [], _, h => by simp [lix] at h
  | y :: b, k, h => by
    simp only [lix] at h
    rw [lcs]
    split
    · omega
    · rename_i hne
      rw [if_neg (Ne.symm hne)] at h
      simp only [Option.map_eq_some_iff] at h
      obtain ⟨k', hk, rfl⟩ := h
      have := lcs_pos (a := a) hk
      omega

theorem idx_lt {x : α} : ∀ {b : List α} {k : Nat}, lix x b = some k → k < b.length ∧ b[k]? = some x
  | [], _, h => by simp [lix] at h
  | y :: b, k, h => by
    simp only [lix] at h
    split at h
    · rename_i he
      simp at h
      subst h he
      simp
    · simp only [Option.map_eq_some_iff] at h
      obtain ⟨k', hk, rfl⟩ := h
      have := idx_lt hk
      simpa using this

/-- the pairs of places that are kept -/
def keptL : List α → List α → Nat → Nat → List (Nat × Nat)
  | [], _, _, _ => []
  | x :: a, b, i, j => match lix x b with
    | none => keptL a b (i + 1) j
    | some k => if lcs a (b.drop (k + 1)) + 1 = lcs (x :: a) b then (i, j + k) :: keptL a (b.drop (k + 1)) (i + 1) (j + k + 1) else keptL a b (i + 1) j

theorem keptL_zero : ∀ {a b : List α} {i j : Nat}, lcs a b = 0 → keptL a b i j = []
  | [], _, _, _, _ => rfl
  | x :: a, b, i, j, h => by
    rw [keptL]
    split
    · rename_i hn
      rw [lcs_none hn] at h
      exact keptL_zero h
    · rename_i k hk
      have := lcs_pos (a := a) hk
      omega

theorem keptL_rise (A B : List α) : ∀ (a b : List α) (i j : Nat), A.drop i = a → B.drop j = b → i ≤ A.length → j ≤ B.length → Rise A B i j (keptL a b i j)
  | [], b, i, j, _, _, hi, hj => ⟨hi, hj⟩
  | x :: a, b, i, j, ha, hb, hi, hj => by
    have ha' : A.drop (i + 1) = a := by rw [← List.drop_drop, ha]; rfl
    have hil : i < A.length := by
      rcases Nat.lt_or_ge i A.length with h | h
      · exact h
      · rw [List.drop_eq_nil_of_le h] at ha; simp at ha
    have hx : A[i]? = some x := by
      have := congrArg (·[0]?) ha
      simpa using this
    rw [keptL]
    split
    · exact (keptL_rise A B a b (i + 1) j ha' hb hil hj).less (by omega) (Nat.le_refl _)
    · rename_i k hk
      have hkl := idx_lt hk
      have hbl : b.length = B.length - j := by rw [← hb]; simp
      split
      · refine ⟨Nat.le_refl _, by simp, hil, by simp; omega, ?_, ?_⟩
        · show A[i]? = B[j + k]?
          rw [hx, ← hkl.2, ← hb, List.getElem?_drop]
        · exact keptL_rise A B a _ (i + 1) (j + k + 1) ha' (by rw [← hb, List.drop_drop]; congr 1) hil (by omega)
      · exact (keptL_rise A B a b (i + 1) j ha' hb hil hj).less (by omega) (Nat.le_refl _)

end
end Go.Av
/- Lists of strings: equal, compared, searched. Own work of this seat. -/
namespace Go.Proofs.YtkomcdohejibmaaGreatDoor
open Go Go.Av Go.RowKit
set_option maxRecDepth 100000
set_option linter.unusedSimpArgs false
set_option linter.unusedVariables false


theorem strs_get {l : List (List UInt8)} {i : Nat} (h : i < l.length) : (strs l).getD i .any = .str l[i] := by simp [List.getD, h]
theorem strs_len (l : List (List UInt8)) : (strs l).length = l.length := by simp

theorem large_pc (l : List (List UInt8)) : Pc Tryz.prog 125 [.fz 1 (strs l)] (· = .bool (decide (3000 < l.length))) := by
  refine pc_intro (ct_intro Tryz.func125 rfl Tryz.ntmps125 hB125 (by simp) fun h ρ w => go (N := 6) Tryz.ntmps125 200 ?_)
  simp only [go_sem, strs_len]
  refine aret [2] rfl ⟨?_, rfl⟩
  simp [resV, Av.get]
  omega

theorem take_succ_eq {α : Type} {a b : List α} {i : Nat} (h1 : i < a.length) (h2 : i < b.length) (h : a.take i = b.take i) (he : a[i] = b[i]) : a.take (i + 1) = b.take (i + 1) := by
  rw [List.take_add_one, List.take_add_one, h, List.getElem?_eq_getElem h1, List.getElem?_eq_getElem h2, he]

theorem equal_pc (a b : List (List UInt8)) (ha : a.length ≤ 1000000) : Pc Tryz.prog 127 [.fz 1 (strs a), .fz 1 (strs b)] (· = .bool (decide (a = b))) := by
  refine pc_intro (ct_intro Tryz.func127 rfl Tryz.ntmps127 hB127 (by simp) fun h ρ w => go (N := 26) Tryz.ntmps127 200 ?_)
  simp only [go_sem, strs_len]
  refine ⟨fun h1 => ?_, fun h1 => ?_⟩
  · refine aret [4] rfl ⟨?_, rfl⟩
    have : ¬ a = b := fun h => by subst h; simp at h1
    simp [resV, Av.get, this]
  · have hlen : a.length = b.length := by have : (a.length : Int) = b.length := by simpa using h1
                                          omega
    refine aloop (ι := Nat) (fun x => a.length - x)
      (fun x => [(13, .int .i64 x), (12, .int .i64 a.length), (0, .fz 1 (strs a)), (1, .fz 1 (strs b))])
      (fun x => []) (fun x => x ≤ a.length ∧ a.take x = b.take x) 0 ⟨by omega, by simp⟩ ?_ ?_
    · refine Shift.weak ?_
      simp only [wk, go_sem]
    · rintro i ⟨g1, g2⟩ J hJ
      refine go (N := 26) Tryz.ntmps127 200 ?_
      by_cases hi : (i : Int) < a.length
      · have hia : i < a.length := by omega
        have hib : i < b.length := by omega
        simp only [go_sem, hi]
        refine adraw [] mixed (by decide) (N := 26) Tryz.ntmps127 (by decide) 100 ?_
        simp only [go_sem, strs_len, strs_get hia, strs_get hib]
        refine ⟨by omega, hi, hia, by omega, by omega, hib, ?_⟩
        refine go (N := 26) Tryz.ntmps127 200 ?_
        by_cases he : a[i] = b[i]
        · have hne : (a[i] != b[i]) = false := by simpa using he
          simp only [go_sem, hne]
          have e1 : (i : Int) + 1 = ((i + 1 : Nat) : Int) := by omega
          refine ⟨by omega, by omega, ?_⟩
          rw [e1]
          refine ainv (hJ (i + 1) ⟨by omega, take_succ_eq hia hib g2 he⟩ (by omega)) (Shift.weak ?_)
          simp only [wk, go_sem]
        · have hne : (a[i] != b[i]) = true := by simpa using he
          simp only [go_sem, hne]
          refine aret [4] rfl ⟨?_, rfl⟩
          have : ¬ a = b := fun h => he (by subst h; rfl)
          simp [resV, Av.get, this]
      · simp only [go_sem, hi]
        refine aret [4] rfl ⟨?_, rfl⟩
        have : a = b := by
          have e : i = a.length := by omega
          subst e
          rw [List.take_length] at g2
          rw [g2, List.take_of_length_le (by omega)]
        simp [resV, Av.get, this]

/-- slices.Index at []string -/
def idxI (x : List UInt8) (l : List (List UInt8)) : Int := match lix x l with
  | some k => k
  | none => -1

theorem idx_step {x : List UInt8} : ∀ {l : List (List UInt8)} {i : Nat} (hi : i < l.length), (∀ j, (hj : j < i) → l[j]'(by omega) ≠ x) → l[i] = x → lix x l = some i
  | y :: l, 0, hi, h, he => by simp at he; simp [lix, he]
  | y :: l, i + 1, hi, h, he => by
    have h0 := h 0 (by omega)
    simp at h0
    have := idx_step (l := l) (i := i) (by simpa using hi) (fun j hj => by have := h (j + 1) (by omega); simpa using this) (by simpa using he)
    simp [lix, h0, this]
theorem idx_no {x : List UInt8} : ∀ {l : List (List UInt8)}, (∀ j, (hj : j < l.length) → l[j] ≠ x) → lix x l = none
  | [], _ => rfl
  | y :: l, h => by
    have h0 := h 0 (by simp)
    simp at h0
    have := idx_no (l := l) (fun j hj => by have := h (j + 1) (by simpa using hj); simpa using this)
    simp [lix, h0, this]

theorem index_pc (l : List (List UInt8)) (x : List UInt8) (hl : l.length ≤ 1000000) : Pc Tryz.prog 85 [.fz 1 (strs l), .str x] (· = .int .i64 (idxI x l)) := by
  refine pc_intro (ct_intro Tryz.func85 rfl Tryz.ntmps85 hB85 (by simp) fun h ρ w => go (N := 19) Tryz.ntmps85 200 ?_)
  simp only [go_sem, strs_len]
  refine aloop (ι := Nat) (fun i => l.length - i)
    (fun i => [(8, .int .i64 i), (7, .int .i64 l.length), (0, .fz 1 (strs l)), (1, .str x)])
    (fun _ => []) (fun i => i ≤ l.length ∧ ∀ j, j < i → ∀ hj : j < l.length, l[j] ≠ x) 0 ⟨by omega, by simp⟩ ?_ ?_
  · refine Shift.weak ?_
    simp only [wk, go_sem]
  · rintro i ⟨g1, g2⟩ J hJ
    refine go (N := 19) Tryz.ntmps85 200 ?_
    by_cases hi : (i : Int) < l.length
    · have hia : i < l.length := by omega
      by_cases he : l[i] = x
      · have hne : (x == l[i]) = true := by simpa using he.symm
        simp only [go_sem, hi, strs_len, strs_get hia, hne]
        refine ⟨by omega, hia, ?_⟩
        refine aret [4] rfl ⟨?_, rfl⟩
        simp [resV, Av.get, idxI, idx_step hia (fun j hj => g2 j hj (by omega)) he]
      · have hne : (x == l[i]) = false := by simpa using fun h => he h.symm
        simp only [go_sem, hi, strs_len, strs_get hia, hne]
        have e1 : (i : Int) + 1 = ((i + 1 : Nat) : Int) := by omega
        refine ⟨by omega, hia, by omega, by omega, ?_⟩
        rw [e1]
        refine ainv (hJ (i + 1) ⟨by omega, fun j hj hjl => ?_⟩ (by omega)) (Shift.weak ?_)
        · rcases Nat.lt_or_ge j i with h | h
          · exact g2 j h hjl
          · have : j = i := by omega
            subst this; exact he
        · simp only [wk, go_sem]
    · simp only [go_sem, hi]
      refine aret [4] rfl ⟨?_, rfl⟩
      simp [resV, Av.get, idxI, idx_no (fun j hj => g2 j (by omega) hj)]

theorem isNaNs_pc (x : List UInt8) : Pc Tryz.prog 224 [.str x] (· = .bool false) := by
  refine pc_intro (ct_intro Tryz.func224 rfl Tryz.ntmps224 hB224 (by simp) fun h ρ w => go (N := 6) Tryz.ntmps224 200 ?_)
  simp only [go_sem]
  refine aret [2] rfl ⟨?_, rfl⟩
  simp [resV, Av.get]

def cmpB (x y : List UInt8) : Int := if bytesLess x y = true then -1 else if x = y then 0 else 1

theorem cmpS_pc (x y : List UInt8) : Pc Tryz.prog 228 [.str x, .str y] (· = .int .i64 (cmpB x y)) := by
  refine pc_intro (ct_intro Tryz.func228 rfl Tryz.ntmps228 hB228 (by simp) fun h ρ w => go (N := 20) Tryz.ntmps228 200 ?_)
  simp only [go_sem]
  refine pcall1 (isNaNs_pc x) rfl (N := 20) Tryz.ntmps228 rfl (go (N := 20) Tryz.ntmps228 300 ?_)
  simp only [go_sem]
  refine pcall1 (isNaNs_pc y) rfl (N := 20) Tryz.ntmps228 rfl (go (N := 20) Tryz.ntmps228 300 ?_)
  simp only [go_sem]
  refine ⟨fun h1 => ?_, fun h1 => ⟨fun h2 => ?_, fun h2 => ?_⟩⟩
  · refine aret [4] rfl ⟨?_, rfl⟩
    simp [resV, Av.get, cmpB, h1]
  · refine aret [4] rfl ⟨?_, rfl⟩
    simp [resV, Av.get, cmpB, h2]
  · refine aret [4] rfl ⟨?_, rfl⟩
    have : x = y := by rcases h2 with h | h; rw [h1] at h; cases h; exact h
    simp [resV, Av.get, cmpB, h1, this]
    subst this
    simp [h1]

def cmpL : List (List UInt8) → List (List UInt8) → Int
  | [], [] => 0
  | [], _ :: _ => -1
  | _ :: _, [] => 1
  | x :: a, y :: b => if cmpB x y = 0 then cmpL a b else cmpB x y

theorem drop_cons {α : Type} {l : List α} {i : Nat} (h : i < l.length) : l.drop i = l[i] :: l.drop (i + 1) := List.drop_eq_getElem_cons h

theorem compare_pc (a b : List (List UInt8)) (ha : a.length ≤ 1000000) (hb : b.length ≤ 1000000) : Pc Tryz.prog 203 [.fz 1 (strs a), .fz 1 (strs b)] (· = .int .i64 (cmpL a b)) := by
  refine pc_intro (ct_intro Tryz.func203 rfl Tryz.ntmps203 hB203 (by simp) fun h ρ w => go (N := 36) Tryz.ntmps203 200 ?_)
  simp only [go_sem, strs_len]
  refine aloop (ι := Nat) (fun i => a.length - i)
    (fun i => [(11, .int .i64 i), (10, .int .i64 a.length), (9, .fz 1 (strs a)), (0, .fz 1 (strs a)), (1, .fz 1 (strs b))])
    (fun _ => []) (fun i => i ≤ a.length ∧ i ≤ b.length ∧ cmpL (a.drop i) (b.drop i) = cmpL a b) 0 ⟨by omega, by omega, rfl⟩ ?_ ?_
  · refine Shift.weak ?_
    simp only [wk, go_sem]
  · rintro i ⟨g1, g2, g3⟩ J hJ
    refine go (N := 36) Tryz.ntmps203 200 ?_
    by_cases hi : (i : Int) < a.length
    · have hia : i < a.length := by omega
      rw [drop_cons hia] at g3
      by_cases hib : i < b.length
      · have hge : decide ((i : Int) ≥ b.length) = false := by simp; omega
        have hlt : (i : Int) < b.length := by omega
        rw [drop_cons hib] at g3
        simp only [go_sem, hi, hge, hlt, strs_len, strs_get hia, strs_get hib]
        refine ⟨by omega, hia, by omega, hib, ?_⟩
        refine pcall1 (cmpS_pc _ _) rfl (N := 36) Tryz.ntmps203 rfl (go (N := 36) Tryz.ntmps203 300 ?_)
        by_cases hc : cmpB a[i] b[i] = 0
        · have hc' : (cmpB a[i] b[i] != 0) = false := by simpa using hc
          have e1 : (i : Int) + 1 = ((i + 1 : Nat) : Int) := by omega
          simp only [go_sem, hc']
          refine ⟨by omega, by omega, ?_⟩
          rw [e1]
          refine ainv (hJ (i + 1) ⟨by omega, by omega, ?_⟩ (by omega)) (Shift.weak ?_)
          · rw [← g3, cmpL, if_pos hc]
          · simp only [wk, go_sem]
        · have hc' : (cmpB a[i] b[i] != 0) = true := by simpa using hc
          simp only [go_sem, hc']
          refine aret [4] rfl ⟨?_, rfl⟩
          rw [cmpL, if_neg hc] at g3
          simp [resV, Av.get, g3]
      · have hge : decide ((i : Int) ≥ b.length) = true := by simp; omega
        simp only [go_sem, hi, hge, strs_len, strs_get hia]
        refine ⟨by omega, hia, ?_⟩
        refine aret [4] rfl ⟨?_, rfl⟩
        rw [List.drop_eq_nil_of_le (by omega : b.length ≤ i), cmpL] at g3
        simp [resV, Av.get, g3]
    · have e : i = a.length := by omega
      subst e
      simp only [List.drop_length] at g3
      simp only [go_sem, hi, strs_len]
      refine ⟨fun h1 => ?_, fun h1 => ?_⟩
      · refine aret [4] rfl ⟨?_, rfl⟩
        have hlb : a.length < b.length := by omega
        rw [drop_cons hlb, cmpL] at g3
        simp [resV, Av.get, ← g3]
      · refine aret [4] rfl ⟨?_, rfl⟩
        rw [List.drop_eq_nil_of_le (by omega : b.length ≤ a.length), cmpL] at g3
        simp [resV, Av.get, ← g3]
end Go.Proofs.YtkomcdohejibmaaGreatDoor
