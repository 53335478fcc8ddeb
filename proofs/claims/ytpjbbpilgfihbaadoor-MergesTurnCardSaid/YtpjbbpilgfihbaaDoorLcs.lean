/- Plain law: the longest common part of two lists, the pairs that are kept, edits and what they make. No program in sight. Own work of this seat. -/
import Derived.WalkKit
set_option linter.unusedSimpArgs false
set_option linter.unusedVariables false
namespace Go.Av

section
variable {α : Type}

/-- pairs that rise in both lists, of equal lines -/
def Rise (a b : List α) : Nat → Nat → List (Nat × Nat) → Prop
  | i, j, [] => i ≤ a.length ∧ j ≤ b.length
  | i, j, p :: r => i ≤ p.1 ∧ j ≤ p.2 ∧ p.1 < a.length ∧ p.2 < b.length ∧ a[p.1]? = b[p.2]? ∧ Rise a b (p.1 + 1) (p.2 + 1) r

theorem Rise.less {a b : List α} {i j i' j' : Nat} (hi : i' ≤ i) (hj : j' ≤ j) : ∀ {ps : List (Nat × Nat)}, Rise a b i j ps → Rise a b i' j' ps
  | [], h => ⟨Nat.le_trans hi h.1, Nat.le_trans hj h.2⟩
  | p :: r, h => ⟨Nat.le_trans hi h.1, Nat.le_trans hj h.2.1, h.2.2⟩

def swp (p : Nat × Nat) : Nat × Nat := (p.2, p.1)

theorem Rise.swp {a b : List α} : ∀ {ps : List (Nat × Nat)} {i j : Nat}, Rise a b i j ps → Rise b a j i (ps.map swp)
  | [], _, _, h => ⟨h.2, h.1⟩
  | p :: r, _, _, h => ⟨h.2.1, h.1, h.2.2.2.1, h.2.2.1, h.2.2.2.2.1.symm, Rise.swp h.2.2.2.2.2⟩

/-- an edit: where, how many lines go, which come -/
structure Ed (α : Type) where
  at' : Nat
  drop : Nat
  add : List α

/-- the edits between the places from (i, j) on -/
def edits (a b : List α) : Nat → Nat → List (Nat × Nat) → List (Ed α)
  | i, j, [] => if i < a.length ∨ j < b.length then [⟨i, a.length - i, b.drop j⟩] else []
  | i, j, p :: r => (if i < p.1 ∨ j < p.2 then [⟨i, p.1 - i, (b.drop j).take (p.2 - j)⟩] else []) ++ edits a b (p.1 + 1) (p.2 + 1) r

/-- the same, the last pair being the ends of both lists -/
def edq (b : List α) : Nat → Nat → List (Nat × Nat) → List (Ed α)
  | _, _, [] => []
  | i, j, p :: r => (if i < p.1 ∨ j < p.2 then [⟨i, p.1 - i, (b.drop j).take (p.2 - j)⟩] else []) ++ edq b (p.1 + 1) (p.2 + 1) r
theorem edq_edits (a b : List α) : ∀ (ps : List (Nat × Nat)) (i j : Nat), edq b i j (ps ++ [(a.length, b.length)]) = edits a b i j ps
  | [], i, j => by
    simp only [List.nil_append, edq, edits, List.append_nil]
    rw [List.take_of_length_le (by simp)]
  | p :: r, i, j => by simp only [List.cons_append, edq, edits, edq_edits a b r]

/-- what edits make of a list, from a place on -/
def patch (a : List α) : Nat → List (Ed α) → List α
  | i, [] => a.drop i
  | i, e :: r => (a.drop i).take (e.at' - i) ++ e.add ++ patch a (e.at' + e.drop) r

/-- edits that may be made: from place 'i' on; 'first': none stands before them -/
def mayL (a : List α) : Bool → Nat → List (Ed α) → Prop
  | _, _, [] => True
  | first, i, e :: r => e.at' ≤ a.length ∧ e.drop ≤ a.length - e.at' ∧ (first = true ∨ i < e.at') ∧ ¬ (e.drop = 0 ∧ e.add = []) ∧ mayL a false (e.at' + e.drop) r

theorem take_add_one {l : List α} {n : Nat} {x : α} (h : l[n]? = some x) : l.take (n + 1) = l.take n ++ [x] := by
  rw [List.take_add_one, h]; rfl
theorem drop_at {l : List α} {n : Nat} {x : α} (h : l[n]? = some x) : l.drop n = x :: l.drop (n + 1) := by
  have hl := (List.getElem?_eq_some_iff.1 h).1
  rw [List.drop_eq_getElem_cons hl]
  congr 1
  rw [List.getElem?_eq_getElem hl] at h
  simpa using h

theorem patch_edits (a b : List α) : ∀ (ps : List (Nat × Nat)) (at' i j : Nat), at' ≤ i → Rise a b i j ps → patch a at' (edits a b i j ps) = (a.drop at').take (i - at') ++ b.drop j
  | [], t, i, j, ht, h => by
    rw [edits]
    split
    · simp only [patch]
      rw [show i + (a.length - i) = a.length by have := h.1; omega]
      simp
    · rename_i hn
      have h1 := h.1; have h2 := h.2
      have e1 : i = a.length := by omega
      have e2 : j = b.length := by omega
      subst e1 e2
      simp only [patch, List.drop_length, List.append_nil]
      rw [List.take_of_length_le (by simp)]
  | p :: r, t, i, j, ht, h => by
    obtain ⟨h1, h2, h3, h4, h5, h6⟩ := h
    have hx : ∃ x, a[p.1]? = some x ∧ b[p.2]? = some x := ⟨a[p.1], List.getElem?_eq_getElem h3, by rw [← h5]; exact List.getElem?_eq_getElem h3⟩
    obtain ⟨x, ha, hb⟩ := hx
    rw [edits]
    split
    · simp only [List.cons_append, List.nil_append, patch]
      rw [show i + (p.1 - i) = p.1 by omega, patch_edits a b r p.1 (p.1 + 1) (p.2 + 1) (by omega) h6]
      rw [show p.1 + 1 - p.1 = 0 + 1 by omega, take_add_one (by rw [List.getElem?_drop]; exact ha)]
      simp only [List.take_zero, List.nil_append]
      rw [List.append_assoc, List.singleton_append, ← drop_at hb]
      congr 1
      have : b.drop p.2 = (b.drop j).drop (p.2 - j) := by rw [List.drop_drop]; congr 1; omega
      rw [this, List.take_append_drop]
    · rename_i hn
      have e1 : p.1 = i := by omega
      have e2 : p.2 = j := by omega
      simp only [List.nil_append]
      rw [patch_edits a b r t (p.1 + 1) (p.2 + 1) (by omega) h6, ← e1, ← e2, drop_at hb]
      rw [show p.1 + 1 - t = (p.1 - t) + 1 by omega, take_add_one (x := x) (by rw [List.getElem?_drop, show t + (p.1 - t) = p.1 by omega]; exact ha)]
      simp

theorem may_edits (a b : List α) : ∀ (ps : List (Nat × Nat)) (first : Bool) (t i j : Nat), (first = true ∨ t < i) → Rise a b i j ps → mayL a first t (edits a b i j ps)
  | [], first, t, i, j, ht, h => by
    rw [edits]
    have h1 := h.1; have h2 := h.2
    split
    · rename_i hc
      refine ⟨h1, by simp, ht, ?_, trivial⟩
      rintro ⟨h3, h4⟩
      have : b.length ≤ j := by simpa using h4
      simp only at h3
      omega
    · exact trivial
  | p :: r, first, t, i, j, ht, h => by
    obtain ⟨h1, h2, h3, h4, h5, h6⟩ := h
    rw [edits]
    split
    · rename_i hc
      refine ⟨by simp only; omega, by simp only; omega, ht, ?_, ?_⟩
      · rintro ⟨h7, h8⟩
        simp only at h7
        have h9 : j < p.2 := by omega
        have := congrArg List.length h8
        simp at this
        omega
      · simp only [List.nil_append]
        exact may_edits a b r false _ _ _ (.inr (by omega)) h6
    · exact may_edits a b r first t _ _ (by rcases ht with ht | ht; exact .inl ht; exact .inr (by omega)) h6

/-- both directions have the same parts -/
def Twin (b : List α) (u v : Ed α) : Prop := u.add.length = v.drop ∧ v.add.length = u.drop ∧ u.add = (b.drop v.at').take v.drop

theorem edits_twin (a b : List α) : ∀ (ps : List (Nat × Nat)) (i j : Nat), Rise a b i j ps → (edits a b i j ps).length = (edits b a j i (ps.map swp)).length ∧
    ∀ (k : Nat) (u v : Ed α), (edits a b i j ps)[k]? = some u → (edits b a j i (ps.map swp))[k]? = some v → Twin b u v
  | [], i, j, h => by
    have h1 := h.1; have h2 := h.2
    simp only [List.map_nil, edits]
    by_cases hc : i < a.length ∨ j < b.length
    · rw [if_pos hc, if_pos (Or.comm.1 hc)]
      refine ⟨rfl, fun k u v hu hv => ?_⟩
      have hk : k = 0 := by have := (List.getElem?_eq_some_iff.1 hu).1; simpa using this
      subst hk
      simp at hu hv
      subst hu hv
      exact ⟨by simp, by simp, by rw [List.take_of_length_le (by simp)]⟩
    · rw [if_neg hc, if_neg (fun x => hc (Or.comm.1 x))]
      exact ⟨rfl, by simp⟩
  | p :: r, i, j, h => by
    obtain ⟨h1, h2, h3, h4, h5, h6⟩ := h
    have ih := edits_twin a b r (p.1 + 1) (p.2 + 1) h6
    simp only [List.map_cons, edits, swp]
    by_cases hc : i < p.1 ∨ j < p.2
    · rw [if_pos hc, if_pos (Or.comm.1 hc)]
      simp only [List.cons_append, List.nil_append, List.length_cons, swp] at ih ⊢
      refine ⟨by rw [ih.1], fun k u v hu hv => ?_⟩
      cases k with
      | zero =>
        simp at hu hv
        subst hu hv
        exact ⟨by simp; omega, by simp; omega, rfl⟩
      | succ k => exact ih.2 k u v (by simpa using hu) (by simpa using hv)
    · rw [if_neg hc, if_neg (fun x => hc (Or.comm.1 x))]
      exact ih
end

section
variable {α : Type} [DecidableEq α]

def lcs : List α → List α → Nat
  | [], _ => 0
  | _ :: _, [] => 0
  | x :: a, y :: b => if x = y then lcs a b + 1 else max (lcs a (y :: b)) (lcs (x :: a) b)
termination_by a b => a.length + b.length

@[simp] theorem lcs_nil (a : List α) : lcs a [] = 0 := by cases a <;> simp [lcs]
@[simp] theorem nil_lcs (b : List α) : lcs [] b = 0 := by simp [lcs]

theorem lcs_le_left : ∀ (a b : List α), lcs a b ≤ a.length
  | [], _ => by simp
  | _ :: _, [] => by simp
  | x :: a, y :: b => by
    have h1 := lcs_le_left a b
    have h2 := lcs_le_left a (y :: b)
    have h3 := lcs_le_left (x :: a) b
    rw [lcs]
    simp only [List.length_cons] at *
    split <;> omega
termination_by a b => a.length + b.length

theorem lcs_le_right : ∀ (a b : List α), lcs a b ≤ b.length
  | [], _ => by simp
  | _ :: _, [] => by simp
  | x :: a, y :: b => by
    have h1 := lcs_le_right a b
    have h2 := lcs_le_right a (y :: b)
    have h3 := lcs_le_right (x :: a) b
    rw [lcs]
    simp only [List.length_cons] at *
    split <;> omega
termination_by a b => a.length + b.length

mutual
theorem lcs_cons_right (a : List α) (y : α) (b : List α) : lcs a b ≤ lcs a (y :: b) ∧ lcs a (y :: b) ≤ lcs a b + 1 :=
  match a with
  | [] => by simp
  | x :: a => by
    rw [lcs]
    split
    · have h := lcs_cons_left x a b
      omega
    · have h := lcs_cons_right a y b
      have h' := lcs_cons_left x a b
      omega
termination_by a.length + b.length + 1
theorem lcs_cons_left (x : α) (a b : List α) : lcs a b ≤ lcs (x :: a) b ∧ lcs (x :: a) b ≤ lcs a b + 1 :=
  match b with
  | [] => by simp
  | y :: b => by
    rw [lcs]
    split
    · have h := lcs_cons_right a y b
      omega
    · have h := lcs_cons_left x a b
      have h' := lcs_cons_right a y b
      omega
termination_by a.length + b.length + 1
end

/-- the first place of x -/
def idx (x : α) : List α → Option Nat
  | [] => none
  | y :: b => if y = x then some 0 else (idx x b).map (· + 1)

theorem lcs_none {x : α} {a : List α} : ∀ {b : List α}, idx x b = none → lcs (x :: a) b = lcs a b
  | [], _ => by simp
  | y :: b, h => by
    simp only [idx] at h
    split at h
    · simp at h
    · rename_i hne
      have hb : idx x b = none := by simpa using h
      rw [lcs, if_neg (Ne.symm hne), lcs_none hb]
      have := (lcs_cons_right a y b).1
      omega

theorem lcs_some {x : α} {a : List α} : ∀ {b : List α} {k : Nat}, idx x b = some k → lcs (x :: a) b = lcs a b ∨ lcs (x :: a) b = lcs a (b.drop (k + 1)) + 1
  | [], _, h => by simp [idx] at h
  | y :: b, k, h => by
    simp only [idx] at h
    split at h
    · rename_i he
      simp at h
      subst h he
      right
      rw [lcs, if_pos rfl]; rfl
    · rename_i hne
      simp only [Option.map_eq_some_iff] at h
      obtain ⟨k', hk, rfl⟩ := h
      have ih := lcs_some (a := a) hk
      rw [lcs, if_neg (Ne.symm hne)]
      have h1 := (lcs_cons_right a y b).1
      have e : (y :: b).drop (k' + 1 + 1) = b.drop (k' + 1) := rfl
      rw [e]
      omega

theorem lcs_pos {x : α} {a : List α} : ∀ {b : List α} {k : Nat}, idx x b = some k → 0 < lcs (x :: a) b
  | [], _, h => by simp [idx] at h
  | y :: b, k, h => by
    simp only [idx] at h
    rw [lcs]
    split
    · omega
    · rename_i hne
      rw [if_neg (Ne.symm hne)] at h
      simp only [Option.map_eq_some_iff] at h
      obtain ⟨k', hk, rfl⟩ := h
      have := lcs_pos (a := a) hk
      omega

theorem idx_lt {x : α} : ∀ {b : List α} {k : Nat}, idx x b = some k → k < b.length ∧ b[k]? = some x
  | [], _, h => by simp [idx] at h
  | y :: b, k, h => by
    simp only [idx] at h
    split at h
    · rename_i he
      simp at h
      subst h he
      simp
    · simp only [Option.map_eq_some_iff] at h
      obtain ⟨k', hk, rfl⟩ := h
      have := idx_lt hk
      simpa using this

/-- the pairs of places that are kept -/
def keptL : List α → List α → Nat → Nat → List (Nat × Nat)
  | [], _, _, _ => []
  | x :: a, b, i, j => match idx x b with
    | none => keptL a b (i + 1) j
    | some k => if lcs a (b.drop (k + 1)) + 1 = lcs (x :: a) b then (i, j + k) :: keptL a (b.drop (k + 1)) (i + 1) (j + k + 1) else keptL a b (i + 1) j

theorem keptL_zero : ∀ {a b : List α} {i j : Nat}, lcs a b = 0 → keptL a b i j = []
  | [], _, _, _, _ => rfl
  | x :: a, b, i, j, h => by
    rw [keptL]
    split
    · rename_i hn
      rw [lcs_none hn] at h
      exact keptL_zero h
    · rename_i k hk
      have := lcs_pos (a := a) hk
      omega

theorem keptL_rise (A B : List α) : ∀ (a b : List α) (i j : Nat), A.drop i = a → B.drop j = b → i ≤ A.length → j ≤ B.length → Rise A B i j (keptL a b i j)
  | [], b, i, j, _, _, hi, hj => ⟨hi, hj⟩
  | x :: a, b, i, j, ha, hb, hi, hj => by
    have ha' : A.drop (i + 1) = a := by rw [← List.drop_drop, ha]; rfl
    have hil : i < A.length := by
      rcases Nat.lt_or_ge i A.length with h | h
      · exact h
      · rw [List.drop_eq_nil_of_le h] at ha; simp at ha
    have hx : A[i]? = some x := by
      have := congrArg (·[0]?) ha
      simpa using this
    rw [keptL]
    split
    · exact (keptL_rise A B a b (i + 1) j ha' hb hil hj).less (by omega) (Nat.le_refl _)
    · rename_i k hk
      have hkl := idx_lt hk
      have hbl : b.length = B.length - j := by rw [← hb]; simp
      split
      · refine ⟨Nat.le_refl _, by simp, hil, by simp; omega, ?_, ?_⟩
        · show A[i]? = B[j + k]?
          rw [hx, ← hkl.2, ← hb, List.getElem?_drop]
        · exact keptL_rise A B a _ (i + 1) (j + k + 1) ha' (by rw [← hb, List.drop_drop]; congr 1) hil (by omega)
      · exact (keptL_rise A B a b (i + 1) j ha' hb hil hj).less (by omega) (Nat.le_refl _)

/-- the pairs of a list and itself -/
def diag : Nat → Nat → List (Nat × Nat)
  | _, 0 => []
  | i, n + 1 => (i, i) :: diag (i + 1) n
theorem keptL_self : ∀ (a : List α) (i : Nat), keptL a a i i = diag i a.length
  | [], _ => rfl
  | x :: a, i => by
    rw [keptL]
    simp only [idx, if_true]
    rw [if_pos (by rw [lcs, if_pos rfl]; rfl)]
    simp only [List.length_cons, diag, Nat.add_zero]
    rw [show (x :: a).drop (0 + 1) = a from rfl, keptL_self a (i + 1)]
theorem diag_swp : ∀ (n i : Nat), (diag i n).map swp = diag i n
  | 0, _ => rfl
  | n + 1, i => by simp only [diag, List.map_cons, diag_swp n]; rfl

end
end Go.Av
