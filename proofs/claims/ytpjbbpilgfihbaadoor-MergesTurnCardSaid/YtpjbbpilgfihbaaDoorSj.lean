/- Plain law: the pairs of two lists are the same from both sides. Own work of this seat. -/
import Derived.Test.YtpjbbpilgfihbaaDoorSi
import Derived.Test.YtpjbbpilgfihbaaDoorAvY
namespace Go.Proofs.YtpjbbpilgfihbaaDoor
open Go Go.Av Go.RowKit
set_option maxRecDepth 100000
set_option linter.unusedSimpArgs false
set_option linter.unusedVariables false

theorem bl_irrefl : ∀ x : List UInt8, bytesLess x x = false
  | [] => rfl
  | a :: x => by simp [bytesLess, bl_irrefl x]
theorem bl_asymm : ∀ {x y : List UInt8}, bytesLess x y = true → bytesLess y x = false
  | _, [], h => by simp [bytesLess] at h
  | [], b :: y, _ => rfl
  | a :: x, b :: y, h => by
    simp only [bytesLess, Bool.or_eq_true, decide_eq_true_eq, Bool.and_eq_true, beq_iff_eq] at h
    simp only [bytesLess, Bool.or_eq_false_iff, decide_eq_false_iff_not, Bool.and_eq_false_imp, beq_iff_eq]
    rcases h with h | ⟨rfl, h⟩
    · exact ⟨UInt8.not_lt.2 (UInt8.le_of_lt h), fun e => by subst e; exact absurd h (UInt8.lt_irrefl _)⟩
    · exact ⟨UInt8.lt_irrefl _, fun _ => bl_asymm h⟩
theorem bl_total : ∀ {x y : List UInt8}, bytesLess x y = false → bytesLess y x = false → x = y
  | [], [], _, _ => rfl
  | a :: x, [], _, h => by simp [bytesLess] at h
  | [], b :: y, h, _ => by simp [bytesLess] at h
  | a :: x, b :: y, h, h' => by
    simp only [bytesLess, Bool.or_eq_false_iff, decide_eq_false_iff_not, Bool.and_eq_false_imp, beq_iff_eq] at h h'
    have e : a = b := UInt8.le_antisymm (UInt8.not_lt.1 h'.1) (UInt8.not_lt.1 h.1)
    subst e
    rw [bl_total (h.2 rfl) (h'.2 rfl)]

theorem cmpB_swap (x y : List UInt8) : cmpB y x = - cmpB x y := by
  unfold cmpB
  cases h1 : bytesLess x y with
  | true =>
    have h2 := bl_asymm h1
    have h3 : ¬ y = x := fun e => by subst e; rw [bl_irrefl] at h1; cases h1
    simp [h2, h3]
  | false =>
    cases h2 : bytesLess y x with
    | true =>
      have h3 : ¬ x = y := fun e => by subst e; rw [bl_irrefl] at h2; cases h2
      simp [h3]
    | false =>
      have := bl_total h1 h2
      subst this
      simp
theorem cmpB_zero {x y : List UInt8} (h : cmpB x y = 0) : x = y := by
  unfold cmpB at h
  split at h
  · omega
  · split at h
    · assumption
    · omega

theorem cmpL_swap : ∀ a b : List (List UInt8), cmpL b a = - cmpL a b
  | [], [] => rfl
  | [], _ :: _ => rfl
  | _ :: _, [] => rfl
  | x :: a, y :: b => by
    rw [cmpL, cmpL, cmpB_swap x y]
    by_cases h : cmpB x y = 0
    · rw [if_pos h, if_pos (by omega), cmpL_swap a b]
    · rw [if_neg h, if_neg (by omega)]
theorem cmpL_zero : ∀ {a b : List (List UInt8)}, cmpL a b = 0 → a = b
  | [], [], _ => rfl
  | [], _ :: _, h => by simp [cmpL] at h
  | _ :: _, [], h => by simp [cmpL] at h
  | x :: a, y :: b, h => by
    rw [cmpL] at h
    split at h
    · rename_i h1
      rw [cmpB_zero h1, cmpL_zero h]
    · rename_i h1; exact (h1 h).elim

theorem swp_swp (l : List (Nat × Nat)) : (l.map swp).map swp = l := by
  rw [List.map_map]
  have : (swp ∘ swp) = id := rfl
  rw [this, List.map_id]

theorem pairsL_swap (a b : List (List UInt8)) : pairsL b a = (pairsL a b).map swp := by
  have hs := cmpL_swap a b
  unfold pairsL
  by_cases h : cmpL a b ≤ 0
  · rw [if_pos h]
    by_cases h' : cmpL b a ≤ 0
    · have : a = b := cmpL_zero (by omega)
      subst this
      rw [if_pos h', keptL_self, diag_swp]
    · rw [if_neg h']
  · rw [if_neg h, if_pos (by omega), swp_swp]

theorem edits_len (a b : List (List UInt8)) : ∀ (ps : List (Nat × Nat)) (i j : Nat), (edits a b i j ps).length ≤ ps.length + 1
  | [], i, j => by rw [edits]; split <;> simp
  | p :: r, i, j => by
    have := edits_len a b r (p.1 + 1) (p.2 + 1)
    rw [edits]
    split <;> simp <;> omega

/-- all that the law asks of the edits -/
theorem edits_law (a b : List (List UInt8)) (ha : a.length ≤ 3000) (hb : b.length ≤ 3000) : ∃ x y : List Edt, edits a b 0 0 (pairsL a b) = x ∧ edits b a 0 0 (pairsL b a) = y ∧ x.length = y.length ∧ x.length ≤ 3001 ∧
    patch a 0 x = b ∧ patch b 0 y = a ∧ mayL a true 0 x ∧ mayL b true 0 y ∧ ∀ (k : Nat) (u v : Edt), x[k]? = some u → y[k]? = some v → Go.Av.Twin b u v ∧ u.at' + u.drop ≤ a.length ∧ v.at' + v.drop ≤ b.length := by
  have hr := pairsL_rise a b
  have hr' := hr.swp
  have ht := edits_twin a b (pairsL a b) 0 0 hr
  have hm := may_edits a b (pairsL a b) true 0 0 0 (.inl rfl) hr
  have hm' := may_edits b a _ true 0 0 0 (.inl rfl) hr'
  have hpl := pairsL_len a b ha hb
  have mem : ∀ {c : List (List UInt8)} {l : List Edt} {f : Bool} {i : Nat}, mayL c f i l → ∀ e ∈ l, e.at' + e.drop ≤ c.length := by
    intro c l
    induction l with
    | nil => intro f i _ e he; cases he
    | cons z l ih =>
      intro f i h e he
      obtain ⟨h1, h2, _, _, h5⟩ := h
      rcases List.mem_cons.1 he with rfl | he
      · omega
      · exact ih h5 e he
  refine ⟨_, _, rfl, rfl, ?_, ?_, ?_, ?_, hm, ?_, ?_⟩
  · rw [pairsL_swap a b]; exact ht.1
  · exact Nat.le_trans (edits_len _ _ _ _ _) (by omega)
  · have := patch_edits a b (pairsL a b) 0 0 0 (by omega) hr
    simpa using this
  · rw [pairsL_swap a b]
    have := patch_edits b a _ 0 0 0 (by omega) hr'
    simpa using this
  · rw [pairsL_swap a b]; exact hm'
  · intro k u v hu hv
    rw [pairsL_swap a b] at hv
    exact ⟨ht.2 k u v hu hv, mem hm u (List.mem_of_getElem? hu), mem hm' v (List.mem_of_getElem? hv)⟩
end Go.Proofs.YtpjbbpilgfihbaaDoor
