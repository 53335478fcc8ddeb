/- Takes as data; the best assembly: plain law. Own work of this seat. -/
import Derived.Test.YtkfpiadgjbhcpaaGreatDoorE20
import Derived.Test.YtkfpiadgjbhcpaaGreatDoorE15
import Derived.Lib.Builder
import Derived.Lib.AppendStr
import Derived.Lib.UnsafeStr
import Derived.WalkKit
set_option maxRecDepth 100000
set_option linter.unusedSimpArgs false
set_option linter.unusedVariables false
namespace Go.Proofs.YtkfpiadgjbhcpaaGreatDoor
open Go Go.Av Go.RowKit

structure Cv where
  para : Int
  inn : Int
  out : Int
  on : Bool
deriving DecidableEq
structure Tk where
  scene : List UInt8
  setup : List UInt8
  number : Int
  roll : List UInt8
  sound : List UInt8
  inn : Int
  out : Int
  good : Bool
  covers : List Cv
/-- how a take covers a paragraph -/
structure Pp' where
  take : Nat
  cv : Cv
deriving DecidableEq
structure Scr where
  joins : Int
  on : Int
deriving DecidableEq
def bet (a b : Scr) : Bool := decide (a.joins < b.joins) || (a.joins == b.joins && decide (a.on > b.on))
def fol (a b : Pp') : Bool := a.take == b.take && a.cv.out == b.cv.inn
def ownS (p : Pp') (sp : Bool) : Scr := if sp && p.cv.on then ⟨0, 1⟩ else ⟨0, 0⟩
structure Stp where
  parts : List Pp'
  scr : Pp' → Scr
  best : Scr
/-- the best of scores, the first ones kept -/
def bestL : Option Scr → List Scr → Option Scr
  | b, [] => b
  | none, s :: r => bestL (some s) r
  | some b, s :: r => bestL (some (if bet s b then s else b)) r
def restL' (p : Pp') (scr : Pp' → Scr) : Scr → List Pp' → Scr
  | r, [] => r
  | r, q :: l => restL' p scr (if fol p q && bet (scr q) r then scr q else r) l
def restS (nx : Stp) (p : Pp') : Scr := restL' p nx.scr ⟨nx.best.joins + 1, nx.best.on⟩ nx.parts
def scrN (sp : Bool) (nx : Option Stp) (p : Pp') : Scr := match nx with
  | none => ownS p sp
  | some n => ⟨(restS n p).joins, (ownS p sp).on + (restS n p).on⟩
def stepN (sp : Bool) (ps : List Pp') (nx : Option Stp) : Stp := ⟨ps, scrN sp nx, (bestL none (ps.map (scrN sp nx))).getD ⟨0, 0⟩⟩
/-- the steps of paragraphs (is it a speech, its parts) -/
def stepsN : List (Bool × List Pp') → List Stp
  | [] => []
  | (sp, ps) :: r => stepN sp ps (stepsN r).head? :: stepsN r

theorem bet_irr (a : Scr) : bet a a = false := by simp [bet]
theorem bet_trans {a b c : Scr} (h : bet a b = true) (h2 : bet b c = true) : bet a c = true := by
  simp only [bet, Bool.or_eq_true, Bool.and_eq_true, decide_eq_true_eq, beq_iff_eq] at *
  omega
theorem bestL_some : ∀ (l : List Scr) (b : Scr), ∃ r, bestL (some b) l = some r ∧ (r = b ∨ r ∈ l) ∧ bet b r = false ∧ ∀ s ∈ l, bet s r = false
  | [], b => ⟨b, rfl, .inl rfl, bet_irr b, by simp⟩
  | s :: l, b => by
    simp only [bestL]
    cases h : bet s b with
    | true =>
      obtain ⟨r, h1, h2, h3, h4⟩ := bestL_some l s
      refine ⟨r, by simpa using h1, .inr ?_, ?_, ?_⟩
      · rcases h2 with rfl | h2
        · simp
        · simp [h2]
      · cases hx : bet b r with
        | false => rfl
        | true => rw [bet_trans h hx] at h3; cases h3
      · intro t ht
        rcases List.mem_cons.1 ht with rfl | ht
        · exact h3
        · exact h4 t ht
    | false =>
      obtain ⟨r, h1, h2, h3, h4⟩ := bestL_some l b
      refine ⟨r, by simpa using h1, ?_, h3, ?_⟩
      · rcases h2 with rfl | h2
        · exact .inl rfl
        · exact .inr (by simp [h2])
      · intro t ht
        rcases List.mem_cons.1 ht with rfl | ht
        · cases hx : bet t r with
          | false => rfl
          | true =>
            rcases h2 with rfl | h2
            · rw [hx] at h; cases h
            · cases hb : bet b r with
              | true => rw [hb] at h3; cases h3
              | false =>
                -- r is not better than b, b not better than r, t better than r, but not better than b
                exfalso
                simp only [bet, Bool.or_eq_false_iff, Bool.and_eq_false_iff, decide_eq_false_iff_not, beq_eq_false_iff_ne, Bool.or_eq_true, Bool.and_eq_true, decide_eq_true_eq, beq_iff_eq] at *
                omega
        · exact h4 t ht
theorem bestL_ok : ∀ (l : List Scr), l ≠ [] → ((bestL none l).getD ⟨0, 0⟩) ∈ l ∧ ∀ s ∈ l, bet s ((bestL none l).getD ⟨0, 0⟩) = false
  | [], h => absurd rfl h
  | s :: l, _ => by
    obtain ⟨r, h1, h2, h3, h4⟩ := bestL_some l s
    simp only [bestL, h1, Option.getD_some]
    refine ⟨?_, ?_⟩
    · rcases h2 with rfl | h2
      · simp
      · simp [h2]
    · intro t ht
      rcases List.mem_cons.1 ht with rfl | ht
      · exact h3
      · exact h4 t ht
theorem restL'_ok (p : Pp') (scr : Pp' → Scr) : ∀ (l : List Pp') (b : Scr), (restL' p scr b l = b ∨ ∃ q ∈ l, fol p q = true ∧ restL' p scr b l = scr q) ∧ bet b (restL' p scr b l) = false ∧ ∀ q ∈ l, fol p q = true → bet (scr q) (restL' p scr b l) = false
  | [], b => ⟨.inl rfl, bet_irr b, by simp⟩
  | q :: l, b => by
    simp only [restL']
    cases h : (fol p q && bet (scr q) b) with
    | true =>
      simp only [Bool.and_eq_true] at h
      obtain ⟨h1, h2, h3⟩ := restL'_ok p scr l (scr q)
      simp only [if_true]
      refine ⟨.inr ?_, ?_, ?_⟩
      · rcases h1 with h1 | ⟨x, hx, hf, h1⟩
        · exact ⟨q, by simp, h.1, h1⟩
        · exact ⟨x, by simp [hx], hf, h1⟩
      · cases hx : bet b (restL' p scr (scr q) l) with
        | false => rfl
        | true => rw [bet_trans h.2 hx] at h2; cases h2
      · intro t ht hf
        rcases List.mem_cons.1 ht with rfl | ht
        · exact h2
        · exact h3 t ht hf
    | false =>
      obtain ⟨h1, h2, h3⟩ := restL'_ok p scr l b
      simp only [Bool.false_eq_true, if_false]
      refine ⟨?_, h2, ?_⟩
      · rcases h1 with h1 | ⟨x, hx, hf, h1⟩
        · exact .inl h1
        · exact .inr ⟨x, by simp [hx], hf, h1⟩
      · intro t ht hf
        rcases List.mem_cons.1 ht with rfl | ht
        · rw [hf, Bool.true_and] at h
          rcases h1 with h1 | ⟨x, hx, hfx, h1⟩
          · rw [h1]; exact h
          · cases hb : bet (scr t) (restL' p scr b l) with
            | false => rfl
            | true =>
              exfalso
              generalize restL' p scr b l = r at *
              simp only [bet, Bool.or_eq_false_iff, Bool.and_eq_false_iff, decide_eq_false_iff_not, beq_eq_false_iff_ne, Bool.or_eq_true, Bool.and_eq_true, decide_eq_true_eq, beq_iff_eq] at *
              omega
        · exact h3 t ht hf

/-- what it costs to go on from p with q -/
def cost (scr : Pp' → Scr) (p q : Pp') : Scr := if fol p q then scr q else ⟨(scr q).joins + 1, (scr q).on⟩
theorem restS_ok {nx : Stp} (hm : ∃ q ∈ nx.parts, nx.scr q = nx.best) (hb : ∀ q ∈ nx.parts, bet (nx.scr q) nx.best = false) (p : Pp') :
    (∃ q ∈ nx.parts, cost nx.scr p q = restS nx p) ∧ ∀ q ∈ nx.parts, (restS nx p).joins ≤ (cost nx.scr p q).joins := by
  obtain ⟨h1, h2, h3⟩ := restL'_ok p nx.scr nx.parts ⟨nx.best.joins + 1, nx.best.on⟩
  refine ⟨?_, ?_⟩
  · rcases h1 with h1 | ⟨q, hq, hf, h1⟩
    · obtain ⟨q, hq, hs⟩ := hm
      refine ⟨q, hq, ?_⟩
      cases hf : fol p q with
      | false => simp only [cost, hf, Bool.false_eq_true, if_false, hs]; exact h1.symm
      | true =>
        have := h3 q hq hf
        rw [h1, hs] at this
        simp only [bet, Bool.or_eq_false_iff, decide_eq_false_iff_not] at this
        omega
    · exact ⟨q, hq, by simp only [cost, hf, if_true]; exact h1.symm⟩
  · intro q hq
    cases hf : fol p q with
    | true =>
      have := h3 q hq hf
      simp only [cost, hf, if_true]
      simp only [bet, Bool.or_eq_false_iff, decide_eq_false_iff_not] at this
      have := this.1
      simp only [restS]
      omega
    | false =>
      have h4 := hb q hq
      simp only [cost, hf, Bool.false_eq_true, if_false]
      simp only [bet, Bool.or_eq_false_iff, decide_eq_false_iff_not] at h2 h4
      have h2 := h2.1
      have h4 := h4.1
      simp only [restS]
      omega

/-- a step's best score is one of its parts' and no part has a better one -/
def StpOk (s : Stp) : Prop := (∃ q ∈ s.parts, s.scr q = s.best) ∧ ∀ q ∈ s.parts, bet (s.scr q) s.best = false
theorem stepN_ok (sp : Bool) (ps : List Pp') (nx : Option Stp) (h : ps ≠ []) : StpOk (stepN sp ps nx) := by
  have := bestL_ok (ps.map (scrN sp nx)) (by simpa using h)
  refine ⟨?_, ?_⟩
  · obtain ⟨q, hq, he⟩ := List.mem_map.1 this.1
    exact ⟨q, hq, he⟩
  · intro q hq
    exact this.2 _ (List.mem_map.2 ⟨q, hq, rfl⟩)
theorem stepsN_ok : ∀ (l : List (Bool × List Pp')), (∀ x ∈ l, x.2 ≠ []) → ∀ s ∈ stepsN l, StpOk s
  | [], _, s, h => by simp [stepsN] at h
  | (sp, ps) :: r, h, s, hs => by
    simp only [stepsN, List.mem_cons] at hs
    rcases hs with rfl | hs
    · exact stepN_ok sp ps _ (h (sp, ps) (by simp))
    · exact stepsN_ok r (fun x hx => h x (by simp [hx])) s hs
theorem stepsN_len : ∀ l, (stepsN l).length = l.length
  | [] => rfl
  | (sp, ps) :: r => by simp [stepsN, stepsN_len r]

/-- how many places have a join, if 'last' comes before -/
def joinN (last : Option Pp') (p : Pp') : Int := match last with
  | none => 0
  | some l => if fol l p then 0 else 1
def joinsN : Option Pp' → List Pp' → Int
  | _, [] => 0
  | last, p :: r => joinN last p + joinsN (some p) r
/-- a choice of parts that a best assembly takes: of each step a part; with the cost that is wanted -/
def ChosenN : Option Pp' → List Stp → List Pp' → Prop
  | _, [], [] => True
  | none, s :: r, p :: ps => p ∈ s.parts ∧ s.scr p = s.best ∧ ChosenN (some p) r ps
  | some l, s :: r, p :: ps => p ∈ s.parts ∧ cost s.scr l p = restS s l ∧ ChosenN (some p) r ps
  | _, _, _ => False
/-- the least number of joins -/
def fewN : Option Pp' → List (List Pp') → Int
  | _, [] => 0
  | last, ps :: r => ps.foldl (fun b p => min b (joinN last p + fewN (some p) r)) 1073741824

theorem foldl_min {α : Type} (f : α → Int) : ∀ (l : List α) (b : Int), (l.foldl (fun b p => min b (f p)) b = b ∨ ∃ q ∈ l, l.foldl (fun b p => min b (f p)) b = f q) ∧ l.foldl (fun b p => min b (f p)) b ≤ b ∧ ∀ q ∈ l, l.foldl (fun b p => min b (f p)) b ≤ f q
  | [], b => ⟨.inl rfl, Int.le_refl _, by simp⟩
  | a :: l, b => by
    obtain ⟨h1, h2, h3⟩ := foldl_min f l (min b (f a))
    simp only [List.foldl_cons]
    refine ⟨?_, by omega, ?_⟩
    · rcases h1 with h1 | ⟨q, hq, h1⟩
      · rcases Int.le_total b (f a) with h | h
        · left; rw [h1]; omega
        · right; exact ⟨a, by simp, by rw [h1]; omega⟩
      · exact .inr ⟨q, by simp [hq], h1⟩
    · intro q hq
      rcases List.mem_cons.1 hq with rfl | hq
      · omega
      · exact h3 q hq
theorem joinN_le (last : Option Pp') (p : Pp') : 0 ≤ joinN last p ∧ joinN last p ≤ 1 := by
  unfold joinN
  split
  · omega
  · split <;> omega
theorem fewN_le : ∀ (r : List (List Pp')) (last : Option Pp'), (∀ x ∈ r, x ≠ []) → r.length ≤ 1000000 → 0 ≤ fewN last r ∧ fewN last r ≤ r.length
  | [], _, _, _ => by simp [fewN]
  | ps :: r, last, h, hl => by
    simp only [List.length_cons] at hl
    have ih := fun p => fewN_le r (some p) (fun x hx => h x (by simp [hx])) (by omega)
    obtain ⟨h1, h2, h3⟩ := foldl_min (fun p => joinN last p + fewN (some p) r) ps 1073741824
    have hne := h ps (by simp)
    obtain ⟨q, hq⟩ := List.exists_mem_of_ne_nil _ hne
    have a1 := h3 q hq
    have a2 := ih q
    have a3 := joinN_le last q
    simp only [fewN, List.length_cons]
    refine ⟨?_, by omega⟩
    rcases h1 with h1 | ⟨x, hx, h1⟩
    · rw [h1]; omega
    · rw [h1]; have := ih x; have := joinN_le last x; omega
/-- the least: reached, and below all others -/
theorem fewN_is {ps : List Pp'} {r : List (List Pp')} {last : Option Pp'} {m : Int} (hne : ∀ x ∈ ps :: r, x ≠ []) (hl : r.length ≤ 1000000) (h1 : ∃ q ∈ ps, m = joinN last q + fewN (some q) r) (h2 : ∀ q ∈ ps, m ≤ joinN last q + fewN (some q) r) : fewN last (ps :: r) = m := by
  obtain ⟨a1, a2, a3⟩ := foldl_min (fun p => joinN last p + fewN (some p) r) ps 1073741824
  have ih := fun p => fewN_le r (some p) (fun x hx => hne x (by simp [hx])) (by omega)
  obtain ⟨q, hq, he⟩ := h1
  have b1 := a3 q hq
  have b2 := ih q
  have b3 := joinN_le last q
  simp only [fewN]
  rcases a1 with a1 | ⟨x, hx, a1⟩
  · omega
  · have := h2 x hx; omega

/-- the scores of steps count the least joins from there on -/
theorem scr_few : ∀ (l : List (Bool × List Pp')), (∀ x ∈ l, x.2 ≠ []) → l.length ≤ 1000000 → ∀ s r, stepsN l = s :: r → (∀ p ∈ s.parts, (s.scr p).joins = fewN (some p) ((l.drop 1).map (·.2))) ∧ s.best.joins = fewN none (l.map (·.2)) ∧ ∀ p, (restS s p).joins = fewN (some p) (l.map (·.2))
  | [], _, _, s, r, h => by simp [stepsN] at h
  | (sp, ps) :: l, hne, hl, s, r, h => by
    simp only [List.length_cons] at hl
    have hok := stepsN_ok ((sp, ps) :: l) hne
    simp only [stepsN, List.cons.injEq] at h
    obtain ⟨h1, h2⟩ := h
    have hs : StpOk s := hok s (by rw [← h1]; simp [stepsN])
    have hpl : s.parts = ps := by rw [← h1]; rfl
    have hne' : ∀ x ∈ ps :: l.map (·.2), x ≠ [] := by
      intro x hx
      rcases List.mem_cons.1 hx with rfl | hx
      · exact hne (sp, x) (by simp)
      · obtain ⟨y, hy, rfl⟩ := List.mem_map.1 hx
        exact hne y (by simp [hy])
    have k1 : ∀ p, (s.scr p).joins = fewN (some p) (l.map (·.2)) := by
      intro p
      rw [← h1]
      cases hr : stepsN l with
      | nil =>
        have : l = [] := by
          have := stepsN_len l
          rw [hr] at this
          exact List.eq_nil_of_length_eq_zero (by simpa using this.symm)
        subst this
        simp only [stepN, scrN, List.head?_nil, List.map_nil, fewN, ownS]
        split <;> rfl
      | cons s' r' =>
        have ih := scr_few l (fun x hx => hne x (by simp [hx])) (by omega) s' r' hr
        simp only [stepN, scrN, List.head?_cons]
        exact ih.2.2 p
    refine ⟨fun p _ => by simpa using k1 p, ?_, ?_⟩
    · simp only [List.map_cons]
      refine (fewN_is hne' (by simpa using (by omega : l.length ≤ 1000000)) ?_ ?_).symm
      · obtain ⟨q, hq, he⟩ := hs.1
        exact ⟨q, hpl ▸ hq, by rw [← he, k1, joinN]; omega⟩
      · intro q hq
        have := hs.2 q (hpl ▸ hq)
        simp only [bet, Bool.or_eq_false_iff, decide_eq_false_iff_not] at this
        have := this.1
        rw [k1] at this
        simp only [joinN]
        omega
    · intro p
      simp only [List.map_cons]
      obtain ⟨⟨q, hq, he⟩, hall⟩ := restS_ok hs.1 hs.2 p
      have kc : ∀ q, (cost s.scr p q).joins = joinN (some p) q + fewN (some q) (l.map (·.2)) := by
        intro q
        simp only [cost, joinN]
        split
        · rw [k1]; omega
        · simp only; rw [k1]; omega
      refine (fewN_is hne' (by simpa using (by omega : l.length ≤ 1000000)) ⟨q, hpl ▸ hq, by rw [← kc, he]⟩ fun q hq => ?_).symm
      rw [← kc]
      exact hall q (hpl ▸ hq)

theorem chosen_len : ∀ (ss : List Stp) (last : Option Pp') (ps : List Pp'), ChosenN last ss ps → ps.length = ss.length
  | [], _, [], _ => rfl
  | [], none, _ :: _, h => by simp [ChosenN] at h
  | [], some _, _ :: _, h => by simp [ChosenN] at h
  | _ :: _, none, [], h => by simp [ChosenN] at h
  | _ :: _, some _, [], h => by simp [ChosenN] at h
  | s :: ss, none, p :: ps, h => by simp only [ChosenN] at h; simp [chosen_len ss _ ps h.2.2]
  | s :: ss, some _, p :: ps, h => by simp only [ChosenN] at h; simp [chosen_len ss _ ps h.2.2]
/-- a chosen row has as many joins as it is said to have -/
theorem chosen_joins : ∀ (l : List (Bool × List Pp')) (last : Option Pp') (ps : List Pp') (s : Stp) (r : List Stp), stepsN l = s :: r → ChosenN last (stepsN l) ps → joinsN last ps = match last with | none => s.best.joins | some p => (restS s p).joins
  | [], _, _, s, r, h, _ => by simp [stepsN] at h
  | (sp, qs) :: l, last, [], s, r, h, hc => by
    rw [h] at hc
    cases last <;> simp [ChosenN] at hc
  | (sp, qs) :: l, last, p :: ps, s, r, h, hc => by
    rw [h] at hc
    simp only [stepsN, List.cons.injEq] at h
    obtain ⟨h1, h2⟩ := h
    have key : ChosenN (some p) r ps → joinsN (some p) ps = (s.scr p).joins := by
      intro hc
      rw [← h1]
      cases hr : stepsN l with
      | nil =>
        rw [hr] at h2
        subst h2
        cases ps with
        | nil => simp only [joinsN, stepN, scrN, List.head?_nil, ownS]; split <;> rfl
        | cons _ _ => simp [ChosenN] at hc
      | cons s' r' =>
        rw [← h2] at hc
        have := chosen_joins l (some p) ps s' r' hr hc
        simp only at this
        rw [this]
        simp only [stepN, scrN, List.head?_cons]
    cases last with
    | none =>
      simp only [ChosenN] at hc
      simp only [joinsN, joinN, key hc.2.2, hc.2.1]
      omega
    | some q =>
      simp only [ChosenN] at hc
      simp only [joinsN, joinN, key hc.2.2]
      rw [← hc.2.1]
      simp only [cost]
      split
      · omega
      · simp only; omega
end Go.Proofs.YtkfpiadgjbhcpaaGreatDoor
namespace Go.Proofs.YtkfpiadgjbhcpaaGreatDoor
open Go Go.RowKit Go.Lib
open Go.Av (Fr rowOf WriteC StringC)

theorem jb : ∃ j, Tryz.prog.info? 132 = some j ∧ j.size = 2 := Option.map_eq_some_iff.1 (show (Tryz.prog.info? 132).map (·.size) = some 2 by kernel_rfl)

set_option maxRecDepth 100000 in
theorem cc_used (b : Nat) (w : World) (h0 : w.cell? ⟨b, 0, none⟩ = some (.pointer (some ⟨b, 0, none⟩))) :
    Calls Tryz.prog 112 #[.pointer (some ⟨b, 0, none⟩)] w fun e w' => e = .returned (.tuple #[]) ∧ w' = w := by
  obtain ⟨j, hj, hjs⟩ := jb
  go_enter Tryz.func112, Tryz.ntmps112
  go_wp2
  rw [run_neq_ptr_same w _ Tryz.underlying129 hj]
  go_wp2
  go_end0
  exact ⟨rfl, rfl⟩

set_option maxRecDepth 100000 in
theorem cc_fresh (b : Nat) (w : World) (h0 : w.cell? ⟨b, 0, none⟩ = some (.pointer none)) (hsh : w.shape? b = some (132, 2)) (hfz : w.frozen? ⟨b, 0, none⟩ = false) :
    Calls Tryz.prog 112 #[.pointer (some ⟨b, 0, none⟩)] w fun e w' => e = .returned (.tuple #[]) ∧ w' = w.setCell ⟨b, 0, none⟩ (.pointer (some ⟨b, 0, none⟩)) := by
  obtain ⟨j, hj, hjs⟩ := jb
  go_enter Tryz.func112, Tryz.ntmps112
  go_wp2
  rw [run_to_unsafe w ⟨b, 0, none⟩ Tryz.underlying129 Tryz.underlying258 hj (by rw [hjs]; decide) hsh (Nat.zero_lt_succ 1)]
  simp only [Result.andThen]
  rw [Oper.upon_value]
  go_wp2
  rw [run_callFunc_extern Tryz.func175 (by kernel_rfl) (by kernel_rfl) (by kernel_rfl) (e := Extern.AbiNoEscape.same) (by kernel_rfl)]
  rw [run_noEscape]
  simp only [Result.andThen]
  rw [Oper.upon_value]
  go_wp2
  rw [run_from_unsafe w ⟨b, 0, none⟩ Tryz.underlying258 Tryz.underlying129 hj hsh (by kernel_rfl)]
  simp only [Result.andThen]
  rw [Oper.upon_value]
  go_wp2
  go_end0
  exact ⟨rfl, rfl⟩

theorem cc (B b : Nat) (bs : List Value) (w : World) (h : IsBuilder 132 5 B b bs w) : Calls Tryz.prog 112 #[.pointer (some ⟨b, 0, none⟩)] w fun e w' => e = .returned (.tuple #[]) ∧ BuilderAt 132 5 B b (.pointer (some ⟨b, 0, none⟩)) bs w' ∧
    Fr w w' b none ∧ w'.cell? ⟨b, 1, none⟩ = w.cell? ⟨b, 1, none⟩ := by
  rcases h with h | h
  · refine (cc_fresh b w h.cell0 h.shape h.frozen0).mono ?_
    rintro e w' ⟨rfl, rfl⟩
    refine ⟨rfl, h.used _, ⟨rfl, rfl, rfl, by simp [World.setCell], fun k _ hk _ => heap_setCell_other w _ k _ hk⟩, World.cell?_setCell_other _ _ _ _ (by simp)⟩
  · refine (cc_used b w h.cell0).mono ?_
    rintro e w' ⟨rfl, rfl⟩
    exact ⟨rfl, h, ⟨rfl, rfl, rfl, Nat.le_refl _, fun _ _ _ _ => rfl⟩, rfl⟩

/-- where the row stands behind an append of a string's bytes -/
theorem append_block {w : World} {B : Nat} {v v' : Value} {n : Nat} {xs : List Value} {s : ByteArray} {ty : TypeId} {w' : World} {i : TypeInfo} (hi : Tryz.prog.info? 5 = some i) (hz : i.zero = some (.int .u8 0)) (hsize : i.size = 1) (hby : i.bytes = 1)
    (hown : w.ownsRow B 5 1 v n xs) (h63 : n + s.size ≤ maxLen) (hb : n + s.size ≤ 140737488355328) (hB : B ≤ w.heap.size) (hr : (Builtin.append_ #[130, 9] ty #[v, .string s]).run Tryz.prog w = .ok v' w') :
    v'.ownBlock = none ∨ v'.ownBlock = v.ownBlock ∨ v'.ownBlock = some w.heap.size := by
  have hm63 : n + s.size ≤ 9223372036854775807 := by unfold maxLen at h63; omega
  have hxl : xs.length = n := by simpa using hown.1
  obtain ⟨v1, w1, hr1, _, _, h4⟩ := run_append_own_string (P := Tryz.prog) w B 130 9 ty 5 i Tryz.underlying130 Tryz.underlying9 hi hz hsize hby v n xs hown s h63 hb hB
  rw [hr] at hr1
  obtain ⟨rfl, _⟩ : v' = v1 ∧ w' = w1 := by simpa using hr1
  rcases hown.2 with ⟨rfl, rfl⟩ | ⟨g, cap, cur, rfl, hbg, hg, hnc, hcm, hcs, htake⟩
  · by_cases hm : s.size = 0
    · rw [h4.2 ⟨rfl, hm⟩]; exact .inl rfl
    · have h := run_append_nil_string (P := Tryz.prog) w 130 9 ty 5 i (.int .u8 0) Tryz.underlying130 Tryz.underlying9 hi hz s (by omega) (by omega) (by rw [hby]; omega)
      rw [hr] at h
      have : v' = .slice (some ⟨w.heap.size, 0, none⟩) s.size (grownCap w s.size 0 5) := (show v' = _ ∧ w' = _ by simpa using h).1
      rw [this]; exact .inr (.inr rfl)
  · by_cases hroom : n + s.size ≤ cap
    · have h := run_append_room_string (P := Tryz.prog) w 130 9 ty 5 i Tryz.underlying130 Tryz.underlying9 hi hsize g n cap cur hg s hroom (by omega)
      rw [hr] at h
      have : v' = .slice (some ⟨g, 0, none⟩) (n + s.size) cap := (show v' = _ ∧ w' = _ by simpa using h).1
      rw [this]; exact .inr (.inl rfl)
    · have h := run_append_grow_string (P := Tryz.prog) w 130 9 ty 5 i (.int .u8 0) Tryz.underlying130 Tryz.underlying9 hi hz ⟨g, 0, none⟩ n cap xs (by rw [hsize]; simpa using hxl) (hown.cells (g := g) rfl) s (by omega) (by omega) (by rw [hby]; exact growslice_fits (by omega) (by omega))
      rw [hr] at h
      have : v' = .slice (some ⟨w.heap.size, 0, none⟩) (n + s.size) (grownCap w (n + s.size) cap 5) := (show v' = _ ∧ w' = _ by simpa using h).1
      rw [this]; exact .inr (.inr rfl)

/-- the operation, for the walk -/
theorem wpList_append {w : World} {ops : Array Oper} {rest : List Oper} {o : Oper} {a : Act} {Q : Exit → Act → World → Prop} (hgd : o.guard = none) (sl x : Operand)
    (ho : o.op = .call { callee := .builtin .append, args := #[sl, x], argTypes := #[130, 9] }) (B : Nat) (i : TypeInfo) (hi : Tryz.prog.info? 5 = some i) (hz : i.zero = some (.int .u8 0)) (hsize : i.size = 1) (hby : i.bytes = 1)
    (v : Value) (n : Nat) (xs : List Value) (hs : a.eval sl = v) (hown : w.ownsRow B 5 1 v n xs) (s : ByteArray) (hx : a.eval x = .string s) (h63 : n + s.size ≤ maxLen) (hb : n + s.size ≤ 140737488355328) (hB : B ≤ w.heap.size)
    (h : ∀ v' w', w'.ownsRow B 5 1 v' (n + s.size) (xs ++ strCells s) → w.grownBy w' v.ownBlock → (v'.ownBlock = none ∨ v'.ownBlock = v.ownBlock ∨ v'.ownBlock = some w.heap.size) → wpList Tryz.prog ops Q rest (a.put o.dst v') w') : wpList Tryz.prog ops Q (o :: rest) a w := by
  refine wpList_plain hgd fun K hK => ?_
  obtain ⟨v', w', hr, h2, h3, _⟩ := run_append_own_string (P := Tryz.prog) w B 130 9 o.type 5 i Tryz.underlying130 Tryz.underlying9 hi hz hsize hby v n xs hown s h63 hb hB
  have hbk := append_block hi hz hsize hby hown h63 hb hB hr
  unfold Oper.wp execOp
  simp only [ho, resolve, invoke, builtin, Sem.run_bind, Sem.run_pure, Result.andThen_ok, List.map_toArray, List.map_cons, List.map_nil, hs, hx, hr]
  exact hK _ _ (h v' w' h2 h3 hbk)

set_option maxHeartbeats 2000000 in
set_option maxRecDepth 100000 in
/-- what WriteString does -/
theorem wstr (B b : Nat) (bs : List Value) (s : ByteArray) (w : World) (h : IsBuilder 132 5 B b bs w) (hlen : bs.length + s.size ≤ 140737488355328) (hBw : B ≤ w.heap.size) :
    Calls Tryz.prog 60 #[.pointer (some ⟨b, 0, none⟩), .string s] w fun e w' => e = .returned (.tuple #[.int .i64 s.size, .nilIface]) ∧ BuilderAt 132 5 B b (.pointer (some ⟨b, 0, none⟩)) (bs ++ strCells s) w' ∧
      Fr w w' b (rowOf w b) ∧ ∀ r, rowOf w' b = some r → rowOf w b = some r ∨ w.heap.size ≤ r := by
  obtain ⟨i0, hi, hz0, hz1, hz2⟩ := info_parts Tryz.Builder_Extra_169.infoByte
  go_enter Tryz.func60, Tryz.ntmps60
  go_wp2_with (go_at_call 112; refine (cc B b bs _ h).mono ?_)
  rintro e w1 ⟨rfl, h1, hf, hc1⟩
  obtain ⟨hB, v, hbk, hown, hne⟩ := h1
  have c0 : w1.cell? ⟨b, 0, none⟩ = some (.pointer (some ⟨b, 0, none⟩)) := by rw [cell_of_heap hbk]; rfl
  have c1 : w1.cell? ⟨b, 1, none⟩ = some v := by rw [cell_of_heap hbk]; rfl
  have hrow : rowOf w b = v.ownBlock := by rw [rowOf, ← hc1, c1]; rfl
  clear hc1
  go_wp2_with (at_builtin; refine wpList_append rfl _ _ rfl B i0 hi hz0 hz1 hz2 _ _ _ rfl hown s rfl ?c3 ?c4 ?c5 ?_)
  case c3 => unfold maxLen; omega
  case c4 => omega
  case c5 => have := hf.size; omega
  intro v' w2 hown' hgrow hblk
  have hlt : b < w1.heap.size := by
    rcases Nat.lt_or_ge b w1.heap.size with h' | h'
    · exact h'
    · simp [Array.getElem?_eq_none h'] at hbk
  have hb2 : w2.heap[b]? = some (.cells #[.pointer (some ⟨b, 0, none⟩), v] 132 (0, 0)) := by
    rw [hgrow.block b hlt (fun e => hne e.symm)]
    exact hbk
  have d0 : w2.cell? ⟨b, 0, none⟩ = some (.pointer (some ⟨b, 0, none⟩)) := by rw [cell_of_heap hb2]; rfl
  have d1 : w2.cell? ⟨b, 1, none⟩ = some v := by rw [cell_of_heap hb2]; rfl
  have f1 : w2.frozen? ⟨b, 1, none⟩ = false := frozen_of_heap hb2 1
  obtain ⟨ao, n', cap, rfl⟩ : ∃ ao n' cap, v' = .slice ao n' cap := by
    rcases hown'.2 with ⟨hv, _⟩ | ⟨g, cap, cur, hv, _⟩
    · exact ⟨_, _, _, hv⟩
    · exact ⟨_, _, _, hv⟩
  go_wp2
  go_ret2
  refine ⟨rfl, BuilderAt.put (T := 132) (e := 5) hB hb2 (bs' := bs ++ strCells s) (by simpa [strCells_length] using hown') (by decide), ?_⟩
  have hw2 : rowOf (w2.setCell ⟨b, 1, none⟩ (.slice ao n' cap)) b = Value.ownBlock (.slice ao n' cap) := by
    rw [rowOf, World.cell?_setCell_same _ _ _ d1]; rfl
  rw [hrow]
  refine ⟨⟨(hgrow.os.trans hf.os), (hgrow.tape.trans hf.tape), (hgrow.output.trans hf.output), by have := hf.size; have := hgrow.size; simp [World.setCell]; omega, fun k hk hkb hkr => by
    rw [heap_setCell_other _ _ k _ hkb, hgrow.block k (by have := hf.size; omega) hkr, hf.block k hk hkb (by simp)]⟩, fun r hr => ?_⟩
  rw [hw2] at hr
  rcases hblk with h | h | h
  · rw [h] at hr; cases hr
  · rw [h] at hr; exact .inl hr
  · rw [h] at hr
    have := hf.size
    simp at hr
    exact .inr (by omega)

theorem write_c : WriteC Tryz.prog 60 132 5 := ⟨hB60, fun B b bs s w h h1 h2 => wstr B b bs s w h h1 h2⟩
theorem string_c : StringC Tryz.prog 64 132 5 := ⟨hB64, fun B b l w h h2 => Any.Builder_String_any Tryz.lays169 Tryz.Builder_Extra_169 B b l w h h2⟩
end Go.Proofs.YtkfpiadgjbhcpaaGreatDoor
namespace Go.Proofs.YtkfpiadgjbhcpaaGreatDoor
open Go Go.Av Go.RowKit

theorem pch_lib {g : Std} {f : FuncId} {args : List AV} {r : AV} (vs : List Value) (v : Value) (hb : hasBody Tryz.prog f = true) (ha : ∀ h vs', RL h Lf0 true vs' args → vs' = vs) (hr : ∀ h, RV h Lf0 true v r)
    (H : ∀ w, Stands g w → Calls Tryz.prog f vs.toArray w fun e w' => e = .returned v ∧ Same w w') : PcH Tryz.prog g f args (· = r) := by
  refine ⟨hb, fun h w vs' hg hm hv => ?_⟩
  have := ha h vs' hv
  subst this
  refine (H w hg).mono ?_
  rintro e w' ⟨rfl, hs⟩
  exact ⟨v, r, h, rfl, rfl, fun b o v e => ⟨hs.cell (hm b o v e).1, (hm b o v e).2⟩, fun _ _ _ x => x, fun b o e n => (n e).elim, hs, hr h⟩
theorem pc_lib {f : FuncId} {args : List AV} {r : AV} (vs : List Value) (v : Value) (hb : hasBody Tryz.prog f = true) (ha : ∀ h vs', RL h Lf0 true vs' args → vs' = vs) (hr : ∀ h, RV h Lf0 true v r)
    (H : ∀ w, Calls Tryz.prog f vs.toArray w fun e w' => e = .returned v ∧ Same w w') : Pc Tryz.prog f args (· = r) := by
  refine ⟨hb, fun h w vs' hm hv => ?_⟩
  have := ha h vs' hv
  subst this
  refine (H w).mono ?_
  rintro e w' ⟨rfl, hs⟩
  exact ⟨v, r, h, rfl, rfl, fun b o v e => ⟨hs.cell (hm b o v e).1, (hm b o v e).2⟩, fun _ _ _ x => x, fun b o e n => (n e).elim, hs, hr h⟩

theorem rv_str {h : Mem} {v : Value} {s : List UInt8} (r : RV h Lf0 true v (.str s)) : v = .string ⟨s.toArray⟩ := by cases r with | str => rfl
theorem rv_int {h : Mem} {v : Value} {k : IntKind} {n : Int} (r : RV h Lf0 true v (.int k n)) : v = .int k n := by cases r with | int => rfl
theorem two_strs (s p : List UInt8) : ∀ h vs', RL h Lf0 true vs' [.str s, .str p] → vs' = [.string ⟨s.toArray⟩, .string ⟨p.toArray⟩] := by
  intro h vs' r
  cases r with | cons r1 r => cases r with | cons r2 r => cases r; rw [rv_str r1, rv_str r2]


theorem hasPrefix_pc (s p : List UInt8) : Pc Tryz.prog 178 [.str s, .str p] (· = .bool (Lib.hasPrefix s p)) :=
  pc_lib [_, _] (.bool (Lib.hasPrefix s p)) hB178 (two_strs s p) (fun h => .bool _) fun w => (Any.strings_HasPrefix Tryz.lays99 ⟨s.toArray⟩ ⟨p.toArray⟩ w).mono fun e w' ⟨h1, h2⟩ => ⟨h1, h2 ▸ .refl w⟩
theorem hasSuffix_pc (s p : List UInt8) (hs : s.length ≤ 9223372036854775807) : Pc Tryz.prog 187 [.str s, .str p] (· = .bool (Lib.hasSuffix s p)) :=
  pc_lib [_, _] (.bool (Lib.hasSuffix s p)) hB187 (two_strs s p) (fun h => .bool _) fun w => (Any.strings_HasSuffix Tryz.lays100 ⟨s.toArray⟩ ⟨p.toArray⟩ w hs).mono fun e w' ⟨h1, h2⟩ => ⟨h1, h2 ▸ .refl w⟩
theorem indexByte_pc (s : List UInt8) (c : Int) : Pc Tryz.prog 299 [.str s, .int .u8 c] (· = .int .i64 (Lib.indexByte s c.toNat.toUInt8)) :=
  pc_lib [.string ⟨s.toArray⟩, .int .u8 c] (.int .i64 (Lib.indexByte s c.toNat.toUInt8)) hB299 (fun h vs' r => by cases r with | cons r1 r => cases r with | cons r2 r => cases r; rw [rv_str r1, rv_int r2]) (fun h => .int _ _)
    fun w => (Any.strings_IndexByte Tryz.lays137 ⟨s.toArray⟩ c w).mono fun e w' ⟨h1, h2⟩ => ⟨h1, h2 ▸ .refl w⟩


theorem contains_pch {S : Std} (hS : LibOk S) (s p : List UInt8) (hs : s.length < 4294967281) : PcH Tryz.prog S 217 [.str s, .str p] (· = .bool (Lib.contains s p)) :=
  pch_lib [_, _] (.bool (Lib.contains s p)) hB217 (two_strs s p) (fun h => .bool _) fun w H => (Any.strings_Contains Tryz.lays144 ⟨s.toArray⟩ ⟨p.toArray⟩ _ w hs (hS.cell.choose_spec w H)).mono fun e w' ⟨h1, h2⟩ => ⟨h1, h2 ▸ .refl w⟩

/-- the pieces of a text, as lists of bytes -/
def splitL (s p : List UInt8) : List (List UInt8) := (Lib.splitB ⟨p.toArray⟩ 0 (Lib.countB ⟨s.toArray⟩ ⟨p.toArray⟩) ⟨s.toArray⟩).map (·.data.toList)

theorem split_pch {S : Std} (hS : LibOk S) (s p : List UInt8) (hs : s.length < 4294967281) (hp : 1 ≤ p.length) : PcH Tryz.prog S 65 [.str s, .str p] (· = .fz 1 (splitL s p |>.map .str)) := by
  refine ⟨hB65, fun h w vs' hg hm hv => ?_⟩
  have := two_strs s p h vs' hv
  subst this
  refine (Any.strings_Split Tryz.lays146 (by kernel_rfl) ⟨s.toArray⟩ ⟨p.toArray⟩ _ w hs (hS.cell.choose_spec w hg) hp).mono ?_
  rintro e w' ⟨rfl, rfl⟩
  have hlen := Lib.splitB_all ⟨p.toArray⟩ hp 0 _ ⟨s.toArray⟩ rfl
  generalize hL : Lib.splitB ⟨p.toArray⟩ 0 (Lib.countB ⟨s.toArray⟩ ⟨p.toArray⟩) ⟨s.toArray⟩ = L at hlen ⊢
  have hsl : splitL s p = L.map (·.data.toList) := by rw [splitL, hL]
  have hval : L.map Value.string = (splitL s p).map sval := by
    rw [hsl, List.map_map]; rfl
  rw [hval, ← hlen, show L.length = (splitL s p).length by rw [hsl]; simp]
  have h1 : ∀ v ∈ (splitL s p).map sval, v.oneCell' = true := by intro v hv; obtain ⟨x, _, rfl⟩ := List.mem_map.1 hv; rfl
  have hmine : Mine h (fun _ => none) [] w := ⟨hm, fun id blk e => by simp at e, fun _ _ => rfl, fun i j g t t' e => by simp at e, fun i g t e => by simp at e⟩
  obtain ⟨m2, l2⟩ := hmine.freezeNew ((splitL s p).map sval) 9 h1
  refine ⟨_, _, Mem.add h w.heap.size ((splitL s p).map sval), rfl, rfl, m2.mem, l2.hle, fun b o e n => ?_, .alloc w _, ?_⟩
  · rcases l2.hnew b o e n with ⟨j, t, hj⟩ | hs
    · cases hj
    · exact hs
  · have := RV.fz (h := Mem.add h w.heap.size ((splitL s p).map sval)) (Lf := Lf0) (fl := true) w.heap.size 0 (splitL s p).length 1 ((splitL s p).map .str) ((splitL s p).map sval) ?_ (by simp [cellsOf]) ?_ (by simp)
    · simpa using this
    · rw [flat_strs]
      generalize Mem.add h w.heap.size ((splitL s p).map sval) = hh
      generalize splitL s p = z
      induction z with
      | nil => exact .nil
      | cons x z ih => exact .cons (.str x) ih
    · intro k v hv
      simp only [Mem.add, Nat.zero_add, if_true]
      exact hv
end Go.Proofs.YtkfpiadgjbhcpaaGreatDoor
