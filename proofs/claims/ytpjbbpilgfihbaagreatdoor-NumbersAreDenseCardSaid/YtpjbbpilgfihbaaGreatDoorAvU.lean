/- slices.Insert and slices.Delete at lists of strings, out of the library's contracts, in the words of plain data; contracts of functions that only make new blocks. Own work of this seat. -/
import Derived.Test.YtpjbbpilgfihbaaGreatDoorAvT
set_option linter.unusedSimpArgs false
set_option linter.unusedVariables false
namespace Go.Av
open Go Go.RowKit

/-- a function that hands back plain data and only makes new blocks -/
theorem ct_same {P : Program} {f : FuncId} {args : List AV} {sto : List Blk} {post : AV → List Blk → Prop} (hb : hasBody P f = true)
    (H : ∀ h ρ w vs, Mine h ρ sto w → RL h (Lf ρ sto) false vs args → Calls P f vs.toArray w fun en w' => ∃ v r, en = .returned v ∧ Same w w' ∧ post r sto ∧ RV h (Lf ρ sto) false v r) : Ct P f args sto post :=
  ⟨hb, fun h ρ w vs m r => (H h ρ w vs m r).mono fun en w' ⟨v, x, he, hs, hp, hr⟩ => ⟨v, x, sto, h, ρ, he, hp, m.same hs, .same hs, hr⟩⟩

abbrev strs (l : List (List UInt8)) : List AV := l.map .str
abbrev sval (s : List UInt8) : Value := .string ⟨s.toArray⟩

theorem flat_strs : ∀ l : List (List UInt8), flat (strs l) = strs l
  | [] => rfl
  | x :: r => by simp only [List.map_cons, flat, cellsOf, List.cons_append, List.nil_append]; rw [flat_strs r]

section
variable {h : Mem} {ρ : Own} {sto : List Blk} {w : World} {P : Program}

theorem inv_str' {v : Value} {s : List UInt8} {fl : Bool} (r : RV h (Lf ρ sto) fl v (.str s)) : v = sval s := by
  cases r with
  | leaf p => exact p.2.elim
  | str s => rfl

theorem rl_strs : ∀ {l : List (List UInt8)} {vs : List Value}, RL h (Lf ρ sto) false vs (strs l) → vs = l.map sval
  | [], _, r => by cases r; rfl
  | x :: l, _, r => by cases r with | cons h1 h2 => rw [inv_str' h1, rl_strs h2]; rfl

theorem strs_rl : ∀ l : List (List UInt8), RL h (Lf ρ sto) false (l.map sval) (strs l)
  | [] => .nil
  | x :: l => .cons (.str x) (strs_rl l)

theorem strs_one (l : List (List UInt8)) : ∀ x ∈ strs l, (cellsOf x).length = 1 := by
  intro x hx
  obtain ⟨s, _, rfl⟩ := List.mem_map.1 hx
  rfl
end
end Go.Av
