/- slices.Insert and slices.Delete at lists of strings, out of the library's contracts, in the words of plain data; contracts of functions that only make new blocks. Own work of this seat. -/
import Derived.Test.YtpjbbpilgfihbaaDoorAvT
import Derived.Shelf.Spec.SlicesInsert
import Derived.Shelf.Spec.SlicesInsertGrow
import Derived.Shelf.Slices.Delete
set_option linter.unusedSimpArgs false
set_option linter.unusedVariables false
namespace Go.Av
open Go Go.RowKit

/-- a function that hands back plain data and only makes new blocks -/
theorem ct_same {P : Program} {f : FuncId} {args : List AV} {sto : List Blk} {post : AV → List Blk → Prop} (hb : hasBody P f = true)
    (H : ∀ h ρ w vs, Mine h ρ sto w → RL h (Lf ρ sto) false vs args → Calls P f vs.toArray w fun en w' => ∃ v r, en = .returned v ∧ Same w w' ∧ post r sto ∧ RV h (Lf ρ sto) false v r) : Ct P f args sto post :=
  ⟨hb, fun h ρ w vs m r => (H h ρ w vs m r).mono fun en w' ⟨v, x, he, hs, hp, hr⟩ => ⟨v, x, sto, h, ρ, he, hp, m.same hs, .same hs, hr⟩⟩

abbrev strs (l : List (List UInt8)) : List AV := l.map .str
abbrev sval (s : List UInt8) : Value := .string ⟨s.toArray⟩

theorem flat_strs : ∀ l : List (List UInt8), flat (strs l) = strs l
  | [] => rfl
  | x :: r => by simp only [List.map_cons, flat, cellsOf, List.cons_append, List.nil_append]; rw [flat_strs r]

section
variable {h : Mem} {ρ : Own} {sto : List Blk} {w : World} {P : Program}

theorem inv_str' {v : Value} {s : List UInt8} {fl : Bool} (r : RV h (Lf ρ sto) fl v (.str s)) : v = sval s := by
  cases r with
  | leaf p => exact p.2.elim
  | str s => rfl

theorem rl_strs : ∀ {l : List (List UInt8)} {vs : List Value}, RL h (Lf ρ sto) false vs (strs l) → vs = l.map sval
  | [], _, r => by cases r; rfl
  | x :: l, _, r => by cases r with | cons h1 h2 => rw [inv_str' h1, rl_strs h2]; rfl

theorem strs_rl : ∀ l : List (List UInt8), RL h (Lf ρ sto) false (l.map sval) (strs l)
  | [] => .nil
  | x :: l => .cons (.str x) (strs_rl l)

theorem strs_one (l : List (List UInt8)) : ∀ x ∈ strs l, (cellsOf x).length = 1 := by
  intro x hx
  obtain ⟨s, _, rfl⟩ := List.mem_map.1 hx
  rfl

/-- what a row of strings of one's own is -/
structure Row (ρ : Own) (w : World) (id : Nat) (l : List (List UInt8)) (g tot : Nat) (cur : Array Value) (t : TypeId) : Prop where
  own : ρ id = some (g, tot)
  heap : w.heap[g]? = some (.cells cur t (0, 0))
  size : cur.size = tot
  le : l.length ≤ tot
  mx : tot ≤ maxLen
  one : ∀ v ∈ cur.toList, v.oneCell' = true
  val : cur.toList.take l.length = l.map sval

theorem Row.of (m : Mine h ρ sto w) {id : Nat} {l : List (List UInt8)} (hb : sto[id]? = some (.arr 1 (strs l))) :
    (l = [] ∧ ρ id = none) ∨ ∃ g tot cur t, Row ρ w id l g tot cur t := by
  rcases m.own id _ hb with ⟨h1, hn⟩ | ⟨g, tot, cur, t, h3, h4, h5, h6, h7, h8, h9, h10, h11⟩
  · exact .inl ⟨by simpa using h1, hn⟩
  · refine .inr ⟨g, tot, cur, t, h3, h4, by omega, by simpa using h6, h7, h10, ?_⟩
    rw [flat_strs] at h11
    have := rl_strs h11
    simpa using this

/-- the row written over -/
theorem Row.put (m : Mine h ρ sto w) {id : Nat} {l l' : List (List UInt8)} (hb : sto[id]? = some (.arr 1 (strs l))) {g tot : Nat} {cur cur' : Array Value} {t : TypeId} (r : Row ρ w id l g tot cur t) {w' : World}
    (hl : l.length ≤ l'.length) (hlt : l'.length ≤ tot) (hos : w'.os = w.os) (htape : w'.tape = w.tape) (hout : w'.output = w.output) (hsz : w'.heap.size = w.heap.size) (hblk : ∀ k, k ≠ g → w'.heap[k]? = w.heap[k]?)
    (hn : w'.heap[g]? = some (.cells cur' t (0, 0))) (hcs : cur'.size = cur.size) (hone : ∀ v ∈ cur'.toList, v.oneCell' = true) (hv : cur'.toList.take l'.length = l'.map sval) :
    Mine h ρ (sto.set id (.arr 1 (strs l'))) w' ∧ Later h ρ sto w h ρ (sto.set id (.arr 1 (strs l'))) w' := by
  refine m.write (b' := .arr 1 (strs l')) hb r.own ?_ hos htape hout hsz hblk ?_
  · by_cases he : l.length < l'.length
    · exact .inr (by simpa using he)
    · exact .inl ⟨rfl, by simp; omega⟩
  · refine .inr ⟨g, tot, cur', t, r.own, hn, by rw [hcs, r.size]; omega, by simpa using hlt, r.mx, by omega, strs_one l', hone, ?_⟩
    rw [flat_strs]
    simp only [List.length_map, Nat.mul_one]
    rw [hv]
    exact strs_rl l'

/-- a longer row in a new place -/
theorem Row.moved (m : Mine h ρ sto w) {id : Nat} {l l' : List (List UInt8)} (hb : sto[id]? = some (.arr 1 (strs l))) {w' : World} {tot : Nat} {cur' : Array Value} {t : TypeId}
    (hl : l.length < l'.length) (s : Same w w') (hnew : w.heap.size < w'.heap.size) (hn : w'.heap[w.heap.size]? = some (.cells cur' t (0, 0))) (hcs : cur'.size = tot) (hlt : l'.length ≤ tot) (hmx : tot ≤ maxLen)
    (hone : ∀ v ∈ cur'.toList, v.oneCell' = true) (hv : cur'.toList.take l'.length = l'.map sval) :
    Mine h (upd ρ id (some (w.heap.size, tot))) (sto.set id (.arr 1 (strs l'))) w' ∧ Later h ρ sto w h (upd ρ id (some (w.heap.size, tot))) (sto.set id (.arr 1 (strs l'))) w' := by
  refine m.move (e' := 1) (l' := strs l') hb (by simpa using hl) tot s hnew ?_
  refine .inr ⟨w.heap.size, tot, cur', t, by simp [upd], hn, by omega, by simpa using hlt, hmx, by omega, strs_one l', hone, ?_⟩
  rw [flat_strs]
  simp only [List.length_map, Nat.mul_one]
  rw [hv]
  exact strs_rl l'

theorem setRow_self (w : World) (g : Nat) (cur : Array Value) (t : TypeId) (fr : Nat × Nat) (hg : w.heap[g]? = some (.cells cur t fr)) : w.setRow g cur = w := by
  have h : (w.setRow g cur).heap = w.heap := by
    apply Array.ext_getElem?
    intro k
    by_cases hk : k = g
    · subst hk; rw [setRow_heap w k cur cur t fr hg, hg]
    · exact setRow_other w g k cur hk
  have e : w.setRow g cur = { w with heap := (w.setRow g cur).heap } := rfl
  rw [e, h]

theorem splice_cons {α : Type} (l : List α) (k : Nat) (v : α) (vs : List α) (hk : k + (vs.length + 1) ≤ l.length) : splice (l.set k v) (k + 1) vs = splice l k (v :: vs) := by
  apply List.ext_getElem?
  intro i
  rw [splice_get (by simp; omega), splice_get (by simpa using hk)]
  by_cases h1 : i < k
  · simp [h1, show i < k + 1 by omega, List.getElem?_set, show ¬ k = i by omega]
  · by_cases h2 : i = k
    · subst h2; simp [List.getElem?_set, show i < l.length by omega]
    · have e1 : i - k = (i - (k + 1)) + 1 := by omega
      simp only [show ¬ i < k + 1 by omega, h1, if_false, List.length_cons, e1, List.getElem?_cons_succ, show (i < k + 1 + vs.length) = (i < k + (vs.length + 1)) by rw [show k + 1 + vs.length = k + (vs.length + 1) by omega]]
      split
      · rfl
      · simp [List.getElem?_set, show ¬ k = i by omega]

theorem setCells_row (g : Nat) (t : TypeId) (fr : Nat × Nat) : ∀ (vs : List Value) (o : Nat) (cur : Array Value) (w : World), w.heap[g]? = some (.cells cur t fr) → o + vs.length ≤ cur.size → w.setCells g o vs = w.setRow g (splice cur.toList o vs).toArray
  | [], o, cur, w, hg, hk => by
    have : (splice cur.toList o []).toArray = cur := by simp [splice]
    rw [World.setCells, this, setRow_self w g cur t fr hg]
  | v :: r, o, cur, w, hg, hk => by
    simp only [List.length_cons] at hk
    rw [World.setCells, setCell_eq_setRow w g o cur t fr v hg, setCells_row g t fr r (o + 1) (cur.setIfInBounds o v) _ (setRow_heap w g cur _ t fr hg) (by simp; omega), setRow_setRow]
    congr 2
    rw [Array.toList_setIfInBounds]
    exact splice_cons _ _ _ _ (by simpa using hk)
end
end Go.Av
