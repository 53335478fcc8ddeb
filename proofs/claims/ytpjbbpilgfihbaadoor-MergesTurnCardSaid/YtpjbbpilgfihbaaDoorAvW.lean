/- slices.Delete at lists of strings. Own work of this seat. -/
import Derived.Test.YtpjbbpilgfihbaaDoorAvV
set_option linter.unusedSimpArgs false
set_option linter.unusedVariables false
namespace Go.Av
open Go Go.RowKit Go.Proofs Go.Shelf

section
variable {h : Mem} {ρ : Own} {sto : List Blk} {w : World} {P : Program}

def delStr (l : List (List UInt8)) (i j : Nat) : List (List UInt8) := l.take i ++ l.drop j
theorem delStr_length {l : List (List UInt8)} {i j : Nat} (hi : i ≤ j) (hj : j ≤ l.length) : (delStr l i j).length = l.length - (j - i) := by simp [delStr]; omega

theorem putRow_heap (w : World) (g : Nat) (d : Array (List UInt8)) (cur : Array Value) (t : TypeId) (fr : Nat × Nat) (hg : w.heap[g]? = some (.cells cur t fr)) :
    (Sort.putRow sval w g 0 d).heap[g]? = some (.cells (Sort.putCells sval 0 d cur) t fr) := by
  simp [Sort.putRow, Sort.mapBlock, Array.getElem?_modify, hg, Sort.onCells]
theorem putRow_other (w : World) (g : Nat) (d : Array (List UInt8)) (k : Nat) (hk : k ≠ g) : (Sort.putRow sval w g 0 d).heap[k]? = w.heap[k]? := by
  simp [Sort.putRow, Sort.mapBlock, Array.getElem?_modify, Ne.symm hk]

theorem putCells_take (d : Array (List UInt8)) (c : Array Value) (hd : d.size ≤ c.size) : (Sort.putCells sval 0 d c).toList.take d.size = d.toList.map sval := by
  apply List.ext_getElem?
  intro i
  rw [List.getElem?_take]
  by_cases hi : i < d.size
  · rw [if_pos hi, Array.getElem?_toList]
    simp [Sort.putCells, Array.getElem?_mapIdx, Array.getElem?_eq_getElem (show i < c.size by omega), hi, getElem!_pos]
  · rw [if_neg hi, List.getElem?_eq_none]
    simp; omega

theorem putCells_one (d : Array (List UInt8)) (c : Array Value) (hc : ∀ v ∈ c.toList, v.oneCell' = true) : ∀ v ∈ (Sort.putCells sval 0 d c).toList, v.oneCell' = true := by
  intro v hv
  obtain ⟨i, hi⟩ := List.mem_iff_getElem?.1 hv
  rw [Array.getElem?_toList] at hi
  simp only [Sort.putCells, Array.getElem?_mapIdx] at hi
  cases hq : c[i]? with
  | none => rw [hq] at hi; simp at hi
  | some y =>
    rw [hq] at hi
    simp only [Option.map_some, Option.some.injEq] at hi
    split at hi
    · rw [← hi]; rfl
    · rw [← hi]; exact hc y (by rw [← Array.getElem?_toList] at hq; exact List.mem_of_getElem? hq)

/-- slices.Delete(s, i, j) at []string -/
theorem ct_delete {ρf : Ren} (L : Lays2.n24 P ρf) (hx : hasBody P (ρf.f 24) = true) {id : Nat} {l : List (List UInt8)} {i j : Nat} (hb : sto[id]? = some (.arr 1 (strs l)))
    (hij : i ≤ j) (hj : j ≤ l.length) (h0 : 0 < l.length) {post : AV → List Blk → Prop}
    (hp : post (.sl sto.length 0 (l.length - (j - i)) (l.length - (j - i))) (sto.set id .dead ++ [.arr 1 (strs (delStr l i j))])) :
    Ct P (ρf.f 24) [.sl id 0 l.length l.length, .int .i64 i, .int .i64 j] sto post := by
  refine ⟨hx, fun h ρ w vs m rl => ?_⟩
  have hid := (List.getElem?_eq_some_iff.1 hb).1
  obtain ⟨v1, v2, v3, rfl, r1, r2, r3⟩ := rl3 rl
  have e2 : v2 = .int .i64 i := inv_int r2
  have e3 : v3 = .int .i64 j := inv_int r3
  subst e2 e3
  have l1 := inv_slv r1
  simp only [LfC, hb] at l1
  rcases l1.2 (by simp) with ⟨hz, _⟩ | ⟨g, tot, o1, rfl, _⟩
  · omega
  rcases Row.of m hb with ⟨hz, _⟩ | ⟨g', tot', cur, t, r⟩
  · subst hz; simp at h0
  have hg : g' = g ∧ tot' = tot := by rw [r.own] at o1; simpa using o1
  obtain ⟨rfl, rfl⟩ := hg
  have hle := r.le
  have hcz : cur.size = tot' := r.size
  simp only [Nat.zero_mul, Nat.sub_zero]
  have hH : Sort.Holds sval w g' 0 l.toArray := by
    intro k hk
    refine ⟨row_cells r k _ ?_, row_fz r _⟩
    have hk' : k < l.length := by simpa using hk
    simp [List.getElem?_map, hk', getElem!_pos]
  refine (Any.slices_Delete_string L g' 0 tot' i j l w hH hle (by have := r.mx; simpa [maxLen] using this) hij hj).mono ?_
  rintro en w' ⟨rfl, q, rfl⟩
  generalize hl' : l.take i ++ l.drop j ++ List.replicate (j - i) [] = l'
  have hlen : l'.length = l.length := by rw [← hl']; simp; omega
  have hd : (Sort.ahead w q).heap[g']? = some (.cells cur t (0, 0)) := r.heap
  have hm := Row.put m hb r (l' := l') (w' := Sort.putRow sval (Sort.ahead w q) g' 0 l'.toArray) (cur' := Sort.putCells sval 0 l'.toArray cur) (by omega) (by omega) rfl rfl rfl (by simp [Sort.putRow, Sort.mapBlock, Sort.ahead])
    (fun k hk => (putRow_other _ g' _ k hk).trans rfl) (putRow_heap _ g' _ cur t _ hd) (by simp [Sort.putCells]) (putCells_one _ _ r.one)
    (by have := putCells_take l'.toArray cur (by simp; omega); simpa using this)
  have hb2 : (sto.set id (.arr 1 (strs l')))[id]? = some (.arr 1 (strs l')) := by simp [hid]
  obtain ⟨ρ', m2, lt2, key⟩ := hm.1.trim hb2 (l.length - (j - i))
  have e1 : (strs l').take (l.length - (j - i)) = strs (delStr l i j) := by
    rw [← List.map_take, ← hl', List.take_append_of_le_length (by simp; omega), List.take_of_length_le (by simp; omega)]; rfl
  rw [e1, List.set_set] at m2 lt2 key
  simp only [List.length_set] at m2 lt2 key
  refine ⟨_, _, _, _, _, rfl, hp, m2, hm.2.trans lt2, .leaf ⟨rfl, key _ l.length ?_ (by simp [hlen]) (by omega)⟩⟩
  simp only [LfC, List.getElem?_set_self hid]
  exact ⟨by simp; omega, fun _ => .inr ⟨g', tot', r.own, by simp, by omega⟩⟩
end
end Go.Av
