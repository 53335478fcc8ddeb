/- slices.Insert and slices.Delete at lists of strings. Own work of this seat. -/
import Derived.Test.YtpjbbpilgfihbaaDoorAvU
set_option linter.unusedSimpArgs false
set_option linter.unusedVariables false
namespace Go.Av
open Go Go.RowKit Go.Proofs Go.Shelf

section
variable {h : Mem} {ρ : Own} {sto : List Blk} {w : World} {P : Program}

def insStr (l : List (List UInt8)) (k : Nat) (x : List UInt8) : List (List UInt8) := l.take k ++ x :: l.drop k
theorem insStr_length {l : List (List UInt8)} {k : Nat} (hk : k ≤ l.length) {x : List UInt8} : (insStr l k x).length = l.length + 1 := by simp [insStr]; omega

theorem sval_one (s : List UInt8) : (sval s).oneCell' = true := rfl

theorem row_cells {id : Nat} {l : List (List UInt8)} {g tot : Nat} {cur : Array Value} {t : TypeId} (r : Row ρ w id l g tot cur t) (j : Nat) (v : Value) (hv : (l.map sval)[j]? = some v) : w.cell? ⟨g, 0 + j, none⟩ = some v := by
  rw [cell_of_row w g (0 + j) cur t (0, 0) r.heap, Nat.zero_add]
  have := hv
  rw [← r.val, List.getElem?_take] at this
  split at this
  · simpa using this
  · simp at this

theorem row_some {id : Nat} {l : List (List UInt8)} {g tot : Nat} {cur : Array Value} {t : TypeId} (r : Row ρ w id l g tot cur t) (j : Nat) (hj : j < tot) : (w.cell? ⟨g, 0 + j, none⟩).isSome = true := by
  rw [cell_of_row w g (0 + j) cur t (0, 0) r.heap, Nat.zero_add, Array.getElem?_eq_getElem (by rw [r.size]; exact hj)]; rfl

theorem row_fz {id : Nat} {l : List (List UInt8)} {g tot : Nat} {cur : Array Value} {t : TypeId} (r : Row ρ w id l g tot cur t) (j : Nat) : w.frozen? ⟨g, j, none⟩ = false := by
  simp [World.frozen?, r.heap]

theorem row_shape {id : Nat} {l : List (List UInt8)} {g tot : Nat} {cur : Array Value} {t : TypeId} (r : Row ρ w id l g tot cur t) : w.shape? g = some (t, tot) := by
  simp [World.shape?, r.heap, r.size]

theorem inv_slv {fl : Bool} {v : Value} {id off len cap : Nat} (r : RV h (Lf ρ sto) fl v (.sl id off len cap)) : LfC ρ sto v (.sl id off len cap) := by
  cases r with
  | leaf p => exact p.2

theorem upd_self (ρ : Own) (id : Nat) (x : Option (Nat × Nat)) : upd ρ id x id = x := by simp [upd]

/-- the three values of a call -/
theorem rl3 {vs : List Value} {x y z : AV} (r : RL h (Lf ρ sto) false vs [x, y, z]) : ∃ a b c, vs = [a, b, c] ∧ RV h (Lf ρ sto) false a x ∧ RV h (Lf ρ sto) false b y ∧ RV h (Lf ρ sto) false c z := by
  cases r with | cons h1 r => cases r with | cons h2 r => cases r with | cons h3 r => cases r; exact ⟨_, _, _, rfl, h1, h2, h3⟩

theorem take_all {cs : List Value} (n : Nat) (h : cs.length = n) : cs.take n = cs := by subst h; simp

/-- one element put in -/
theorem insert_shift_val {cur : List Value} {l : List (List UInt8)} {k : Nat} {x : List UInt8} (hk : k < l.length) (hc : l.length + 1 ≤ cur.length) (hv : cur.take l.length = l.map sval) :
    (splice (splice cur (k + 1) ((l.map sval).drop k)) k [sval x]).take (l.length + 1) = (insStr l k x).map sval := by
  have hget : ∀ i, i < l.length → cur[i]? = (l.map sval)[i]? := fun i hi => by rw [← hv, List.getElem?_take, if_pos hi]
  have hl2 : (splice cur (k + 1) ((l.map sval).drop k)).length = cur.length := splice_length (by simp; omega)
  apply List.ext_getElem?
  intro i
  rw [List.getElem?_take]
  by_cases hi : i < l.length + 1
  · rw [if_pos hi, splice_get (by rw [hl2]; simp; omega)]
    simp only [insStr, List.map_append, List.map_cons, List.map_take, List.map_drop]
    by_cases h1 : i < k
    · rw [if_pos h1, splice_get (by simp; omega), if_pos (by omega), hget i (by omega), List.getElem?_append_left (by simp; omega), List.getElem?_take, if_pos h1]
    · rw [if_neg h1]
      rw [List.getElem?_append_right (by simp; omega)]
      have hlen : (List.take k (List.map sval l)).length = k := by simp; omega
      rw [hlen]
      by_cases h2 : i = k
      · subst h2; simp
      · have e1 : i - k = (i - (k + 1)) + 1 := by omega
        rw [if_neg (by simp; omega), splice_get (by simp; omega), if_neg (by omega), if_pos (by simp; omega), e1, List.getElem?_cons_succ]
  · rw [if_neg hi, List.getElem?_eq_none]
    simp [insStr]; omega

theorem append_room_val {cur : List Value} {l : List (List UInt8)} {x : List UInt8} (hc : l.length + 1 ≤ cur.length) (hv : cur.take l.length = l.map sval) :
    (splice cur l.length [sval x]).take (l.length + 1) = (insStr l l.length x).map sval := by
  have hget : ∀ i, i < l.length → cur[i]? = (l.map sval)[i]? := fun i hi => by rw [← hv, List.getElem?_take, if_pos hi]
  apply List.ext_getElem?
  intro i
  rw [List.getElem?_take]
  simp only [insStr, List.take_length, List.drop_length, List.map_append, List.map_cons, List.map_nil]
  by_cases hi : i < l.length + 1
  · rw [if_pos hi, splice_get (by simp; omega)]
    by_cases h1 : i < l.length
    · rw [if_pos h1, hget i h1, List.getElem?_append_left (by simpa using h1)]
    · have : i = l.length := by omega
      subst this
      simp
  · rw [if_neg hi, List.getElem?_eq_none]
    simp; omega

theorem splice_mem {cur vs : List Value} {k : Nat} {v : Value} (h : v ∈ splice cur k vs) : v ∈ cur ∨ v ∈ vs := by
  simp only [splice, List.mem_append] at h
  rcases h with (h | h) | h
  · exact .inl (List.mem_of_mem_take h)
  · exact .inr h
  · exact .inl (List.mem_of_mem_drop h)

theorem lf_own {id : Nat} {l : List (List UInt8)} {g tot : Nat} (hb : sto[id]? = some (.arr 1 (strs l))) (hρ : ρ id = some (g, tot)) (hl : l.length ≤ tot) (n : Nat) (hn : n = l.length) : RV h (Lf ρ sto) false (.slice (some ⟨g, 0, none⟩) n tot) (.sl id 0 n n) := by
  subst hn
  refine .leaf ⟨rfl, ?_⟩
  simp only [LfC, hb]
  exact ⟨by simp, fun _ => .inr ⟨g, tot, hρ, by simp, Nat.le_refl _⟩⟩

theorem grow_val {cur : List Value} {l : List (List UInt8)} {k : Nat} {x : List UInt8} (hk : k ≤ l.length) (hc : l.length + 1 ≤ cur.length) (hv : cur.take k = (l.map sval).take k) :
    (splice (splice cur k [sval x]) (k + 1) ((l.map sval).drop k)).take (l.length + 1) = (insStr l k x).map sval := by
  have hget : ∀ i, i < k → cur[i]? = (l.map sval)[i]? := fun i hi => by
    have := congrArg (·[i]?) hv
    simp only [List.getElem?_take, if_pos hi] at this
    exact this
  have hl2 : (splice cur k [sval x]).length = cur.length := splice_length (by simp; omega)
  apply List.ext_getElem?
  intro i
  rw [List.getElem?_take]
  by_cases hi : i < l.length + 1
  · rw [if_pos hi, splice_get (by rw [hl2]; simp; omega)]
    simp only [insStr, List.map_append, List.map_cons, List.map_take, List.map_drop]
    by_cases h1 : i < k
    · rw [if_pos (by omega), splice_get (by simp; omega), if_pos h1, hget i h1, List.getElem?_append_left (by simp; omega), List.getElem?_take, if_pos h1]
    · rw [List.getElem?_append_right (by simp; omega)]
      have hlen : (List.take k (List.map sval l)).length = k := by simp; omega
      rw [hlen]
      by_cases h2 : i = k
      · subst h2; rw [if_pos (by omega), splice_get (by simp; omega)]; simp
      · have e1 : i - k = (i - (k + 1)) + 1 := by omega
        rw [if_neg (by omega), if_pos (by simp; omega), e1, List.getElem?_cons_succ]
  · rw [if_neg hi, List.getElem?_eq_none]
    simp [insStr]; omega

theorem zs_one (n : Nat) : ∀ v ∈ (Builtin.zeroCells (Value.string ⟨#[]⟩).cells n).toList, v.oneCell' = true :=
  one_rep (z := (Value.string ⟨#[]⟩).cells) (by intro v hv; simp [Value.cells] at hv; subst hv; rfl) (by simp [Value.cells]) n

/-- slices.Insert(s, k, x) at []string -/
theorem ct_insert {ρf : Ren} (L : Lays2.n22 P ρf) (hx : hasBody P (ρf.f 22) = true) {id jd : Nat} {l : List (List UInt8)} {x : List UInt8} {k : Nat} (hb : sto[id]? = some (.arr 1 (strs l))) (hj : sto[jd]? = some (.arr 1 (strs [x]))) (hne : id ≠ jd)
    (hk : k ≤ l.length) (hbig : l.length ≤ 1000000) {post : AV → List Blk → Prop} (hp : post (.sl id 0 (l.length + 1) (l.length + 1)) (sto.set id (.arr 1 (strs (insStr l k x))))) :
    Ct P (ρf.f 22) [.sl id 0 l.length l.length, .int .i64 k, .sl jd 0 1 1] sto post := by
  refine ⟨hx, fun h ρ w vs m rl => ?_⟩
  have hid := (List.getElem?_eq_some_iff.1 hb).1
  obtain ⟨v1, v2, v3, rfl, r1, r2, r3⟩ := rl3 rl
  have e2 : v2 = .int .i64 k := inv_int r2
  subst e2
  have l3 := inv_slv r3
  have l1 := inv_slv r1
  simp only [LfC, hj] at l3
  simp only [LfC, hb] at l1
  -- the value's own row
  rcases Row.of m hj with ⟨hh, _⟩ | ⟨vb, vtot, vcur, vt, R⟩
  · simp at hh
  rcases l3.2 (by simp) with ⟨h0, _⟩ | ⟨g3, tot3, o3, rfl, _⟩
  · omega
  have hg3 : g3 = vb ∧ tot3 = vtot := by rw [R.own] at o3; simpa using o3.symm
  obtain ⟨rfl, rfl⟩ := hg3
  have hvs : ∀ j v, [sval x][j]? = some v → w.cell? ⟨g3, 0 + j, none⟩ = some v := fun j v hv => row_cells R j v (by simpa using hv)
  have h1v : ∀ v ∈ [sval x], v.oneCell' = true := by simp [Value.oneCell']
  have tot1 : 1 ≤ tot3 := by simpa using R.le
  simp only [Nat.zero_mul, Nat.sub_zero]
  have hins := insStr_length (x := x) hk
  -- the grown row, told as it is
  have finish : ∀ (w' : World) (tot : Nat) (cur' : Array Value) (t : TypeId), Same w w' → w.heap.size < w'.heap.size → w'.heap[w.heap.size]? = some (.cells cur' t (0, 0)) → cur'.size = tot → l.length + 1 ≤ tot → tot ≤ maxLen →
      (∀ v ∈ cur'.toList, v.oneCell' = true) → cur'.toList.take (l.length + 1) = (insStr l k x).map sval →
      ∃ v r s h' ρ', Ending.returned (Value.slice (some ⟨w.heap.size, 0, none⟩) (l.length + 1) tot) = .returned v ∧ post r s ∧ Mine h' ρ' s w' ∧ Later h ρ sto w h' ρ' s w' ∧ RV h' (Lf ρ' s) false v r := by
    intro w' tot cur' t s hnew hn hcs hlt hmx hone hv
    have hm := Row.moved m hb (l' := insStr l k x) (by omega) s hnew hn hcs (by omega) hmx hone (by rw [hins]; exact hv)
    exact ⟨_, _, _, _, _, rfl, hp, hm.1, hm.2, lf_own (by simp [hid]) (upd_self _ _ _) (by rw [hins]; exact hlt) _ hins.symm⟩
  have endgrow : ∀ (base : Option Addr) (c : Nat), l.length ≤ c → c < l.length + 1 → k = l.length → (base = none → l.length = 0) → (∀ a, base = some a → ∀ (j : Nat) v, (l.map sval)[j]? = some v → w.cell? (a.add j) = some v) →
      Calls P (ρf.f 22) #[.slice base l.length c, .int .i64 k, .slice (some ⟨g3, 0, none⟩) 1 tot3] w fun en w' => ∃ v r s h' ρ', en = .returned v ∧ post r s ∧ Mine h' ρ' s w' ∧ Later h ρ sto w h' ρ' s w' ∧ RV h' (Lf ρ' s) false v r := by
    intro base c hc1 hc2 hkl hnil hcs
    subst hkl
    refine (Any2.slices_Insert_string_end_grow L base l.length c g3 0 1 tot3 (l.map sval) [sval x] w (by omega) hc1 hc2 (by omega) (by simp) rfl hnil hcs hvs h1v).mono ?_
    rintro en w' ⟨rfl, rfl⟩
    have hge := grownCap_ge w (l.length + 1) c (ρf.t 9)
    have hmx : grownCap w (l.length + 1) c (ρf.t 9) ≤ maxLen := grownCap_le_maxLen w (l.length + 1) c _ (by simp [maxLen]; omega)
    refine finish _ _ _ _ (drew_grow w _) (drew_lt w _) (heap_alloc_new w.drew _) ?_ hge hmx ?_ ?_
    · simp [size_zeroCells, Value.cells]; omega
    · intro v hv
      simp only [Array.toList_append, List.mem_append] at hv
      rcases hv with hv | hv
      · rcases hv with hv | hv
        · obtain ⟨s, _, rfl⟩ := List.mem_map.1 hv; rfl
        · simp at hv; subst hv; rfl
      · exact zs_one _ v hv
    · have e1 : (l.map sval ++ [sval x]).length = l.length + 1 := by simp
      simp only [Array.toList_append, ← e1, List.take_left]
      simp [insStr]
  rcases Row.of m hb with ⟨h0, hn⟩ | ⟨g, tot, cur, t, r⟩
  · subst h0
    rcases l1.2 (by simp) with ⟨_, _, a, rfl⟩ | ⟨g, tot, o1, _⟩
    · exact endgrow (at0 a) 0 (by simp) (by simp) (by simpa using hk) (by simp) (by simp)
    · rw [hn] at o1; cases o1
  · rcases l1.2 (by simp) with ⟨h1, _, a, rfl⟩ | ⟨g1, tot1', o1, rfl, _⟩
    · have : l = [] := by simpa using h1
      subst this
      exact endgrow (at0 a) 0 (by simp) (by simp) (by simpa using hk) (by simp) (by simp)
    · have hg1 : g1 = g ∧ tot1' = tot := by rw [r.own] at o1; simpa using o1.symm
      obtain ⟨rfl, rfl⟩ := hg1
      simp only [Nat.zero_mul, Nat.sub_zero]
      have hvb : g3 ≠ g1 := fun hq => hne (m.inj id jd _ _ _ r.own (by rw [← hq]; exact R.own))
      have hc63 : tot1' ≤ 9223372036854775807 := by have := r.mx; simpa [maxLen] using this
      have hcs := row_cells r
      have hcz : cur.size = tot1' := r.size
      have hle := r.le
      have h1c : ∀ v ∈ l.map sval, v.oneCell' = true := by intro v hv; obtain ⟨s, _, rfl⟩ := List.mem_map.1 hv; rfl
      -- in place
      have inplace : ∀ (cells : List Value) (w' : World), w' = w.drew.setRow g1 cells.toArray ∨ w' = w.setRow g1 cells.toArray → cells.length = cur.size → (∀ v ∈ cells, v.oneCell' = true) → cells.take (l.length + 1) = (insStr l k x).map sval → l.length + 1 ≤ tot1' →
          ∃ v r s h' ρ', Ending.returned (Value.slice (some ⟨g1, 0, none⟩) (l.length + 1) tot1') = .returned v ∧ post r s ∧ Mine h' ρ' s w' ∧ Later h ρ sto w h' ρ' s w' ∧ RV h' (Lf ρ' s) false v r := by
        intro cells w' hw hcl hone hv hlt
        have hm := Row.put m hb r (l' := insStr l k x) (w' := w') (cur' := cells.toArray) (by omega) (by omega) (by rcases hw with rfl | rfl <;> rfl) (by rcases hw with rfl | rfl <;> rfl) (by rcases hw with rfl | rfl <;> rfl)
          (by rcases hw with rfl | rfl <;> simp) (fun k' hk' => by rcases hw with rfl | rfl <;> exact setRow_other _ g1 k' _ hk')
          (by rcases hw with rfl | rfl <;> exact setRow_heap _ g1 cur _ t _ r.heap) (by simpa using hcl) (by simpa using hone) (by rw [hins]; exact hv)
        exact ⟨_, _, _, _, _, rfl, hp, hm.1, hm.2, lf_own (by simp [hid]) r.own (by rw [hins]; exact hlt) _ hins.symm⟩
      by_cases hroom : l.length + 1 ≤ tot1'
      · by_cases hkl : k < l.length
        · refine (Any2.slices_Insert_string_shift L g1 0 l.length tot1' k g3 0 1 tot3 (l.map sval) [sval x] w hkl (by omega) hroom hc63 hvb (by simp) rfl hcs (fun j hj => row_some r j (by omega)) (fun j _ => row_fz r _) hvs h1c h1v
            _ _ _ _ (row_shape R) (row_shape r) (by omega) (row_fz R _) (row_fz R _)).mono ?_
          rintro en w' ⟨rfl, rfl⟩
          have hd : w.drew.heap[g1]? = some (.cells cur t (0, 0)) := r.heap
          simp only [Nat.zero_add]
          have hl1 : (splice cur.toList (k + 1) ((l.map sval).drop k)).length = cur.size := by rw [splice_length (by simp; omega)]; simp
          rw [setCells_row g1 t _ _ _ cur _ hd (by simp; omega), setCells_row g1 t _ _ _ _ _ (setRow_heap _ g1 cur _ t _ hd) (by simp [hl1]; omega), setRow_setRow]
          refine inplace _ _ (.inl rfl) ?_ ?_ ?_ hroom
          · rw [splice_length (by simp [hl1]; omega)]; simpa using hl1
          · intro v hv
            rcases splice_mem hv with hv | hv
            · rcases splice_mem (by simpa using hv) with hv | hv
              · exact r.one v hv
              · exact h1c v (List.mem_of_mem_drop hv)
            · exact h1v v hv
          · exact insert_shift_val hkl (by simp; omega) r.val
        · have hkl : k = l.length := by omega
          subst hkl
          refine (Any2.slices_Insert_string_end_room L g1 0 l.length tot1' g3 0 1 tot3 [sval x] w (by omega) hroom hc63 rfl (fun j hj => by rw [Nat.add_assoc]; exact row_some r _ (by omega)) (fun j _ => row_fz r _) hvs h1v).mono ?_
          rintro en w' ⟨rfl, rfl⟩
          rw [Nat.zero_add, setCells_row g1 t _ _ _ cur _ r.heap (by simp; omega)]
          refine inplace _ _ (.inr rfl) ?_ ?_ ?_ hroom
          · rw [splice_length (by simp; omega)]; simp
          · intro v hv
            rcases splice_mem hv with hv | hv
            · exact r.one v hv
            · exact h1v v hv
          · exact append_room_val (by simp; omega) r.val
      · by_cases hkl : k < l.length
        · refine (Any2.slices_Insert_string_grow L g1 0 l.length tot1' k g3 0 1 tot3 (l.map sval) [sval x] w hkl (by omega) hle (by omega) (by omega) (by simp) rfl hcs hvs h1c h1v).mono ?_
          rintro en w' ⟨rfl, rfl⟩
          have hge := grownCap_ge w (l.length + 1) tot1' (ρf.t 9)
          have hmx : grownCap w (l.length + 1) tot1' (ρf.t 9) ≤ maxLen := grownCap_le_maxLen w (l.length + 1) tot1' _ (by simp [maxLen]; omega)
          generalize grownCap w (l.length + 1) tot1' (ρf.t 9) = gc at hge hmx ⊢
          generalize hA : (((l.map sval).take k).toArray ++ Builtin.zeroCells (Value.string ⟨#[]⟩).cells (l.length + 1 - k) ++ Builtin.zeroCells (Value.string ⟨#[]⟩).cells (gc - (l.length + 1))) = A
          have hAs : A.size = gc := by rw [← hA]; simp [size_zeroCells, Value.cells]; omega
          have hA1 : ∀ v ∈ A.toList, v.oneCell' = true := by
            intro v hv
            rw [← hA] at hv
            simp only [Array.toList_append, List.mem_append] at hv
            rcases hv with (hv | hv) | hv
            · exact h1c v (List.mem_of_mem_take hv)
            · exact zs_one _ v hv
            · exact zs_one _ v hv
          have hAv : A.toList.take k = (l.map sval).take k := by
            rw [← hA]
            simp only [Array.toList_append, List.append_assoc]
            rw [List.take_append_of_le_length (by simp; omega), List.take_take, Nat.min_self]
          have hd : (w.alloc (.cells A (ρf.t 9))).drew.heap[w.heap.size]? = some (.cells A (ρf.t 9) (0, 0)) := heap_alloc_new w _
          have hl1 : (splice A.toList k [sval x]).length = A.size := by rw [splice_length (by simp; omega)]; simp
          rw [setCells_row _ _ _ _ _ A _ hd (by simp; omega)]
          have hd2 : ((w.alloc (.cells A (ρf.t 9))).drew.setRow w.heap.size (splice A.toList k [sval x]).toArray).drew.heap[w.heap.size]? = some (.cells (splice A.toList k [sval x]).toArray (ρf.t 9) (0, 0)) := setRow_heap _ _ A _ _ _ hd
          rw [setCells_row _ _ _ _ _ _ _ hd2 (by simp [hl1]; omega)]
          have hl3 : (splice (splice A.toList k [sval x]) (k + 1) ((l.map sval).drop k)).length = A.size := by rw [splice_length (by simp [hl1]; omega)]; exact hl1
          refine finish _ gc _ (ρf.t 9) ⟨rfl, rfl, rfl, by simp [World.drew], fun k' hk' => ?_⟩ (by simp [World.drew]) (setRow_heap _ _ _ _ _ _ hd2) (by simpa using hl3.trans hAs) hge hmx ?_ ?_
          · rw [setRow_other _ _ _ _ (by omega)]
            show ((w.alloc (.cells A (ρf.t 9))).drew.setRow w.heap.size _).heap[k']? = _
            rw [setRow_other _ _ _ _ (by omega)]
            exact Below.heap_alloc w _ k' hk'
          · intro v hv
            rcases splice_mem hv with hv | hv
            · rcases splice_mem (by simpa using hv) with hv | hv
              · exact hA1 v hv
              · exact h1v v hv
            · exact h1c v (List.mem_of_mem_drop hv)
          · exact grow_val (by omega) (by simp; omega) hAv
        · have hkl : k = l.length := by omega
          exact endgrow (some ⟨g1, 0, none⟩) tot1' hle (by omega) hkl (by simp) (fun a ha j v hv => by simp at ha; subst ha; rw [Addr.add_lit]; exact hcs j v hv)
end
end Go.Av
