/- append on plain data. Own work of this seat. -/
import Derived.Test.YtpjbbpilgfihbaaGreatDoorAvL
set_option linter.unusedSimpArgs false
set_option linter.unusedVariables false
namespace Go.Av
open Go Go.RowKit

section
variable {h : Mem} {ρ : Own} {sto : List Blk} {w : World} {P : Program}

/-- an empty block more, without a row -/
theorem Mine.pushNil (m : Mine h ρ sto w) (e : Nat) : Mine h ρ (sto ++ [.arr e []]) w ∧ Later h ρ sto w h ρ (sto ++ [.arr e []]) w := by
  have hρ : upd ρ sto.length none = ρ := funext fun i => by
    unfold upd; split
    · rename_i hi; rw [hi, m.out _ (Nat.le_refl _)]
    · rfl
  have hk : ∀ v a, Lf ρ sto v a → Lf ρ (sto ++ [.arr e []]) v a := fun v a l => by
    have := Lf_push (b := .arr e []) (x := none) l
    rw [hρ] at this; exact this
  refine ⟨⟨m.mem, ?_, fun id hid => m.out id (by simp at hid; omega), m.inj, m.disj⟩, ⟨fun _ _ _ x => x, fun _ _ a b => (b a).elim, hk, rfl, rfl, rfl, Nat.le_refl _, fun _ _ _ => rfl, fun i _ t x => .inl ⟨i, t, x⟩⟩⟩
  intro id blk e1
  by_cases hid : id < sto.length
  · rw [List.getElem?_append_left hid] at e1
    exact (m.own id blk e1).mono (fun _ _ _ x => x) hk rfl (fun _ _ _ => rfl)
  · have hlt := (List.getElem?_eq_some_iff.1 e1).1
    simp at hlt
    have : id = sto.length := by omega
    subst this
    simp at e1
    subst e1
    exact .inl ⟨rfl, m.out _ (Nat.le_refl _)⟩

theorem LfC_setNil {id e e' : Nat} (hb : sto[id]? = some (.arr e [])) (hn : ρ id = none) {v : Value} {a : AV} (l : LfC ρ sto v a) : LfC ρ (sto.set id (.arr e' [])) v a := by
  have hid := (List.getElem?_eq_some_iff.1 hb).1
  have other : ∀ i, i ≠ id → (sto.set id (.arr e' []))[i]? = sto[i]? := fun i hi => by rw [List.getElem?_set_ne (Ne.symm hi)]
  have this' : (sto.set id (.arr e' []))[id]? = some (.arr e' []) := by simp [hid]
  cases a <;> simp only [LfC] at l ⊢
  case sl i off len cap =>
    by_cases hi : i = id
    · subst hi; rw [this']; rw [hb] at l; simpa [hn] using l
    · rw [other i hi]; exact l
  case ptr i n j off =>
    by_cases hi : i = id
    · subst hi; rw [this']; rw [hb] at l; simp [hn] at l
    · rw [other i hi]; exact l
  case mp i =>
    by_cases hi : i = id
    · subst hi; rw [hb] at l; rw [this']; trivial
    · rw [other i hi]; exact l

theorem set_same {id : Nat} {b : Blk} (hb : sto[id]? = some b) : sto.set id b = sto := by
  apply List.ext_getElem?
  intro i
  rw [List.getElem?_set]
  split
  · rename_i h1; subst h1; rw [hb]; simp [(List.getElem?_eq_some_iff.1 hb).1]
  · rfl

/-- an empty block: if it has no row, the width of its elements is free -/
theorem Mine.setNil (m : Mine h ρ sto w) {id e : Nat} (e' : Nat) (hb : sto[id]? = some (.arr e [])) (he : e = e' ∨ ([] : List AV) = [] ∧ e = 0) : Mine h ρ (sto.set id (.arr e' [])) w ∧ Later h ρ sto w h ρ (sto.set id (.arr e' [])) w := by
  have hid := (List.getElem?_eq_some_iff.1 hb).1
  rcases he with rfl | ⟨_, rfl⟩
  · rw [set_same hb]; exact ⟨m, .refl ..⟩
  have hn : ρ id = none := by
    rcases m.own id _ hb with ⟨_, hno⟩ | ⟨g', tot', cur, tt, h3, h4, h5', h6, h7', h8, h9, h10, h11⟩
    · exact hno
    · omega
  have hk : ∀ v a, Lf ρ sto v a → Lf ρ (sto.set id (.arr e' [])) v a := fun v a l => ⟨l.1, LfC_setNil hb hn l.2⟩
  refine ⟨⟨m.mem, ?_, fun i hi => m.out i (by simpa using hi), m.inj, m.disj⟩, ⟨fun _ _ _ x => x, fun _ _ a b => (b a).elim, hk, rfl, rfl, rfl, Nat.le_refl _, fun _ _ _ => rfl, fun i _ t x => .inl ⟨i, t, x⟩⟩⟩
  intro i blk e1
  by_cases hi : i = id
  · subst hi
    simp [hid] at e1
    subst e1
    exact .inl ⟨rfl, hn⟩
  · rw [List.getElem?_set_ne (Ne.symm hi)] at e1
    exact (m.own i blk e1).mono (fun _ _ _ x => x) hk rfl (fun _ _ _ => rfl)

section
variable {t tx ty el : TypeId} {src : Value} {cells : List Value} {L : List AV} {r : Result Next}

theorem drew_grow (w : World) (o : Obj) : Same w (w.drew.alloc o) := (Same.drew w).trans (Same.alloc w.drew o)

theorem drew_lt (w : World) (o : Obj) : w.heap.size < (w.drew.alloc o).heap.size := by simp

/-- append to nothing -/
theorem appNil_ok (m : Mine h ρ sto w) (ht : P.underlying t = some (.slice el)) (hs : Src P (tsize P el) tx src L.length cells w) (hrl : RL h (Lf ρ sto) false cells (flat L)) (hsz : ∀ x ∈ L, (cellsOf x).length = tsize P el)
    (hr : r = ((Builtin.append_ #[t, tx] ty #[.slice none 0 0, src]).run P w).andThen fun v w' => .ok (.value v) w') (hp : 0 < tsize P el) (hz : (zav P el).length = tsize P el) (hone : (zav P el).all one = true)
    (hb : L.length * tbytes P el ≤ 140737488355328) (hm : L.length ≤ 9223372036854775807) : Okv h ρ sto w r (.sl sto.length 0 L.length L.length) (sto ++ [.arr (tsize P el) L]) := by
  by_cases hL : L.length = 0
  · have : L = [] := List.eq_nil_of_length_eq_zero hL
    subst this
    rw [append_none ht hp hs] at hr
    obtain ⟨m1, l1⟩ := m.pushNil (tsize P el)
    exact ⟨_, _, _, _, .inl hr, m1, l1, .leaf ⟨rfl, by simp only [LfC, List.getElem?_concat_length]; exact ⟨by simp, fun _ => .inl ⟨rfl, rfl, none, rfl⟩⟩⟩⟩
  · obtain ⟨tot, cur, hrun, h1, h2, h3, h4, h5⟩ := append_grow (ty := ty) ht hp hz hone (base := none) (sLen := 0) (sCap := 0) (olds := []) (by simp [Builtin.firstCells]) hs (by omega) (by simp) (by simp) (by simpa using hb) (by simpa using hm)
    rw [hrun] at hr
    simp only [Nat.zero_add, List.nil_append] at h2 h5 hr
    have m0 := m.same (Same.drew w)
    have hm := m0.push (.cells cur el) (.arr (tsize P el) L) (some tot) (by
      refine .inr ⟨w.heap.size, tot, cur, el, by simp [upd], .of (heap_alloc_new w.drew _), h1, h2, h3, hp, hsz, h4, ?_⟩
      rw [h5]
      exact hrl.mono (fun _ _ _ x => x) (fun _ _ => Lf_push))
    refine ⟨_, _, _, _, .inl hr, hm.1, (Later.same (Same.drew w)).trans hm.2, .leaf ⟨rfl, ?_⟩⟩
    simp [LfC, upd]

/-- append at the end of a block -/
theorem appTop_ok (m : Mine h ρ sto w) (ht : P.underlying t = some (.slice el)) (hs : Src P (tsize P el) tx src L.length cells w) (hrl : RL h (Lf ρ sto) false cells (flat L)) (hsz : ∀ x ∈ L, (cellsOf x).length = tsize P el)
    {dst : Value} {id e : Nat} {l : List AV} (hb : sto[id]? = some (.arr e l)) (hd : LfC ρ sto dst (.sl id 0 l.length l.length))
    (hr : r = ((Builtin.append_ #[t, tx] ty #[dst, src]).run P w).andThen fun v w' => .ok (.value v) w') (hp : 0 < tsize P el) (hz : (zav P el).length = tsize P el) (hone : (zav P el).all one = true)
    (he : e = tsize P el ∨ l = [] ∧ e = 0)
    (hby : (l.length + L.length) * tbytes P el ≤ 140737488355328) (hm : l.length + L.length ≤ 9223372036854775807) : Okv h ρ sto w r (.sl id 0 (l.length + L.length) (l.length + L.length)) (sto.set id (.arr (tsize P el) (l ++ L))) := by
  have hid := (List.getElem?_eq_some_iff.1 hb).1
  simp only [LfC, hb] at hd
  rcases hd.2 (by omega) with ⟨h5, _, a, rfl⟩ | ⟨g, tot, h5, rfl, h7⟩
  · have : l = [] := List.eq_nil_of_length_eq_zero h5
    subst this
    by_cases hL : L.length = 0
    · have : L = [] := List.eq_nil_of_length_eq_zero hL
      subst this
      rw [append_none ht hp hs] at hr
      obtain ⟨m1, l1⟩ := m.setNil (tsize P el) hb he
      exact ⟨_, _, _, _, .inl hr, m1, l1, .leaf ⟨rfl, by simp only [LfC, List.append_nil, List.getElem?_set_self hid]; exact ⟨by simp, fun _ => .inl ⟨rfl, rfl, a, rfl⟩⟩⟩⟩
    · obtain ⟨tot, cur, hrun, h1, h2, h3, h4, h5⟩ := append_grow (ty := ty) ht hp hz hone (base := at0 a) (sLen := 0) (sCap := 0) (olds := []) (by generalize at0 a = a; cases a <;> simp [Builtin.firstCells, loadCells, loadCellsFrom]) hs (by omega) (by simp) (by simp) (by simpa using hby) (by simpa using hm)
      rw [hrun] at hr
      simp only [Nat.zero_add, List.nil_append, List.length_nil] at h2 h5 hr ⊢
      have hm := m.move (e' := tsize P el) (l' := L) hb (by simp; omega) tot (drew_grow w (.cells cur el)) (drew_lt w _) (by
        refine .inr ⟨w.heap.size, tot, cur, el, by simp [upd], .of (heap_alloc_new w.drew _), h1, h2, h3, hp, hsz, h4, ?_⟩
        rw [h5]
        exact hrl.mono (fun _ _ _ x => x) (fun v a lf => ⟨lf.1, LfC_set hb (fun i hi => by simp [upd, hi]) (Or.inr (by simp; omega) : (_ ∧ _ ∧ _) ∨ _) lf.2⟩))
      refine ⟨_, _, _, _, .inl hr, hm.1, hm.2, .leaf ⟨rfl, ?_⟩⟩
      simp [LfC, upd, hid]
  · rcases m.own id _ hb with ⟨_, hno⟩ | ⟨g', tot', cur, tt, h3, h4, h5', h6, h7', h8, h9, h10, h11⟩
    · simp [hno] at h5
    · rw [h3] at h5
      simp only [Option.some.injEq, Prod.mk.injEq] at h5
      obtain ⟨rfl, rfl⟩ := h5
      have hee : e = tsize P el := by rcases he with he | ⟨_, he⟩ <;> omega
      subst hee
      simp only [Nat.zero_mul, Nat.sub_zero] at hr h7
      have hfl := flat_length h9
      have hcl : cells.length = L.length * tsize P el := hs.newsLen
      have hcurl : cur.toList.length = tot' * tsize P el := by simp [h5']
      have hle : l.length * tsize P el ≤ tot' * tsize P el := Nat.mul_le_mul_right _ h6
      by_cases hroom : l.length + L.length ≤ tot'
      · have hle2 : (l.length + L.length) * tsize P el ≤ tot' * tsize P el := Nat.mul_le_mul_right _ hroom
        rw [append_room (ty := ty) ht hp h4 hs hroom (by rw [h5']; omega), Nat.zero_add] at hr
        have hspl : (splice cur.toList (l.length * tsize P el) cells).length = cur.size := by
          rw [splice_length (by rw [hcl, hcurl, ← Nat.add_mul]; exact hle2)]; simp
        have hw := h4.set (cs := (splice cur.toList (l.length * tsize P el) cells).toArray) (by simp [hspl])
        have hset : ∀ v a, Lf ρ sto v a → Lf ρ (sto.set id (.arr (tsize P el) (l ++ L))) v a := fun v a lf => ⟨lf.1, LfC_set hb (fun _ _ => rfl) (by
          by_cases hL : L.length = 0
          · exact .inl ⟨rfl, by simp [hL], rfl⟩
          · exact .inr (by simp; omega)) lf.2⟩
        have hm := m.write (w' := w.setRow g' (splice cur.toList (l.length * tsize P el) cells).toArray) hb h3 (b' := .arr (tsize P el) (l ++ L)) (by
            by_cases hL : L.length = 0
            · exact .inl ⟨rfl, by simp [hL]⟩
            · exact .inr (by simp; omega)) rfl rfl rfl (by simp) (fun k hk => setRow_other w g' k _ hk) (by
          refine .inr ⟨g', tot', _, tt, h3, hw, by simp [hspl, h5'], by simpa using hroom, h7', hp, ?_, ?_, ?_⟩
          · intro y hy
            rcases List.mem_append.1 hy with hy | hy
            · exact h9 y hy
            · exact hsz y hy
          · intro y hy
            simp only [List.toList_toArray, splice, List.mem_append] at hy
            rcases hy with (hy | hy) | hy
            · exact h10 y (List.mem_of_mem_take hy)
            · exact hs.one y hy
            · exact h10 y (List.mem_of_mem_drop hy)
          · have e1 : (splice cur.toList (l.length * tsize P el) cells).take ((l ++ L).length * tsize P el) = cur.toList.take (l.length * tsize P el) ++ cells := by
              unfold splice
              have : ((l ++ L).length * tsize P el) = (cur.toList.take (l.length * tsize P el) ++ cells).length := by
                rw [List.length_append, List.length_append, List.length_take, hcurl, Nat.min_eq_left hle, hcl, Nat.add_mul]
              rw [this, List.take_left]
            simp only [List.toList_toArray]
            rw [e1, flat_append]
            exact (h11.append hrl).mono (fun _ _ _ x => x) hset)
        refine ⟨_, _, _, _, .inl hr, hm.1, hm.2, .leaf ⟨rfl, ?_⟩⟩
        simp [LfC, hid, h3]
      · have hrd := firstCells_at (P := P) (w' := w.drew) (sz := tsize P el) (k := l.length) (b := g') (o := 0) (len := l.length) (cap := tot') (cells := cur.toList.take (l.length * tsize P el)) (by rw [List.length_take, hcurl]; omega) (fun j v hj => by
          rw [cell_heap (w := w) (w' := w.drew) rfl, h4.cell]
          rw [List.getElem?_take] at hj
          split at hj
          · simpa using hj
          · simp at hj)
        rw [List.take_take, Nat.min_self] at hrd
        obtain ⟨tot, cur', hrun, k1, k2, k3, k4, k5⟩ := append_grow (ty := ty) ht hp hz hone hrd hs (by omega) (by rw [List.length_take, hcurl, Nat.min_eq_left hle]) (fun v hv => h10 v (List.mem_of_mem_take hv)) hby hm
        rw [hrun] at hr
        have hm := m.move (e' := tsize P el) (l' := l ++ L) hb (by simp; omega) tot (drew_grow w (.cells cur' el)) (drew_lt w _) (by
          refine .inr ⟨w.heap.size, tot, cur', el, by simp [upd], .of (heap_alloc_new w.drew _), k1, by simpa using k2, k3, hp, ?_, k4, ?_⟩
          · intro y hy
            rcases List.mem_append.1 hy with hy | hy
            · exact h9 y hy
            · exact hsz y hy
          · rw [List.length_append, k5, flat_append]
            exact (h11.append hrl).mono (fun _ _ _ x => x) (fun v a lf => ⟨lf.1, LfC_set hb (fun i hi => by simp [upd, hi]) (Or.inr (by simp; omega) : (_ ∧ _ ∧ _) ∨ _) lf.2⟩))
        refine ⟨_, _, _, _, .inl hr, hm.1, hm.2, .leaf ⟨rfl, ?_⟩⟩
        simp [LfC, upd, hid]

end
end
end Go.Av
