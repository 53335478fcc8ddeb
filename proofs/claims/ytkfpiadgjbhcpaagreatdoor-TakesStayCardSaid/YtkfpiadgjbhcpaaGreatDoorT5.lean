/- The operations that make or write memory of one's own; all operations together. Own work of this seat. -/
import Derived.Test.YtkfpiadgjbhcpaaGreatDoorT4
import Derived.Great.BuildSlice
set_option linter.unusedSimpArgs false
set_option linter.unusedVariables false
set_option linter.unusedSectionVars false
namespace Go.Av
open Go Go.RowKit
variable [Tr]

/-- 'vs' laid over 'l' from place k on -/
def splice {α : Type} (l : List α) (k : Nat) (vs : List α) : List α := l.take k ++ vs ++ l.drop (k + vs.length)

theorem splice_get {α : Type} {l vs : List α} {k : Nat} (hk : k + vs.length ≤ l.length) (i : Nat) :
    (splice l k vs)[i]? = if i < k then l[i]? else if i < k + vs.length then vs[i - k]? else l[i]? := by
  unfold splice
  rw [List.getElem?_append, List.getElem?_append]
  simp only [List.length_append, List.length_take, Nat.min_eq_left (by omega : k ≤ l.length)]
  by_cases h1 : i < k
  · rw [if_pos (by omega), if_pos h1, if_pos h1, List.getElem?_take, if_pos h1]
  · by_cases h2 : i < k + vs.length
    · rw [if_pos h2, if_neg h1, if_neg h1, if_pos h2]
    · rw [if_neg h2, if_neg h1, if_neg h2, List.getElem?_drop]
      congr 1; omega

theorem splice_length {α : Type} {l vs : List α} {k : Nat} (hk : k + vs.length ≤ l.length) : (splice l k vs).length = l.length := by
  simp [splice]; omega

theorem putCells_eq : ∀ (vs cs : List AV) (off : Nat), off + vs.length ≤ cs.length → putCells cs off vs = splice cs off vs
  | [], cs, off, _ => by simp [putCells, splice]
  | v :: r, cs, off, h => by
    simp only [List.length_cons] at h
    rw [putCells, putCells_eq r (cs.set off v) (off + 1) (by simp; omega)]
    apply List.ext_getElem?
    intro i
    rw [splice_get (by simp; omega), splice_get (by simp; omega)]
    simp only [List.getElem?_set, List.length_cons]
    by_cases h1 : i < off
    · have h2 : ¬ off = i := by omega
      have h3 : i < off + 1 := by omega
      simp [h1, h2, h3]
    · by_cases h2 : i = off
      · subst h2
        have : i < cs.length := by omega
        simp [this]
      · have h3 : ¬ i < off + 1 := by omega
        have h4 : ¬ off = i := by omega
        have h5 : i - off = (i - (off + 1)) + 1 := by omega
        simp only [h1, h3, h4, if_false]
        by_cases h6 : i < off + 1 + r.length
        · rw [if_pos h6, if_pos (by omega), h5]; simp
        · rw [if_neg h6, if_neg (by omega)]

section
variable {h : Mem} {ρ : Own} {sto : List Blk} {w : World} {P : Program}

theorem RL.splice {fl vs l vs' l'} (r : RL h (Lf ρ sto) fl vs l) (r' : RL h (Lf ρ sto) fl vs' l') (k : Nat) : RL h (Lf ρ sto) fl (splice vs k vs') (splice l k l') := by
  unfold Go.Av.splice
  rw [r'.length]
  exact ((r.take k).append r').append (r.drop _)

theorem flat_splice {l : List AV} {e j : Nat} (hl : ∀ x ∈ l, (cellsOf x).length = e) (hj : j < l.length) {x : AV} (hx : (cellsOf x).length = e) :
    flat (l.set j x) = splice (flat l) (j * e) (cellsOf x) := by
  have h1 : l.set j x = l.take j ++ x :: l.drop (j + 1) := by rw [List.set_eq_take_append_cons_drop, if_pos hj]
  rw [h1, flat_append, flat]
  unfold splice
  rw [flat_take hl j, hx, show j * e + e = (j + 1) * e by rw [Nat.succ_mul], flat_drop hl (j + 1), List.append_assoc]

theorem splice_splice {l : List AV} {e j off : Nat} {vs : List AV} (hl : ∀ x ∈ l, (cellsOf x).length = e) (hj : j < l.length) (hv : off + vs.length ≤ e) :
    splice (flat l) (j * e) (splice (cellsOf (l.getD j .any)) off vs) = splice (flat l) (j * e + off) vs := by
  have hel : l[j]? = some (l.getD j .any) := by simp [List.getD, hj]
  have hec : (cellsOf (l.getD j .any)).length = e := hl _ (List.mem_of_getElem? hel)
  have hfl := flat_length hl
  have hsl := splice_length (l := cellsOf (l.getD j .any)) (k := off) (vs := vs) (by omega)
  have hb : (j + 1) * e ≤ l.length * e := Nat.mul_le_mul_right _ hj
  rw [Nat.succ_mul] at hb
  apply List.ext_getElem?
  intro i
  rw [splice_get (l := flat l) (k := j * e) (by omega), splice_get (l := flat l) (k := j * e + off) (vs := vs) (by omega), hsl, hec]
  by_cases h1 : i < j * e
  · rw [if_pos h1, if_pos (by omega)]
  · rw [if_neg h1]
    by_cases h2 : i < j * e + e
    · rw [if_pos h2, splice_get (by omega)]
      have hg : (flat l)[i]? = (cellsOf (l.getD j .any))[i - j * e]? := by
        have := flat_get hl (j := i - j * e) hel (by omega)
        rw [show j * e + (i - j * e) = i by omega] at this
        exact this
      by_cases h3 : i - j * e < off
      · rw [if_pos h3, if_pos (by omega), hg]
      · rw [if_neg h3]
        by_cases h4 : i - j * e < off + vs.length
        · rw [if_pos h4, if_neg (by omega), if_pos (by omega)]; congr 1; omega
        · rw [if_neg h4, if_neg (by omega), if_neg (by omega), hg]
    · rw [if_neg h2, if_neg (by omega), if_neg (by omega)]

theorem cellsOf_one {a : AV} (h1 : one a = true) : cellsOf a = [a] := by cases a <;> first | rfl | cases h1

theorem reElem_cells {old : AV} {cs : List AV} (hl : cs.length = (cellsOf old).length) (h1 : (∀ c, old ≠ .agg c) → cs.getD 0 .any = .any ∨ one (cs.getD 0 .any) = true) : cellsOf (reElem old cs) = cs := by
  have key : (∀ l, old ≠ .agg l) → cellsOf (reElem old cs) = cs := by
    intro hn
    have h2 : cellsOf old = [old] := by cases old <;> first | rfl | exact (hn _ rfl).elim
    have h3 : reElem old cs = cs.getD 0 .any := by cases old <;> first | rfl | exact (hn _ rfl).elim
    rw [h2] at hl
    match cs, hl with
    | [c], _ =>
      rw [h3]
      show cellsOf c = [c]
      rcases h1 hn with h4 | h4
      · have : c = .any := h4
        subst this; rfl
      · exact cellsOf_one h4
  cases old with
  | agg l => rfl
  | _ => exact key (by intro l h; cases h)

/-- the cells of a value -/
theorem cells_ok {fl u a} (r : RV h (Lf ρ sto) fl u a) (h1 : (cellsOf a).all one = true) : RL h (Lf ρ sto) fl u.cells.toList (cellsOf a) := by
  by_cases ha : ∃ l, a = .agg l
  · obtain ⟨l, rfl⟩ := ha
    obtain ⟨vs, rfl, rl⟩ := inv_agg r
    simpa [Value.cells, cellsOf] using rl
  · have hc : cellsOf a = [a] := by cases a <;> first | rfl | exact (ha ⟨_, rfl⟩).elim
    rw [hc] at h1 ⊢
    simp at h1
    have ho := one_ok r h1
    have : u.cells = #[u] := by cases u <;> first | rfl | cases ho
    rw [this]
    exact .cons r .nil

theorem all_one {fl vs l} (r : RL h (Lf ρ sto) fl vs l) (h1 : l.all one = true) : ∀ v ∈ vs, v.oneCell' = true := by
  induction l generalizing vs with
  | nil => cases r; simp
  | cons a l ih =>
    cases r with
    | cons r1 r2 =>
      simp at h1
      intro v hv
      simp at hv
      rcases hv with rfl | hv
      · exact one_ok r1 h1.1
      · exact ih r2 (by simpa using h1.2) v hv

/-- a new variable of one's own -/
theorem xnew_ok (m : Mine h ρ sto w) {vs : List Value} {l : List AV} {elem : AV} {t : TypeId} (rl : RL h (Lf ρ sto) false vs l) (hc : cellsOf elem = l) {r : Result Next}
    (hr : r = .ok (.value (.pointer (some ⟨w.heap.size, 0, none⟩))) (w.alloc (.cells vs.toArray t))) : Res.Sound P h ρ sto w r (xnew sto l elem) := by
  intro ⟨hl, h1⟩
  have hlen := rl.length
  have hone := all_one rl h1
  have hm := m.push (.cells vs.toArray t) (.arr l.length [elem]) (some 1) (by
    refine .inr ⟨w.heap.size, 1, vs.toArray, t, by simp [upd], .of (heap_alloc_new w _), by simp [hlen], by simp, by simp [maxLen], hl, by simp [hc], by simpa using hone, ?_⟩
    simp only [List.toList_toArray, List.length_cons, List.length_nil, Nat.zero_add, Nat.one_mul, flat, hc, List.append_nil]
    rw [← hlen, List.take_length]
    exact rl.mono (fun _ _ _ x => x) (fun _ _ => Lf_push))
  refine ⟨_, _, _, _, .inl hr, hm.1, hm.2, .leaf ⟨rfl, ?_⟩⟩
  simp [LfC, upd]

theorem box_ok {t : TypeId} {x : Operand} {o : Oper} {e : Env} {a : Act} (ho : o.op = .box t x) (m : Mine h ρ sto w) (he : EnvOk h ρ sto e a) :
    Res.Sound P h ρ sto w ((execOp a.eval o).run P w) (xbox (isRow (P.underlying t)) sto (ev e x)) := by
  have hx := ev_ok he x
  have hrun : (execOp a.eval o).run P w = .ok (.value (.pointer (some ⟨w.heap.size, 0, none⟩))) (w.alloc (.cells (a.eval x).cells t)) := by
    simp [execOp, ho, Instr.box, newVar, newRow]
  rw [hrun]
  generalize a.eval x = u at *
  unfold xbox
  split
  · rename_i l h1 h2
    rw [h2] at hx
    obtain ⟨vs, rfl, rl⟩ := inv_agg hx
    exact xnew_ok (t := t) m rl rfl (by simp [Value.cells])
  · rename_i v h1 h2
    cases hv : one (ev e x) with
    | false => trivial
    | true =>
      have hc := cells_ok hx (by rw [cellsOf_one hv]; simp [hv])
      rw [cellsOf_one hv] at hc
      exact xnew_ok (t := t) m hc (cellsOf_one hv) (by simp)
  · trivial

theorem consts_ok {fl : Bool} : ∀ vs : List Value, RL h (Lf ρ sto) fl vs (vs.map ofConst)
  | [] => .nil
  | v :: vs => .cons (ofConst_ok v) (consts_ok vs)

theorem alloc_ok {t : TypeId} {o : Oper} {a : Act} (ho : o.op = .alloc t) (m : Mine h ρ sto w) :
    Res.Sound P h ρ sto w ((execOp a.eval o).run P w) (xalloc sto (isRow (P.underlying t)) (zav P t)) := by
  have key : ∀ {l : List AV} {elem : AV}, l = zav P t → cellsOf elem = l → Res.Sound P h ρ sto w ((execOp a.eval o).run P w) (xnew sto l elem) := by
    intro l elem hl hc hp
    subst hl
    unfold zav zcells at hp
    cases hi : P.info? t with
    | none => simp [hi] at hp
    | some i =>
      cases hz : i.zero with
      | none => simp [hi, hz] at hp
      | some z =>
        have hzc : zcells P t = z.cells.toList := by simp [zcells, hi, hz]
        refine xnew_ok (P := P) (t := t) m (vs := z.cells.toList) (l := zav P t) (elem := elem) ?_ hc ?_ (by unfold zav zcells; exact hp)
        · unfold zav; rw [hzc]; exact consts_ok _
        · simp [execOp, ho, Instr.alloc, zeroValue, typeInfo, hi, hz, newVar, newRow]
  unfold xalloc
  cases isRow (P.underlying t) with
  | true => exact key rfl rfl
  | false =>
    simp only [cond_false]
    split
    · rename_i v hv
      intro hp
      refine key hv.symm (cellsOf_one ?_) hp
      have := hp.2
      simpa using this
    · trivial

theorem store_ok {t : TypeId} {x v : Operand} {o : Oper} {e : Env} {a : Act} (ho : o.op = .store t x v) (m : Mine h ρ sto w) (he : EnvOk h ρ sto e a) :
    Res.Sound P h ρ sto w ((execOp a.eval o).run P w) (xstore (tsize P t) sto (ev e x) (ev e v)) := by
  have hx := ev_ok he x
  have hv := ev_ok he v
  have hrun : (execOp a.eval o).run P w = ((Instr.storeAt t (a.eval x) (a.eval v)).run P w).andThen fun _ w' => .ok .skip w' := by
    simp [execOp, ho]
  rw [hrun]
  generalize a.eval x = u at *
  generalize a.eval v = val at *
  unfold xstore
  split
  · rename_i id n j off h1
    rw [h1] at hx
    unfold xstoreB
    split
    · rename_i ee l hb
      intro ⟨hpos, hn, hj, hsz, hoff, hone⟩
      obtain ⟨g, tot, cur, tt, h1, h2, h3, h4, h5, h6, h7, h8, h9, h10, h11, h12⟩ := ptr_place m hb hx hn
      have hjl : j < l.length := by omega
      have hel : l[j]? = some (l.getD j .any) := by simp [List.getD, hjl]
      have hec : (cellsOf (l.getD j .any)).length = ee := h10 _ (List.mem_of_getElem? hel)
      have hcs := cells_ok hv hone
      have hcl := hcs.length
      have hones := all_one hcs hone
      have hb2 : (j + 1) * ee ≤ l.length * ee := Nat.mul_le_mul_right _ hjl
      have hb3 : l.length * ee ≤ tot * ee := Nat.mul_le_mul_right _ h5
      rw [Nat.succ_mul] at hb2
      have hfit : (j * ee + off) + 0 + val.cells.toList.length ≤ cur.size := by rw [hcl]; omega
      have hst := run_storeCells_row P g (j * ee + off) tt val.cells.toList 0 cur w h3 hfit hones
      simp only [Nat.add_zero] at hst
      have hsize : (sizeOf t).run P w = .ok (tsize P t) w := sizeOf_run' hpos w
      have hrun2 : (Instr.storeAt t u val).run P w = .ok () (w.setRow g (splice cur.toList (j * ee + off) val.cells.toList).toArray) := by
        rw [h2]
        have hs2 : val.cells.size = tsize P t := by rw [← hsz, ← hcl]; simp
        simp only [Instr.storeAt, Instr.sureAddr, Sem.run_bind, Sem.run_pure, Result.andThen_ok, storeVar, hsize, hs2]
        simp only [ne_eq, not_true_eq_false, if_false, Sem.run_pure, Result.andThen_ok]
        exact hst
      have hspl : (splice cur.toList (j * ee + off) val.cells.toList).length = cur.size := by rw [splice_length (by simpa using hfit)]; simp
      have hw := h3.set (cs := (splice cur.toList (j * ee + off) val.cells.toList).toArray) (by simp [hspl])
      have hpl : (cellsOf (ev e v)).length = val.cells.toList.length := hcl.symm
      have hpc := putCells_eq (cellsOf (ev e v)) (cellsOf (l.getD j .any)) off (by omega)
      have hre : cellsOf (reElem (l.getD j .any) (putCells (cellsOf (l.getD j .any)) off (cellsOf (ev e v)))) = putCells (cellsOf (l.getD j .any)) off (cellsOf (ev e v)) := by
        have hsl := splice_length (l := cellsOf (l.getD j .any)) (k := off) (vs := cellsOf (ev e v)) (by omega)
        refine reElem_cells (by rw [hpc, hsl]) ?_
        intro hc0
        have hnot : (cellsOf (l.getD j .any)).length = 1 ∨ ∃ c, l.getD j .any = .agg c := by
          cases l.getD j .any <;> first | exact .inl rfl | exact .inr ⟨_, rfl⟩
        rcases hnot with h1c | ⟨c', hc'⟩
        · right
          have ho0 : off = 0 := by omega
          subst ho0
          match hq : cellsOf (ev e v), (by omega : (cellsOf (ev e v)).length = 1) with
          | [y], _ =>
            rw [hq] at hone hpc
            rw [hpc]
            simpa [splice] using hone
        · exact (hc0 _ hc').elim
      replace hre := hre.trans hpc
      generalize reElem (l.getD j .any) (putCells (cellsOf (l.getD j .any)) off (cellsOf (ev e v))) = el at hre ⊢
      have hlen2 : (l.set j el).length = l.length := by simp
      have helc : (cellsOf el).length = ee := by rw [hre, splice_length (by omega)]; exact hec
      have hm := m.write (w' := w.setRow g (splice cur.toList (j * ee + off) val.cells.toList).toArray) h9 h1 (b' := .arr ee (l.set j el)) (.inl ⟨rfl, hlen2⟩) rfl rfl ⟨rfl, Tr.same rfl⟩ (by simp) (fun k hk => setRow_other w g k _ hk) (by
        refine .inr ⟨g, tot, _, tt, h1, hw, by simp [hspl, h4], by simpa using h5, h6, h7, ?_, ?_, ?_⟩
        · intro y hy
          rcases List.mem_or_eq_of_mem_set hy with hy | rfl
          · exact h10 y hy
          · exact helc
        · intro y hy
          simp only [List.toList_toArray, splice, List.mem_append] at hy
          rcases hy with (hy | hy) | hy
          · exact h11 y (List.mem_of_mem_take hy)
          · exact hones y hy
          · exact h11 y (List.mem_of_mem_drop hy)
        · have hfl := flat_length h10
          have hcurl : cur.toList.length = tot * ee := by simp [h4]
          rw [flat_splice h10 hjl helc, hre, splice_splice h10 hjl (by omega), hlen2]
          have e1 : (splice cur.toList (j * ee + off) val.cells.toList).take (l.length * ee) = splice (cur.toList.take (l.length * ee)) (j * ee + off) val.cells.toList := by
            apply List.ext_getElem?
            intro i
            rw [List.getElem?_take, splice_get (by simpa using hfit), splice_get (by rw [List.length_take, hcurl, Nat.min_eq_left hb3]; omega)]
            simp only [List.getElem?_take]
            by_cases hi : i < l.length * ee
            · simp [hi]
            · have : ¬ i < j * ee + off := by omega
              have h2' : ¬ i < j * ee + off + val.cells.toList.length := by omega
              simp only [hi, this, h2', if_false]
          simp only [List.toList_toArray]
          rw [e1]
          exact ((h12.splice hcs _).mono (fun _ _ _ x => x) (fun v a lf => ⟨lf.1, LfC_set h9 (fun _ _ => rfl) (Or.inl ⟨rfl, hlen2, rfl⟩ : (_ ∧ _ ∧ _) ∨ _) lf.2⟩)))
      refine ⟨undef, _, _, _, .inr ⟨by rw [hrun2]; rfl, rfl⟩, hm.1, hm.2, .raw _⟩
    · trivial
  · trivial

end
end Go.Av
