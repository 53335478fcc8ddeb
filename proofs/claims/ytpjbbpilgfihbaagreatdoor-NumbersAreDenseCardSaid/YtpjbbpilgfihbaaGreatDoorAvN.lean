/- Writes in place: append over a block's places, copy. Own work of this seat. -/
import Derived.Test.YtpjbbpilgfihbaaGreatDoorAvM
set_option linter.unusedSimpArgs false
set_option linter.unusedVariables false
namespace Go.Av
open Go Go.RowKit

section
variable {h : Mem} {ρ : Own} {sto : List Blk} {w : World} {P : Program}

theorem flat_splice' {e : Nat} {l L : List AV} (hl : ∀ x ∈ l, (cellsOf x).length = e) (hL : ∀ x ∈ L, (cellsOf x).length = e) (k : Nat) : flat (splice' l k L) = splice (flat l) (k * e) (flat L) := by
  unfold splice' splice
  rw [flat_append, flat_append, flat_take hl, flat_length hL, ← Nat.add_mul, flat_drop hl]

theorem splice'_length {l L : List AV} {k : Nat} (hk : k + L.length ≤ l.length) : (splice' l k L).length = l.length := splice_length hk

theorem splice_ok (m : Mine h ρ sto w) {id e : Nat} {l L : List AV} (hb : sto[id]? = some (.arr e l)) {g tot : Nat} {cur : Array Value} {tt : TypeId} (h3 : ρ id = some (g, tot)) (h4 : HRow w g cur tt)
    (h5 : cur.size = tot * e) (h6 : l.length ≤ tot) (h7 : tot ≤ maxLen) (h8 : 0 < e) (h9 : ∀ x ∈ l, (cellsOf x).length = e) (h10 : ∀ v ∈ cur.toList, v.oneCell' = true) (h11 : RL h (Lf ρ sto) false (cur.toList.take (l.length * e)) (flat l))
    {cells : List Value} (hrl : RL h (Lf ρ sto) false cells (flat L)) (hsz : ∀ x ∈ L, (cellsOf x).length = e) (hone : ∀ v ∈ cells, v.oneCell' = true) {k : Nat} (hk : k + L.length ≤ l.length) :
    Mine h ρ (sto.set id (.arr e (splice' l k L))) (w.setRow g (splice cur.toList (k * e) cells).toArray) ∧ Later h ρ sto w h ρ (sto.set id (.arr e (splice' l k L))) (w.setRow g (splice cur.toList (k * e) cells).toArray) := by
  have hcl : cells.length = L.length * e := by rw [hrl.length, flat_length hsz]
  have hlen := splice'_length hk
  have hcurl : cur.toList.length = tot * e := by simp [h5]
  have hle : l.length * e ≤ tot * e := Nat.mul_le_mul_right _ h6
  have hke : (k + L.length) * e ≤ l.length * e := Nat.mul_le_mul_right _ hk
  rw [Nat.add_mul] at hke
  have hspl : (splice cur.toList (k * e) cells).length = cur.size := by
    rw [splice_length (by rw [hcl, hcurl]; omega)]; simp
  have hw := h4.set (cs := (splice cur.toList (k * e) cells).toArray) (by simp [hspl])
  refine m.write (w' := w.setRow g (splice cur.toList (k * e) cells).toArray) hb h3 (b' := .arr e (splice' l k L)) (.inl ⟨rfl, hlen⟩) rfl rfl rfl (by simp) (fun k' hk' => setRow_other w g k' _ hk') ?_
  refine .inr ⟨g, tot, _, tt, h3, hw, by simp [hspl, h5], by rw [hlen]; exact h6, h7, h8, ?_, ?_, ?_⟩
  · intro y hy
    simp only [splice', List.mem_append] at hy
    rcases hy with (hy | hy) | hy
    · exact h9 y (List.mem_of_mem_take hy)
    · exact hsz y hy
    · exact h9 y (List.mem_of_mem_drop hy)
  · intro y hy
    simp only [List.toList_toArray, splice, List.mem_append] at hy
    rcases hy with (hy | hy) | hy
    · exact h10 y (List.mem_of_mem_take hy)
    · exact hone y hy
    · exact h10 y (List.mem_of_mem_drop hy)
  · rw [hlen, flat_splice' h9 hsz]
    have e1 : (splice cur.toList (k * e) cells).take (l.length * e) = splice (cur.toList.take (l.length * e)) (k * e) cells := by
      apply List.ext_getElem?
      intro i
      rw [List.getElem?_take, splice_get (by rw [hcl, hcurl]; omega), splice_get (by rw [List.length_take, hcurl, Nat.min_eq_left hle, hcl]; omega)]
      simp only [List.getElem?_take]
      by_cases hi : i < l.length * e
      · simp [hi]
      · have : ¬ i < k * e := by omega
        have h2' : ¬ i < k * e + cells.length := by rw [hcl]; omega
        simp only [hi, this, h2', if_false]
    simp only [List.toList_toArray]
    rw [e1]
    exact (h11.splice hrl _).mono (fun _ _ _ x => x) (fun v a lf => ⟨lf.1, LfC_set hb (fun _ _ => rfl) (Or.inl ⟨rfl, hlen, rfl⟩ : (_ ∧ _ ∧ _) ∨ _) lf.2⟩)

section
variable {t tx ty el : TypeId} {src : Value} {cells : List Value} {L : List AV} {r : Result Next}

/-- append over places of a block -/
theorem appMid_ok (m : Mine h ρ sto w) (ht : P.underlying t = some (.slice el)) (hs : Src P (tsize P el) tx src L.length cells w) (hrl : RL h (Lf ρ sto) false cells (flat L)) (hsz : ∀ x ∈ L, (cellsOf x).length = tsize P el)
    {dst : Value} {id off len cap : Nat} {l : List AV} (hb : sto[id]? = some (.arr (tsize P el) l)) (hd : LfC ρ sto dst (.sl id off len cap))
    (hr : r = ((Builtin.append_ #[t, tx] ty #[dst, src]).run P w).andThen fun v w' => .ok (.value v) w') (hp : 0 < tsize P el) (hne : len ≠ cap) (hcap : off + cap = l.length) (hroom : len + L.length ≤ cap) :
    Okv h ρ sto w r (.sl id off (len + L.length) cap) (sto.set id (.arr (tsize P el) (splice' l (off + len) L))) := by
  have hid := (List.getElem?_eq_some_iff.1 hb).1
  simp only [LfC, hb] at hd
  rcases hd.2 hcap with ⟨h5, h6, _⟩ | ⟨g, tot, h5, rfl, h7⟩
  · omega
  · rcases m.own id _ hb with ⟨_, hno⟩ | ⟨g', tot', cur, tt, h3, h4, h5', h6, h7', h8, h9, h10, h11⟩
    · simp [hno] at h5
    · rw [h3] at h5
      simp only [Option.some.injEq, Prod.mk.injEq] at h5
      obtain ⟨rfl, rfl⟩ := h5
      have hle : (off + (len + L.length)) * tsize P el ≤ tot' * tsize P el := Nat.mul_le_mul_right _ (by omega)
      rw [Nat.add_mul] at hle
      rw [append_room (ty := ty) ht hp h4 hs (by omega) (by rw [h5']; exact hle), ← Nat.add_mul] at hr
      have hm := splice_ok m hb h3 h4 h5' h6 h7' h8 h9 h10 h11 hrl hsz hs.one (k := off + len) (by omega)
      refine ⟨_, _, _, _, .inl hr, hm.1, hm.2, .leaf ⟨rfl, ?_⟩⟩
      have hlen : (splice' l (off + len) L).length = l.length := splice'_length (by omega)
      simp only [LfC, List.getElem?_set_self hid, hlen]
      exact ⟨by omega, fun _ => .inr ⟨g', tot', h3, rfl, hroom⟩⟩
end

theorem append_ok {c : Call} (hf : c.callee = .builtin .append) {o : Oper} {e : Env} {a : Act} (ho : o.op = .call c) (m : Mine h ρ sto w) (he : EnvOk h ρ sto e a) :
    Res.Sound P h ρ sto w ((execOp a.eval o).run P w) (xapp2 P e sto c.args.toList c.argTypes.toList) := by
  have hrun : (execOp a.eval o).run P w = ((Builtin.append_ c.argTypes o.type (c.args.map a.eval)).run P w).andThen fun v w' => .ok (.value v) w' := by
    simp [execOp, ho, resolve, hf, invoke, builtin]
  unfold xapp2
  split
  · rename_i x y t u h1 h2
    have hx := ev_ok he x
    have hy := ev_ok he y
    have e1 : c.args.map a.eval = #[a.eval x, a.eval y] := by
      apply Array.ext'; rw [Array.toList_map, h1]; rfl
    have e2 : c.argTypes = #[t, u] := by apply Array.ext'; rw [h2]
    rw [e1, e2] at hrun
    generalize a.eval x = vx at *
    generalize a.eval y = vy at *
    generalize hr : (execOp a.eval o).run P w = r at *
    unfold xapp
    split
    · rename_i el ht
      cases hu : notInt (P.underlying u) with
      | false => trivial
      | true =>
        simp only [cond_true]
        unfold xappS
        split
        · rename_i L p hs
          have key : p → ∃ cells, Src P (tsize P el) u vy L.length cells w ∧ RL h (Lf ρ sto) false cells (flat L) ∧ (∀ x ∈ L, (cellsOf x).length = tsize P el) := fun hp => by
            obtain ⟨cells, k1, k2, k3, _⟩ := (src_ok (P := P) m hs hp hy).src hu
            exact ⟨cells, k1, k2, k3⟩
          unfold xappD
          split
          · rename_i hv
            rw [hv] at hx
            have := inv_raw hx
            subst this
            intro ⟨hp, h0, h3, h4, h5, h6⟩
            obtain ⟨cells, k1, k2, k3⟩ := key hp
            exact appNil_ok m ht k1 k2 k3 hrun h0 h3 h4 h5 h6
          · rename_i id off len cap hv
            rw [hv] at hx
            have hl := (inv_sl hx).2
            unfold xappB
            split
            · rename_i ee l hb
              have hb' := sto_get hb
              cases hq : len == cap with
              | true =>
                simp only [cond_true]
                intro ⟨hp, h0, h3, h4, h5, h6, h7, h8, h9⟩
                have hlc : len = cap := by simpa using hq
                subst hlc h5 h6
                obtain ⟨cells, k1, k2, k3⟩ := key hp
                exact appTop_ok m ht k1 k2 k3 hb' hl hrun h0 h3 h4 h7 h8 h9
              | false =>
                simp only [cond_false]
                intro ⟨hp, h0, h3, h4, h5⟩
                subst h3
                obtain ⟨cells, k1, k2, k3⟩ := key hp
                exact appMid_ok m ht k1 k2 k3 hb' hl hrun h0 (by simpa using hq) h4 h5
            · trivial
          · trivial
        · trivial
    · trivial
  · trivial

theorem copy_ok {c : Call} (hf : c.callee = .builtin .copy) {o : Oper} {e : Env} {a : Act} (ho : o.op = .call c) (m : Mine h ρ sto w) (he : EnvOk h ρ sto e a) :
    Res.Sound P h ρ sto w ((execOp a.eval o).run P w) (xcopy2 P e sto c.args.toList c.argTypes.toList) := by
  have hrun : (execOp a.eval o).run P w = ((Builtin.copy_ c.argTypes o.type (c.args.map a.eval)).run P w).andThen fun v w' => .ok (.value v) w' := by
    simp [execOp, ho, resolve, hf, invoke, builtin]
  unfold xcopy2
  split
  · rename_i x y t u h1 h2
    have hx := ev_ok he x
    have hy := ev_ok he y
    have e1 : c.args.map a.eval = #[a.eval x, a.eval y] := by
      apply Array.ext'; rw [Array.toList_map, h1]; rfl
    have e2 : c.argTypes = #[t, u] := by apply Array.ext'; rw [h2]
    rw [e1, e2] at hrun
    generalize a.eval x = vx at *
    generalize a.eval y = vy at *
    generalize hr : (execOp a.eval o).run P w = r at *
    split
    · rename_i el ht
      unfold xcopyS
      split
      · rename_i L p hs
        split
        · rename_i id off len cap hv
          rw [hv] at hx
          have hl := (inv_sl hx).2
          unfold xcopyB
          split
          · rename_i ee l hb
            have hb' := sto_get hb
            intro ⟨hp, h0, h3, h4, h5⟩
            subst h3
            obtain ⟨cells, k1, k2, k3, k4, k5⟩ := src_ok (P := P) m hs hp hy
            have hid := (List.getElem?_eq_some_iff.1 hb').1
            simp only [LfC, hb'] at hl
            have hsize : (sizeOf el).run P w = .ok (tsize P el) w := sizeOf_run' h0 w
            have hmin : Nat.min L.length len ≤ L.length := Nat.min_le_left _ _
            have hcells := k2 w rfl (Nat.min L.length len) hmin
            have hcl : cells.length = L.length * tsize P el := by rw [k3.length, flat_length k4]
            rcases hl.2 h4 with ⟨h6, h5', ad, rfl⟩ | ⟨g, tot, h5', rfl, h7⟩
            · subst h6
              have hst : splice' l off (L.take 0) = l := by simp [splice']
              rw [hst, set_same hb']
              refine ⟨.int .i64 (min L.length 0 : Nat), _, _, _, .inl ?_, m, .refl .., .int _ _⟩
              simp at hcells
              generalize at0 ad = ad at hrun ⊢
              cases ad <;> simp [hrun, Builtin.copy_, run_underlying ht, k1, hsize, hcells, goInt, storeCells]
            · rcases m.own id _ hb' with ⟨_, hno⟩ | ⟨g', tot', cur, tt, j3, j4, j5, j6, j7, j8, j9, j10, j11⟩
              · simp [hno] at h5'
              · rw [j3] at h5'
                simp only [Option.some.injEq, Prod.mk.injEq] at h5'
                obtain ⟨rfl, rfl⟩ := h5'
                have hL : (L.take len).length = min L.length len := by simp [Nat.min_comm]
                have hrl2 : RL h (Lf ρ sto) false (cells.take (Nat.min L.length len * tsize P el)) (flat (L.take len)) := by
                  have : L.take len = L.take (Nat.min L.length len) := by
                    rcases Nat.le_total L.length len with hh | hh
                    · rw [show Nat.min L.length len = L.length from Nat.min_eq_left hh, List.take_length, List.take_of_length_le hh]
                    · rw [show Nat.min L.length len = len from Nat.min_eq_right hh]
                  rw [this, ← flat_take k4]
                  exact k3.take _
                have hcl2 : (cells.take (Nat.min L.length len * tsize P el)).length = min L.length len * tsize P el := by
                  rw [hrl2.length, flat_length (fun x hx => k4 x (List.mem_of_mem_take hx)), hL]
                have hle : (off + min L.length len) * tsize P el ≤ tot' * tsize P el := Nat.mul_le_mul_right _ (by omega)
                rw [Nat.add_mul] at hle
                have hone : ∀ v ∈ cells.take (Nat.min L.length len * tsize P el), v.oneCell' = true := fun v hv => k5 v (List.mem_of_mem_take hv)
                have hst := run_storeCells_row P g' (off * tsize P el) tt (cells.take (Nat.min L.length len * tsize P el)) 0 cur w j4 (by rw [Nat.add_zero, hcl2, j5]; exact hle) hone
                simp only [Nat.add_zero] at hst
                have hm := splice_ok m hb' j3 j4 j5 j6 j7 j8 j9 j10 j11 hrl2 (fun x hx => k4 x (List.mem_of_mem_take hx)) hone (k := off) (by rw [hL]; omega)
                refine ⟨.int .i64 (min L.length len : Nat), _, _, _, .inl ?_, hm.1, hm.2, .int _ _⟩
                rw [hrun]
                simp only [Builtin.copy_, List.getElem?_toArray, List.getElem?_cons_zero, List.getElem?_cons_succ, Sem.run_bind, run_underlying ht, Result.andThen_ok, k1, hsize, hcells, Sem.run_pure, goInt, hst, List.toList_toArray]
                rfl
          · trivial
        · trivial
      · trivial
    · trivial
  · trivial
end
end Go.Av
