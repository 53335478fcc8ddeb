/- A block told anew under a new number, with fewer elements. Own work of this seat. -/
import Derived.Test.YtpjbbpilgfihbaaGreatDoorAvS
set_option linter.unusedSimpArgs false
set_option linter.unusedVariables false
namespace Go.Av
open Go Go.RowKit

section
variable {h : Mem} {ρ : Own} {sto : List Blk} {w : World} {P : Program}

theorem Mine.trim (m : Mine h ρ sto w) {id e : Nat} {l : List AV} (hb : sto[id]? = some (.arr e l)) (n : Nat) :
    ∃ ρ', Mine h ρ' (sto.set id .dead ++ [.arr e (l.take n)]) w ∧ Later h ρ sto w h ρ' (sto.set id .dead ++ [.arr e (l.take n)]) w ∧
      ∀ v cap, LfC ρ sto v (.sl id 0 n cap) → cap = l.length → n ≤ cap → LfC ρ' (sto.set id .dead ++ [.arr e (l.take n)]) v (.sl sto.length 0 n n) := by
  have hid := (List.getElem?_eq_some_iff.1 hb).1
  have hlen : (sto.set id .dead).length = sto.length := by simp
  let ρ1 : Own := upd ρ id none
  let ρ2 : Own := upd ρ1 sto.length (ρ id)
  have hk1 : ∀ v a, LfC ρ sto v a → LfC ρ1 (sto.set id .dead) v a := fun v a l => LfC_set hb (fun i hi => by simp [ρ1, upd, hi]) trivial l
  have hk2 : ∀ v a, LfC ρ1 (sto.set id .dead) v a → LfC ρ2 (sto.set id .dead ++ [.arr e (l.take n)]) v a := fun v a lf => by
    have := LfC_push (b := .arr e (l.take n)) (x := ρ id) lf
    rwa [hlen] at this
  have hk : ∀ v a, Lf ρ sto v a → Lf ρ2 (sto.set id .dead ++ [.arr e (l.take n)]) v a := fun v a lf => ⟨lf.1, hk2 v a (hk1 v a lf.2)⟩
  have hρ : ∀ i b t, ρ2 i = some (b, t) → (i = sto.length ∧ ρ id = some (b, t)) ∨ (i ≠ id ∧ i ≠ sto.length ∧ ρ i = some (b, t)) := by
    intro i b t hi
    simp only [ρ2, ρ1, upd] at hi
    split at hi
    · exact .inl ⟨by assumption, hi⟩
    · split at hi
      · simp at hi
      · exact .inr ⟨by assumption, by assumption, hi⟩
  have hnew : ρ2 sto.length = ρ id := by simp [ρ2, upd]
  refine ⟨ρ2, ⟨m.mem, ?_, ?_, ?_, ?_⟩, ⟨fun _ _ _ x => x, fun _ _ a b => (b a).elim, hk, rfl, rfl, rfl, Nat.le_refl _, fun _ _ _ => rfl, ?_⟩, ?_⟩
  · intro i blk e1
    by_cases hi : i < sto.length
    · rw [List.getElem?_append_left (by rw [hlen]; exact hi)] at e1
      by_cases hii : i = id
      · subst hii
        simp [hid] at e1
        subst e1
        show ρ2 i = none
        simp [ρ2, ρ1, upd, Nat.ne_of_lt hi]
      · rw [List.getElem?_set_ne (Ne.symm hii)] at e1
        exact (m.own i blk e1).mono (fun _ _ _ x => x) hk (by simp [ρ2, ρ1, upd, hii, Nat.ne_of_lt hi]) (fun _ _ _ => rfl)
    · have hlt := (List.getElem?_eq_some_iff.1 e1).1
      simp at hlt
      have : i = sto.length := by omega
      subst this
      rw [List.getElem?_append_right (by rw [hlen]; exact Nat.le_refl _)] at e1
      simp at e1
      subst e1
      rcases m.own id _ hb with ⟨rfl, hn⟩ | ⟨g, tot, cur, t, h3, h4, h5, h6, h7, h8, h9, h10, h11⟩
      · exact .inl ⟨by simp, by rw [hnew]; exact hn⟩
      · refine .inr ⟨g, tot, cur, t, by rw [hnew]; exact h3, h4, h5, by simp; omega, h7, h8, fun x hx => h9 x (List.mem_of_mem_take hx), h10, ?_⟩
        have := (h11.take (n * e)).mono (fun _ _ _ x => x) hk
        rw [flat_take h9, List.take_take] at this
        have e2 : min (n * e) (l.length * e) = (l.take n).length * e := by
          rw [List.length_take]
          rcases Nat.le_total n l.length with hh | hh
          · rw [Nat.min_eq_left hh, Nat.min_eq_left (Nat.mul_le_mul_right _ hh)]
          · rw [Nat.min_eq_right hh, Nat.min_eq_right (Nat.mul_le_mul_right _ hh)]
        rw [e2] at this
        exact this
  · intro i hi
    simp at hi
    have h1 : i ≠ id := by omega
    have h2 : i ≠ sto.length := by omega
    simp [ρ2, ρ1, upd, h1, h2, m.out i (by omega)]
  · intro i j b t t' hi hj
    rcases hρ i b t hi with ⟨h1, h2⟩ | ⟨h1, h2, h3⟩ <;> rcases hρ j b t' hj with ⟨h4, h5⟩ | ⟨h4, h5, h6⟩
    · omega
    · exact (h4 (m.inj j id _ _ _ h6 h2)).elim
    · exact (h1 (m.inj i id _ _ _ h3 h5)).elim
    · exact m.inj i j _ _ _ h3 h6
  · intro i b t hi o
    rcases hρ i b t hi with ⟨h1, h2⟩ | ⟨h1, h2, h3⟩
    · exact m.disj id _ _ h2 o
    · exact m.disj i _ _ h3 o
  · intro i b t hi
    rcases hρ i b t hi with ⟨h1, h2⟩ | ⟨h1, h2, h3⟩
    · exact .inl ⟨id, t, h2⟩
    · exact .inl ⟨i, t, h3⟩
  · intro v cap hl hc hnc
    subst hc
    simp only [LfC, hb] at hl
    have hg : (sto.set id .dead ++ [.arr e (l.take n)])[sto.length]? = some (.arr e (l.take n)) := by
      rw [List.getElem?_append_right (by rw [hlen]; exact Nat.le_refl _)]; simp
    simp only [LfC, hg, List.length_take]
    refine ⟨by omega, fun _ => ?_⟩
    rcases hl.2 (by omega) with ⟨h1, h2, a, rfl⟩ | ⟨g, tot, h1, rfl, h2⟩
    · exact .inl ⟨h1, h1, a, rfl⟩
    · exact .inr ⟨g, tot, by rw [hnew]; exact h1, rfl, Nat.le_refl _⟩

variable {c : Cx} {e : Env} {s : List Blk}

/-- slot 't' holds a slice from the head of a block on: the block is told anew as just this slice -/
theorem Shift.trim (t : Tmp) {id len cap es : Nat} {l : List AV} (hv : get e t = .sl id 0 len cap) (hb : s.getD id .dead = .arr es l) (hc : cap = l.length) (hl : len ≤ cap) :
    Shift c e s (put e (some t) (.sl s.length 0 len len)) (s.set id .dead ++ [.arr es (l.take len)]) := by
  rintro a w ⟨hh, ρ, hm, hlt, he, hdf, hsz, hX⟩
  obtain ⟨ρ', m', l', key⟩ := hm.trim (sto_get hb) len
  refine ⟨hh, ρ', m', hlt.trans l', fun t' => ?_, hdf, hsz, c.hx.later hm l' hX⟩
  rw [get_put]
  split
  · rename_i ht
    simp only [Option.some.injEq] at ht
    subst ht
    have := he t
    rw [hv] at this
    exact .leaf ⟨(inv_sl this).1, key _ _ (inv_sl this).2 hc hl⟩
  · exact (he t').mono l'.hle l'.keep
end
end Go.Av
