/- The same state told in another way: memory of one's own that is frozen from here on; nil told as an empty slice. Own work of this seat. -/
import Derived.Test.YtpjbbpilgfihbaaGreatDoorAvQ
set_option linter.unusedSimpArgs false
set_option linter.unusedVariables false
namespace Go.Av
open Go Go.RowKit

section
variable {h : Mem} {ρ : Own} {sto : List Blk} {w : World} {P : Program}

/-- a block of one's own, whose cells are plain, is never written again -/
theorem Mine.freeze (m : Mine h ρ sto w) {id e : Nat} {l : List AV} (hb : sto[id]? = some (.arr e l)) (hf : (flat l).all frozen = true) :
    ∃ h' ρ', Mine h' ρ' (sto.set id .dead) w ∧ Later h ρ sto w h' ρ' (sto.set id .dead) w ∧
      ∀ v off len cap, LfC ρ sto v (.sl id off len cap) → off + cap = l.length → len ≤ cap → RV h' (Lf ρ' (sto.set id .dead)) false v (.fz e ((l.drop off).take len)) := by
  have hid := (List.getElem?_eq_some_iff.1 hb).1
  rcases m.own id _ hb with ⟨rfl, hn⟩ | ⟨g, tot, cur, t, h3, h4, h5, h6, h7, h8, h9, h10, h11⟩
  · have hk : ∀ v a, Lf ρ sto v a → Lf ρ (sto.set id .dead) v a := fun v a l => ⟨l.1, LfC_set hb (fun _ _ => rfl) trivial l.2⟩
    refine ⟨h, ρ, ⟨m.mem, ?_, fun i hi => m.out i (by simpa using hi), m.inj, m.disj⟩, ⟨fun _ _ _ x => x, fun _ _ a b => (b a).elim, hk, rfl, rfl, rfl, Nat.le_refl _, fun _ _ _ => rfl, fun i _ t x => .inl ⟨i, t, x⟩⟩, ?_⟩
    · intro i blk e1
      by_cases hi : i = id
      · subst hi
        simp [hid] at e1
        subst e1
        exact hn
      · rw [List.getElem?_set_ne (Ne.symm hi)] at e1
        exact (m.own i blk e1).mono (fun _ _ _ x => x) hk rfl (fun _ _ _ => rfl)
    · intro v off len cap hl hc hlc
      simp only [LfC, hb] at hl
      rcases hl.2 hc with ⟨rfl, rfl, a, rfl⟩ | ⟨g, tot, h1, _⟩
      · cases a with
        | none => simpa [at0] using RV.fznil e
        | some a => simpa [at0] using RV.fz (h := h) (Lf := Lf ρ (sto.set id .dead)) (fl := false) a.1 a.2 0 e [] [] .nil (by simp) (by simp) (Nat.le_refl _)
      · simp [hn] at h1
  · let h' : Mem := fun b o => if b = g then cur.toList[o]? else h b o
    have hle : ∀ b o v, h b o = some v → h' b o = some v := by
      intro b o v e1
      have : b ≠ g := fun hq => by subst hq; simp [m.disj id b tot h3 o] at e1
      simp [h', this, e1]
    have hk : ∀ v a, Lf ρ sto v a → Lf (upd ρ id none) (sto.set id .dead) v a := fun v a l => ⟨l.1, LfC_set hb (fun i hi => by simp [upd, hi]) trivial l.2⟩
    have hown : ∀ i b t, upd ρ id none i = some (b, t) → i ≠ id ∧ ρ i = some (b, t) := by
      intro i b t e1
      unfold upd at e1
      split at e1
      · simp at e1
      · rename_i hi; exact ⟨hi, e1⟩
    refine ⟨h', upd ρ id none, ⟨?_, ?_, ?_, ?_, ?_⟩, ⟨hle, ?_, hk, rfl, rfl, rfl, Nat.le_refl _, fun _ _ _ => rfl, fun i b t x => .inl ⟨i, t, (hown i b t x).2⟩⟩, ?_⟩
    · intro b o v e1
      by_cases hq : b = g
      · subst hq
        simp only [h', if_true] at e1
        refine ⟨?_, h10 v (List.mem_of_getElem? e1)⟩
        rw [h4.cell]
        simpa using e1
      · simp only [h', hq, if_false] at e1
        exact m.mem b o v e1
    · intro i blk e1
      by_cases hi : i = id
      · subst hi
        simp [hid] at e1
        subst e1
        simp [OwnB, upd]
      · rw [List.getElem?_set_ne (Ne.symm hi)] at e1
        exact (m.own i blk e1).mono hle hk (by simp [upd, hi]) (fun _ _ _ => rfl)
    · intro i hi
      simp at hi
      simp [upd, m.out i hi]
    · intro i j b t t' hi hj
      exact m.inj i j b t t' (hown i b t hi).2 (hown j b t' hj).2
    · intro i b t hi o
      obtain ⟨h1, h2⟩ := hown i b t hi
      have : b ≠ g := fun hq => by subst hq; exact h1 (m.inj i id _ _ _ h2 h3)
      simp [h', this, m.disj i b t h2 o]
    · intro b o e1 e2
      by_cases hq : b = g
      · subst hq; exact .inl ⟨id, tot, h3⟩
      · simp [h', hq, e1] at e2
    · intro v off len cap hl hc hlc
      simp only [LfC, hb] at hl
      have hfl := flat_length h9
      have hcurl : cur.toList.length = tot * e := by simp [h5]
      rcases hl.2 hc with ⟨rfl, rfl, a, rfl⟩ | ⟨g', tot', h1, rfl, _⟩
      · cases a with
        | none => simpa [at0] using RV.fznil e
        | some a => simpa [at0] using RV.fz (h := h') (Lf := Lf (upd ρ id none) (sto.set id .dead)) (fl := false) a.1 a.2 0 e [] [] .nil (by simp) (by simp) (Nat.le_refl _)
      · rw [h3] at h1
        simp only [Option.some.injEq, Prod.mk.injEq] at h1
        obtain ⟨rfl, rfl⟩ := h1
        have hlen : ((l.drop off).take len).length = len := by simp; omega
        have hr : RL h' (Lf (upd ρ id none) (sto.set id .dead)) true (((cur.toList.take (l.length * e)).drop (off * e)).take (len * e)) (flat ((l.drop off).take len)) := by
          rw [← flat_take (l := l.drop off) (esz := e) (fun x hx => h9 x (List.mem_of_mem_drop hx)) len, ← flat_drop h9 off]
          exact (((frz_all h11 hf).thaw (fun _ _ _ x => x)).mono hle (fun _ _ x => x) |>.drop _).take _
        have := RV.fz (h := h') (Lf := Lf (upd ρ id none) (sto.set id .dead)) (fl := false) g (off * e) (tot - off) e ((l.drop off).take len) _ hr (fun x hx => h9 x (List.mem_of_mem_drop (List.mem_of_mem_take hx))) (fun k v hk => by
          rw [List.getElem?_take] at hk
          split at hk
          · rw [List.getElem?_drop, List.getElem?_take] at hk
            split at hk
            · simp only [h', if_true]; exact hk
            · simp at hk
          · simp at hk) (by rw [hlen]; omega)
        rwa [hlen] at this

variable {c : Cx} {e : Env} {s : List Blk}

/-- slot 't' holds a slice of one's own: from here on it is frozen -/
theorem Shift.freeze (t : Tmp) {id off len cap es : Nat} {l : List AV} (hv : get e t = .sl id off len cap) (hb : s.getD id .dead = .arr es l) (hc : off + cap = l.length) (hl : len ≤ cap) (hf : (flat l).all frozen = true) :
    Shift c e s (put e (some t) (.fz es ((l.drop off).take len))) (s.set id .dead) := by
  rintro a w ⟨hh, ρ, hm, hlt, he, hdf, hsz, hX⟩
  obtain ⟨h', ρ', m', l', key⟩ := hm.freeze (sto_get hb) hf
  refine ⟨h', ρ', m', hlt.trans l', fun t' => ?_, hdf, hsz, c.hx.later hm l' hX⟩
  rw [get_put]
  split
  · rename_i ht
    simp only [Option.some.injEq] at ht
    subst ht
    have := he t
    rw [hv] at this
    exact key _ _ _ _ (inv_sl this).2 hc hl
  · exact (he t').mono l'.hle l'.keep

/-- slot 't' holds nil: it is an empty slice that is frozen -/
theorem Shift.nilfz (t : Tmp) (es : Nat) (hv : get e t = .raw (.slice none 0 0)) : Shift c e s (put e (some t) (.fz es [])) s := by
  rintro a w ⟨hh, ρ, hm, hlt, he, hdf, hsz, hX⟩
  refine ⟨hh, ρ, hm, hlt, fun t' => ?_, hdf, hsz, hX⟩
  rw [get_put]
  split
  · rename_i ht
    simp only [Option.some.injEq] at ht
    subst ht
    have := he t
    rw [hv] at this
    rw [inv_raw this]
    exact .fznil es
  · exact he t'

/-- slot 't' holds nil: it is an empty slice of one's own -/
theorem Shift.nilsl (t : Tmp) (es : Nat) (hv : get e t = .raw (.slice none 0 0)) : Shift c e s (put e (some t) (.sl s.length 0 0 0)) (s ++ [.arr es []]) := by
  rintro a w ⟨hh, ρ, hm, hlt, he, hdf, hsz, hX⟩
  obtain ⟨m', l'⟩ := hm.pushNil es
  refine ⟨hh, ρ, m', hlt.trans l', fun t' => ?_, hdf, hsz, c.hx.later hm l' hX⟩
  rw [get_put]
  split
  · rename_i ht
    simp only [Option.some.injEq] at ht
    subst ht
    have := he t
    rw [hv] at this
    rw [inv_raw this]
    exact .leaf ⟨rfl, by simp only [LfC, List.getElem?_concat_length]; exact ⟨by simp, fun _ => .inl ⟨trivial, trivial, none, rfl⟩⟩⟩
  · exact (he t').mono l'.hle l'.keep
end
end Go.Av
