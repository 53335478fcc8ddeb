/- The same state told with fewer blocks: the first ones and one more. Own work of this seat. -/
import Derived.Test.YtpjbbpilgfihbaaGreatDoorAvU
set_option linter.unusedSimpArgs false
set_option linter.unusedVariables false
namespace Go.Av
open Go Go.RowKit

/-- a block without references -/
def dry : Blk → Bool
  | .arr _ l => (flat l).all frozen
  | .mp es => es.all fun x => frozen x.1 && frozen x.2
  | .dead => true

def okg (n0 id : Nat) (x : AV) : AV → Prop
  | .sl m a b c => (m < n0 ∧ x = .sl m a b c) ∨ (m = n0 ∧ x = .sl id a b c)
  | .ptr m n i o => m < n0 ∧ x = .ptr m n i o
  | v => frozen v = true ∧ x = v
def wkg (n0 id : Nat) (e : Env) : Env → Prop
  | [] => True
  | (t, v) :: r => okg n0 id (get e t) v ∧ wkg n0 id e r

section
variable {h : Mem} {ρ ρ' : Own} {sto sto' : List Blk} {w : World} {P : Program}

theorem OwnB.dry {id id' : Nat} {blk : Blk} (e : ρ' id' = ρ id) (hd : Av.dry blk = true) (o : OwnB h ρ sto w id blk) : OwnB h ρ' sto' w id' blk := by
  cases blk with
  | arr es l =>
    rcases o with ⟨h1, h2⟩ | ⟨g, tot, cur, t, h1, h2, h3, h4, h5, h6, h7, h8, h9⟩
    · exact .inl ⟨h1, e.trans h2⟩
    · exact .inr ⟨g, tot, cur, t, e.trans h1, h2, h3, h4, h5, h6, h7, h8, (frz_all h9 hd).thaw (fun _ _ _ x => x)⟩
  | mp es =>
    obtain ⟨g, en, cl, h1, h2, h3, h4⟩ := o
    refine ⟨g, en, cl, e.trans h1, h2, h3, fun k x y hx hy => ?_⟩
    obtain ⟨p, q⟩ := h4 k x y hx hy
    simp only [Av.dry, List.all_eq_true, Bool.and_eq_true] at hd
    have := hd x (List.mem_of_getElem? hx)
    exact ⟨(frz_one p this.1).thaw (fun _ _ _ x => x), (frz_one q this.2).thaw (fun _ _ _ x => x)⟩
  | dead => exact e.trans o

theorem LfC_at {id id' : Nat} {blk : Blk} (h1 : sto[id]? = some blk) (h2 : sto'[id']? = some blk) (e : ρ' id' = ρ id) {v : Value} {a b c : Nat} (l : LfC ρ sto v (.sl id a b c)) : LfC ρ' sto' v (.sl id' a b c) := by
  simp only [LfC, h1, h2, e] at l ⊢
  exact l
theorem LfC_ptrAt {id id' : Nat} {blk : Blk} (h1 : sto[id]? = some blk) (h2 : sto'[id']? = some blk) (e : ρ' id' = ρ id) {v : Value} {a b c : Nat} (l : LfC ρ sto v (.ptr id a b c)) : LfC ρ' sto' v (.ptr id' a b c) := by
  simp only [LfC, h1, h2, e] at l ⊢
  exact l
theorem LfC_mpAt {id id' : Nat} {blk : Blk} (h1 : sto[id]? = some blk) (h2 : sto'[id']? = some blk) (e : ρ' id' = ρ id) {v : Value} (l : LfC ρ sto v (.mp id)) : LfC ρ' sto' v (.mp id') := by
  simp only [LfC, h1, h2, e] at l ⊢
  exact l

def keepρ (ρ : Own) (n0 id : Nat) : Own := fun i => if i < n0 then ρ i else if i = n0 then ρ id else none

theorem Mine.only (m : Mine h ρ sto w) {n0 id : Nat} {blk : Blk} (hid : n0 ≤ id) (hb : sto[id]? = some blk) (hd : dry blk = true) (hall : (sto.take n0).all dry = true) :
    Mine h (keepρ ρ n0 id) (sto.take n0 ++ [blk]) w := by
  have hlt := (List.getElem?_eq_some_iff.1 hb).1
  have hlen : (sto.take n0).length = n0 := by simp; omega
  have hρ : ∀ i g t, keepρ ρ n0 id i = some (g, t) → (i < n0 ∧ ρ i = some (g, t)) ∨ (i = n0 ∧ ρ id = some (g, t)) := by
    intro i g t e
    unfold keepρ at e
    split at e
    · exact .inl ⟨by assumption, e⟩
    · split at e
      · exact .inr ⟨by assumption, e⟩
      · cases e
  refine ⟨m.mem, ?_, ?_, ?_, ?_⟩
  · intro i b e
    by_cases hi : i < n0
    · rw [List.getElem?_append_left (by omega), List.getElem?_take, if_pos hi] at e
      refine (m.own i b e).dry (by simp [keepρ, hi]) ?_
      rw [List.all_eq_true] at hall
      exact hall b (List.mem_of_getElem? (i := i) (by rw [List.getElem?_take, if_pos hi]; exact e))
    · have hl := (List.getElem?_eq_some_iff.1 e).1
      simp at hl
      have : i = n0 := by omega
      subst this
      rw [List.getElem?_append_right (by omega), hlen] at e
      simp at e
      subst e
      exact (m.own id _ hb).dry (by simp [keepρ]) hd
  · intro i hi
    simp at hi
    have h1 : ¬ i < n0 := by omega
    have h2 : ¬ i = n0 := by omega
    simp [keepρ, h1, h2]
  · intro i j g t t' hi hj
    rcases hρ i g t hi with ⟨h1, h2⟩ | ⟨h1, h2⟩ <;> rcases hρ j g t' hj with ⟨h3, h4⟩ | ⟨h3, h4⟩
    · exact m.inj i j g t t' h2 h4
    · have := m.inj i id g t t' h2 h4; omega
    · have := m.inj id j g t t' h2 h4; omega
    · omega
  · intro i g t e
    rcases hρ i g t e with ⟨_, h2⟩ | ⟨_, h2⟩
    · exact m.disj i g t h2
    · exact m.disj id g t h2

variable {c : Cx} {e : Env} {s : List Blk}

theorem wkg_get {n0 id : Nat} {e e' : Env} (h : wkg n0 id e e') (t : Nat) : get e' t = .any ∨ okg n0 id (get e t) (get e' t) := by
  induction e' with
  | nil => exact .inl rfl
  | cons x r ih =>
    obtain ⟨k, v⟩ := x
    simp only [get]
    by_cases hk : k = t
    · subst hk; simp; exact .inr h.1
    · have : (k == t) = false := by simpa using hk
      simp only [this, cond_false]
      exact ih h.2

/-- what a table's other blocks hold is told no more -/
theorem Shift.only (n0 id : Nat) {e' : Env} {blk : Blk} (hc : c.sto.length ≤ n0) (hid : n0 ≤ id) (hb : s.getD id .dead = blk) (hne : id < s.length) (hd : dry blk = true) (hall : (s.take n0).all dry = true) (hw : wkg n0 id e e') :
    Shift c e s e' (s.take n0 ++ [blk]) := by
  rintro a w ⟨hh, ρ, hm, hlt, he, hdf, hsz, hX⟩
  have hb' : s[id]? = some blk := by rw [← hb, List.getD, List.getElem?_eq_getElem hne]; rfl
  have hlen : (s.take n0).length = n0 := by simp; omega
  have hn : (s.take n0 ++ [blk])[n0]? = some blk := by rw [List.getElem?_append_right (by omega), hlen]; simp
  have hlow : ∀ i, i < n0 → (s.take n0 ++ [blk])[i]? = s[i]? := fun i hi => by rw [List.getElem?_append_left (by omega), List.getElem?_take, if_pos hi]
  have hρl : ∀ i, i < n0 → keepρ ρ n0 id i = ρ i := fun i hi => by simp [keepρ, hi]
  have hρn : keepρ ρ n0 id n0 = ρ id := by simp [keepρ]
  have low : ∀ v x, Lf c.ρ c.sto v x → Lf (keepρ ρ n0 id) (s.take n0 ++ [blk]) v x := by
    intro v x lf
    have l2 := hlt.keep v x lf
    refine ⟨lf.1, ?_⟩
    have hx := lf.2
    have l3 := l2.2
    cases x <;> simp only [LfC] at hx l3 ⊢
    · rename_i i o l cp
      cases hq : c.sto[i]? with
      | none => simp [hq] at hx
      | some y =>
        have hi : i < n0 := Nat.lt_of_lt_of_le (List.getElem?_eq_some_iff.1 hq).1 hc
        rw [hlow i hi, hρl i hi]; exact l3
    · rename_i i n j o
      cases hq : c.sto[i]? with
      | none => simp [hq] at hx
      | some y =>
        have hi : i < n0 := Nat.lt_of_lt_of_le (List.getElem?_eq_some_iff.1 hq).1 hc
        rw [hlow i hi, hρl i hi]; exact l3
    · rename_i i
      cases hq : c.sto[i]? with
      | none => simp [hq] at hx
      | some y =>
        have hi : i < n0 := Nat.lt_of_lt_of_le (List.getElem?_eq_some_iff.1 hq).1 hc
        rw [hlow i hi, hρl i hi]; exact l3
  refine ⟨hh, keepρ ρ n0 id, hm.only hid hb' hd hall, ⟨hlt.hle, hlt.hnew, low, hlt.os, hlt.tape, hlt.output, hlt.size, hlt.block, ?_⟩, fun t => ?_, hdf, hsz, c.hx.fewer (fun i g t hi => ?_) hX⟩
  · intro i g t hi
    unfold keepρ at hi
    split at hi
    · exact hlt.newown i g t hi
    · split at hi
      · exact hlt.newown id g t hi
      · cases hi
  rotate_left
  · unfold keepρ at hi
    split at hi
    · exact ⟨i, t, hi⟩
    · split at hi
      · exact ⟨id, t, hi⟩
      · cases hi
  · have hx := he t
    rcases wkg_get hw t with hq | hq
    · rw [hq]; exact .any _
    · generalize Av.get e' t = y at hq ⊢
      have frz : frozen y = true → Av.get e t = y → RV hh (Lf (keepρ ρ n0 id) (s.take n0 ++ [blk])) false (a.tmps.getD t undef) y := fun hf he' => by
        rw [he'] at hx
        exact (frz_one hx hf).thaw (fun _ _ _ x => x)
      cases y <;> simp only [okg] at hq
      case sl i o l cp =>
        rcases hq with ⟨hi, hq⟩ | ⟨hi, hq⟩
        · rw [hq] at hx
          have l := inv_sl hx
          exact .leaf ⟨l.1, LfC_at (blk := s[i]'(by omega)) (List.getElem?_eq_getElem (by omega)) (by rw [hlow i hi]; exact List.getElem?_eq_getElem (by omega)) (hρl i hi) l.2⟩
        · rw [hq] at hx
          have l := inv_sl hx
          subst hi
          exact .leaf ⟨l.1, LfC_at hb' hn hρn l.2⟩
      case ptr i n j o =>
        obtain ⟨hi, hq⟩ := hq
        rw [hq] at hx
        have l := inv_ptr hx
        exact .leaf ⟨l.1, LfC_ptrAt (blk := s[i]'(by omega)) (List.getElem?_eq_getElem (by omega)) (by rw [hlow i hi]; exact List.getElem?_eq_getElem (by omega)) (hρl i hi) l.2⟩
      all_goals exact frz hq.1 hq.2

/-- a function that hands back a slice of new memory, told as one whose result is frozen -/
theorem pc_of_ct {f : FuncId} {args : List AV} {n es : Nat} {l : List AV} (hn : n = l.length) (hf : (flat l).all frozen = true) (hc : Ct P f args [] (fun r s => r = .sl 0 0 n n ∧ s = [.arr es l])) : Pc P f args (· = .fz es l) := by
  subst hn
  refine pc_intro ⟨hc.1, fun h ρ w vs hm hv => (hc.2 h ρ w vs hm hv).mono ?_⟩
  rintro en w' ⟨v, r, s, h', ρ', rfl, ⟨rfl, rfl⟩, m', l', rv⟩
  obtain ⟨h2, ρ2, m2, l2, key⟩ := m'.freeze (id := 0) rfl hf
  have := key v 0 l.length l.length (inv_sl rv).2 (by simp) (Nat.le_refl _)
  rw [List.drop_zero, List.take_length] at this
  exact ⟨v, _, _, h2, ρ2, rfl, ⟨rfl, rfl⟩, m2, l'.trans l2, this⟩
end
end Go.Av
