/- Takes that are drawn, told exactly. Own work of this seat. -/
import Derived.Test.YtkfpiadgjbhcpaaGreatDoorT35
set_option maxRecDepth 100000
set_option linter.unusedSimpArgs false
set_option linter.unusedVariables false
namespace Go.Proofs.YtkfpiadgjbhcpaaGreatDoor
open Go Go.Av Go.RowKit

structure CvS where
  inn : Int
  cs : List Cv
  k : Int
def covStep (L : List Int) (n p : Nat) (x : CvS) : CvS :=
  if 0 < n ∧ flipF L x.k 3 = true then ⟨x.inn + nx L (x.k + 1) 2, x.cs, x.k + 1 + 1⟩
  else
    if flipF L ((if 0 < n then x.k + 1 else x.k) + 1 + 1) 4 then
      ⟨x.inn + rangeF L (if 0 < n then x.k + 1 else x.k) 1 3 + 1, x.cs ++ [⟨p, x.inn + 1, x.inn + rangeF L (if 0 < n then x.k + 1 else x.k) 1 3 + 1, flipF L ((if 0 < n then x.k + 1 else x.k) + 1) 2⟩], (if 0 < n then x.k + 1 else x.k) + 1 + 1 + 1⟩
    else
      ⟨x.inn + rangeF L (if 0 < n then x.k + 1 else x.k) 1 3, x.cs ++ [⟨p, x.inn, x.inn + rangeF L (if 0 < n then x.k + 1 else x.k) 1 3, flipF L ((if 0 < n then x.k + 1 else x.k) + 1) 2⟩], (if 0 < n then x.k + 1 else x.k) + 1 + 1 + 1⟩
def covs (L : List Int) (n : Nat) : Nat → Nat → CvS → CvS
  | 0, _, x => x
  | m + 1, p, x => covs L n m (p + 1) (covStep L n p x)
structure TkS where
  at' : Int
  out : List Tk
  k : Int
def mkTk (no : List UInt8) (r : Rl) (n : Nat) (at' : Int) (z : CvS) : Tk := ⟨no, [], n + 1, r.name, [], at', z.inn + 1, true, z.cs⟩
def takeStep (L : List Int) (no : List UInt8) (np : Nat) (r : Rl) (n : Nat) (x : TkS) : TkS :=
  ⟨(covs L n np 0 ⟨x.at', [], x.k⟩).inn + 1,
   if flipF L (covs L n np 0 ⟨x.at', [], x.k⟩).k 12 = false ∧ (covs L n np 0 ⟨x.at', [], x.k⟩).inn + 1 - r.start ≤ r.long then x.out ++ [mkTk no r n x.at' (covs L n np 0 ⟨x.at', [], x.k⟩)] else x.out,
   (covs L n np 0 ⟨x.at', [], x.k⟩).k + 1⟩
def takesN (L : List Int) (no : List UInt8) (np : Nat) (r : Rl) : Nat → Nat → TkS → TkS
  | 0, _, x => x
  | m + 1, n, x => takesN L no np r m (n + 1) (takeStep L no np r n x)
def scTakes (L : List Int) (r : Rl) (y : Sc) (x : TkS) : TkS := takesN L y.no y.paras.length r (rangeF L x.k 1 3).toNat 0 ⟨x.at', x.out, x.k + 1⟩
def fullN (L : List Int) (r : Rl) : List Sc → TkS → TkS
  | [], x => x
  | y :: l, x => fullN L r l (scTakes L r y x)
def fullF (L : List Int) (k : Int) (l : List Sc) (r : Rl) : List Tk × Int := ((fullN L r l ⟨r.start, [], k⟩).out, (fullN L r l ⟨r.start, [], k⟩).k)

structure CvB (lo hi : Int) (np : Nat) (c : Cv) : Prop where
  para : 0 ≤ c.para ∧ c.para < np
  inn : lo ≤ c.inn
  out : c.out ≤ hi
/-- what is known of a take that is drawn -/
structure TkB (r : Rl) (t : Tk) : Prop where
  setup : t.setup = []
  number : 1 ≤ t.number ∧ t.number ≤ 3
  roll : t.roll = r.name
  sound : t.sound = []
  good : t.good = true
  inn : r.start ≤ t.inn ∧ t.inn ≤ r.start + 10000
  out : r.start ≤ t.out ∧ t.out ≤ r.start + 10000
  len : t.covers.length ≤ 60
  cov : ∀ c ∈ t.covers, CvB r.start (r.start + 10000) 60 c
  scene : t.scene.length < 10
theorem covStep_bd (L : List Int) (n p : Nat) (x : CvS) : x.inn ≤ (covStep L n p x).inn ∧ (covStep L n p x).inn ≤ x.inn + 4 ∧ x.k ≤ (covStep L n p x).k ∧ (covStep L n p x).k ≤ x.k + 4 ∧
    (covStep L n p x).cs.length ≤ x.cs.length + 1 ∧ ∀ c ∈ (covStep L n p x).cs, c ∈ x.cs ∨ (c.para = p ∧ x.inn ≤ c.inn ∧ c.out ≤ x.inn + 4) := by
  unfold covStep
  have hb := nx_bd L (x.k + 1) 2 (by decide)
  split
  · exact ⟨by simp only; omega, by simp only; omega, by simp only; omega, by simp only; omega, by simp, fun c hc => .inl hc⟩
  · have hr := range13 L (if 0 < n then x.k + 1 else x.k) 3 (by decide)
    have hk : x.k ≤ (if 0 < n then x.k + 1 else x.k) ∧ (if 0 < n then x.k + 1 else x.k) ≤ x.k + 1 := by split <;> omega
    generalize (if 0 < n then x.k + 1 else x.k) = k0 at *
    split
    · refine ⟨by simp only; omega, by simp only; omega, by simp only; omega, by simp only; omega, by simp, fun c hc => ?_⟩
      rcases List.mem_append.1 hc with hc | hc
      · exact .inl hc
      · rw [List.mem_singleton.1 hc]; exact .inr ⟨rfl, by simp only; omega, by simp only; omega⟩
    · refine ⟨by simp only; omega, by simp only; omega, by simp only; omega, by simp only; omega, by simp, fun c hc => ?_⟩
      rcases List.mem_append.1 hc with hc | hc
      · exact .inl hc
      · rw [List.mem_singleton.1 hc]; exact .inr ⟨rfl, by simp only; omega, by simp only; omega⟩
theorem covs_bd (L : List Int) (n : Nat) : ∀ (m p : Nat) (x : CvS) , x.inn ≤ (covs L n m p x).inn ∧ (covs L n m p x).inn ≤ x.inn + 4 * m ∧ x.k ≤ (covs L n m p x).k ∧ (covs L n m p x).k ≤ x.k + 4 * m ∧
    (covs L n m p x).cs.length ≤ x.cs.length + m ∧ ∀ c ∈ (covs L n m p x).cs, c ∈ x.cs ∨ ((p : Int) ≤ c.para ∧ c.para < p + m ∧ x.inn ≤ c.inn ∧ c.out ≤ x.inn + 4 * m)
  | 0, p, x => ⟨Int.le_refl _, by simp [covs], Int.le_refl _, by simp [covs], by simp [covs], fun c hc => .inl hc⟩
  | m + 1, p, x => by
    obtain ⟨a1, a2, a3, a4, a5, a6⟩ := covStep_bd L n p x
    obtain ⟨b1, b2, b3, b4, b5, b6⟩ := covs_bd L n m (p + 1) (covStep L n p x)
    simp only [covs]
    refine ⟨by omega, by push_cast; omega, by omega, by push_cast; omega, by omega, fun c hc => ?_⟩
    rcases b6 c hc with h | ⟨h1, h2, h3, h4⟩
    · rcases a6 c h with h | ⟨h1, h2, h3⟩
      · exact .inl h
      · exact .inr ⟨by omega, by push_cast; omega, by omega, by push_cast; omega⟩
    · exact .inr ⟨by push_cast at h1; omega, by push_cast at h2 ⊢; omega, by omega, by push_cast; omega⟩
structure TkSB (r : Rl) (b : Int) (x : TkS) : Prop where
  at' : r.start ≤ x.at' ∧ x.at' ≤ r.start + 250 * b
  out : ∀ t ∈ x.out, TkB r t
  len : (x.out.length : Int) ≤ b
theorem takeStep_bd (L : List Int) (no : List UInt8) (np : Nat) (r : Rl) (n : Nat) (x : TkS) (b : Int) (hno : no.length < 10) (hnp : np ≤ 60) (hn : n < 3) (hb : 0 ≤ b ∧ b ≤ 20) (h : TkSB r b x) :
    TkSB r (b + 1) (takeStep L no np r n x) ∧ x.k ≤ (takeStep L no np r n x).k ∧ (takeStep L no np r n x).k ≤ x.k + 250 := by
  obtain ⟨b1, b2, b3, b4, b5, b6⟩ := covs_bd L n np 0 ⟨x.at', [], x.k⟩
  have h1 := h.at'
  have h2 := h.len
  unfold takeStep
  generalize covs L n np 0 ⟨x.at', [], x.k⟩ = z at *
  simp only [List.length_nil, Nat.zero_add] at b1 b2 b3 b4 b5 b6
  refine ⟨⟨by simp only; omega, ?_, ?_⟩, by simp only; omega, by simp only; omega⟩
  · intro t ht
    simp only at ht
    split at ht
    · rcases List.mem_append.1 ht with ht | ht
      · exact h.out t ht
      · rw [List.mem_singleton.1 ht]
        refine ⟨rfl, by simp only [mkTk]; omega, rfl, rfl, rfl, by simp only [mkTk]; omega, by simp only [mkTk]; omega, by simp only [mkTk]; omega, fun c hc => ?_, hno⟩
        rcases b6 c hc with hc | ⟨c1, c2, c3, c4⟩
        · simp at hc
        · exact ⟨by push_cast at c1 c2; omega, by omega, by omega⟩
    · exact h.out t ht
  · simp only
    split
    · simp; omega
    · omega
theorem takesN_bd (L : List Int) (no : List UInt8) (np : Nat) (r : Rl) (hno : no.length < 10) (hnp : np ≤ 60) : ∀ (m n : Nat) (x : TkS) (b : Int), n + m ≤ 3 → 0 ≤ b → b + m ≤ 20 → TkSB r b x →
    TkSB r (b + m) (takesN L no np r m n x) ∧ x.k ≤ (takesN L no np r m n x).k ∧ (takesN L no np r m n x).k ≤ x.k + 250 * m
  | 0, n, x, b, _, _, _, h => ⟨by simpa [takesN] using h, Int.le_refl _, by simp [takesN]⟩
  | m + 1, n, x, b, h1, h2, h3, h => by
    obtain ⟨a1, a2, a3⟩ := takeStep_bd L no np r n x b hno hnp (by omega) ⟨h2, by push_cast at h3; omega⟩ h
    obtain ⟨c1, c2, c3⟩ := takesN_bd L no np r hno hnp m (n + 1) _ (b + 1) (by omega) (by omega) (by push_cast at h3 ⊢; omega) a1
    simp only [takesN]
    refine ⟨?_, by omega, by push_cast; omega⟩
    have : b + 1 + (m : Int) = b + ((m + 1 : Nat) : Int) := by push_cast; omega
    rw [← this]
    exact c1
theorem scTakes_bd (L : List Int) (r : Rl) (y : Sc) (x : TkS) (b : Int) (hno : y.no.length < 10) (hnp : y.paras.length ≤ 60) (hb : 0 ≤ b ∧ b ≤ 15) (h : TkSB r b x) :
    TkSB r (b + 3) (scTakes L r y x) ∧ x.k ≤ (scTakes L r y x).k ∧ (scTakes L r y x).k ≤ x.k + 760 := by
  have hr := range13 L x.k 3 (by decide)
  unfold scTakes
  generalize rangeF L x.k 1 3 = m at *
  obtain ⟨c1, c2, c3⟩ := takesN_bd L y.no y.paras.length r hno hnp m.toNat 0 ⟨x.at', x.out, x.k + 1⟩ b (by omega) hb.1 (by omega) ⟨h.at', h.out, h.len⟩
  simp only at c2 c3
  refine ⟨⟨?_, c1.out, ?_⟩, by omega, by omega⟩
  · have := c1.at'; omega
  · have := c1.len; omega
theorem fullN_bd (L : List Int) (r : Rl) : ∀ (l : List Sc) (x : TkS) (b : Int), (∀ y ∈ l, y.no.length < 10 ∧ y.paras.length ≤ 60) → 0 ≤ b → b + 3 * l.length ≤ 15 → TkSB r b x →
    TkSB r (b + 3 * l.length) (fullN L r l x) ∧ x.k ≤ (fullN L r l x).k ∧ (fullN L r l x).k ≤ x.k + 760 * l.length
  | [], x, b, _, _, _, h => ⟨by simpa [fullN] using h, Int.le_refl _, by simp [fullN]⟩
  | y :: l, x, b, hy, h1, h2, h => by
    obtain ⟨a1, a2, a3⟩ := scTakes_bd L r y x b (hy y (by simp)).1 (hy y (by simp)).2 ⟨h1, by simp at h2; omega⟩ h
    obtain ⟨c1, c2, c3⟩ := fullN_bd L r l _ (b + 3) (fun z hz => hy z (by simp [hz])) (by omega) (by simp at h2; omega) a1
    simp only [fullN]
    refine ⟨?_, by omega, by simp; omega⟩
    have : b + 3 + 3 * (l.length : Int) = b + 3 * (((y :: l).length : Nat) : Int) := by simp; omega
    rw [← this]
    exact c1
theorem fullF_ok (L : List Int) (k : Int) (x : Sr) (hx : StoryOk x) (r : Rl) : (∀ t ∈ (fullF L k x.scenes r).1, TkB r t) ∧ (fullF L k x.scenes r).1.length ≤ 15 ∧ k ≤ (fullF L k x.scenes r).2 ∧ (fullF L k x.scenes r).2 ≤ k + 4000 := by
  have hl := hx.len
  have hno : ∀ y ∈ x.scenes, y.no.length < 10 ∧ y.paras.length ≤ 60 := fun y hy => by
    obtain ⟨i, hi, rfl⟩ := List.getElem_of_mem hy
    have h1 := no_facts i (by omega)
    rw [hx.no i hi]
    exact ⟨by omega, (hx.all i hi).len⟩
  obtain ⟨a, b, c⟩ := fullN_bd L r x.scenes ⟨r.start, [], k⟩ 0 hno (by decide) (by omega) ⟨by simp only; omega, by simp, by simp⟩
  unfold fullF
  refine ⟨a.out, by have := a.len; simp only at this ⊢; omega, b, by simp only at c ⊢; omega⟩
end Go.Proofs.YtkfpiadgjbhcpaaGreatDoor
