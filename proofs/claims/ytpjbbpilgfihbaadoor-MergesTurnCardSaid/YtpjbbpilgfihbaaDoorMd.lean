/- Plain law: what merging two lists over a base makes. No program in sight. Own work of this seat. -/
import Derived.Test.YtpjbbpilgfihbaaDoorLcs
import Derived.Shelf.Bits.Mul64
import Derived.Test.YtpjbbpilgfihbaaDoorBc
import Derived.Test.YtpjbbpilgfihbaaDoorSj
import Derived.Test.YtpjbbpilgfihbaaDoorAvX
import Derived.Test.YtpjbbpilgfihbaaDoorSi
import Derived.Test.YtpjbbpilgfihbaaDoorSd
import Derived.Test.YtpjbbpilgfihbaaDoorAvY
set_option linter.unusedSimpArgs false
set_option linter.unusedVariables false
namespace Go.Av

section
variable {α : Type}

/-- the numbers of partners, from pairs -/
def setAll : List Int → List (Nat × Nat) → List Int
  | l, [] => l
  | l, p :: r => setAll (l.set p.1 (p.2 : Nat)) r
theorem setAll_len : ∀ (ps : List (Nat × Nat)) (l : List Int), (setAll l ps).length = l.length
  | [], _ => rfl
  | p :: r, l => by rw [setAll, setAll_len r]; simp

/-- partners up to here -/
structure Par (base a : List α) (i j : Nat) (l : List Int) : Prop where
  len : l.length = base.length
  no : ∀ n, i ≤ n → n < base.length → l[n]? = some (-1)
  val : ∀ (n : Nat) (q : Int), n < i → l[n]? = some q → q = -1 ∨ ∃ m : Nat, q = m ∧ m < j ∧ m < a.length ∧ a[m]? = base[n]?
  inc : ∀ (n n' m m' : Nat), n < n' → n' < i → l[n]? = some (m : Int) → l[n']? = some (m' : Int) → m < m'

theorem Par.set {base a : List α} {i j : Nat} {l : List Int} (h : Par base a i j l) {x y : Nat} (hi : i ≤ x) (hj : j ≤ y) (hx : x < base.length) (hy : y < a.length) (e : base[x]? = a[y]?) : Par base a (x + 1) (y + 1) (l.set x (y : Nat)) where
  len := by simp [h.len]
  no := fun n h1 h2 => by rw [List.getElem?_set_ne (by omega)]; exact h.no n (by omega) h2
  val := fun n q h1 h2 => by
    by_cases hn : n = x
    · subst hn
      rw [List.getElem?_set_self (by rw [h.len]; exact hx)] at h2
      cases h2
      exact .inr ⟨y, rfl, by omega, hy, e.symm⟩
    · rw [List.getElem?_set_ne (fun e => hn e.symm)] at h2
      by_cases hni : n < i
      · rcases h.val n q hni h2 with h3 | ⟨m, h3, h4, h5, h6⟩
        · exact .inl h3
        · exact .inr ⟨m, h3, by omega, h5, h6⟩
      · rw [h.no n (by omega) (by omega)] at h2
        cases h2
        exact .inl rfl
  inc := fun n n' m m' h1 h2 h3 h4 => by
    have hn : n ≠ x := by omega
    rw [List.getElem?_set_ne (fun e => hn e.symm)] at h3
    have hni : n < i := by
      rcases Nat.lt_or_ge n i with h' | h'
      · exact h'
      · rw [h.no n h' (by omega)] at h3
        simp only [Option.some.injEq] at h3
        omega
    by_cases hn' : n' = x
    · subst hn'
      rw [List.getElem?_set_self (by rw [h.len]; exact hx)] at h4
      simp only [Option.some.injEq] at h4
      rcases h.val n m hni h3 with h5 | ⟨k, h5, h6, _⟩
      · omega
      · omega
    · rw [List.getElem?_set_ne (fun e => hn' e.symm)] at h4
      have hni' : n' < i := by
        rcases Nat.lt_or_ge n' i with h' | h'
        · exact h'
        · rw [h.no n' h' (by omega)] at h4
          simp only [Option.some.injEq] at h4
          omega
      exact h.inc n n' m m' h1 hni' h3 h4

theorem Par.all {base a : List α} : ∀ (ps : List (Nat × Nat)) {i j : Nat} {l : List Int}, Par base a i j l → Rise base a i j ps → ∃ i' j', i' ≤ base.length ∧ j' ≤ a.length ∧ Par base a i' j' (setAll l ps)
  | [], i, j, l, h, r => ⟨i, j, r.1, r.2, h⟩
  | p :: ps, i, j, l, h, r => Par.all ps (h.set r.1 r.2.1 r.2.2.1 r.2.2.2.1 r.2.2.2.2.1) r.2.2.2.2.2

def partL (base : List α) (ps : List (Nat × Nat)) : List Int := setAll (List.replicate base.length (-1)) ps

/-- what is known of a list of partners -/
structure Part (base a : List α) (l : List Int) : Prop where
  len : l.length = base.length
  val : ∀ (n : Nat) (q : Int), l[n]? = some q → q = -1 ∨ ∃ m : Nat, q = m ∧ m < a.length ∧ a[m]? = base[n]?
  inc : ∀ (n n' m m' : Nat), n < n' → l[n]? = some (m : Int) → l[n']? = some (m' : Int) → m < m'
theorem part_of_rise {base a : List α} {ps : List (Nat × Nat)} (h : Rise base a 0 0 ps) : Part base a (partL base ps) := by
  have h0 : Par base a 0 0 (List.replicate base.length (-1)) := ⟨by simp, fun n _ h2 => by simp [h2], fun n q h1 => by omega, fun n n' m m' _ h2 => by omega⟩
  obtain ⟨i, j, hi, hj, p⟩ := Par.all ps h0 h
  have key : ∀ (n : Nat) (q : Int), (partL base ps)[n]? = some q → q = -1 ∨ n < i := fun n q hq => by
    rcases Nat.lt_or_ge n i with h' | h'
    · exact .inr h'
    · have hn : n < base.length := by
        have := (List.getElem?_eq_some_iff.1 hq).1
        rw [partL, setAll_len] at this
        simpa using this
      rw [partL, p.no n h' hn] at hq
      cases hq
      exact .inl rfl
  refine ⟨p.len, fun n q hq => ?_, fun n n' m m' h1 h2 h3 => ?_⟩
  · rcases key n q hq with h' | h'
    · exact .inl h'
    · rcases p.val n q h' hq with h3 | ⟨m, h3, _, h5, h6⟩
      · exact .inl h3
      · exact .inr ⟨m, h3, h5, h6⟩
  · rcases key n' m' h3 with h' | h'
    · omega
    · exact p.inc n n' m m' h1 h' h2 h3

theorem setAll_diag : ∀ (k i : Nat) (l : List Int) (n : Nat), i + k ≤ l.length → (setAll l (diag i k))[n]? = if i ≤ n ∧ n < i + k then some (n : Int) else l[n]?
  | 0, i, l, n, h => by simp [diag, setAll]; omega
  | k + 1, i, l, n, h => by
    rw [diag, setAll, setAll_diag k (i + 1) _ n (by simp; omega)]
    by_cases h1 : n = i
    · subst h1
      rw [if_neg (by omega), if_pos (by omega), List.getElem?_set_self (by omega)]
    · by_cases h2 : i + 1 ≤ n ∧ n < i + 1 + k
      · rw [if_pos h2, if_pos (by omega)]
      · rw [if_neg h2, if_neg (by omega), List.getElem?_set_ne (by simp only; omega)]
theorem partL_diag (base : List α) (n : Nat) (h : n < base.length) : (partL base (diag 0 base.length))[n]? = some (n : Int) := by
  rw [partL, setAll_diag _ _ _ _ (by simp), if_pos (by omega)]

/-- from j up to toA -/
def upto (l : List α) (j : Nat) (t : Int) : List α := (l.drop j).take (t.toNat - j)

theorem upto_take {l : List α} {j m : Nat} (h : j ≤ m) : l.take j ++ upto l j (m : Int) = l.take m := by
  rw [upto, Int.toNat_natCast, ← List.take_add, show j + (m - j) = m by omega]
theorem take_succ_get {l : List α} {m : Nat} : l.take (m + 1) = l.take m ++ (l[m]?).toList := by
  rcases Nat.lt_or_ge m l.length with h | h
  · rw [List.take_succ_eq_append_getElem h, List.getElem?_eq_getElem h]; rfl
  · rw [List.getElem?_eq_none h, List.take_of_length_le (by omega), List.take_of_length_le h]; simp

variable [DecidableEq α]

structure Ms (α : Type) where
  i : Nat
  j : Nat
  k : Nat
  out : List α
  cl : List (Nat × Nat)

/-- what one part adds -/
def mput (i n : Nat) (old x y : List α) (out : List α) (cl : List (Nat × Nat)) : List α × List (Nat × Nat) :=
  if x = old then (out ++ y, cl) else if y = old ∨ x = y then (out ++ x, cl) else (out ++ old, cl ++ [(i, n - i)])

def mstep (base a b : List α) (pa pb : List Int) (n : Nat) (s : Ms α) : Ms α :=
  let toA : Int := if n < base.length then pa.getD n 0 else a.length
  let toB : Int := if n < base.length then pb.getD n 0 else b.length
  if n < base.length ∧ (toA < 0 ∨ toB < 0) then s else
    let q := mput s.i n ((base.drop s.i).take (n - s.i)) (upto a s.j toA) (upto b s.k toB) s.out s.cl
    ⟨n + 1, toA.toNat + 1, toB.toNat + 1, q.1 ++ (base[n]?).toList, q.2⟩

def mrun (base a b : List α) (pa pb : List Int) : Nat → Ms α
  | 0 => ⟨0, 0, 0, [], []⟩
  | n + 1 => mstep base a b pa pb n (mrun base a b pa pb n)

theorem mput_swap (i n : Nat) (old x y out : List α) (cl : List (Nat × Nat)) : mput i n old y x out cl = mput i n old x y out cl := by
  unfold mput
  by_cases h1 : x = old
  · by_cases h2 : y = old
    · simp [h1, h2]
    · simp [h1, h2]
  · by_cases h2 : y = old
    · simp [h1, h2]
    · by_cases h3 : x = y
      · subst h3; simp [h1]
      · simp [h1, h2, h3, Ne.symm h3, Eq.comm]

theorem mrun_swap (base a b : List α) (pa pb : List Int) : ∀ n, mrun base b a pb pa n = ⟨(mrun base a b pa pb n).i, (mrun base a b pa pb n).k, (mrun base a b pa pb n).j, (mrun base a b pa pb n).out, (mrun base a b pa pb n).cl⟩
  | 0 => rfl
  | n + 1 => by
    rw [mrun, mrun, mrun_swap base a b pa pb n, mstep, mstep]
    simp only
    by_cases h : n < base.length ∧ ((if n < base.length then pa.getD n 0 else (a.length : Int)) < 0 ∨ (if n < base.length then pb.getD n 0 else (b.length : Int)) < 0)
    · rw [if_pos h, if_pos ⟨h.1, h.2.symm⟩]
    · rw [if_neg h, if_neg (fun h' => h ⟨h'.1, h'.2.symm⟩), mput_swap]

/-- where the loop stands -/
structure Mok (base a b : List α) (pa pb : List Int) (n : Nat) (s : Ms α) : Prop where
  hi : s.i ≤ n
  hj : n ≤ base.length → s.j ≤ a.length
  hk : n ≤ base.length → s.k ≤ b.length
  ja : ∀ n' m : Nat, n ≤ n' → n' < base.length → pa[n']? = some (m : Int) → s.j ≤ m
  kb : ∀ n' m : Nat, n ≤ n' → n' < base.length → pb[n']? = some (m : Int) → s.k ≤ m
  out : s.out.length + 1 ≤ s.i + s.j + s.k + 1
  cl : s.cl.length ≤ n
  jm : s.j ≤ a.length + 1
  km : s.k ≤ b.length + 1

theorem getD_of {l : List Int} {n : Nat} (h : n < l.length) : l[n]? = some (l.getD n 0) := by simp [List.getD, h]

theorem mput_len (i n : Nat) (old x y out : List α) (cl : List (Nat × Nat)) : (mput i n old x y out cl).1.length ≤ out.length + old.length + x.length + y.length ∧ (mput i n old x y out cl).2.length ≤ cl.length + 1 := by
  unfold mput
  split
  · simp; omega
  · split
    · simp; omega
    · simp; omega

theorem mok {base a b : List α} {pa pb : List Int} (ha : Part base a pa) (hb : Part base b pb) : ∀ n, n ≤ base.length + 1 → Mok base a b pa pb n (mrun base a b pa pb n)
  | 0, _ => ⟨by simp [mrun], by simp [mrun], by simp [mrun], by simp [mrun], by simp [mrun], by simp [mrun], by simp [mrun], by simp [mrun], by simp [mrun]⟩
  | n + 1, hn => by
    have ih := mok ha hb n (by omega)
    rw [mrun]
    generalize mrun base a b pa pb n = s at ih
    unfold mstep
    simp only
    have hml := mput_len s.i n ((base.drop s.i).take (n - s.i)) (upto a s.j (if n < base.length then pa.getD n 0 else (a.length : Int))) (upto b s.k (if n < base.length then pb.getD n 0 else (b.length : Int))) s.out s.cl
    have hbl : (base[n]?).toList.length ≤ 1 := by cases base[n]? <;> simp
    have h1 := ih.hi
    have h2 := ih.out
    have h3 := ih.cl
    by_cases hc : n < base.length ∧ ((if n < base.length then pa.getD n 0 else (a.length : Int)) < 0 ∨ (if n < base.length then pb.getD n 0 else (b.length : Int)) < 0)
    · rw [if_pos hc]
      exact ⟨by omega, fun _ => ih.hj (by omega), fun _ => ih.hk (by omega), fun n' m h => ih.ja n' m (by omega), fun n' m h => ih.kb n' m (by omega), by omega, by omega, ih.jm, ih.km⟩
    · rw [if_neg hc]
      have hou : ((base.drop s.i).take (n - s.i)).length ≤ n - s.i := by simp; omega
      by_cases hnl : n < base.length
      · simp only [hnl, if_true, true_and, not_or, Int.not_lt] at hc hml ⊢
        have ga := getD_of (l := pa) (n := n) (by rw [ha.len]; exact hnl)
        have gb := getD_of (l := pb) (n := n) (by rw [hb.len]; exact hnl)
        rcases ha.val n _ ga with e1 | ⟨m, e1, m1, _⟩
        · omega
        rcases hb.val n _ gb with e2 | ⟨m', e2, m2, _⟩
        · omega
        rw [e1] at ga hml ⊢
        rw [e2] at gb hml ⊢
        have hja := ih.ja n m (Nat.le_refl _) hnl ga
        have hkb := ih.kb n m' (Nat.le_refl _) hnl gb
        have l1 : (upto a s.j (m : Int)).length ≤ m - s.j := by simp [upto]; omega
        have l2 : (upto b s.k (m' : Int)).length ≤ m' - s.k := by simp [upto]; omega
        refine ⟨by simp only; omega, fun _ => by simp only [Int.toNat_natCast]; omega, fun _ => by simp only [Int.toNat_natCast]; omega, fun n' q h4 h5 h6 => ?_, fun n' q h4 h5 h6 => ?_, ?_, by simp only; omega, by simp only [Int.toNat_natCast]; omega, by simp only [Int.toNat_natCast]; omega⟩
        · have := ha.inc n n' m q (by omega) ga h6
          simp only [Int.toNat_natCast]; omega
        · have := hb.inc n n' m' q (by omega) gb h6
          simp only [Int.toNat_natCast]; omega
        · simp only [List.length_append, Int.toNat_natCast]; omega
      · simp only [hnl, if_false] at hml ⊢
        have hj := ih.hj (by omega)
        have hk := ih.hk (by omega)
        have l1 : (upto a s.j (a.length : Int)).length ≤ a.length - s.j := by simp [upto]
        have l2 : (upto b s.k (b.length : Int)).length ≤ b.length - s.k := by simp [upto]
        refine ⟨by simp only; omega, fun h => by omega, fun h => by omega, fun n' q h4 h5 => by omega, fun n' q h4 h5 => by omega, ?_, by simp only; omega, by simp only [Int.toNat_natCast]; omega, by simp only [Int.toNat_natCast]; omega⟩
        simp only [List.length_append, Int.toNat_natCast]; omega

/-- the same on both sides: this one -/
theorem mrun_same {base a : List α} {pa : List Int} (ha : Part base a pa) : ∀ n, n ≤ base.length + 1 → (mrun base a a pa pa n).j = (mrun base a a pa pa n).k ∧ (mrun base a a pa pa n).out = a.take (mrun base a a pa pa n).j ∧ (mrun base a a pa pa n).cl = []
  | 0, _ => ⟨rfl, rfl, rfl⟩
  | n + 1, hn => by
    have ih := mrun_same ha n (by omega)
    have ok := mok ha ha n (by omega)
    rw [mrun]
    generalize mrun base a a pa pa n = s at ih ok
    obtain ⟨i1, i2, i3⟩ := ih
    unfold mstep
    simp only
    by_cases hc : n < base.length ∧ ((if n < base.length then pa.getD n 0 else (a.length : Int)) < 0 ∨ (if n < base.length then pa.getD n 0 else (a.length : Int)) < 0)
    · rw [if_pos hc]
      exact ⟨i1, i2, i3⟩
    · rw [if_neg hc, ← i1]
      have hp : ∀ (old x : List α), mput s.i n old x x s.out s.cl = (s.out ++ x, s.cl) := fun old x => by unfold mput; split <;> simp
      rw [hp]
      refine ⟨rfl, ?_, i3⟩
      simp only [i2]
      by_cases hnl : n < base.length
      · simp only [hnl, if_true, true_and, not_or, Int.not_lt] at hc ⊢
        have ga := getD_of (l := pa) (n := n) (by rw [ha.len]; exact hnl)
        rcases ha.val n _ ga with e1 | ⟨m, e1, m1, m2⟩
        · omega
        rw [e1] at ga ⊢
        have hja := ok.ja n m (Nat.le_refl _) hnl ga
        rw [upto_take hja, Int.toNat_natCast, take_succ_get, m2]
      · simp only [hnl, if_false]
        have hj := ok.hj (by omega)
        rw [upto_take hj, Int.toNat_natCast, List.getElem?_eq_none (by omega : base.length ≤ n), take_succ_get, List.getElem?_eq_none (Nat.le_refl _)]

/-- one side is the base: the other one -/
theorem mrun_base {base b : List α} {pa pb : List Int} (ha : Part base base pa) (hid : ∀ n, n < base.length → pa[n]? = some (n : Int)) (hb : Part base b pb) :
    ∀ n, n ≤ base.length + 1 → (mrun base base b pa pb n).j = (mrun base base b pa pb n).i ∧ (mrun base base b pa pb n).out = b.take (mrun base base b pa pb n).k ∧ (mrun base base b pa pb n).cl = []
  | 0, _ => ⟨rfl, rfl, rfl⟩
  | n + 1, hn => by
    have ih := mrun_base ha hid hb n (by omega)
    have ok := mok ha hb n (by omega)
    rw [mrun]
    generalize mrun base base b pa pb n = s at ih ok
    obtain ⟨i1, i2, i3⟩ := ih
    unfold mstep
    simp only
    by_cases hc : n < base.length ∧ ((if n < base.length then pa.getD n 0 else (base.length : Int)) < 0 ∨ (if n < base.length then pb.getD n 0 else (b.length : Int)) < 0)
    · rw [if_pos hc]
      exact ⟨i1, i2, i3⟩
    · rw [if_neg hc]
      have hp : ∀ (old y : List α), mput s.i n old old y s.out s.cl = (s.out ++ y, s.cl) := fun old y => by unfold mput; simp
      by_cases hnl : n < base.length
      · simp only [hnl, if_true, true_and, not_or, Int.not_lt] at hc ⊢
        have hg : pa.getD n 0 = n := by simp [List.getD, hid n hnl]
        have gb := getD_of (l := pb) (n := n) (by rw [hb.len]; exact hnl)
        rcases hb.val n _ gb with e1 | ⟨m, e1, m1, m2⟩
        · omega
        rw [e1] at gb ⊢
        rw [hg]
        have hkb := ok.kb n m (Nat.le_refl _) hnl gb
        have hold : upto base s.j (n : Int) = (base.drop s.i).take (n - s.i) := by rw [upto, i1, Int.toNat_natCast]
        rw [hold, hp]
        refine ⟨by simp, ?_, i3⟩
        simp only [i2]
        rw [upto_take hkb, Int.toNat_natCast, take_succ_get, m2]
      · simp only [hnl, if_false]
        have hk := ok.hk (by omega)
        have e : n = base.length := by omega
        have hold : upto base s.j (base.length : Int) = (base.drop s.i).take (n - s.i) := by rw [upto, i1, Int.toNat_natCast, e]
        rw [hold, hp]
        refine ⟨by simp [e], ?_, i3⟩
        simp only [i2]
        rw [upto_take hk, Int.toNat_natCast, List.getElem?_eq_none (by omega : base.length ≤ n), take_succ_get, List.getElem?_eq_none (Nat.le_refl _)]

/-- at the end -/
theorem mrun_end {base a b : List α} {pa pb : List Int} : (mrun base a b pa pb (base.length + 1)).j = a.length + 1 ∧ (mrun base a b pa pb (base.length + 1)).k = b.length + 1 := by
  rw [mrun]
  unfold mstep
  simp
end
end Go.Av
/- slices.Repeat of one number, and the partners of lines. The laying of math/bits.Mul is in the plain words that a tool of the kit has written; the rest is own work of this seat. -/
namespace Go.Proofs
open Go.Shelf
def Tryd.lays212_ren : Go.Shelf.Ren := ⟨fun | 212 => 48 | 263 => 71 | 264 => 72 | n => n, fun | 46 => 97 | 51 => 113 | 146 => 114 | 53 => 116 | 148 => 117 | n => n, fun | n => n⟩
theorem Tryd.lays212 : Go.Proofs.Lays.n212 Tryd.prog Tryd.lays212_ren := {
  mixed := by kernel_rfl
  f212 := Tryd.func48.trans (congrArg some (by kernel_rfl))
  f263 := Tryd.func71.trans (congrArg some (by kernel_rfl))
  f264 := Tryd.func72.trans (congrArg some (by kernel_rfl))
  t46 := Tryd.underlying97
  a46 := Tryd.isAgg97
  z46 := Tryd.sizeOf97
  v46 := Tryd.zeroValue97
  t51 := Tryd.underlying113
  a51 := Tryd.isAgg113
  z51 := Tryd.sizeOf113
  v51 := Tryd.zeroValue113
  t53 := Tryd.underlying116
  a53 := Tryd.isAgg116
  z53 := Tryd.sizeOf116
  v53 := Tryd.zeroValue116
  t146 := Tryd.underlying114
  a146 := Tryd.isAgg114
  z146 := Tryd.sizeOf114
  v146 := Tryd.zeroValue114
  t148 := Tryd.underlying117
  a148 := Tryd.isAgg117
  z148 := Tryd.sizeOf117
  v148 := Tryd.zeroValue117 }
end Go.Proofs
set_option maxRecDepth 100000
set_option linter.unusedSimpArgs false
set_option linter.unusedVariables false
namespace Go.Proofs.YtpjbbpilgfihbaaDoor
open Go Go.Av Go.RowKit
attribute [local go_sem ↓] br_true br_false dbr_true dbr_false
attribute [local go_sem] run cont br dbr dx dxc dgrd dyld dres dcall calm fieldPlace? allHas step1 opN grdN resN condN exitN stopN exitIt dOk xop xbin xint xarith xstr xbool xpick xnot xneg xextract xpart xpartOk xindex xfieldF fieldD xnew xbox xalloc xfieldAddr xptrAddIf xindexAddr xloadC xload putCells reElem xstoreB xstore xconv xtext xlen xlen2 xcall xfill xbuild cut rep xbuildSlice xbuildSliceD isRow elemD isU8 ev evs evp Go.Av.put Go.Av.get ofConst yldD yldV args0 cellsOf cond_true cond_false decide_true decide_false decide_eq_true_eq decide_eq_false_iff_not List.getElem?_cons_zero List.getElem?_cons_succ List.getElem?_nil List.getD_cons_zero List.getD_cons_succ List.getD_nil List.set_cons_zero List.set_cons_succ List.length_cons List.length_nil List.cons_append List.nil_append List.append_nil List.all_cons List.all_nil List.map_cons List.map_nil List.take_succ_cons List.take_zero List.drop_succ_cons List.drop_zero Bool.and_true Bool.true_and Bool.and_self Bool.and_false Bool.false_and one Go.Av.frozen beq_self_eq_true true_and and_true forall_const false_implies implies_true and_self Option.map_some Option.map_none Nat.zero_add Nat.add_zero Nat.zero_mul Nat.mul_one Nat.one_mul Int.toNat_zero ne_eq not_false_eq_true not_true_eq_false Bool.true_eq_false Bool.false_eq_true List.toList_toArray inr Go.Av.byteOf isByte decide_eq_decide Bool.not_true Bool.not_false Bool.not_eq_true' Bool.or_true Bool.true_or Bool.or_false Bool.false_or ge_iff_le gt_iff_lt and_assoc Bool.decide_eq_true beq_iff_eq beq_eq_false_iff_ne bne_iff_ne bne_self_eq_false if_true if_false Bool.and_eq_true Bool.or_eq_true Bool.and_eq_false_imp Bool.or_eq_false_iff Bool.not_eq_false' has Option.isSome_some Option.isSome_none Int.toNat_natCast Int.cast_ofNat_Int List.length_append xapp2 xapp xappS xappD xappB notInt srcOf srcB byteAV splice' xcut xcutS xcutF xcutB xcutN xcut0 cutL loOf hiOf evo xmake zelem xmax xcopy2 xcopyS xcopyB xnil xcut3 ixOf xclear2 xclearB List.getElem?_toArray xbin2 xnileq xempty xmkmap xmput xmputB xmputF isKey keyEq mfind xbin3 xeqs xeqop eqFs bothB leafEq

theorem b48 : hasBody Tryd.prog 48 = true := by kernel_rfl
theorem b33 : hasBody Tryd.prog 33 = true := by kernel_rfl

theorem mul_pc (x y : Nat) (h : x * y < 18446744073709551616) (hx : x < 18446744073709551616) (hy : y < 18446744073709551616) : Pc Tryd.prog 48 [.int .u64 x, .int .u64 y] (· = .tup [.int .u64 0, .int .u64 (x * y : Nat)]) :=
  pc_lib [.int .u64 x, .int .u64 y] (.tuple #[.int .u64 0, .int .u64 (x * y : Nat)]) b48
    (fun h vs' r => by cases r with | cons r1 r => cases r with | cons r2 r => cases r; rw [rv_int r1, rv_int r2]) (fun h => .tup [_, _] [_, _] (.cons (.int _ _) (.cons (.int _ _) .nil)))
    fun w => (Any.bits_Mul Tryd.lays212 x y hx hy w).mono fun e w' ⟨h1, h2⟩ => by
      subst h2
      rw [Nat.div_eq_of_lt h, Nat.mod_eq_of_lt h] at h1
      exact ⟨h1, .refl w'⟩

def fillL (v : AV) (z : AV) (n m : Nat) : List AV := List.replicate m v ++ List.replicate (n - m) z
theorem fillL_len {v z : AV} {n m : Nat} (h : m ≤ n) : (fillL v z n m).length = n := by simp [fillL]; omega
theorem za3 : zav Tryd.prog 3 = [.int .i64 0] := by kernel_rfl
theorem tb3 : tbytes Tryd.prog 3 = 8 := by kernel_rfl

theorem wrap_u {n : Int} (h0 : 0 ≤ n) (h1 : n < 18446744073709551616) : IntKind.u64.wrap n = n := IntWalk.u64_in n ⟨h0, by omega⟩
theorem fill_start (v z : AV) (n : Nat) : List.take n [v] ++ List.drop (List.take n [v]).length (List.replicate n z) = fillL v z n (min 1 n) := by
  cases n with
  | zero => rfl
  | succ n =>
    simp only [List.take_succ_cons, List.take_nil, List.length_cons, List.length_nil, fillL, Nat.min_eq_left (Nat.le_add_left 1 n), List.drop_replicate]
    rfl
theorem fill_next {v z : AV} {n m : Nat} (h : m ≤ n) : (fillL v z n m).take m ++ ((fillL v z n m).take m).take (n - m) ++ (fillL v z n m).drop (m + (((fillL v z n m).take m).take (n - m)).length) = fillL v z n (m + min m (n - m)) := by
  have e1 : (fillL v z n m).take m = List.replicate m v := by rw [fillL, List.take_append_of_le_length (by simp), List.take_replicate, Nat.min_self]
  rw [e1, List.take_replicate, List.length_replicate, fillL]
  have e2 : List.drop (m + min (n - m) m) (List.replicate m v ++ List.replicate (n - m) z) = List.replicate (n - (m + min m (n - m))) z := by
    rw [List.drop_append, List.drop_replicate, List.drop_replicate, List.length_replicate]
    rw [show m - (m + min (n - m) m) = 0 by omega, show m + min (n - m) m - m = min (n - m) m by omega, List.replicate_zero, List.nil_append]
    congr 1
    omega
  rw [e2, fillL, List.replicate_append_replicate]
  congr 2
  omega

theorem repeat_ct (v : Int) (n : Nat) (hn : n ≤ 1000000) : Ct Tryd.prog 33 [.fz 1 [.int .i64 v], .int .i64 n] [] (fun r s => r = .sl 0 0 n n ∧ s = [.arr 1 (List.replicate n (.int .i64 v))]) := by
  refine ct_intro Tryd.func33 rfl Tryd.ntmps33 b33 (by simp) fun h ρ w => go (N := 48) Tryd.ntmps33 300 ?_
  have d0 : decide ((n : Int) < 0) = false := by simp
  simp only [go_sem, Nat.reduceAdd, Nat.reduceMul, Nat.reduceSub, Nat.reduceBEq, Nat.reduceLT, Nat.reduceLeDiff, reduceIte, reduceCtorEq, Int.reduceToNat, Int.reduceLE, Int.reduceLT, Int.reduceNe, Int.reduceMul, Int.reduceAdd, Int.reduceSub, Int.reduceDiv, Int.reduceMod, Int.reduceEq, Int.reduceGE, Int.reduceGT, Int.reduceNeg, Int.reduceBEq, Int.reduceBNe, Nat.reduceEqDiff, d0, ts3, za3, tb3, Tryd.underlying3, Tryd.underlying4, Tryd.underlying22, Tryd.underlying97]
  refine ⟨rfl, wrap_u (by omega) (by omega), ?_⟩
  refine pcall1 (mul_pc 1 n (by omega) (by omega) (by omega)) rfl (N := 48) Tryd.ntmps33 rfl (go (N := 48) Tryd.ntmps33 300 ?_)
  have d1 : decide (9223372036854775807 < (n : Int)) = false := by simp; omega
  simp only [go_sem, Nat.reduceAdd, Nat.reduceMul, Nat.reduceSub, Nat.reduceBEq, Nat.reduceLT, Nat.reduceLeDiff, reduceIte, reduceCtorEq, Int.reduceToNat, Int.reduceLE, Int.reduceLT, Int.reduceNe, Int.reduceMul, Int.reduceAdd, Int.reduceSub, Int.reduceDiv, Int.reduceMod, Int.reduceEq, Int.reduceGE, Int.reduceGT, Int.reduceNeg, Int.reduceBEq, Int.reduceBNe, Nat.reduceEqDiff, d0, d1, ts3, za3, tb3, Tryd.underlying3, Tryd.underlying4, Tryd.underlying22, Tryd.underlying97]
  have e0 : (List.replicate n (AV.int .i64 0)).length = n := by simp
  rw [fill_start]
  repeat refine And.intro (by first | omega | rfl) ?_
  refine aloop (ι := Nat) (fun m => n - m) (fun m => [(8, .int .i64 m), (7, .sl 0 0 n n)]) (fun m => [.arr 1 (fillL (.int .i64 v) (.int .i64 0) n m)]) (fun m => m ≤ n ∧ (0 < n → 0 < m)) (min 1 n) ⟨by omega, by omega⟩ ?_ ?_
  · refine Shift.weak ?_
    simp only [wk, go_sem, Nat.reduceAdd, Nat.reduceMul, Nat.reduceSub, Nat.reduceBEq, Nat.reduceLT, Nat.reduceLeDiff, reduceIte, reduceCtorEq, Int.reduceToNat, Int.reduceLE, Int.reduceLT, Int.reduceNe, Int.reduceMul, Int.reduceAdd, Int.reduceSub, Int.reduceDiv, Int.reduceMod, Int.reduceEq, Int.reduceGE, Int.reduceGT, Int.reduceNeg, Int.reduceBEq, Int.reduceBNe, Nat.reduceEqDiff]
  · rintro m ⟨m1, m2⟩ J hJ
    refine go (N := 48) Tryd.ntmps33 300 ?_
    have hl := fillL_len (v := .int .i64 v) (z := .int .i64 0) m1
    by_cases hm : (m : Int) < n
    · simp only [go_sem, Nat.reduceAdd, Nat.reduceMul, Nat.reduceSub, Nat.reduceBEq, Nat.reduceLT, Nat.reduceLeDiff, reduceIte, reduceCtorEq, Int.reduceToNat, Int.reduceLE, Int.reduceLT, Int.reduceNe, Int.reduceMul, Int.reduceAdd, Int.reduceSub, Int.reduceDiv, Int.reduceMod, Int.reduceEq, Int.reduceGE, Int.reduceGT, Int.reduceNeg, Int.reduceBEq, Int.reduceBNe, Nat.reduceEqDiff, hm, hl, ts3, za3, tb3, Tryd.underlying3, Tryd.underlying4, Tryd.underlying22, Tryd.underlying97]
      repeat refine And.intro (by first | omega | rfl) ?_
      refine adraw [] mixed (by decide) (N := 48) Tryd.ntmps33 (by decide) 100 ?_
      have k1 : ((n : Int) - m).toNat = n - m := by omega
      have k2 : ((fillL (.int .i64 v) (.int .i64 0) n m).take m).length = m := by rw [List.length_take, hl]; omega
      simp only [go_sem, Nat.reduceAdd, Nat.reduceMul, Nat.reduceSub, Nat.reduceBEq, Nat.reduceLT, Nat.reduceLeDiff, reduceIte, reduceCtorEq, Int.reduceToNat, Int.reduceLE, Int.reduceLT, Int.reduceNe, Int.reduceMul, Int.reduceAdd, Int.reduceSub, Int.reduceDiv, Int.reduceMod, Int.reduceEq, Int.reduceGE, Int.reduceGT, Int.reduceNeg, Int.reduceBEq, Int.reduceBNe, Nat.reduceEqDiff, hl, k1, k2, Int.sub_zero, Nat.sub_zero, ts3, za3, tb3, Tryd.underlying3, Tryd.underlying4, Tryd.underlying22, Tryd.underlying97]
      repeat refine And.intro (by first | omega | rfl | exact .inl trivial) ?_
      refine go (N := 48) Tryd.ntmps33 300 ?_
      simp only [go_sem, Nat.reduceAdd, Nat.reduceMul, Nat.reduceSub, Nat.reduceBEq, Nat.reduceLT, Nat.reduceLeDiff, reduceIte, reduceCtorEq, Int.reduceToNat, Int.reduceLE, Int.reduceLT, Int.reduceNe, Int.reduceMul, Int.reduceAdd, Int.reduceSub, Int.reduceDiv, Int.reduceMod, Int.reduceEq, Int.reduceGE, Int.reduceGT, Int.reduceNeg, Int.reduceBEq, Int.reduceBNe, Nat.reduceEqDiff]
      rw [fill_next m1, show (m : Int) + (min m (n - m) : Nat) = ((m + min m (n - m) : Nat) : Int) by omega]
      refine ainv (hJ (m + min m (n - m)) ⟨by omega, by omega⟩ (by omega)) (Shift.weak ?_)
      simp only [wk, go_sem, Nat.reduceAdd, Nat.reduceMul, Nat.reduceSub, Nat.reduceBEq, Nat.reduceLT, Nat.reduceLeDiff, reduceIte, reduceCtorEq, Int.reduceToNat, Int.reduceLE, Int.reduceLT, Int.reduceNe, Int.reduceMul, Int.reduceAdd, Int.reduceSub, Int.reduceDiv, Int.reduceMod, Int.reduceEq, Int.reduceGE, Int.reduceGT, Int.reduceNeg, Int.reduceBEq, Int.reduceBNe, Nat.reduceEqDiff]
    · simp only [go_sem, Nat.reduceAdd, Nat.reduceMul, Nat.reduceSub, Nat.reduceBEq, Nat.reduceLT, Nat.reduceLeDiff, reduceIte, reduceCtorEq, Int.reduceToNat, Int.reduceLE, Int.reduceLT, Int.reduceNe, Int.reduceMul, Int.reduceAdd, Int.reduceSub, Int.reduceDiv, Int.reduceMod, Int.reduceEq, Int.reduceGE, Int.reduceGT, Int.reduceNeg, Int.reduceBEq, Int.reduceBNe, Nat.reduceEqDiff, hm, hl, ts3, za3, tb3, Tryd.underlying3, Tryd.underlying4, Tryd.underlying22, Tryd.underlying97]
      have e : m = n := by omega
      subst e
      refine aret [4] rfl ⟨rfl, ?_⟩
      simp [fillL]

theorem b22 : hasBody Tryd.prog 22 = true := by kernel_rfl
theorem ts54' : tsize Tryd.prog 54 = 2 := by kernel_rfl

theorem rise_lt {α : Type} {a b : List α} : ∀ {ps : List (Nat × Nat)} {i j : Nat}, Rise a b i j ps → ∀ p ∈ ps, p.1 < a.length ∧ p.2 < b.length
  | [], _, _, _, p, hp => by cases hp
  | q :: r, _, _, h, p, hp => by
    rcases List.mem_cons.1 hp with rfl | hp
    · exact ⟨h.2.2.1, h.2.2.2.1⟩
    · exact rise_lt h.2.2.2.2.2 p hp

theorem setAll_take {ps : List (Nat × Nat)} : ∀ {l : List Int} {t : Nat} (h : t < ps.length), setAll l (ps.take (t + 1)) = (setAll l (ps.take t)).set ps[t].1 (ps[t].2 : Nat) := by
  induction ps with
  | nil => intro l t h; simp at h
  | cons p r ih =>
    intro l t h
    cases t with
    | zero => simp [setAll]
    | succ t => simp only [List.take_succ_cons, setAll, List.getElem_cons_succ]; exact ih (by simpa using h)

def ints (l : List Int) : List AV := l.map (.int .i64)
theorem ints_len (l : List Int) : (ints l).length = l.length := by simp [ints]
theorem ints_set (l : List Int) (i : Nat) (v : Int) : (ints l).set i (.int .i64 v) = ints (l.set i v) := by simp [ints]

theorem ints_get {l : List Int} {i : Nat} (h : i < l.length) : (ints l).getD i .any = .int .i64 (l.getD i 0) := by simp [ints, List.getD, h]
theorem ints_frz (l : List Int) : dry (.arr 1 (ints l)) = true := by
  simp only [dry]
  induction l with
  | nil => rfl
  | cons x l ih => simpa [ints, flat, cellsOf, Av.frozen] using ih
theorem prs_frz (l : List (Nat × Nat)) : (flat (prs l)).all Av.frozen = true := by
  induction l with
  | nil => rfl
  | cons x l ih => simpa [prs, flat, cellsOf, Av.frozen] using ih
theorem pairs_pc (a b : List (List UInt8)) (ha : a.length ≤ 3000) (hb : b.length ≤ 3000) : Pc Tryd.prog 20 [.fz 1 (strs a), .fz 1 (strs b)] (· = .fz 2 (prs (pairsL a b))) :=
  pc_of_ct (by simp [prs_len]) (prs_frz _) (pairs_ct a b ha hb)

theorem partner_pc (a b : List (List UInt8)) (ha : a.length ≤ 3000) (hb : b.length ≤ 3000) : Pc Tryd.prog 22 [.fz 1 (strs a), .fz 1 (strs b)] (· = .fz 1 (ints (partL a (pairsL a b)))) := by
  refine pc_intro (ct_intro Tryd.func22 rfl Tryd.ntmps22 b22 (by simp) fun h ρ w => goF (N := 28) Tryd.ntmps22 300 ?_)
  simp only [go_sem, Nat.reduceAdd, Nat.reduceMul, Nat.reduceSub, Nat.reduceBEq, Nat.reduceLT, Nat.reduceLeDiff, reduceIte, reduceCtorEq, Int.reduceToNat, Int.reduceLE, Int.reduceLT, Int.reduceNe, Int.reduceMul, Int.reduceAdd, Int.reduceSub, Int.reduceDiv, Int.reduceMod, Int.reduceEq, Int.reduceGE, Int.reduceGT, Int.reduceNeg, Int.reduceBEq, Int.reduceBNe, Nat.reduceEqDiff, strs_len, ts3, za3, tb3, Tryd.underlying3, Tryd.underlying4, Tryd.underlying22, Tryd.underlying26]
  refine acall (repeat_ct (-1) a.length (by omega)) (N := 28) Tryd.ntmps22 rfl ?_
  rintro _ _ ⟨rfl, rfl⟩
  refine go (N := 28) Tryd.ntmps22 300 ?_
  simp only [go_sem, Nat.reduceAdd, Nat.reduceMul, Nat.reduceSub, Nat.reduceBEq, Nat.reduceLT, Nat.reduceLeDiff, reduceIte, reduceCtorEq, Int.reduceToNat, Int.reduceLE, Int.reduceLT, Int.reduceNe, Int.reduceMul, Int.reduceAdd, Int.reduceSub, Int.reduceDiv, Int.reduceMod, Int.reduceEq, Int.reduceGE, Int.reduceGT, Int.reduceNeg, Int.reduceBEq, Int.reduceBNe, Nat.reduceEqDiff, strs_len, ts3, za3, tb3, Tryd.underlying3, Tryd.underlying4, Tryd.underlying22, Tryd.underlying26, Tryd.underlying52]
  refine pcall1 (pairs_pc a b ha hb) rfl (N := 28) Tryd.ntmps22 rfl (go (N := 28) Tryd.ntmps22 300 ?_)
  simp only [go_sem, Nat.reduceAdd, Nat.reduceMul, Nat.reduceSub, Nat.reduceBEq, Nat.reduceLT, Nat.reduceLeDiff, reduceIte, reduceCtorEq, Int.reduceToNat, Int.reduceLE, Int.reduceLT, Int.reduceNe, Int.reduceMul, Int.reduceAdd, Int.reduceSub, Int.reduceDiv, Int.reduceMod, Int.reduceEq, Int.reduceGE, Int.reduceGT, Int.reduceNeg, Int.reduceBEq, Int.reduceBNe, Nat.reduceEqDiff, prs_len, ts3, za3, tb3, Tryd.underlying3, Tryd.underlying4, Tryd.underlying22, Tryd.underlying26, Tryd.underlying52]
  have e0 : List.replicate a.length (AV.int .i64 (-1)) = ints (setAll (List.replicate a.length (-1)) ((pairsL a b).take 0)) := by simp [ints, setAll]
  rw [e0]
  refine aloop (ι := Nat) (fun t => (pairsL a b).length - t)
    (fun t => [(16, .int .i64 t), (15, .int .i64 (pairsL a b).length), (14, .fz 2 (prs (pairsL a b))), (5, .sl 0 0 a.length a.length)])
    (fun t => [.arr 1 (ints (setAll (List.replicate a.length (-1)) ((pairsL a b).take t)))]) (fun t => t ≤ (pairsL a b).length) 0 (by omega) ?_ ?_
  · refine Shift.weak ?_
    simp only [wk, go_sem, Nat.reduceAdd, Nat.reduceMul, Nat.reduceSub, Nat.reduceBEq, Nat.reduceLT, Nat.reduceLeDiff, reduceIte, reduceCtorEq, Int.reduceToNat, Int.reduceLE, Int.reduceLT, Int.reduceNe, Int.reduceMul, Int.reduceAdd, Int.reduceSub, Int.reduceDiv, Int.reduceMod, Int.reduceEq, Int.reduceGE, Int.reduceGT, Int.reduceNeg, Int.reduceBEq, Int.reduceBNe, Nat.reduceEqDiff]
  · rintro t g1 J hJ
    have hlen : (setAll (List.replicate a.length (-1)) ((pairsL a b).take t)).length = a.length := by rw [setAll_len]; simp
    have hil := ints_len (setAll (List.replicate a.length (-1)) ((pairsL a b).take t))
    rw [hlen] at hil
    refine go (N := 28) Tryd.ntmps22 300 ?_
    by_cases ht : (t : Int) < (pairsL a b).length
    · have htl : t < (pairsL a b).length := by omega
      have hg := prs_get htl
      have hx := setAll_take (l := List.replicate a.length (-1)) htl
      have hlt := rise_lt (pairsL_rise a b) _ (List.getElem_mem htl)
      generalize (pairsL a b)[t] = pt at hg hx hlt
      have hgi := ints_get (l := setAll (List.replicate a.length (-1)) ((pairsL a b).take t)) (i := pt.1) (by rw [hlen]; exact hlt.1)
      simp only [go_sem, Nat.reduceAdd, Nat.reduceMul, Nat.reduceSub, Nat.reduceBEq, Nat.reduceLT, Nat.reduceLeDiff, reduceIte, reduceCtorEq, Int.reduceToNat, Int.reduceLE, Int.reduceLT, Int.reduceNe, Int.reduceMul, Int.reduceAdd, Int.reduceSub, Int.reduceDiv, Int.reduceMod, Int.reduceEq, Int.reduceGE, Int.reduceGT, Int.reduceNeg, Int.reduceBEq, Int.reduceBNe, Nat.reduceEqDiff, ht, hg, hgi, hil, prs_len, strs_len, ints_set, ts3, ts54', za54, za3, tb3, Tryd.underlying3, Tryd.underlying4, Tryd.underlying22, Tryd.underlying26, Tryd.underlying52, Tryd.underlying54]
      rw [← hx, show (t : Int) + 1 = ((t + 1 : Nat) : Int) by omega]
      have hpl : (pairsL a b).length ≤ 3000 := by
        have h1 := keptL_len a b 0 0
        have h2 := keptL_len b a 0 0
        unfold pairsL
        split
        · omega
        · rw [List.length_map]; omega
      repeat refine And.intro (by first | omega | rfl | exact .inl trivial) ?_
      refine ainv (hJ (t + 1) (by omega) (by omega)) (Shift.only 0 0 (Nat.le_refl _) (Nat.le_refl _) rfl (by simp) (ints_frz _) rfl ?_)
      simp [wkg, okg, go_sem, Nat.reduceAdd, Nat.reduceMul, Nat.reduceSub, Nat.reduceBEq, Nat.reduceLT, Nat.reduceLeDiff, reduceIte, reduceCtorEq, Int.reduceToNat, Int.reduceLE, Int.reduceLT, Int.reduceNe, Int.reduceMul, Int.reduceAdd, Int.reduceSub, Int.reduceDiv, Int.reduceMod, Int.reduceEq, Int.reduceGE, Int.reduceGT, Int.reduceNeg, Int.reduceBEq, Int.reduceBNe, Nat.reduceEqDiff, Av.frozen]
    · simp only [go_sem, Nat.reduceAdd, Nat.reduceMul, Nat.reduceSub, Nat.reduceBEq, Nat.reduceLT, Nat.reduceLeDiff, reduceIte, reduceCtorEq, Int.reduceToNat, Int.reduceLE, Int.reduceLT, Int.reduceNe, Int.reduceMul, Int.reduceAdd, Int.reduceSub, Int.reduceDiv, Int.reduceMod, Int.reduceEq, Int.reduceGE, Int.reduceGT, Int.reduceNeg, Int.reduceBEq, Int.reduceBNe, Nat.reduceEqDiff, ht, hil, prs_len, strs_len, ts3, za3, tb3, Tryd.underlying3, Tryd.underlying4, Tryd.underlying22, Tryd.underlying26, Tryd.underlying52]
      have e : t = (pairsL a b).length := by omega
      subst e
      rw [List.take_length] at hil ⊢
      refine ARet.shift (Shift.freeze 4 (id := 0) rfl rfl (by simp [hil]) (Nat.le_refl _) (ints_frz _)) (aret [4] rfl ⟨?_, rfl⟩)
      simp [resV, Av.get, Av.put, partL, List.take_of_length_le, hil]
end Go.Proofs.YtpjbbpilgfihbaaDoor
/- Equality of lists of clashes; Merge. Own work of this seat. -/
set_option maxRecDepth 100000
set_option linter.unusedSimpArgs false
set_option linter.unusedVariables false
namespace Go.Proofs.YtpjbbpilgfihbaaDoor
open Go Go.Av Go.RowKit
attribute [local go_sem ↓] br_true br_false dbr_true dbr_false
attribute [local go_sem] run cont br dbr dx dxc dgrd dyld dres dcall calm fieldPlace? allHas step1 opN grdN resN condN exitN stopN exitIt dOk xop xbin xint xarith xstr xbool xpick xnot xneg xextract xpart xpartOk xindex xfieldF fieldD xnew xbox xalloc xfieldAddr xptrAddIf xindexAddr xloadC xload putCells reElem xstoreB xstore xconv xtext xlen xlen2 xcall xfill xbuild cut rep xbuildSlice xbuildSliceD isRow elemD isU8 ev evs evp Go.Av.put Go.Av.get ofConst yldD yldV args0 cellsOf cond_true cond_false decide_true decide_false decide_eq_true_eq decide_eq_false_iff_not List.getElem?_cons_zero List.getElem?_cons_succ List.getElem?_nil List.getD_cons_zero List.getD_cons_succ List.getD_nil List.set_cons_zero List.set_cons_succ List.length_cons List.length_nil List.cons_append List.nil_append List.append_nil List.all_cons List.all_nil List.map_cons List.map_nil List.take_succ_cons List.take_zero List.drop_succ_cons List.drop_zero Bool.and_true Bool.true_and Bool.and_self Bool.and_false Bool.false_and one Go.Av.frozen beq_self_eq_true true_and and_true forall_const false_implies implies_true and_self Option.map_some Option.map_none Nat.zero_add Nat.add_zero Nat.zero_mul Nat.mul_one Nat.one_mul Int.toNat_zero ne_eq not_false_eq_true not_true_eq_false Bool.true_eq_false Bool.false_eq_true List.toList_toArray inr Go.Av.byteOf isByte decide_eq_decide Bool.not_true Bool.not_false Bool.not_eq_true' Bool.or_true Bool.true_or Bool.or_false Bool.false_or ge_iff_le gt_iff_lt and_assoc Bool.decide_eq_true beq_iff_eq beq_eq_false_iff_ne bne_iff_ne bne_self_eq_false if_true if_false Bool.and_eq_true Bool.or_eq_true Bool.and_eq_false_imp Bool.or_eq_false_iff Bool.not_eq_false' has Option.isSome_some Option.isSome_none Int.toNat_natCast Int.cast_ofNat_Int List.length_append xapp2 xapp xappS xappD xappB notInt srcOf srcB byteAV splice' xcut xcutS xcutF xcutB xcutN xcut0 cutL loOf hiOf evo xmake zelem xmax xcopy2 xcopyS xcopyB xnil xcut3 ixOf xclear2 xclearB List.getElem?_toArray xbin2 xnileq xempty xmkmap xmput xmputB xmputF isKey keyEq mfind xbin3 xeqs xeqop eqFs bothB leafEq

theorem b12 : hasBody Tryd.prog 12 = true := by kernel_rfl
theorem b11 : hasBody Tryd.prog 11 = true := by kernel_rfl
theorem ts45 : tsize Tryd.prog 45 = 2 := by kernel_rfl
theorem za45 : zav Tryd.prog 45 = [.int .i64 0, .int .i64 0] := by kernel_rfl
theorem tb45 : tbytes Tryd.prog 45 = 16 := by kernel_rfl
theorem eq45 : eqPlain Tryd.prog 45 = true := by kernel_rfl

theorem clash_pc (l : List (Nat × Nat)) (hl : l.length ≤ 1000000) : Pc Tryd.prog 12 [.fz 2 (prs l), .fz 2 (prs l)] (· = .bool true) := by
  refine pc_intro (ct_intro Tryd.func12 rfl Tryd.ntmps12 b12 (by simp) fun h ρ w => go (N := 26) Tryd.ntmps12 300 ?_)
  simp only [go_sem, Nat.reduceAdd, Nat.reduceMul, Nat.reduceSub, Nat.reduceBEq, Nat.reduceLT, Nat.reduceLeDiff, reduceIte, reduceCtorEq, Int.reduceToNat, Int.reduceLE, Int.reduceLT, Int.reduceNe, Int.reduceMul, Int.reduceAdd, Int.reduceSub, Int.reduceDiv, Int.reduceMod, Int.reduceEq, Int.reduceGE, Int.reduceGT, Int.reduceNeg, Int.reduceBEq, Int.reduceBNe, Nat.reduceEqDiff, prs_len, Tryd.underlying3, Tryd.underlying4, Tryd.underlying40]
  refine aloop (ι := Nat) (fun t => l.length - t) (fun t => [(13, .int .i64 t), (12, .int .i64 l.length), (0, .fz 2 (prs l)), (1, .fz 2 (prs l))]) (fun _ => []) (fun t => t ≤ l.length) 0 (by omega) ?_ ?_
  · refine Shift.weak ?_
    simp only [wk, go_sem, Nat.reduceAdd, Nat.reduceMul, Nat.reduceSub, Nat.reduceBEq, Nat.reduceLT, Nat.reduceLeDiff, reduceIte, reduceCtorEq, Int.reduceToNat, Int.reduceLE, Int.reduceLT, Int.reduceNe, Int.reduceMul, Int.reduceAdd, Int.reduceSub, Int.reduceDiv, Int.reduceMod, Int.reduceEq, Int.reduceGE, Int.reduceGT, Int.reduceNeg, Int.reduceBEq, Int.reduceBNe, Nat.reduceEqDiff]
  · rintro t g1 J hJ
    refine go (N := 26) Tryd.ntmps12 300 ?_
    by_cases ht : (t : Int) < l.length
    · have htl : t < l.length := by omega
      have hg := prs_get htl
      generalize l[t] = pt at hg
      simp only [go_sem, Nat.reduceAdd, Nat.reduceMul, Nat.reduceSub, Nat.reduceBEq, Nat.reduceLT, Nat.reduceLeDiff, reduceIte, reduceCtorEq, Int.reduceToNat, Int.reduceLE, Int.reduceLT, Int.reduceNe, Int.reduceMul, Int.reduceAdd, Int.reduceSub, Int.reduceDiv, Int.reduceMod, Int.reduceEq, Int.reduceGE, Int.reduceGT, Int.reduceNeg, Int.reduceBEq, Int.reduceBNe, Nat.reduceEqDiff, ht, hg, prs_len, Tryd.underlying3, Tryd.underlying4, Tryd.underlying40]
      refine adraw [] mixed (by decide) (N := 26) Tryd.ntmps12 (by decide) 100 ?_
      simp only [go_sem, Nat.reduceAdd, Nat.reduceMul, Nat.reduceSub, Nat.reduceBEq, Nat.reduceLT, Nat.reduceLeDiff, reduceIte, reduceCtorEq, Int.reduceToNat, Int.reduceLE, Int.reduceLT, Int.reduceNe, Int.reduceMul, Int.reduceAdd, Int.reduceSub, Int.reduceDiv, Int.reduceMod, Int.reduceEq, Int.reduceGE, Int.reduceGT, Int.reduceNeg, Int.reduceBEq, Int.reduceBNe, Nat.reduceEqDiff, hg, prs_len, ts45, eq45, Tryd.underlying3, Tryd.underlying4, Tryd.underlying40, Tryd.underlying45]
      repeat refine And.intro (by first | omega | rfl | exact .inl trivial) ?_
      refine go (N := 26) Tryd.ntmps12 300 ?_
      simp only [go_sem, Nat.reduceAdd, Nat.reduceMul, Nat.reduceSub, Nat.reduceBEq, Nat.reduceLT, Nat.reduceLeDiff, reduceIte, reduceCtorEq, Int.reduceToNat, Int.reduceLE, Int.reduceLT, Int.reduceNe, Int.reduceMul, Int.reduceAdd, Int.reduceSub, Int.reduceDiv, Int.reduceMod, Int.reduceEq, Int.reduceGE, Int.reduceGT, Int.reduceNeg, Int.reduceBEq, Int.reduceBNe, Nat.reduceEqDiff, Tryd.underlying3, Tryd.underlying4, Tryd.underlying40]
      rw [show (t : Int) + 1 = ((t + 1 : Nat) : Int) by omega]
      repeat refine And.intro (by first | omega | rfl | exact .inl trivial) ?_
      refine ainv (hJ (t + 1) (by omega) (by omega)) (Shift.weak ?_)
      simp only [wk, go_sem, Nat.reduceAdd, Nat.reduceMul, Nat.reduceSub, Nat.reduceBEq, Nat.reduceLT, Nat.reduceLeDiff, reduceIte, reduceCtorEq, Int.reduceToNat, Int.reduceLE, Int.reduceLT, Int.reduceNe, Int.reduceMul, Int.reduceAdd, Int.reduceSub, Int.reduceDiv, Int.reduceMod, Int.reduceEq, Int.reduceGE, Int.reduceGT, Int.reduceNeg, Int.reduceBEq, Int.reduceBNe, Nat.reduceEqDiff]
    · simp only [go_sem, Nat.reduceAdd, Nat.reduceMul, Nat.reduceSub, Nat.reduceBEq, Nat.reduceLT, Nat.reduceLeDiff, reduceIte, reduceCtorEq, Int.reduceToNat, Int.reduceLE, Int.reduceLT, Int.reduceNe, Int.reduceMul, Int.reduceAdd, Int.reduceSub, Int.reduceDiv, Int.reduceMod, Int.reduceEq, Int.reduceGE, Int.reduceGT, Int.reduceNeg, Int.reduceBEq, Int.reduceBNe, Nat.reduceEqDiff, ht, prs_len, Tryd.underlying3, Tryd.underlying4, Tryd.underlying40]
      exact aret [4] rfl ⟨rfl, rfl⟩

theorem strs_snoc (l : List (List UInt8)) (x : List UInt8) : strs l ++ [.str x] = strs (l ++ [x]) := by simp
theorem prs_snoc (l : List (Nat × Nat)) (x y : Nat) : prs l ++ [.agg [.int .i64 x, .int .i64 y]] = prs (l ++ [(x, y)]) := by simp [prs]
theorem take1_dry (l : List (List UInt8)) (r : List Blk) : (List.take 1 (Blk.arr 1 (strs l) :: r)).all dry = true := by
  simp only [List.take_succ_cons, List.take_zero, List.all_cons, List.all_nil, Bool.and_true, dry]
  exact strs_frz l
/-- large, of memory of one's own, beside another block -/
theorem large_own2 (l : List (List UInt8)) (B : Blk) : Ct Tryd.prog 19 [.sl 0 0 l.length l.length] [.arr 1 (strs l), B] (fun r s => r = .bool (decide (3000 < l.length)) ∧ s = [.arr 1 (strs l), B]) := by
  refine ct_intro Tryd.func19 rfl Tryd.ntmps19 hb19 (by simp) fun h ρ w => go (N := 6) Tryd.ntmps19 200 ?_
  simp only [go_sem, Nat.reduceAdd, Nat.reduceMul, Nat.reduceSub, Nat.reduceBEq, Nat.reduceLT, Nat.reduceLeDiff, reduceIte, reduceCtorEq, Int.reduceToNat, Int.reduceLE, Int.reduceLT, Int.reduceNe, Int.reduceMul, Int.reduceAdd, Int.reduceSub, Int.reduceDiv, Int.reduceMod, Int.reduceEq, Int.reduceGE, Int.reduceGT, Int.reduceNeg, Int.reduceBEq, Int.reduceBNe, Nat.reduceEqDiff, strs_len, Tryd.underlying3, Tryd.underlying4, Tryd.underlying26]
  refine aret [2] rfl ⟨?_, rfl⟩
  simp [resV, Av.get]
  omega

set_option maxHeartbeats 4000000 in
theorem merge_pc (base a b : List (List UInt8)) (h0 : base.length ≤ 900) (ha : a.length ≤ 900) (hb : b.length ≤ 900) (pa pb : List Int) (epa : pa = partL base (pairsL base a)) (epb : pb = partL base (pairsL base b)) :
    Pc Tryd.prog 11 [.fz 1 (strs base), .fz 1 (strs a), .fz 1 (strs b)] (· = .tup [.fz 1 (strs (mrun base a b pa pb (base.length + 1)).out), .fz 2 (prs (mrun base a b pa pb (base.length + 1)).cl), .int .i64 0]) := by
  have qa : Part base a pa := by rw [epa]; exact part_of_rise (pairsL_rise base a)
  have qb : Part base b pb := by rw [epb]; exact part_of_rise (pairsL_rise base b)
  refine pc_intro (ct_intro Tryd.func11 rfl Tryd.ntmps11 b11 (by simp) fun h ρ w => go (N := 128) Tryd.ntmps11 300 ?_)
  have l0 : decide (3000 < base.length) = false := by simp; omega
  have l1 : decide (3000 < a.length) = false := by simp; omega
  have l2 : decide (3000 < b.length) = false := by simp; omega
  simp only [go_sem, Nat.reduceAdd, Nat.reduceMul, Nat.reduceSub, Nat.reduceBEq, Nat.reduceLT, Nat.reduceLeDiff, reduceIte, reduceCtorEq, Int.reduceToNat, Int.reduceLE, Int.reduceLT, Int.reduceNe, Int.reduceMul, Int.reduceAdd, Int.reduceSub, Int.reduceDiv, Int.reduceMod, Int.reduceEq, Int.reduceGE, Int.reduceGT, Int.reduceNeg, Int.reduceBEq, Int.reduceBNe, Nat.reduceEqDiff, strs_len, Tryd.underlying3, Tryd.underlying4, Tryd.underlying22, Tryd.underlying26, Tryd.underlying40]
  refine pcall1 (large_pc base) rfl (N := 128) Tryd.ntmps11 rfl (go (N := 128) Tryd.ntmps11 300 ?_)
  simp only [go_sem, Nat.reduceAdd, Nat.reduceMul, Nat.reduceSub, Nat.reduceBEq, Nat.reduceLT, Nat.reduceLeDiff, reduceIte, reduceCtorEq, Int.reduceToNat, Int.reduceLE, Int.reduceLT, Int.reduceNe, Int.reduceMul, Int.reduceAdd, Int.reduceSub, Int.reduceDiv, Int.reduceMod, Int.reduceEq, Int.reduceGE, Int.reduceGT, Int.reduceNeg, Int.reduceBEq, Int.reduceBNe, Nat.reduceEqDiff, l0, strs_len, Tryd.underlying3, Tryd.underlying4, Tryd.underlying22, Tryd.underlying26, Tryd.underlying40]
  refine pcall1 (large_pc a) rfl (N := 128) Tryd.ntmps11 rfl (go (N := 128) Tryd.ntmps11 300 ?_)
  simp only [go_sem, Nat.reduceAdd, Nat.reduceMul, Nat.reduceSub, Nat.reduceBEq, Nat.reduceLT, Nat.reduceLeDiff, reduceIte, reduceCtorEq, Int.reduceToNat, Int.reduceLE, Int.reduceLT, Int.reduceNe, Int.reduceMul, Int.reduceAdd, Int.reduceSub, Int.reduceDiv, Int.reduceMod, Int.reduceEq, Int.reduceGE, Int.reduceGT, Int.reduceNeg, Int.reduceBEq, Int.reduceBNe, Nat.reduceEqDiff, l1, strs_len, Tryd.underlying3, Tryd.underlying4, Tryd.underlying22, Tryd.underlying26, Tryd.underlying40]
  refine pcall1 (large_pc b) rfl (N := 128) Tryd.ntmps11 rfl (go (N := 128) Tryd.ntmps11 300 ?_)
  simp only [go_sem, Nat.reduceAdd, Nat.reduceMul, Nat.reduceSub, Nat.reduceBEq, Nat.reduceLT, Nat.reduceLeDiff, reduceIte, reduceCtorEq, Int.reduceToNat, Int.reduceLE, Int.reduceLT, Int.reduceNe, Int.reduceMul, Int.reduceAdd, Int.reduceSub, Int.reduceDiv, Int.reduceMod, Int.reduceEq, Int.reduceGE, Int.reduceGT, Int.reduceNeg, Int.reduceBEq, Int.reduceBNe, Nat.reduceEqDiff, l2, strs_len, Tryd.underlying3, Tryd.underlying4, Tryd.underlying22, Tryd.underlying26, Tryd.underlying40]
  refine pcall1 (partner_pc base a (by omega) (by omega)) rfl (N := 128) Tryd.ntmps11 rfl (go (N := 128) Tryd.ntmps11 300 ?_)
  rw [← epa]
  simp only [go_sem, Nat.reduceAdd, Nat.reduceMul, Nat.reduceSub, Nat.reduceBEq, Nat.reduceLT, Nat.reduceLeDiff, reduceIte, reduceCtorEq, Int.reduceToNat, Int.reduceLE, Int.reduceLT, Int.reduceNe, Int.reduceMul, Int.reduceAdd, Int.reduceSub, Int.reduceDiv, Int.reduceMod, Int.reduceEq, Int.reduceGE, Int.reduceGT, Int.reduceNeg, Int.reduceBEq, Int.reduceBNe, Nat.reduceEqDiff, strs_len, Tryd.underlying3, Tryd.underlying4, Tryd.underlying22, Tryd.underlying26, Tryd.underlying40]
  refine pcall1 (partner_pc base b (by omega) (by omega)) rfl (N := 128) Tryd.ntmps11 rfl (go (N := 128) Tryd.ntmps11 300 ?_)
  rw [← epb]
  simp only [go_sem, Nat.reduceAdd, Nat.reduceMul, Nat.reduceSub, Nat.reduceBEq, Nat.reduceLT, Nat.reduceLeDiff, reduceIte, reduceCtorEq, Int.reduceToNat, Int.reduceLE, Int.reduceLT, Int.reduceNe, Int.reduceMul, Int.reduceAdd, Int.reduceSub, Int.reduceDiv, Int.reduceMod, Int.reduceEq, Int.reduceGE, Int.reduceGT, Int.reduceNeg, Int.reduceBEq, Int.reduceBNe, Nat.reduceEqDiff, strs_len, Tryd.underlying3, Tryd.underlying4, Tryd.underlying22, Tryd.underlying26, Tryd.underlying40]
  refine ⟨by omega, by omega, ?_⟩
  refine AWp.shift (Shift.nilsl 11 1 rfl) ?_
  refine AWp.shift (Shift.nilsl 12 2 rfl) ?_
  refine aloop (ι := Nat) (fun n => base.length + 1 - n)
    (fun n => [(41, .int .i64 n), (40, .int .i64 (base.length + 1)), (15, .int .i64 (mrun base a b pa pb n).k), (14, .int .i64 (mrun base a b pa pb n).j), (13, .int .i64 (mrun base a b pa pb n).i), (12, .sl 1 0 (mrun base a b pa pb n).cl.length (mrun base a b pa pb n).cl.length), (11, .sl 0 0 (mrun base a b pa pb n).out.length (mrun base a b pa pb n).out.length), (10, .fz 1 (ints pb)), (9, .fz 1 (ints pa)), (0, .fz 1 (strs base)), (1, .fz 1 (strs a)), (2, .fz 1 (strs b))])
    (fun n => [.arr 1 (strs (mrun base a b pa pb n).out), .arr 2 (prs (mrun base a b pa pb n).cl)]) (fun n => n ≤ base.length + 1) 0 (by omega) ?_ ?_
  · refine Shift.weak ?_
    simp [wk, go_sem, Nat.reduceAdd, Nat.reduceMul, Nat.reduceSub, Nat.reduceBEq, Nat.reduceLT, Nat.reduceLeDiff, reduceIte, reduceCtorEq, Int.reduceToNat, Int.reduceLE, Int.reduceLT, Int.reduceNe, Int.reduceMul, Int.reduceAdd, Int.reduceSub, Int.reduceDiv, Int.reduceMod, Int.reduceEq, Int.reduceGE, Int.reduceGT, Int.reduceNeg, Int.reduceBEq, Int.reduceBNe, Nat.reduceEqDiff, mrun]
  · rintro n g1 J hJ
    have ok := mok qa qb n g1
    have hJ1 := hJ (n + 1)
    have hstep : mrun base a b pa pb (n + 1) = mstep base a b pa pb n (mrun base a b pa pb n) := rfl
    have hend := (mok qa qb (base.length + 1) (Nat.le_refl _)).out
    rw [hstep] at hJ1
    by_cases hn : (n : Int) < (base.length : Int) + 1
    · clear hJ hstep
      generalize mrun base a b pa pb n = s at ok hJ1 ⊢
      obtain ⟨i, j, k, out, cl⟩ := s
      obtain ⟨oi, oj, okk, oja, okb, oout, ocl, ojm, okm⟩ := ok
      simp only at oi oj okk oja okb oout ocl ojm okm hJ1 ⊢
      refine go (N := 128) Tryd.ntmps11 300 ?_
      by_cases hnl : n < base.length
      · have dn : decide ((n : Int) < base.length) = true := by simp; omega
        have ga := getD_of (l := pa) (n := n) (by rw [qa.len]; exact hnl)
        have gb := getD_of (l := pb) (n := n) (by rw [qb.len]; exact hnl)
        have hga := ints_get (l := pa) (i := n) (by rw [qa.len]; exact hnl)
        have hgb := ints_get (l := pb) (i := n) (by rw [qb.len]; exact hnl)
        have la : pa.length = base.length := qa.len
        have lb : pb.length = base.length := qb.len
        simp only [go_sem, Nat.reduceAdd, Nat.reduceMul, Nat.reduceSub, Nat.reduceBEq, Nat.reduceLT, Nat.reduceLeDiff, reduceIte, reduceCtorEq, Int.reduceToNat, Int.reduceLE, Int.reduceLT, Int.reduceNe, Int.reduceMul, Int.reduceAdd, Int.reduceSub, Int.reduceDiv, Int.reduceMod, Int.reduceEq, Int.reduceGE, Int.reduceGT, Int.reduceNeg, Int.reduceBEq, Int.reduceBNe, Nat.reduceEqDiff, hn, dn, prs_snoc, strs_snoc, ints_len, strs_len, prs_len, strs_cut, strs_app, ts3, ts9, za9, tb9, ts26, ts45, za45, tb45, Tryd.underlying3, Tryd.underlying4, Tryd.underlying9, Tryd.underlying22, Tryd.underlying26, Tryd.underlying40, Tryd.underlying45]
        repeat refine And.intro (by omega) ?_
        refine adraw [] mixed (by decide) (N := 128) Tryd.ntmps11 (by decide) 100 ?_
        rcases qa.val n _ ga with e1 | ⟨m, e1, m1, m2⟩
        · rw [e1] at hga
          have hs : mstep base a b pa pb n ⟨i, j, k, out, cl⟩ = ⟨i, j, k, out, cl⟩ := by
            unfold mstep
            simp only [if_pos hnl, e1]
            rw [if_pos (by omega)]
          rw [hs] at hJ1
          simp only [go_sem, Nat.reduceAdd, Nat.reduceMul, Nat.reduceSub, Nat.reduceBEq, Nat.reduceLT, Nat.reduceLeDiff, reduceIte, reduceCtorEq, Int.reduceToNat, Int.reduceLE, Int.reduceLT, Int.reduceNe, Int.reduceMul, Int.reduceAdd, Int.reduceSub, Int.reduceDiv, Int.reduceMod, Int.reduceEq, Int.reduceGE, Int.reduceGT, Int.reduceNeg, Int.reduceBEq, Int.reduceBNe, Nat.reduceEqDiff, hga, hgb, la, lb, prs_snoc, strs_snoc, ints_len, strs_len, prs_len, strs_cut, strs_app, ts3, ts9, za9, tb9, ts26, ts45, za45, tb45, Tryd.underlying3, Tryd.underlying4, Tryd.underlying9, Tryd.underlying22, Tryd.underlying26, Tryd.underlying40, Tryd.underlying45]
          repeat refine And.intro (by omega) ?_
          refine go (N := 128) Tryd.ntmps11 300 ?_
          simp only [go_sem, Nat.reduceAdd, Nat.reduceMul, Nat.reduceSub, Nat.reduceBEq, Nat.reduceLT, Nat.reduceLeDiff, reduceIte, reduceCtorEq, Int.reduceToNat, Int.reduceLE, Int.reduceLT, Int.reduceNe, Int.reduceMul, Int.reduceAdd, Int.reduceSub, Int.reduceDiv, Int.reduceMod, Int.reduceEq, Int.reduceGE, Int.reduceGT, Int.reduceNeg, Int.reduceBEq, Int.reduceBNe, Nat.reduceEqDiff, prs_snoc, strs_snoc, ints_len, strs_len, prs_len, strs_cut, strs_app, ts3, ts9, za9, tb9, ts26, ts45, za45, tb45, Tryd.underlying3, Tryd.underlying4, Tryd.underlying9, Tryd.underlying22, Tryd.underlying26, Tryd.underlying40, Tryd.underlying45]
          rw [show (n : Int) + 1 = ((n + 1 : Nat) : Int) by omega]
          repeat refine And.intro (by omega) ?_
          refine ainv (hJ1 (by omega) (by omega)) (Shift.weak ?_)
          simp only [wk, go_sem, Nat.reduceAdd, Nat.reduceMul, Nat.reduceSub, Nat.reduceBEq, Nat.reduceLT, Nat.reduceLeDiff, reduceIte, reduceCtorEq, Int.reduceToNat, Int.reduceLE, Int.reduceLT, Int.reduceNe, Int.reduceMul, Int.reduceAdd, Int.reduceSub, Int.reduceDiv, Int.reduceMod, Int.reduceEq, Int.reduceGE, Int.reduceGT, Int.reduceNeg, Int.reduceBEq, Int.reduceBNe, Nat.reduceEqDiff]
        · rw [e1] at hga ga
          rcases qb.val n _ gb with e2 | ⟨m', e2, m1', m2'⟩
          · rw [e2] at hgb
            have dm : decide ((m : Int) < 0) = false := by simp
            have hs : mstep base a b pa pb n ⟨i, j, k, out, cl⟩ = ⟨i, j, k, out, cl⟩ := by
              unfold mstep
              simp only [if_pos hnl, e1, e2]
              rw [if_pos (by omega)]
            rw [hs] at hJ1
            simp only [go_sem, Nat.reduceAdd, Nat.reduceMul, Nat.reduceSub, Nat.reduceBEq, Nat.reduceLT, Nat.reduceLeDiff, reduceIte, reduceCtorEq, Int.reduceToNat, Int.reduceLE, Int.reduceLT, Int.reduceNe, Int.reduceMul, Int.reduceAdd, Int.reduceSub, Int.reduceDiv, Int.reduceMod, Int.reduceEq, Int.reduceGE, Int.reduceGT, Int.reduceNeg, Int.reduceBEq, Int.reduceBNe, Nat.reduceEqDiff, hga, hgb, la, lb, prs_snoc, strs_snoc, ints_len, strs_len, prs_len, strs_cut, strs_app, ts3, ts9, za9, tb9, ts26, ts45, za45, tb45, Tryd.underlying3, Tryd.underlying4, Tryd.underlying9, Tryd.underlying22, Tryd.underlying26, Tryd.underlying40, Tryd.underlying45]
            repeat refine And.intro (by omega) ?_
            refine go (N := 128) Tryd.ntmps11 300 ?_
            simp only [go_sem, Nat.reduceAdd, Nat.reduceMul, Nat.reduceSub, Nat.reduceBEq, Nat.reduceLT, Nat.reduceLeDiff, reduceIte, reduceCtorEq, Int.reduceToNat, Int.reduceLE, Int.reduceLT, Int.reduceNe, Int.reduceMul, Int.reduceAdd, Int.reduceSub, Int.reduceDiv, Int.reduceMod, Int.reduceEq, Int.reduceGE, Int.reduceGT, Int.reduceNeg, Int.reduceBEq, Int.reduceBNe, Nat.reduceEqDiff, dm, prs_snoc, strs_snoc, ints_len, strs_len, prs_len, strs_cut, strs_app, ts3, ts9, za9, tb9, ts26, ts45, za45, tb45, Tryd.underlying3, Tryd.underlying4, Tryd.underlying9, Tryd.underlying22, Tryd.underlying26, Tryd.underlying40, Tryd.underlying45]
            rw [show (n : Int) + 1 = ((n + 1 : Nat) : Int) by omega]
            repeat refine And.intro (by omega) ?_
            refine ainv (hJ1 (by omega) (by omega)) (Shift.weak ?_)
            simp only [wk, go_sem, Nat.reduceAdd, Nat.reduceMul, Nat.reduceSub, Nat.reduceBEq, Nat.reduceLT, Nat.reduceLeDiff, reduceIte, reduceCtorEq, Int.reduceToNat, Int.reduceLE, Int.reduceLT, Int.reduceNe, Int.reduceMul, Int.reduceAdd, Int.reduceSub, Int.reduceDiv, Int.reduceMod, Int.reduceEq, Int.reduceGE, Int.reduceGT, Int.reduceNeg, Int.reduceBEq, Int.reduceBNe, Nat.reduceEqDiff]
          · rw [e2] at hgb gb
            have hjm := oja n m (Nat.le_refl _) hnl ga
            have hkm := okb n m' (Nat.le_refl _) hnl gb
            simp only [go_sem, Nat.reduceAdd, Nat.reduceMul, Nat.reduceSub, Nat.reduceBEq, Nat.reduceLT, Nat.reduceLeDiff, reduceIte, reduceCtorEq, Int.reduceToNat, Int.reduceLE, Int.reduceLT, Int.reduceNe, Int.reduceMul, Int.reduceAdd, Int.reduceSub, Int.reduceDiv, Int.reduceMod, Int.reduceEq, Int.reduceGE, Int.reduceGT, Int.reduceNeg, Int.reduceBEq, Int.reduceBNe, Nat.reduceEqDiff, hga, hgb, la, lb, prs_snoc, strs_snoc, ints_len, strs_len, prs_len, strs_cut, strs_app, ts3, ts9, za9, tb9, ts26, ts45, za45, tb45, Tryd.underlying3, Tryd.underlying4, Tryd.underlying9, Tryd.underlying22, Tryd.underlying26, Tryd.underlying40, Tryd.underlying45]
            repeat refine And.intro (by omega) ?_
            have dm : decide ((m : Int) < 0) = false := by simp
            have dm' : decide ((m' : Int) < 0) = false := by simp
            refine go (N := 128) Tryd.ntmps11 300 ?_
            simp only [go_sem, Nat.reduceAdd, Nat.reduceMul, Nat.reduceSub, Nat.reduceBEq, Nat.reduceLT, Nat.reduceLeDiff, reduceIte, reduceCtorEq, Int.reduceToNat, Int.reduceLE, Int.reduceLT, Int.reduceNe, Int.reduceMul, Int.reduceAdd, Int.reduceSub, Int.reduceDiv, Int.reduceMod, Int.reduceEq, Int.reduceGE, Int.reduceGT, Int.reduceNeg, Int.reduceBEq, Int.reduceBNe, Nat.reduceEqDiff, dm, dm', prs_snoc, strs_snoc, ints_len, strs_len, prs_len, strs_cut, strs_app, ts3, ts9, za9, tb9, ts26, ts45, za45, tb45, Tryd.underlying3, Tryd.underlying4, Tryd.underlying9, Tryd.underlying22, Tryd.underlying26, Tryd.underlying40, Tryd.underlying45]
            refine adraw [] mixed (by decide) (N := 128) Tryd.ntmps11 (by decide) 100 ?_
            have c1 : ((n : Int) - i).toNat = n - i := by omega
            have c2 : ((m : Int) - j).toNat = m - j := by omega
            have c3 : ((m' : Int) - k).toNat = m' - k := by omega
            simp only [go_sem, Nat.reduceAdd, Nat.reduceMul, Nat.reduceSub, Nat.reduceBEq, Nat.reduceLT, Nat.reduceLeDiff, reduceIte, reduceCtorEq, Int.reduceToNat, Int.reduceLE, Int.reduceLT, Int.reduceNe, Int.reduceMul, Int.reduceAdd, Int.reduceSub, Int.reduceDiv, Int.reduceMod, Int.reduceEq, Int.reduceGE, Int.reduceGT, Int.reduceNeg, Int.reduceBEq, Int.reduceBNe, Nat.reduceEqDiff, c1, c2, c3, prs_snoc, strs_snoc, ints_len, strs_len, prs_len, strs_cut, strs_app, ts3, ts9, za9, tb9, ts26, ts45, za45, tb45, Tryd.underlying3, Tryd.underlying4, Tryd.underlying9, Tryd.underlying22, Tryd.underlying26, Tryd.underlying40, Tryd.underlying45]
            repeat refine And.intro (by omega) ?_
            have hgx := strs_get hnl
            have hs : mstep base a b pa pb n ⟨i, j, k, out, cl⟩ = ⟨n + 1, m + 1, m' + 1, (mput i n ((base.drop i).take (n - i)) ((a.drop j).take (m - j)) ((b.drop k).take (m' - k)) out cl).1 ++ [base[n]], (mput i n ((base.drop i).take (n - i)) ((a.drop j).take (m - j)) ((b.drop k).take (m' - k)) out cl).2⟩ := by
              unfold mstep
              simp only [if_pos hnl, e1, e2]
              rw [if_neg (by omega)]
              simp [upto, hnl]
            generalize base[n] = bn at hs hgx
            rw [hs] at hJ1
            have lO : ((base.drop i).take (n - i)).length ≤ 900 := by simp; omega
            have lX : ((a.drop j).take (m - j)).length ≤ 900 := by simp; omega
            have lY : ((b.drop k).take (m' - k)).length ≤ 900 := by simp; omega
            generalize (base.drop i).take (n - i) = O at lO hJ1 ⊢
            generalize (a.drop j).take (m - j) = X at lX hJ1 ⊢
            generalize (b.drop k).take (m' - k) = Y at lY hJ1 ⊢
            refine go (N := 128) Tryd.ntmps11 300 ?_
            simp only [go_sem, Nat.reduceAdd, Nat.reduceMul, Nat.reduceSub, Nat.reduceBEq, Nat.reduceLT, Nat.reduceLeDiff, reduceIte, reduceCtorEq, Int.reduceToNat, Int.reduceLE, Int.reduceLT, Int.reduceNe, Int.reduceMul, Int.reduceAdd, Int.reduceSub, Int.reduceDiv, Int.reduceMod, Int.reduceEq, Int.reduceGE, Int.reduceGT, Int.reduceNeg, Int.reduceBEq, Int.reduceBNe, Nat.reduceEqDiff, prs_snoc, strs_snoc, ints_len, strs_len, prs_len, strs_cut, strs_app, ts3, ts9, za9, tb9, ts26, ts45, za45, tb45, Tryd.underlying3, Tryd.underlying4, Tryd.underlying9, Tryd.underlying22, Tryd.underlying26, Tryd.underlying40, Tryd.underlying45]
            by_cases d1 : X = O
            · have f1 : decide (X = O) = true := by simpa using d1
              simp only [mput, if_pos d1] at hJ1
              refine pcall1 (equal_pc X O (by omega)) rfl (N := 128) Tryd.ntmps11 rfl (go (N := 128) Tryd.ntmps11 300 ?_)
              simp only [go_sem, Nat.reduceAdd, Nat.reduceMul, Nat.reduceSub, Nat.reduceBEq, Nat.reduceLT, Nat.reduceLeDiff, reduceIte, reduceCtorEq, Int.reduceToNat, Int.reduceLE, Int.reduceLT, Int.reduceNe, Int.reduceMul, Int.reduceAdd, Int.reduceSub, Int.reduceDiv, Int.reduceMod, Int.reduceEq, Int.reduceGE, Int.reduceGT, Int.reduceNeg, Int.reduceBEq, Int.reduceBNe, Nat.reduceEqDiff, dn, f1, hgx, prs_snoc, strs_snoc, ints_len, strs_len, prs_len, strs_cut, strs_app, ts3, ts9, za9, tb9, ts26, ts45, za45, tb45, Tryd.underlying3, Tryd.underlying4, Tryd.underlying9, Tryd.underlying22, Tryd.underlying26, Tryd.underlying40, Tryd.underlying45]
              simp only [List.length_append, List.length_cons, List.length_nil, Nat.zero_add] at hJ1
              rw [show (n : Int) + 1 = ((n + 1 : Nat) : Int) by omega, show (m : Int) + 1 = ((m + 1 : Nat) : Int) by omega, show (m' : Int) + 1 = ((m' + 1 : Nat) : Int) by omega]
              repeat refine And.intro (by first | omega | rfl | exact .inl trivial) ?_
              refine ainv (hJ1 (by omega) (by omega)) (Shift.only 1 1 (Nat.zero_le _) (Nat.le_refl _) rfl (by simp) (prs_frz _) (take1_dry _ _) ?_)
              simp [wkg, okg, go_sem, Nat.reduceAdd, Nat.reduceMul, Nat.reduceSub, Nat.reduceBEq, Nat.reduceLT, Nat.reduceLeDiff, reduceIte, reduceCtorEq, Int.reduceToNat, Int.reduceLE, Int.reduceLT, Int.reduceNe, Int.reduceMul, Int.reduceAdd, Int.reduceSub, Int.reduceDiv, Int.reduceMod, Int.reduceEq, Int.reduceGE, Int.reduceGT, Int.reduceNeg, Int.reduceBEq, Int.reduceBNe, Nat.reduceEqDiff, Av.frozen]
            have f1 : decide (X = O) = false := by simpa using d1
            refine pcall1 (equal_pc X O (by omega)) rfl (N := 128) Tryd.ntmps11 rfl (go (N := 128) Tryd.ntmps11 300 ?_)
            simp only [go_sem, Nat.reduceAdd, Nat.reduceMul, Nat.reduceSub, Nat.reduceBEq, Nat.reduceLT, Nat.reduceLeDiff, reduceIte, reduceCtorEq, Int.reduceToNat, Int.reduceLE, Int.reduceLT, Int.reduceNe, Int.reduceMul, Int.reduceAdd, Int.reduceSub, Int.reduceDiv, Int.reduceMod, Int.reduceEq, Int.reduceGE, Int.reduceGT, Int.reduceNeg, Int.reduceBEq, Int.reduceBNe, Nat.reduceEqDiff, dn, f1, hgx, prs_snoc, strs_snoc, ints_len, strs_len, prs_len, strs_cut, strs_app, ts3, ts9, za9, tb9, ts26, ts45, za45, tb45, Tryd.underlying3, Tryd.underlying4, Tryd.underlying9, Tryd.underlying22, Tryd.underlying26, Tryd.underlying40, Tryd.underlying45]
            by_cases d2 : Y = O
            · have f2 : decide (Y = O) = true := by simpa using d2
              simp only [mput, if_neg d1, if_pos (Or.inl d2 : Y = O ∨ X = Y)] at hJ1
              refine pcall1 (equal_pc Y O (by omega)) rfl (N := 128) Tryd.ntmps11 rfl (go (N := 128) Tryd.ntmps11 300 ?_)
              simp only [go_sem, Nat.reduceAdd, Nat.reduceMul, Nat.reduceSub, Nat.reduceBEq, Nat.reduceLT, Nat.reduceLeDiff, reduceIte, reduceCtorEq, Int.reduceToNat, Int.reduceLE, Int.reduceLT, Int.reduceNe, Int.reduceMul, Int.reduceAdd, Int.reduceSub, Int.reduceDiv, Int.reduceMod, Int.reduceEq, Int.reduceGE, Int.reduceGT, Int.reduceNeg, Int.reduceBEq, Int.reduceBNe, Nat.reduceEqDiff, dn, f2, hgx, prs_snoc, strs_snoc, ints_len, strs_len, prs_len, strs_cut, strs_app, ts3, ts9, za9, tb9, ts26, ts45, za45, tb45, Tryd.underlying3, Tryd.underlying4, Tryd.underlying9, Tryd.underlying22, Tryd.underlying26, Tryd.underlying40, Tryd.underlying45]
              simp only [List.length_append, List.length_cons, List.length_nil, Nat.zero_add] at hJ1
              rw [show (n : Int) + 1 = ((n + 1 : Nat) : Int) by omega, show (m : Int) + 1 = ((m + 1 : Nat) : Int) by omega, show (m' : Int) + 1 = ((m' + 1 : Nat) : Int) by omega]
              repeat refine And.intro (by first | omega | rfl | exact .inl trivial) ?_
              refine ainv (hJ1 (by omega) (by omega)) (Shift.only 1 1 (Nat.zero_le _) (Nat.le_refl _) rfl (by simp) (prs_frz _) (take1_dry _ _) ?_)
              simp [wkg, okg, go_sem, Nat.reduceAdd, Nat.reduceMul, Nat.reduceSub, Nat.reduceBEq, Nat.reduceLT, Nat.reduceLeDiff, reduceIte, reduceCtorEq, Int.reduceToNat, Int.reduceLE, Int.reduceLT, Int.reduceNe, Int.reduceMul, Int.reduceAdd, Int.reduceSub, Int.reduceDiv, Int.reduceMod, Int.reduceEq, Int.reduceGE, Int.reduceGT, Int.reduceNeg, Int.reduceBEq, Int.reduceBNe, Nat.reduceEqDiff, Av.frozen]
            have f2 : decide (Y = O) = false := by simpa using d2
            refine pcall1 (equal_pc Y O (by omega)) rfl (N := 128) Tryd.ntmps11 rfl (go (N := 128) Tryd.ntmps11 300 ?_)
            simp only [go_sem, Nat.reduceAdd, Nat.reduceMul, Nat.reduceSub, Nat.reduceBEq, Nat.reduceLT, Nat.reduceLeDiff, reduceIte, reduceCtorEq, Int.reduceToNat, Int.reduceLE, Int.reduceLT, Int.reduceNe, Int.reduceMul, Int.reduceAdd, Int.reduceSub, Int.reduceDiv, Int.reduceMod, Int.reduceEq, Int.reduceGE, Int.reduceGT, Int.reduceNeg, Int.reduceBEq, Int.reduceBNe, Nat.reduceEqDiff, dn, f2, hgx, prs_snoc, strs_snoc, ints_len, strs_len, prs_len, strs_cut, strs_app, ts3, ts9, za9, tb9, ts26, ts45, za45, tb45, Tryd.underlying3, Tryd.underlying4, Tryd.underlying9, Tryd.underlying22, Tryd.underlying26, Tryd.underlying40, Tryd.underlying45]
            by_cases d3 : X = Y
            · have f3 : decide (X = Y) = true := by simpa using d3
              simp only [mput, if_neg d1, if_pos (Or.inr d3 : Y = O ∨ X = Y)] at hJ1
              refine pcall1 (equal_pc X Y (by omega)) rfl (N := 128) Tryd.ntmps11 rfl (go (N := 128) Tryd.ntmps11 300 ?_)
              simp only [go_sem, Nat.reduceAdd, Nat.reduceMul, Nat.reduceSub, Nat.reduceBEq, Nat.reduceLT, Nat.reduceLeDiff, reduceIte, reduceCtorEq, Int.reduceToNat, Int.reduceLE, Int.reduceLT, Int.reduceNe, Int.reduceMul, Int.reduceAdd, Int.reduceSub, Int.reduceDiv, Int.reduceMod, Int.reduceEq, Int.reduceGE, Int.reduceGT, Int.reduceNeg, Int.reduceBEq, Int.reduceBNe, Nat.reduceEqDiff, dn, f3, hgx, prs_snoc, strs_snoc, ints_len, strs_len, prs_len, strs_cut, strs_app, ts3, ts9, za9, tb9, ts26, ts45, za45, tb45, Tryd.underlying3, Tryd.underlying4, Tryd.underlying9, Tryd.underlying22, Tryd.underlying26, Tryd.underlying40, Tryd.underlying45]
              simp only [List.length_append, List.length_cons, List.length_nil, Nat.zero_add] at hJ1
              rw [show (n : Int) + 1 = ((n + 1 : Nat) : Int) by omega, show (m : Int) + 1 = ((m + 1 : Nat) : Int) by omega, show (m' : Int) + 1 = ((m' + 1 : Nat) : Int) by omega]
              repeat refine And.intro (by first | omega | rfl | exact .inl trivial) ?_
              refine ainv (hJ1 (by omega) (by omega)) (Shift.only 1 1 (Nat.zero_le _) (Nat.le_refl _) rfl (by simp) (prs_frz _) (take1_dry _ _) ?_)
              simp [wkg, okg, go_sem, Nat.reduceAdd, Nat.reduceMul, Nat.reduceSub, Nat.reduceBEq, Nat.reduceLT, Nat.reduceLeDiff, reduceIte, reduceCtorEq, Int.reduceToNat, Int.reduceLE, Int.reduceLT, Int.reduceNe, Int.reduceMul, Int.reduceAdd, Int.reduceSub, Int.reduceDiv, Int.reduceMod, Int.reduceEq, Int.reduceGE, Int.reduceGT, Int.reduceNeg, Int.reduceBEq, Int.reduceBNe, Nat.reduceEqDiff, Av.frozen]
            have f3 : decide (X = Y) = false := by simpa using d3
            have cs : (n : Int) - i = ((n - i : Nat) : Int) := by omega
            simp only [mput, if_neg d1, if_neg (fun h' => h'.elim d2 d3 : ¬(Y = O ∨ X = Y))] at hJ1
            refine pcall1 (equal_pc X Y (by omega)) rfl (N := 128) Tryd.ntmps11 rfl (go (N := 128) Tryd.ntmps11 300 ?_)
            simp only [go_sem, Nat.reduceAdd, Nat.reduceMul, Nat.reduceSub, Nat.reduceBEq, Nat.reduceLT, Nat.reduceLeDiff, reduceIte, reduceCtorEq, Int.reduceToNat, Int.reduceLE, Int.reduceLT, Int.reduceNe, Int.reduceMul, Int.reduceAdd, Int.reduceSub, Int.reduceDiv, Int.reduceMod, Int.reduceEq, Int.reduceGE, Int.reduceGT, Int.reduceNeg, Int.reduceBEq, Int.reduceBNe, Nat.reduceEqDiff, dn, f3, hgx, cs, prs_snoc, strs_snoc, ints_len, strs_len, prs_len, strs_cut, strs_app, ts3, ts9, za9, tb9, ts26, ts45, za45, tb45, Tryd.underlying3, Tryd.underlying4, Tryd.underlying9, Tryd.underlying22, Tryd.underlying26, Tryd.underlying40, Tryd.underlying45]
            simp only [List.length_append, List.length_cons, List.length_nil, Nat.zero_add] at hJ1
            rw [show (n : Int) + 1 = ((n + 1 : Nat) : Int) by omega, show (m : Int) + 1 = ((m + 1 : Nat) : Int) by omega, show (m' : Int) + 1 = ((m' + 1 : Nat) : Int) by omega]
            repeat refine And.intro (by first | omega | rfl | exact .inl trivial) ?_
            refine ainv (hJ1 (by omega) (by omega)) (Shift.only 1 1 (Nat.zero_le _) (Nat.le_refl _) rfl (by simp) (prs_frz _) (take1_dry _ _) ?_)
            simp [wkg, okg, go_sem, Nat.reduceAdd, Nat.reduceMul, Nat.reduceSub, Nat.reduceBEq, Nat.reduceLT, Nat.reduceLeDiff, reduceIte, reduceCtorEq, Int.reduceToNat, Int.reduceLE, Int.reduceLT, Int.reduceNe, Int.reduceMul, Int.reduceAdd, Int.reduceSub, Int.reduceDiv, Int.reduceMod, Int.reduceEq, Int.reduceGE, Int.reduceGT, Int.reduceNeg, Int.reduceBEq, Int.reduceBNe, Nat.reduceEqDiff, Av.frozen]
      · have dn : decide ((n : Int) < base.length) = false := by simp; omega
        have hoj := oj (by omega)
        have hok := okk (by omega)
        have he : n = base.length := by omega
        simp only [go_sem, Nat.reduceAdd, Nat.reduceMul, Nat.reduceSub, Nat.reduceBEq, Nat.reduceLT, Nat.reduceLeDiff, reduceIte, reduceCtorEq, Int.reduceToNat, Int.reduceLE, Int.reduceLT, Int.reduceNe, Int.reduceMul, Int.reduceAdd, Int.reduceSub, Int.reduceDiv, Int.reduceMod, Int.reduceEq, Int.reduceGE, Int.reduceGT, Int.reduceNeg, Int.reduceBEq, Int.reduceBNe, Nat.reduceEqDiff, hn, dn, prs_snoc, strs_snoc, ints_len, strs_len, prs_len, strs_cut, strs_app, ts3, ts9, za9, tb9, ts26, ts45, za45, tb45, Tryd.underlying3, Tryd.underlying4, Tryd.underlying9, Tryd.underlying22, Tryd.underlying26, Tryd.underlying40, Tryd.underlying45]
        repeat refine And.intro (by omega) ?_
        refine adraw [] mixed (by decide) (N := 128) Tryd.ntmps11 (by decide) 100 ?_
        have c1 : ((n : Int) - i).toNat = n - i := by omega
        have c2 : ((a.length : Int) - j).toNat = a.length - j := by omega
        have c3 : ((b.length : Int) - k).toNat = b.length - k := by omega
        simp only [go_sem, Nat.reduceAdd, Nat.reduceMul, Nat.reduceSub, Nat.reduceBEq, Nat.reduceLT, Nat.reduceLeDiff, reduceIte, reduceCtorEq, Int.reduceToNat, Int.reduceLE, Int.reduceLT, Int.reduceNe, Int.reduceMul, Int.reduceAdd, Int.reduceSub, Int.reduceDiv, Int.reduceMod, Int.reduceEq, Int.reduceGE, Int.reduceGT, Int.reduceNeg, Int.reduceBEq, Int.reduceBNe, Nat.reduceEqDiff, c1, c2, c3, prs_snoc, strs_snoc, ints_len, strs_len, prs_len, strs_cut, strs_app, ts3, ts9, za9, tb9, ts26, ts45, za45, tb45, Tryd.underlying3, Tryd.underlying4, Tryd.underlying9, Tryd.underlying22, Tryd.underlying26, Tryd.underlying40, Tryd.underlying45]
        repeat refine And.intro (by omega) ?_
        have hgx : n = n := rfl
        have hnn : base[n]? = none := List.getElem?_eq_none (by omega)
        have hs : mstep base a b pa pb n ⟨i, j, k, out, cl⟩ = ⟨n + 1, a.length + 1, b.length + 1, (mput i n ((base.drop i).take (n - i)) ((a.drop j).take (a.length - j)) ((b.drop k).take (b.length - k)) out cl).1, (mput i n ((base.drop i).take (n - i)) ((a.drop j).take (a.length - j)) ((b.drop k).take (b.length - k)) out cl).2⟩ := by
          unfold mstep
          simp only [if_neg hnl]
          rw [if_neg (by omega)]
          simp [upto, hnn]
        rw [hs] at hJ1
        have lO : ((base.drop i).take (n - i)).length ≤ 900 := by simp; omega
        have lX : ((a.drop j).take (a.length - j)).length ≤ 900 := by simp; omega
        have lY : ((b.drop k).take (b.length - k)).length ≤ 900 := by simp; omega
        generalize (base.drop i).take (n - i) = O at lO hJ1 ⊢
        generalize (a.drop j).take (a.length - j) = X at lX hJ1 ⊢
        generalize (b.drop k).take (b.length - k) = Y at lY hJ1 ⊢
        refine go (N := 128) Tryd.ntmps11 300 ?_
        simp only [go_sem, Nat.reduceAdd, Nat.reduceMul, Nat.reduceSub, Nat.reduceBEq, Nat.reduceLT, Nat.reduceLeDiff, reduceIte, reduceCtorEq, Int.reduceToNat, Int.reduceLE, Int.reduceLT, Int.reduceNe, Int.reduceMul, Int.reduceAdd, Int.reduceSub, Int.reduceDiv, Int.reduceMod, Int.reduceEq, Int.reduceGE, Int.reduceGT, Int.reduceNeg, Int.reduceBEq, Int.reduceBNe, Nat.reduceEqDiff, prs_snoc, strs_snoc, ints_len, strs_len, prs_len, strs_cut, strs_app, ts3, ts9, za9, tb9, ts26, ts45, za45, tb45, Tryd.underlying3, Tryd.underlying4, Tryd.underlying9, Tryd.underlying22, Tryd.underlying26, Tryd.underlying40, Tryd.underlying45]
        by_cases d1 : X = O
        · have f1 : decide (X = O) = true := by simpa using d1
          simp only [mput, if_pos d1] at hJ1
          refine pcall1 (equal_pc X O (by omega)) rfl (N := 128) Tryd.ntmps11 rfl (go (N := 128) Tryd.ntmps11 300 ?_)
          simp only [go_sem, Nat.reduceAdd, Nat.reduceMul, Nat.reduceSub, Nat.reduceBEq, Nat.reduceLT, Nat.reduceLeDiff, reduceIte, reduceCtorEq, Int.reduceToNat, Int.reduceLE, Int.reduceLT, Int.reduceNe, Int.reduceMul, Int.reduceAdd, Int.reduceSub, Int.reduceDiv, Int.reduceMod, Int.reduceEq, Int.reduceGE, Int.reduceGT, Int.reduceNeg, Int.reduceBEq, Int.reduceBNe, Nat.reduceEqDiff, dn, f1, hgx, prs_snoc, strs_snoc, ints_len, strs_len, prs_len, strs_cut, strs_app, ts3, ts9, za9, tb9, ts26, ts45, za45, tb45, Tryd.underlying3, Tryd.underlying4, Tryd.underlying9, Tryd.underlying22, Tryd.underlying26, Tryd.underlying40, Tryd.underlying45]
          simp only [List.length_append, List.length_cons, List.length_nil, Nat.zero_add] at hJ1
          rw [show (n : Int) + 1 = ((n + 1 : Nat) : Int) by omega, show (a.length : Int) + 1 = ((a.length + 1 : Nat) : Int) by omega, show (b.length : Int) + 1 = ((b.length + 1 : Nat) : Int) by omega]
          repeat refine And.intro (by first | omega | rfl | exact .inl trivial) ?_
          refine ainv (hJ1 (by omega) (by omega)) (Shift.only 1 1 (Nat.zero_le _) (Nat.le_refl _) rfl (by simp) (prs_frz _) (take1_dry _ _) ?_)
          simp [wkg, okg, go_sem, Nat.reduceAdd, Nat.reduceMul, Nat.reduceSub, Nat.reduceBEq, Nat.reduceLT, Nat.reduceLeDiff, reduceIte, reduceCtorEq, Int.reduceToNat, Int.reduceLE, Int.reduceLT, Int.reduceNe, Int.reduceMul, Int.reduceAdd, Int.reduceSub, Int.reduceDiv, Int.reduceMod, Int.reduceEq, Int.reduceGE, Int.reduceGT, Int.reduceNeg, Int.reduceBEq, Int.reduceBNe, Nat.reduceEqDiff, Av.frozen]
        have f1 : decide (X = O) = false := by simpa using d1
        refine pcall1 (equal_pc X O (by omega)) rfl (N := 128) Tryd.ntmps11 rfl (go (N := 128) Tryd.ntmps11 300 ?_)
        simp only [go_sem, Nat.reduceAdd, Nat.reduceMul, Nat.reduceSub, Nat.reduceBEq, Nat.reduceLT, Nat.reduceLeDiff, reduceIte, reduceCtorEq, Int.reduceToNat, Int.reduceLE, Int.reduceLT, Int.reduceNe, Int.reduceMul, Int.reduceAdd, Int.reduceSub, Int.reduceDiv, Int.reduceMod, Int.reduceEq, Int.reduceGE, Int.reduceGT, Int.reduceNeg, Int.reduceBEq, Int.reduceBNe, Nat.reduceEqDiff, dn, f1, hgx, prs_snoc, strs_snoc, ints_len, strs_len, prs_len, strs_cut, strs_app, ts3, ts9, za9, tb9, ts26, ts45, za45, tb45, Tryd.underlying3, Tryd.underlying4, Tryd.underlying9, Tryd.underlying22, Tryd.underlying26, Tryd.underlying40, Tryd.underlying45]
        by_cases d2 : Y = O
        · have f2 : decide (Y = O) = true := by simpa using d2
          simp only [mput, if_neg d1, if_pos (Or.inl d2 : Y = O ∨ X = Y)] at hJ1
          refine pcall1 (equal_pc Y O (by omega)) rfl (N := 128) Tryd.ntmps11 rfl (go (N := 128) Tryd.ntmps11 300 ?_)
          simp only [go_sem, Nat.reduceAdd, Nat.reduceMul, Nat.reduceSub, Nat.reduceBEq, Nat.reduceLT, Nat.reduceLeDiff, reduceIte, reduceCtorEq, Int.reduceToNat, Int.reduceLE, Int.reduceLT, Int.reduceNe, Int.reduceMul, Int.reduceAdd, Int.reduceSub, Int.reduceDiv, Int.reduceMod, Int.reduceEq, Int.reduceGE, Int.reduceGT, Int.reduceNeg, Int.reduceBEq, Int.reduceBNe, Nat.reduceEqDiff, dn, f2, hgx, prs_snoc, strs_snoc, ints_len, strs_len, prs_len, strs_cut, strs_app, ts3, ts9, za9, tb9, ts26, ts45, za45, tb45, Tryd.underlying3, Tryd.underlying4, Tryd.underlying9, Tryd.underlying22, Tryd.underlying26, Tryd.underlying40, Tryd.underlying45]
          simp only [List.length_append, List.length_cons, List.length_nil, Nat.zero_add] at hJ1
          rw [show (n : Int) + 1 = ((n + 1 : Nat) : Int) by omega, show (a.length : Int) + 1 = ((a.length + 1 : Nat) : Int) by omega, show (b.length : Int) + 1 = ((b.length + 1 : Nat) : Int) by omega]
          repeat refine And.intro (by first | omega | rfl | exact .inl trivial) ?_
          refine ainv (hJ1 (by omega) (by omega)) (Shift.only 1 1 (Nat.zero_le _) (Nat.le_refl _) rfl (by simp) (prs_frz _) (take1_dry _ _) ?_)
          simp [wkg, okg, go_sem, Nat.reduceAdd, Nat.reduceMul, Nat.reduceSub, Nat.reduceBEq, Nat.reduceLT, Nat.reduceLeDiff, reduceIte, reduceCtorEq, Int.reduceToNat, Int.reduceLE, Int.reduceLT, Int.reduceNe, Int.reduceMul, Int.reduceAdd, Int.reduceSub, Int.reduceDiv, Int.reduceMod, Int.reduceEq, Int.reduceGE, Int.reduceGT, Int.reduceNeg, Int.reduceBEq, Int.reduceBNe, Nat.reduceEqDiff, Av.frozen]
        have f2 : decide (Y = O) = false := by simpa using d2
        refine pcall1 (equal_pc Y O (by omega)) rfl (N := 128) Tryd.ntmps11 rfl (go (N := 128) Tryd.ntmps11 300 ?_)
        simp only [go_sem, Nat.reduceAdd, Nat.reduceMul, Nat.reduceSub, Nat.reduceBEq, Nat.reduceLT, Nat.reduceLeDiff, reduceIte, reduceCtorEq, Int.reduceToNat, Int.reduceLE, Int.reduceLT, Int.reduceNe, Int.reduceMul, Int.reduceAdd, Int.reduceSub, Int.reduceDiv, Int.reduceMod, Int.reduceEq, Int.reduceGE, Int.reduceGT, Int.reduceNeg, Int.reduceBEq, Int.reduceBNe, Nat.reduceEqDiff, dn, f2, hgx, prs_snoc, strs_snoc, ints_len, strs_len, prs_len, strs_cut, strs_app, ts3, ts9, za9, tb9, ts26, ts45, za45, tb45, Tryd.underlying3, Tryd.underlying4, Tryd.underlying9, Tryd.underlying22, Tryd.underlying26, Tryd.underlying40, Tryd.underlying45]
        by_cases d3 : X = Y
        · have f3 : decide (X = Y) = true := by simpa using d3
          simp only [mput, if_neg d1, if_pos (Or.inr d3 : Y = O ∨ X = Y)] at hJ1
          refine pcall1 (equal_pc X Y (by omega)) rfl (N := 128) Tryd.ntmps11 rfl (go (N := 128) Tryd.ntmps11 300 ?_)
          simp only [go_sem, Nat.reduceAdd, Nat.reduceMul, Nat.reduceSub, Nat.reduceBEq, Nat.reduceLT, Nat.reduceLeDiff, reduceIte, reduceCtorEq, Int.reduceToNat, Int.reduceLE, Int.reduceLT, Int.reduceNe, Int.reduceMul, Int.reduceAdd, Int.reduceSub, Int.reduceDiv, Int.reduceMod, Int.reduceEq, Int.reduceGE, Int.reduceGT, Int.reduceNeg, Int.reduceBEq, Int.reduceBNe, Nat.reduceEqDiff, dn, f3, hgx, prs_snoc, strs_snoc, ints_len, strs_len, prs_len, strs_cut, strs_app, ts3, ts9, za9, tb9, ts26, ts45, za45, tb45, Tryd.underlying3, Tryd.underlying4, Tryd.underlying9, Tryd.underlying22, Tryd.underlying26, Tryd.underlying40, Tryd.underlying45]
          simp only [List.length_append, List.length_cons, List.length_nil, Nat.zero_add] at hJ1
          rw [show (n : Int) + 1 = ((n + 1 : Nat) : Int) by omega, show (a.length : Int) + 1 = ((a.length + 1 : Nat) : Int) by omega, show (b.length : Int) + 1 = ((b.length + 1 : Nat) : Int) by omega]
          repeat refine And.intro (by first | omega | rfl | exact .inl trivial) ?_
          refine ainv (hJ1 (by omega) (by omega)) (Shift.only 1 1 (Nat.zero_le _) (Nat.le_refl _) rfl (by simp) (prs_frz _) (take1_dry _ _) ?_)
          simp [wkg, okg, go_sem, Nat.reduceAdd, Nat.reduceMul, Nat.reduceSub, Nat.reduceBEq, Nat.reduceLT, Nat.reduceLeDiff, reduceIte, reduceCtorEq, Int.reduceToNat, Int.reduceLE, Int.reduceLT, Int.reduceNe, Int.reduceMul, Int.reduceAdd, Int.reduceSub, Int.reduceDiv, Int.reduceMod, Int.reduceEq, Int.reduceGE, Int.reduceGT, Int.reduceNeg, Int.reduceBEq, Int.reduceBNe, Nat.reduceEqDiff, Av.frozen]
        have f3 : decide (X = Y) = false := by simpa using d3
        have cs : (n : Int) - i = ((n - i : Nat) : Int) := by omega
        simp only [mput, if_neg d1, if_neg (fun h' => h'.elim d2 d3 : ¬(Y = O ∨ X = Y))] at hJ1
        refine pcall1 (equal_pc X Y (by omega)) rfl (N := 128) Tryd.ntmps11 rfl (go (N := 128) Tryd.ntmps11 300 ?_)
        simp only [go_sem, Nat.reduceAdd, Nat.reduceMul, Nat.reduceSub, Nat.reduceBEq, Nat.reduceLT, Nat.reduceLeDiff, reduceIte, reduceCtorEq, Int.reduceToNat, Int.reduceLE, Int.reduceLT, Int.reduceNe, Int.reduceMul, Int.reduceAdd, Int.reduceSub, Int.reduceDiv, Int.reduceMod, Int.reduceEq, Int.reduceGE, Int.reduceGT, Int.reduceNeg, Int.reduceBEq, Int.reduceBNe, Nat.reduceEqDiff, dn, f3, hgx, cs, prs_snoc, strs_snoc, ints_len, strs_len, prs_len, strs_cut, strs_app, ts3, ts9, za9, tb9, ts26, ts45, za45, tb45, Tryd.underlying3, Tryd.underlying4, Tryd.underlying9, Tryd.underlying22, Tryd.underlying26, Tryd.underlying40, Tryd.underlying45]
        simp only [List.length_append, List.length_cons, List.length_nil, Nat.zero_add] at hJ1
        rw [show (n : Int) + 1 = ((n + 1 : Nat) : Int) by omega, show (a.length : Int) + 1 = ((a.length + 1 : Nat) : Int) by omega, show (b.length : Int) + 1 = ((b.length + 1 : Nat) : Int) by omega]
        repeat refine And.intro (by first | omega | rfl | exact .inl trivial) ?_
        refine ainv (hJ1 (by omega) (by omega)) (Shift.only 1 1 (Nat.zero_le _) (Nat.le_refl _) rfl (by simp) (prs_frz _) (take1_dry _ _) ?_)
        simp [wkg, okg, go_sem, Nat.reduceAdd, Nat.reduceMul, Nat.reduceSub, Nat.reduceBEq, Nat.reduceLT, Nat.reduceLeDiff, reduceIte, reduceCtorEq, Int.reduceToNat, Int.reduceLE, Int.reduceLT, Int.reduceNe, Int.reduceMul, Int.reduceAdd, Int.reduceSub, Int.reduceDiv, Int.reduceMod, Int.reduceEq, Int.reduceGE, Int.reduceGT, Int.reduceNeg, Int.reduceBEq, Int.reduceBNe, Nat.reduceEqDiff, Av.frozen]
    · have he : n = base.length + 1 := by omega
      subst he
      clear hJ hJ1 hstep
      have hem := @mrun_end _ _ base a b pa pb
      generalize mrun base a b pa pb (base.length + 1) = s at ok hend hem ⊢
      obtain ⟨i, j, k, out, cl⟩ := s
      obtain ⟨oi, oj, okk, oja, okb, oout, ocl, ojm, okm⟩ := ok
      simp only at oi oout ocl hem hend ⊢
      have lo : decide (3000 < out.length) = false := by simp; omega
      refine go (N := 128) Tryd.ntmps11 300 ?_
      simp only [go_sem, Nat.reduceAdd, Nat.reduceMul, Nat.reduceSub, Nat.reduceBEq, Nat.reduceLT, Nat.reduceLeDiff, reduceIte, reduceCtorEq, Int.reduceToNat, Int.reduceLE, Int.reduceLT, Int.reduceNe, Int.reduceMul, Int.reduceAdd, Int.reduceSub, Int.reduceDiv, Int.reduceMod, Int.reduceEq, Int.reduceGE, Int.reduceGT, Int.reduceNeg, Int.reduceBEq, Int.reduceBNe, Nat.reduceEqDiff, hn, prs_snoc, strs_snoc, ints_len, strs_len, prs_len, strs_cut, strs_app, ts3, ts9, za9, tb9, ts26, ts45, za45, tb45, Tryd.underlying3, Tryd.underlying4, Tryd.underlying9, Tryd.underlying22, Tryd.underlying26, Tryd.underlying40, Tryd.underlying45]
      refine acall (large_own2 out (.arr 2 (prs cl))) (N := 128) Tryd.ntmps11 rfl ?_
      rintro _ _ ⟨rfl, rfl⟩
      refine go (N := 128) Tryd.ntmps11 300 ?_
      simp only [go_sem, Nat.reduceAdd, Nat.reduceMul, Nat.reduceSub, Nat.reduceBEq, Nat.reduceLT, Nat.reduceLeDiff, reduceIte, reduceCtorEq, Int.reduceToNat, Int.reduceLE, Int.reduceLT, Int.reduceNe, Int.reduceMul, Int.reduceAdd, Int.reduceSub, Int.reduceDiv, Int.reduceMod, Int.reduceEq, Int.reduceGE, Int.reduceGT, Int.reduceNeg, Int.reduceBEq, Int.reduceBNe, Nat.reduceEqDiff, lo, prs_snoc, strs_snoc, ints_len, strs_len, prs_len, strs_cut, strs_app, ts3, ts9, za9, tb9, ts26, ts45, za45, tb45, Tryd.underlying3, Tryd.underlying4, Tryd.underlying9, Tryd.underlying22, Tryd.underlying26, Tryd.underlying40, Tryd.underlying45]
      refine ARet.shift (Shift.freeze 6 (id := 0) rfl rfl (by simp) (Nat.le_refl _) (strs_frz _)) ?_
      refine ARet.shift (Shift.freeze 7 (id := 1) rfl rfl (by simp [prs_len]) (Nat.le_refl _) (prs_frz _)) (aret [6, 7, 8] rfl ⟨?_, rfl⟩)
      simp [resV, Av.get, Av.put, List.take_of_length_le, prs_len]
end Go.Proofs.YtpjbbpilgfihbaaDoor
/- The law MergesTurn, walked. Own work of this seat. -/
set_option maxRecDepth 100000
set_option linter.unusedSimpArgs false
set_option linter.unusedVariables false
namespace Go.Proofs.YtpjbbpilgfihbaaDoor
open Go Go.Av Go.RowKit
attribute [local go_sem ↓] br_true br_false dbr_true dbr_false
attribute [local go_sem] run cont br dbr dx dxc dgrd dyld dres dcall calm fieldPlace? allHas step1 opN grdN resN condN exitN stopN exitIt dOk xop xbin xint xarith xstr xbool xpick xnot xneg xextract xpart xpartOk xindex xfieldF fieldD xnew xbox xalloc xfieldAddr xptrAddIf xindexAddr xloadC xload putCells reElem xstoreB xstore xconv xtext xlen xlen2 xcall xfill xbuild cut rep xbuildSlice xbuildSliceD isRow elemD isU8 ev evs evp Go.Av.put Go.Av.get ofConst yldD yldV args0 cellsOf cond_true cond_false decide_true decide_false decide_eq_true_eq decide_eq_false_iff_not List.getElem?_cons_zero List.getElem?_cons_succ List.getElem?_nil List.getD_cons_zero List.getD_cons_succ List.getD_nil List.set_cons_zero List.set_cons_succ List.length_cons List.length_nil List.cons_append List.nil_append List.append_nil List.all_cons List.all_nil List.map_cons List.map_nil List.take_succ_cons List.take_zero List.drop_succ_cons List.drop_zero Bool.and_true Bool.true_and Bool.and_self Bool.and_false Bool.false_and one Go.Av.frozen beq_self_eq_true true_and and_true forall_const false_implies implies_true and_self Option.map_some Option.map_none Nat.zero_add Nat.add_zero Nat.zero_mul Nat.mul_one Nat.one_mul Int.toNat_zero ne_eq not_false_eq_true not_true_eq_false Bool.true_eq_false Bool.false_eq_true List.toList_toArray inr Go.Av.byteOf isByte decide_eq_decide Bool.not_true Bool.not_false Bool.not_eq_true' Bool.or_true Bool.true_or Bool.or_false Bool.false_or ge_iff_le gt_iff_lt and_assoc Bool.decide_eq_true beq_iff_eq beq_eq_false_iff_ne bne_iff_ne bne_self_eq_false if_true if_false Bool.and_eq_true Bool.or_eq_true Bool.and_eq_false_imp Bool.or_eq_false_iff Bool.not_eq_false' has Option.isSome_some Option.isSome_none Int.toNat_natCast Int.cast_ofNat_Int List.length_append xapp2 xapp xappS xappD xappB notInt srcOf srcB byteAV splice' xcut xcutS xcutF xcutB xcutN xcut0 cutL loOf hiOf evo xmake zelem xmax xcopy2 xcopyS xcopyB xnil xcut3 ixOf xclear2 xclearB List.getElem?_toArray xbin2 xnileq xempty xmkmap xmput xmputB xmputF isKey keyEq mfind xbin3 xeqs xeqop eqFs bothB leafEq

theorem b4 : hasBody Tryd.prog 4 = true := by kernel_rfl
theorem ts25m : tsize Tryd.prog 25 = 2 := by kernel_rfl
theorem za25m : zav Tryd.prog 25 = [.raw (.slice none 0 0), .int .i64 0] := by kernel_rfl

/-- what Merge makes -/
def mrg (base a b : List (List UInt8)) : Ms (List UInt8) := mrun base a b (partL base (pairsL base a)) (partL base (pairsL base b)) (base.length + 1)

theorem part_pairs (base a : List (List UInt8)) : Part base a (partL base (pairsL base a)) := part_of_rise (pairsL_rise base a)
theorem mrg_swap (base a b : List (List UInt8)) : (mrg base b a).out = (mrg base a b).out ∧ (mrg base b a).cl = (mrg base a b).cl := by
  unfold mrg
  rw [mrun_swap base a b (partL base (pairsL base a)) (partL base (pairsL base b))]
  exact ⟨rfl, rfl⟩
theorem mrg_same (base a : List (List UInt8)) : (mrg base a a).out = a ∧ (mrg base a a).cl = [] := by
  unfold mrg
  obtain ⟨_, h2, h3⟩ := mrun_same (part_pairs base a) (base.length + 1) (Nat.le_refl _)
  refine ⟨?_, h3⟩
  rw [h2, mrun_end.1]
  exact List.take_of_length_le (Nat.le_succ _)
theorem mrg_base (base b : List (List UInt8)) : (mrg base base b).out = b ∧ (mrg base base b).cl = [] := by
  have hc : cmpL base base ≤ 0 := by have := cmpL_swap base base; omega
  have hp : pairsL base base = diag 0 base.length := by rw [pairsL, if_pos hc, keptL_self]
  unfold mrg
  obtain ⟨_, h2, h3⟩ := mrun_base (part_pairs base base) (fun n hn => by rw [hp]; exact partL_diag base n hn) (part_pairs base b) (base.length + 1) (Nat.le_refl _)
  refine ⟨?_, h3⟩
  rw [h2, mrun_end.2]
  exact List.take_of_length_le (Nat.le_succ _)

theorem mrg_pc (base a b : List (List UInt8)) (h0 : base.length ≤ 900) (ha : a.length ≤ 900) (hb : b.length ≤ 900) :
    Pc Tryd.prog 11 [.fz 1 (strs base), .fz 1 (strs a), .fz 1 (strs b)] (· = .tup [.fz 1 (strs (mrg base a b).out), .fz 2 (prs (mrg base a b).cl), .int .i64 0]) := merge_pc base a b h0 ha hb _ _ rfl rfl
theorem mrg_small (base a b : List (List UInt8)) (h0 : base.length ≤ 900) (ha : a.length ≤ 900) (hb : b.length ≤ 900) : (mrg base a b).out.length ≤ 3000 ∧ (mrg base a b).cl.length ≤ 3000 := by
  unfold mrg
  have ok := mok (part_pairs base a) (part_pairs base b) (base.length + 1) (Nat.le_refl _)
  have := ok.out
  have := ok.cl
  have := ok.hi
  have := ok.jm
  have := ok.km
  omega

theorem merges_pch (g : Mem) (hsc : PcH Tryd.prog g 10 [] (· = .bool true)) (L : List Int) : PcH Tryd.prog g 4 [.fz 1 (L.map (.int .i64))] (· = .bool true) := by
  refine pch_intro (cth_intro Tryd.func4 rfl Tryd.ntmps4 b4 (by simp) fun h ρ w hg => go (N := 107) Tryd.ntmps4 200 ?_)
  simp only [go_sem, Nat.reduceAdd, Nat.reduceMul, Nat.reduceSub, Nat.reduceBEq, Nat.reduceLT, Nat.reduceLeDiff, reduceIte, reduceCtorEq, Int.reduceToNat, Int.reduceLE, Int.reduceLT, Int.reduceNe, Int.reduceMul, Int.reduceAdd, Int.reduceSub, Int.reduceDiv, Int.reduceMod, Int.reduceEq, Int.reduceGE, Int.reduceGT, Int.reduceNeg, Int.reduceBEq, Int.reduceBNe, Nat.reduceEqDiff, ts3, ts22, ts25m, za25m, Tryd.underlying3, Tryd.underlying4, Tryd.underlying22, Tryd.underlying25]
  refine mcall (agg := str L 0) (lines_mc L 0 7 (by omega) (by omega) (by omega) (by omega)) rfl rfl (id := 0) rfl (N := 107) Tryd.ntmps4 rfl ?_
  rintro _ _ ⟨base, k1, rfl, ha, rfl, hk1, hk1'⟩
  refine go (N := 107) Tryd.ntmps4 200 ?_
  simp only [go_sem, Nat.reduceAdd, Nat.reduceMul, Nat.reduceSub, Nat.reduceBEq, Nat.reduceLT, Nat.reduceLeDiff, reduceIte, reduceCtorEq, Int.reduceToNat, Int.reduceLE, Int.reduceLT, Int.reduceNe, Int.reduceMul, Int.reduceAdd, Int.reduceSub, Int.reduceDiv, Int.reduceMod, Int.reduceEq, Int.reduceGE, Int.reduceGT, Int.reduceNeg, Int.reduceBEq, Int.reduceBNe, Nat.reduceEqDiff, Tryd.underlying3, Tryd.underlying4, Tryd.underlying22, Tryd.underlying25, Tryd.underlying26, Tryd.underlying30, Tryd.underlying40]
  refine mcall (like_mc L k1 base (by omega) (by omega) (by omega)) rfl rfl (id := 0) rfl (N := 107) Tryd.ntmps4 rfl ?_
  rintro _ _ ⟨a, k2, rfl, hb, rfl, hk2, hk2'⟩
  refine go (N := 107) Tryd.ntmps4 200 ?_
  simp only [go_sem, Nat.reduceAdd, Nat.reduceMul, Nat.reduceSub, Nat.reduceBEq, Nat.reduceLT, Nat.reduceLeDiff, reduceIte, reduceCtorEq, Int.reduceToNat, Int.reduceLE, Int.reduceLT, Int.reduceNe, Int.reduceMul, Int.reduceAdd, Int.reduceSub, Int.reduceDiv, Int.reduceMod, Int.reduceEq, Int.reduceGE, Int.reduceGT, Int.reduceNeg, Int.reduceBEq, Int.reduceBNe, Nat.reduceEqDiff, Tryd.underlying3, Tryd.underlying4, Tryd.underlying22, Tryd.underlying25, Tryd.underlying26, Tryd.underlying30, Tryd.underlying40]
  refine mcall (like_mc L k2 base (by omega) (by omega) (by omega)) rfl rfl (id := 0) rfl (N := 107) Tryd.ntmps4 rfl ?_
  rintro _ _ ⟨b, k3, rfl, hb', rfl, hk3, hk3'⟩
  have s1 := mrg_small base a b (by omega) (by omega) (by omega)
  have w1 := mrg_swap base a b
  have w2 := mrg_base base b
  have w3 := mrg_same base a
  refine go (N := 107) Tryd.ntmps4 200 ?_
  simp only [go_sem, Nat.reduceAdd, Nat.reduceMul, Nat.reduceSub, Nat.reduceBEq, Nat.reduceLT, Nat.reduceLeDiff, reduceIte, reduceCtorEq, Int.reduceToNat, Int.reduceLE, Int.reduceLT, Int.reduceNe, Int.reduceMul, Int.reduceAdd, Int.reduceSub, Int.reduceDiv, Int.reduceMod, Int.reduceEq, Int.reduceGE, Int.reduceGT, Int.reduceNeg, Int.reduceBEq, Int.reduceBNe, Nat.reduceEqDiff, Tryd.underlying3, Tryd.underlying4, Tryd.underlying22, Tryd.underlying25, Tryd.underlying26, Tryd.underlying30, Tryd.underlying40]
  refine pcall1 (mrg_pc base a b (by omega) (by omega) (by omega)) rfl (N := 107) Tryd.ntmps4 rfl (go (N := 107) Tryd.ntmps4 200 ?_)
  simp only [go_sem, Nat.reduceAdd, Nat.reduceMul, Nat.reduceSub, Nat.reduceBEq, Nat.reduceLT, Nat.reduceLeDiff, reduceIte, reduceCtorEq, Int.reduceToNat, Int.reduceLE, Int.reduceLT, Int.reduceNe, Int.reduceMul, Int.reduceAdd, Int.reduceSub, Int.reduceDiv, Int.reduceMod, Int.reduceEq, Int.reduceGE, Int.reduceGT, Int.reduceNeg, Int.reduceBEq, Int.reduceBNe, Nat.reduceEqDiff, Tryd.underlying3, Tryd.underlying4, Tryd.underlying22, Tryd.underlying25, Tryd.underlying26, Tryd.underlying30, Tryd.underlying40]
  refine pcall1 (mrg_pc base b a (by omega) (by omega) (by omega)) rfl (N := 107) Tryd.ntmps4 rfl (go (N := 107) Tryd.ntmps4 200 ?_)
  rw [w1.1, w1.2]
  simp only [go_sem, Nat.reduceAdd, Nat.reduceMul, Nat.reduceSub, Nat.reduceBEq, Nat.reduceLT, Nat.reduceLeDiff, reduceIte, reduceCtorEq, Int.reduceToNat, Int.reduceLE, Int.reduceLT, Int.reduceNe, Int.reduceMul, Int.reduceAdd, Int.reduceSub, Int.reduceDiv, Int.reduceMod, Int.reduceEq, Int.reduceGE, Int.reduceGT, Int.reduceNeg, Int.reduceBEq, Int.reduceBNe, Nat.reduceEqDiff, Tryd.underlying3, Tryd.underlying4, Tryd.underlying22, Tryd.underlying25, Tryd.underlying26, Tryd.underlying30, Tryd.underlying40]
  refine pcall1 (mrg_pc base base b (by omega) (by omega) (by omega)) rfl (N := 107) Tryd.ntmps4 rfl (go (N := 107) Tryd.ntmps4 200 ?_)
  rw [w2.1, w2.2]
  simp only [go_sem, Nat.reduceAdd, Nat.reduceMul, Nat.reduceSub, Nat.reduceBEq, Nat.reduceLT, Nat.reduceLeDiff, reduceIte, reduceCtorEq, Int.reduceToNat, Int.reduceLE, Int.reduceLT, Int.reduceNe, Int.reduceMul, Int.reduceAdd, Int.reduceSub, Int.reduceDiv, Int.reduceMod, Int.reduceEq, Int.reduceGE, Int.reduceGT, Int.reduceNeg, Int.reduceBEq, Int.reduceBNe, Nat.reduceEqDiff, Tryd.underlying3, Tryd.underlying4, Tryd.underlying22, Tryd.underlying25, Tryd.underlying26, Tryd.underlying30, Tryd.underlying40]
  refine pcall1 (mrg_pc base a a (by omega) (by omega) (by omega)) rfl (N := 107) Tryd.ntmps4 rfl (go (N := 107) Tryd.ntmps4 200 ?_)
  rw [w3.1, w3.2]
  generalize (mrg base a b).out = x at s1 ⊢
  generalize (mrg base a b).cl = c at s1 ⊢
  have ex : decide (x = x) = true := by simp
  have eb : decide (b = b) = true := by simp
  have ea : decide (a = a) = true := by simp
  simp only [go_sem, Nat.reduceAdd, Nat.reduceMul, Nat.reduceSub, Nat.reduceBEq, Nat.reduceLT, Nat.reduceLeDiff, reduceIte, reduceCtorEq, Int.reduceToNat, Int.reduceLE, Int.reduceLT, Int.reduceNe, Int.reduceMul, Int.reduceAdd, Int.reduceSub, Int.reduceDiv, Int.reduceMod, Int.reduceEq, Int.reduceGE, Int.reduceGT, Int.reduceNeg, Int.reduceBEq, Int.reduceBNe, Nat.reduceEqDiff, Tryd.underlying3, Tryd.underlying4, Tryd.underlying22, Tryd.underlying25, Tryd.underlying26, Tryd.underlying30, Tryd.underlying40]
  refine pcallH1 hg hsc rfl (N := 107) Tryd.ntmps4 rfl (go (N := 107) Tryd.ntmps4 200 ?_)
  simp only [go_sem, Nat.reduceAdd, Nat.reduceMul, Nat.reduceSub, Nat.reduceBEq, Nat.reduceLT, Nat.reduceLeDiff, reduceIte, reduceCtorEq, Int.reduceToNat, Int.reduceLE, Int.reduceLT, Int.reduceNe, Int.reduceMul, Int.reduceAdd, Int.reduceSub, Int.reduceDiv, Int.reduceMod, Int.reduceEq, Int.reduceGE, Int.reduceGT, Int.reduceNeg, Int.reduceBEq, Int.reduceBNe, Nat.reduceEqDiff, Tryd.underlying3, Tryd.underlying4, Tryd.underlying22, Tryd.underlying25, Tryd.underlying26, Tryd.underlying30, Tryd.underlying40]
  refine pcall1 (equal_pc x x (by omega)) rfl (N := 107) Tryd.ntmps4 rfl (go (N := 107) Tryd.ntmps4 200 ?_)
  simp only [go_sem, Nat.reduceAdd, Nat.reduceMul, Nat.reduceSub, Nat.reduceBEq, Nat.reduceLT, Nat.reduceLeDiff, reduceIte, reduceCtorEq, Int.reduceToNat, Int.reduceLE, Int.reduceLT, Int.reduceNe, Int.reduceMul, Int.reduceAdd, Int.reduceSub, Int.reduceDiv, Int.reduceMod, Int.reduceEq, Int.reduceGE, Int.reduceGT, Int.reduceNeg, Int.reduceBEq, Int.reduceBNe, Nat.reduceEqDiff, ex, Tryd.underlying3, Tryd.underlying4, Tryd.underlying22, Tryd.underlying25, Tryd.underlying26, Tryd.underlying30, Tryd.underlying40]
  refine pcall1 (clash_pc c (by omega)) rfl (N := 107) Tryd.ntmps4 rfl (go (N := 107) Tryd.ntmps4 200 ?_)
  simp only [go_sem, Nat.reduceAdd, Nat.reduceMul, Nat.reduceSub, Nat.reduceBEq, Nat.reduceLT, Nat.reduceLeDiff, reduceIte, reduceCtorEq, Int.reduceToNat, Int.reduceLE, Int.reduceLT, Int.reduceNe, Int.reduceMul, Int.reduceAdd, Int.reduceSub, Int.reduceDiv, Int.reduceMod, Int.reduceEq, Int.reduceGE, Int.reduceGT, Int.reduceNeg, Int.reduceBEq, Int.reduceBNe, Nat.reduceEqDiff, Tryd.underlying3, Tryd.underlying4, Tryd.underlying22, Tryd.underlying25, Tryd.underlying26, Tryd.underlying30, Tryd.underlying40]
  refine pcall1 (equal_pc b b (by omega)) rfl (N := 107) Tryd.ntmps4 rfl (go (N := 107) Tryd.ntmps4 200 ?_)
  simp only [go_sem, Nat.reduceAdd, Nat.reduceMul, Nat.reduceSub, Nat.reduceBEq, Nat.reduceLT, Nat.reduceLeDiff, reduceIte, reduceCtorEq, Int.reduceToNat, Int.reduceLE, Int.reduceLT, Int.reduceNe, Int.reduceMul, Int.reduceAdd, Int.reduceSub, Int.reduceDiv, Int.reduceMod, Int.reduceEq, Int.reduceGE, Int.reduceGT, Int.reduceNeg, Int.reduceBEq, Int.reduceBNe, Nat.reduceEqDiff, eb, prs, Tryd.underlying3, Tryd.underlying4, Tryd.underlying22, Tryd.underlying25, Tryd.underlying26, Tryd.underlying30, Tryd.underlying40]
  refine pcall1 (equal_pc a a (by omega)) rfl (N := 107) Tryd.ntmps4 rfl (go (N := 107) Tryd.ntmps4 200 ?_)
  simp only [go_sem, Nat.reduceAdd, Nat.reduceMul, Nat.reduceSub, Nat.reduceBEq, Nat.reduceLT, Nat.reduceLeDiff, reduceIte, reduceCtorEq, Int.reduceToNat, Int.reduceLE, Int.reduceLT, Int.reduceNe, Int.reduceMul, Int.reduceAdd, Int.reduceSub, Int.reduceDiv, Int.reduceMod, Int.reduceEq, Int.reduceGE, Int.reduceGT, Int.reduceNeg, Int.reduceBEq, Int.reduceBNe, Nat.reduceEqDiff, ea, prs, Tryd.underlying3, Tryd.underlying4, Tryd.underlying22, Tryd.underlying25, Tryd.underlying26, Tryd.underlying30, Tryd.underlying40]
  exact aret [2] rfl ⟨rfl, rfl⟩
end Go.Proofs.YtpjbbpilgfihbaaDoor
