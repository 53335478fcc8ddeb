/- Plain law: what merging two lists over a base makes. No program in sight. Own work of this seat. -/
import Derived.Test.YtkomcdohejibmaaGreatDoorS39
import Derived.Test.YtkomcdohejibmaaGreatDoorS27
import Derived.Test.YtkomcdohejibmaaGreatDoorS40
import Derived.Test.YtkomcdohejibmaaGreatDoorS29
import Derived.Test.YtkomcdohejibmaaGreatDoorS23
set_option linter.unusedSimpArgs false
set_option linter.unusedVariables false
namespace Go.Av

section
variable {α : Type}

/-- the numbers of partners, from pairs -/
def setAll : List Int → List (Nat × Nat) → List Int
  | l, [] => l
  | l, p :: r => setAll (l.set p.1 (p.2 : Nat)) r
theorem setAll_len : ∀ (ps : List (Nat × Nat)) (l : List Int), (setAll l ps).length = l.length
  | [], _ => rfl
  | p :: r, l => by rw [setAll, setAll_len r]; simp

/-- partners up to here -/
structure Par (base a : List α) (i j : Nat) (l : List Int) : Prop where
  len : l.length = base.length
  no : ∀ n, i ≤ n → n < base.length → l[n]? = some (-1)
  val : ∀ (n : Nat) (q : Int), n < i → l[n]? = some q → q = -1 ∨ ∃ m : Nat, q = m ∧ m < j ∧ m < a.length ∧ a[m]? = base[n]?
  inc : ∀ (n n' m m' : Nat), n < n' → n' < i → l[n]? = some (m : Int) → l[n']? = some (m' : Int) → m < m'

theorem Par.set {base a : List α} {i j : Nat} {l : List Int} (h : Par base a i j l) {x y : Nat} (hi : i ≤ x) (hj : j ≤ y) (hx : x < base.length) (hy : y < a.length) (e : base[x]? = a[y]?) : Par base a (x + 1) (y + 1) (l.set x (y : Nat)) where
  len := by simp [h.len]
  no := fun n h1 h2 => by rw [List.getElem?_set_ne (by omega)]; exact h.no n (by omega) h2
  val := fun n q h1 h2 => by
    by_cases hn : n = x
    · subst hn
      rw [List.getElem?_set_self (by rw [h.len]; exact hx)] at h2
      cases h2
      exact .inr ⟨y, rfl, by omega, hy, e.symm⟩
    · rw [List.getElem?_set_ne (fun e => hn e.symm)] at h2
      by_cases hni : n < i
      · rcases h.val n q hni h2 with h3 | ⟨m, h3, h4, h5, h6⟩
        · exact .inl h3
        · exact .inr ⟨m, h3, by omega, h5, h6⟩
      · rw [h.no n (by omega) (by omega)] at h2
        cases h2
        exact .inl rfl
  inc := fun n n' m m' h1 h2 h3 h4 => by
    have hn : n ≠ x := by omega
    rw [List.getElem?_set_ne (fun e => hn e.symm)] at h3
    have hni : n < i := by
      rcases Nat.lt_or_ge n i with h' | h'
      · exact h'
      · rw [h.no n h' (by omega)] at h3
        simp only [Option.some.injEq] at h3
        omega
    by_cases hn' : n' = x
    · subst hn'
      rw [List.getElem?_set_self (by rw [h.len]; exact hx)] at h4
      simp only [Option.some.injEq] at h4
      rcases h.val n m hni h3 with h5 | ⟨k, h5, h6, _⟩
      · omega
      · omega
    · rw [List.getElem?_set_ne (fun e => hn' e.symm)] at h4
      have hni' : n' < i := by
        rcases Nat.lt_or_ge n' i with h' | h'
        · exact h'
        · rw [h.no n' h' (by omega)] at h4
          simp only [Option.some.injEq] at h4
          omega
      exact h.inc n n' m m' h1 hni' h3 h4

theorem Par.all {base a : List α} : ∀ (ps : List (Nat × Nat)) {i j : Nat} {l : List Int}, Par base a i j l → Rise base a i j ps → ∃ i' j', i' ≤ base.length ∧ j' ≤ a.length ∧ Par base a i' j' (setAll l ps)
  | [], i, j, l, h, r => ⟨i, j, r.1, r.2, h⟩
  | p :: ps, i, j, l, h, r => Par.all ps (h.set r.1 r.2.1 r.2.2.1 r.2.2.2.1 r.2.2.2.2.1) r.2.2.2.2.2

def partL (base : List α) (ps : List (Nat × Nat)) : List Int := setAll (List.replicate base.length (-1)) ps

/-- what is known of a list of partners -/
structure Part (base a : List α) (l : List Int) : Prop where
  len : l.length = base.length
  val : ∀ (n : Nat) (q : Int), l[n]? = some q → q = -1 ∨ ∃ m : Nat, q = m ∧ m < a.length ∧ a[m]? = base[n]?
  inc : ∀ (n n' m m' : Nat), n < n' → l[n]? = some (m : Int) → l[n']? = some (m' : Int) → m < m'
theorem part_of_rise {base a : List α} {ps : List (Nat × Nat)} (h : Rise base a 0 0 ps) : Part base a (partL base ps) := by
  have h0 : Par base a 0 0 (List.replicate base.length (-1)) := ⟨by simp, fun n _ h2 => by simp [h2], fun n q h1 => by omega, fun n n' m m' _ h2 => by omega⟩
  obtain ⟨i, j, hi, hj, p⟩ := Par.all ps h0 h
  have key : ∀ (n : Nat) (q : Int), (partL base ps)[n]? = some q → q = -1 ∨ n < i := fun n q hq => by
    rcases Nat.lt_or_ge n i with h' | h'
    · exact .inr h'
    · have hn : n < base.length := by
        have := (List.getElem?_eq_some_iff.1 hq).1
        rw [partL, setAll_len] at this
        simpa using this
      rw [partL, p.no n h' hn] at hq
      cases hq
      exact .inl rfl
  refine ⟨p.len, fun n q hq => ?_, fun n n' m m' h1 h2 h3 => ?_⟩
  · rcases key n q hq with h' | h'
    · exact .inl h'
    · rcases p.val n q h' hq with h3 | ⟨m, h3, _, h5, h6⟩
      · exact .inl h3
      · exact .inr ⟨m, h3, h5, h6⟩
  · rcases key n' m' h3 with h' | h'
    · omega
    · exact p.inc n n' m m' h1 h' h2 h3

/-- from j up to toA -/
def upto (l : List α) (j : Nat) (t : Int) : List α := (l.drop j).take (t.toNat - j)

variable [DecidableEq α]

structure Ms (α : Type) where
  i : Nat
  j : Nat
  k : Nat
  out : List α
  cl : List (Nat × Nat)

/-- what one part adds -/
def mput (i n : Nat) (old x y : List α) (out : List α) (cl : List (Nat × Nat)) : List α × List (Nat × Nat) :=
  if x = old then (out ++ y, cl) else if y = old ∨ x = y then (out ++ x, cl) else (out ++ old, cl ++ [(i, n - i)])

def mstep (base a b : List α) (pa pb : List Int) (n : Nat) (s : Ms α) : Ms α :=
  let toA : Int := if n < base.length then pa.getD n 0 else a.length
  let toB : Int := if n < base.length then pb.getD n 0 else b.length
  if n < base.length ∧ (toA < 0 ∨ toB < 0) then s else
    let q := mput s.i n ((base.drop s.i).take (n - s.i)) (upto a s.j toA) (upto b s.k toB) s.out s.cl
    ⟨n + 1, toA.toNat + 1, toB.toNat + 1, q.1 ++ (base[n]?).toList, q.2⟩

def mrun (base a b : List α) (pa pb : List Int) : Nat → Ms α
  | 0 => ⟨0, 0, 0, [], []⟩
  | n + 1 => mstep base a b pa pb n (mrun base a b pa pb n)

/-- where the loop stands -/
structure Mok (base a b : List α) (pa pb : List Int) (n : Nat) (s : Ms α) : Prop where
  hi : s.i ≤ n
  hj : n ≤ base.length → s.j ≤ a.length
  hk : n ≤ base.length → s.k ≤ b.length
  ja : ∀ n' m : Nat, n ≤ n' → n' < base.length → pa[n']? = some (m : Int) → s.j ≤ m
  kb : ∀ n' m : Nat, n ≤ n' → n' < base.length → pb[n']? = some (m : Int) → s.k ≤ m
  out : s.out.length + 1 ≤ s.i + s.j + s.k + 1
  cl : s.cl.length ≤ n
  jm : s.j ≤ a.length + 1
  km : s.k ≤ b.length + 1

theorem getD_of {l : List Int} {n : Nat} (h : n < l.length) : l[n]? = some (l.getD n 0) := by simp [List.getD, h]

theorem mput_len (i n : Nat) (old x y out : List α) (cl : List (Nat × Nat)) : (mput i n old x y out cl).1.length ≤ out.length + old.length + x.length + y.length ∧ (mput i n old x y out cl).2.length ≤ cl.length + 1 := by
  unfold mput
  split
  · simp; omega
  · split
    · simp; omega
    · simp; omega

theorem mok {base a b : List α} {pa pb : List Int} (ha : Part base a pa) (hb : Part base b pb) : ∀ n, n ≤ base.length + 1 → Mok base a b pa pb n (mrun base a b pa pb n)
  | 0, _ => ⟨by simp [mrun], by simp [mrun], by simp [mrun], by simp [mrun], by simp [mrun], by simp [mrun], by simp [mrun], by simp [mrun], by simp [mrun]⟩
  | n + 1, hn => by
    have ih := mok ha hb n (by omega)
    rw [mrun]
    generalize mrun base a b pa pb n = s at ih
    unfold mstep
    simp only
    have hml := mput_len s.i n ((base.drop s.i).take (n - s.i)) (upto a s.j (if n < base.length then pa.getD n 0 else (a.length : Int))) (upto b s.k (if n < base.length then pb.getD n 0 else (b.length : Int))) s.out s.cl
    have hbl : (base[n]?).toList.length ≤ 1 := by cases base[n]? <;> simp
    have h1 := ih.hi
    have h2 := ih.out
    have h3 := ih.cl
    by_cases hc : n < base.length ∧ ((if n < base.length then pa.getD n 0 else (a.length : Int)) < 0 ∨ (if n < base.length then pb.getD n 0 else (b.length : Int)) < 0)
    · rw [if_pos hc]
      exact ⟨by omega, fun _ => ih.hj (by omega), fun _ => ih.hk (by omega), fun n' m h => ih.ja n' m (by omega), fun n' m h => ih.kb n' m (by omega), by omega, by omega, ih.jm, ih.km⟩
    · rw [if_neg hc]
      have hou : ((base.drop s.i).take (n - s.i)).length ≤ n - s.i := by simp; omega
      by_cases hnl : n < base.length
      · simp only [hnl, if_true, true_and, not_or, Int.not_lt] at hc hml ⊢
        have ga := getD_of (l := pa) (n := n) (by rw [ha.len]; exact hnl)
        have gb := getD_of (l := pb) (n := n) (by rw [hb.len]; exact hnl)
        rcases ha.val n _ ga with e1 | ⟨m, e1, m1, _⟩
        · omega
        rcases hb.val n _ gb with e2 | ⟨m', e2, m2, _⟩
        · omega
        rw [e1] at ga hml ⊢
        rw [e2] at gb hml ⊢
        have hja := ih.ja n m (Nat.le_refl _) hnl ga
        have hkb := ih.kb n m' (Nat.le_refl _) hnl gb
        have l1 : (upto a s.j (m : Int)).length ≤ m - s.j := by simp [upto]; omega
        have l2 : (upto b s.k (m' : Int)).length ≤ m' - s.k := by simp [upto]; omega
        refine ⟨by simp only; omega, fun _ => by simp only [Int.toNat_natCast]; omega, fun _ => by simp only [Int.toNat_natCast]; omega, fun n' q h4 h5 h6 => ?_, fun n' q h4 h5 h6 => ?_, ?_, by simp only; omega, by simp only [Int.toNat_natCast]; omega, by simp only [Int.toNat_natCast]; omega⟩
        · have := ha.inc n n' m q (by omega) ga h6
          simp only [Int.toNat_natCast]; omega
        · have := hb.inc n n' m' q (by omega) gb h6
          simp only [Int.toNat_natCast]; omega
        · simp only [List.length_append, Int.toNat_natCast]; omega
      · simp only [hnl, if_false] at hml ⊢
        have hj := ih.hj (by omega)
        have hk := ih.hk (by omega)
        have l1 : (upto a s.j (a.length : Int)).length ≤ a.length - s.j := by simp [upto]
        have l2 : (upto b s.k (b.length : Int)).length ≤ b.length - s.k := by simp [upto]
        refine ⟨by simp only; omega, fun h => by omega, fun h => by omega, fun n' q h4 h5 => by omega, fun n' q h4 h5 => by omega, ?_, by simp only; omega, by simp only [Int.toNat_natCast]; omega, by simp only [Int.toNat_natCast]; omega⟩
        simp only [List.length_append, Int.toNat_natCast]; omega

/-- at the end -/
theorem mrun_end {base a b : List α} {pa pb : List Int} : (mrun base a b pa pb (base.length + 1)).j = a.length + 1 ∧ (mrun base a b pa pb (base.length + 1)).k = b.length + 1 := by
  rw [mrun]
  unfold mstep
  simp
end
end Go.Av
/- slices.Repeat of one number, and the partners of lines. Own work of this seat. -/
set_option maxRecDepth 100000
set_option linter.unusedSimpArgs false
set_option linter.unusedVariables false
namespace Go.Proofs.YtkomcdohejibmaaGreatDoor
open Go Go.Av Go.RowKit


theorem rvE_int {h : Mem} {v : Value} {k : IntKind} {n : Int} (r : RV h Lf0 true v (.int k n)) : v = .int k n := by cases r with | int => rfl
theorem mul_pc (x y : Nat) (h : x * y < 18446744073709551616) (hx : x < 18446744073709551616) (hy : y < 18446744073709551616) : Pc Tryz.prog 188 [.int .u64 x, .int .u64 y] (· = .tup [.int .u64 0, .int .u64 (x * y : Nat)]) :=
  o_pc [.int .u64 x, .int .u64 y] (.tuple #[.int .u64 0, .int .u64 (x * y : Nat)]) hB188
    (fun h vs' r => by cases r with | cons r1 r => cases r with | cons r2 r => cases r; rw [rvE_int r1, rvE_int r2]) (fun h => .tup [_, _] [_, _] (.cons (.int _ _) (.cons (.int _ _) .nil)))
    fun w => (Any.bits_Mul Tryz.lays212 x y hx hy w).mono fun e w' ⟨h1, h2⟩ => by
      subst h2
      rw [Nat.div_eq_of_lt h, Nat.mod_eq_of_lt h] at h1
      exact ⟨h1, .refl w'⟩

def fillL (v : AV) (z : AV) (n m : Nat) : List AV := List.replicate m v ++ List.replicate (n - m) z
theorem fillL_len {v z : AV} {n m : Nat} (h : m ≤ n) : (fillL v z n m).length = n := by simp [fillL]; omega

theorem wrap_u {n : Int} (h0 : 0 ≤ n) (h1 : n < 18446744073709551616) : IntKind.u64.wrap n = n := IntWalk.u64_in n ⟨h0, by omega⟩
theorem fill_start (v z : AV) (n : Nat) : List.take n [v] ++ List.drop (List.take n [v]).length (List.replicate n z) = fillL v z n (min 1 n) := by
  cases n with
  | zero => rfl
  | succ n =>
    simp only [List.take_succ_cons, List.take_nil, List.length_cons, List.length_nil, fillL, Nat.min_eq_left (Nat.le_add_left 1 n), List.drop_replicate]
    rfl
theorem fill_next {v z : AV} {n m : Nat} (h : m ≤ n) : (fillL v z n m).take m ++ ((fillL v z n m).take m).take (n - m) ++ (fillL v z n m).drop (m + (((fillL v z n m).take m).take (n - m)).length) = fillL v z n (m + min m (n - m)) := by
  have e1 : (fillL v z n m).take m = List.replicate m v := by rw [fillL, List.take_append_of_le_length (by simp), List.take_replicate, Nat.min_self]
  rw [e1, List.take_replicate, List.length_replicate, fillL]
  have e2 : List.drop (m + min (n - m) m) (List.replicate m v ++ List.replicate (n - m) z) = List.replicate (n - (m + min m (n - m))) z := by
    rw [List.drop_append, List.drop_replicate, List.drop_replicate, List.length_replicate]
    rw [show m - (m + min (n - m) m) = 0 by omega, show m + min (n - m) m - m = min (n - m) m by omega, List.replicate_zero, List.nil_append]
    congr 1
    omega
  rw [e2, fillL, List.replicate_append_replicate]
  congr 2
  omega

theorem repeat_ct (v : Int) (n : Nat) (hn : n ≤ 1000000) : Ct Tryz.prog 170 [.fz 1 [.int .i64 v], .int .i64 n] [] (fun r s => r = .sl 0 0 n n ∧ s = [.arr 1 (List.replicate n (.int .i64 v))]) := by
  refine ct_intro Tryz.func170 rfl Tryz.ntmps170 hB170 (by simp) fun h ρ w => go (N := 48) Tryz.ntmps170 300 ?_
  have d0 : decide ((n : Int) < 0) = false := by simp
  simp only [go_sem, d0]
  refine ⟨rfl, wrap_u (by omega) (by omega), ?_⟩
  refine pcall1 (mul_pc 1 n (by omega) (by omega) (by omega)) rfl (N := 48) Tryz.ntmps170 rfl (go (N := 48) Tryz.ntmps170 300 ?_)
  have d1 : decide (9223372036854775807 < (n : Int)) = false := by simp; omega
  simp only [go_sem, d0, d1]
  have e0 : (List.replicate n (AV.int .i64 0)).length = n := by simp
  rw [fill_start]
  repeat refine And.intro (by first | omega | rfl) ?_
  refine aloop (ι := Nat) (fun m => n - m) (fun m => [(8, .int .i64 m), (7, .sl 0 0 n n)]) (fun m => [.arr 1 (fillL (.int .i64 v) (.int .i64 0) n m)]) (fun m => m ≤ n ∧ (0 < n → 0 < m)) (min 1 n) ⟨by omega, by omega⟩ ?_ ?_
  · refine Shift.weak ?_
    simp only [wk, go_sem]
  · rintro m ⟨m1, m2⟩ J hJ
    refine go (N := 48) Tryz.ntmps170 300 ?_
    have hl := fillL_len (v := .int .i64 v) (z := .int .i64 0) m1
    by_cases hm : (m : Int) < n
    · simp only [go_sem, hm, hl]
      repeat refine And.intro (by first | omega | rfl) ?_
      refine adraw [] mixed (by decide) (N := 48) Tryz.ntmps170 (by decide) 100 ?_
      have k1 : ((n : Int) - m).toNat = n - m := by omega
      have k2 : ((fillL (.int .i64 v) (.int .i64 0) n m).take m).length = m := by rw [List.length_take, hl]; omega
      simp only [go_sem, hl, k1, k2, Int.sub_zero, Nat.sub_zero]
      repeat refine And.intro (by first | omega | rfl | exact .inl trivial) ?_
      refine go (N := 48) Tryz.ntmps170 300 ?_
      simp only [go_sem]
      rw [fill_next m1, show (m : Int) + (min m (n - m) : Nat) = ((m + min m (n - m) : Nat) : Int) by omega]
      refine ainv (hJ (m + min m (n - m)) ⟨by omega, by omega⟩ (by omega)) (Shift.weak ?_)
      simp only [wk, go_sem]
    · simp only [go_sem, hm, hl]
      have e : m = n := by omega
      subst e
      refine aret [4] rfl ⟨rfl, ?_⟩
      simp [fillL]


theorem prs_get {ps : List (Nat × Nat)} {i : Nat} (h : i < ps.length) : (prs ps).getD i .any = .agg [.int .i64 (ps[i].1 : Nat), .int .i64 (ps[i].2 : Nat)] := by simp [prs, List.getD, h]
theorem rise_lt {α : Type} {a b : List α} : ∀ {ps : List (Nat × Nat)} {i j : Nat}, Rise a b i j ps → ∀ p ∈ ps, p.1 < a.length ∧ p.2 < b.length
  | [], _, _, _, p, hp => by cases hp
  | q :: r, _, _, h, p, hp => by
    rcases List.mem_cons.1 hp with rfl | hp
    · exact ⟨h.2.2.1, h.2.2.2.1⟩
    · exact rise_lt h.2.2.2.2.2 p hp

theorem pairsL_rise (a b : List (List UInt8)) : Rise a b 0 0 (pairsL a b) := by
  unfold pairsL
  split
  · exact keptL_rise a b a b 0 0 rfl rfl (by omega) (by omega)
  · exact (keptL_rise b a b a 0 0 rfl rfl (by omega) (by omega)).swpP
theorem setAll_take {ps : List (Nat × Nat)} : ∀ {l : List Int} {t : Nat} (h : t < ps.length), setAll l (ps.take (t + 1)) = (setAll l (ps.take t)).set ps[t].1 (ps[t].2 : Nat) := by
  induction ps with
  | nil => intro l t h; simp at h
  | cons p r ih =>
    intro l t h
    cases t with
    | zero => simp [setAll]
    | succ t => simp only [List.take_succ_cons, setAll, List.getElem_cons_succ]; exact ih (by simpa using h)

def ints (l : List Int) : List AV := l.map (.int .i64)
theorem ints_len (l : List Int) : (ints l).length = l.length := by simp [ints]
theorem ints_set (l : List Int) (i : Nat) (v : Int) : (ints l).set i (.int .i64 v) = ints (l.set i v) := by simp [ints]

theorem ints_get {l : List Int} {i : Nat} (h : i < l.length) : (ints l).getD i .any = .int .i64 (l.getD i 0) := by simp [ints, List.getD, h]
theorem ints_frz (l : List Int) : dry (.arr 1 (ints l)) = true := by
  simp only [dry]
  induction l with
  | nil => rfl
  | cons x l ih => simpa [ints, flat, cellsOf, Av.frozen] using ih
theorem prs_frz (l : List (Nat × Nat)) : (flat (prs l)).all Av.frozen = true := by
  induction l with
  | nil => rfl
  | cons x l ih => simpa [prs, flat, cellsOf, Av.frozen] using ih
theorem pairs_pc (a b : List (List UInt8)) (ha : a.length ≤ 3000) (hb : b.length ≤ 3000) : Pc Tryz.prog 171 [.fz 1 (strs a), .fz 1 (strs b)] (· = .fz 2 (prs (pairsL a b))) :=
  pc_of_ct (by simp [prs_len]) (prs_frz _) (pairs_ct a b ha hb)

theorem partner_pc (a b : List (List UInt8)) (ha : a.length ≤ 3000) (hb : b.length ≤ 3000) : Pc Tryz.prog 126 [.fz 1 (strs a), .fz 1 (strs b)] (· = .fz 1 (ints (partL a (pairsL a b)))) := by
  refine pc_intro (ct_intro Tryz.func126 rfl Tryz.ntmps126 hB126 (by simp) fun h ρ w => goF (N := 28) Tryz.ntmps126 300 ?_)
  simp only [go_sem, strs_len]
  refine acall (repeat_ct (-1) a.length (by omega)) (N := 28) Tryz.ntmps126 rfl ?_
  rintro _ _ ⟨rfl, rfl⟩
  refine go (N := 28) Tryz.ntmps126 300 ?_
  simp only [go_sem, strs_len]
  refine pcall1 (pairs_pc a b ha hb) rfl (N := 28) Tryz.ntmps126 rfl (go (N := 28) Tryz.ntmps126 300 ?_)
  simp only [go_sem, prs_len]
  have e0 : List.replicate a.length (AV.int .i64 (-1)) = ints (setAll (List.replicate a.length (-1)) ((pairsL a b).take 0)) := by simp [ints, setAll]
  rw [e0]
  refine aloop (ι := Nat) (fun t => (pairsL a b).length - t)
    (fun t => [(16, .int .i64 t), (15, .int .i64 (pairsL a b).length), (14, .fz 2 (prs (pairsL a b))), (5, .sl 0 0 a.length a.length)])
    (fun t => [.arr 1 (ints (setAll (List.replicate a.length (-1)) ((pairsL a b).take t)))]) (fun t => t ≤ (pairsL a b).length) 0 (by omega) ?_ ?_
  · refine Shift.weak ?_
    simp only [wk, go_sem]
  · rintro t g1 J hJ
    have hlen : (setAll (List.replicate a.length (-1)) ((pairsL a b).take t)).length = a.length := by rw [setAll_len]; simp
    have hil := ints_len (setAll (List.replicate a.length (-1)) ((pairsL a b).take t))
    rw [hlen] at hil
    refine go (N := 28) Tryz.ntmps126 300 ?_
    by_cases ht : (t : Int) < (pairsL a b).length
    · have htl : t < (pairsL a b).length := by omega
      have hg := prs_get htl
      have hx := setAll_take (l := List.replicate a.length (-1)) htl
      have hlt := rise_lt (pairsL_rise a b) _ (List.getElem_mem htl)
      generalize (pairsL a b)[t] = pt at hg hx hlt
      have hgi := ints_get (l := setAll (List.replicate a.length (-1)) ((pairsL a b).take t)) (i := pt.1) (by rw [hlen]; exact hlt.1)
      simp only [go_sem, ht, hg, hgi, hil, prs_len, strs_len, ints_set]
      rw [← hx, show (t : Int) + 1 = ((t + 1 : Nat) : Int) by omega]
      have hpl : (pairsL a b).length ≤ 3000 := by
        have h1 := keptL_len a b 0 0
        have h2 := keptL_len b a 0 0
        unfold pairsL
        split
        · omega
        · rw [List.length_map]; omega
      repeat refine And.intro (by first | omega | rfl | exact .inl trivial) ?_
      refine ainv (hJ (t + 1) (by omega) (by omega)) (Shift.only 0 0 (Nat.le_refl _) (Nat.le_refl _) rfl (by simp) (ints_frz _) rfl ?_)
      simp [wkg, okg, go_sem, Av.frozen]
    · simp only [go_sem, ht, hil, prs_len, strs_len]
      have e : t = (pairsL a b).length := by omega
      subst e
      rw [List.take_length] at hil ⊢
      refine ARet.shift (Shift.freeze 4 (id := 0) rfl rfl (by simp [hil]) (Nat.le_refl _) (ints_frz _)) (aret [4] rfl ⟨?_, rfl⟩)
      simp [resV, Av.get, Av.put, partL, List.take_of_length_le, hil]
end Go.Proofs.YtkomcdohejibmaaGreatDoor
