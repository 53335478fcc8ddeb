/- take.Conform: plain words, and the table while takes are carried over. Own work of this seat. -/
import Derived.Test.YtkfpiadgjbhcpaaGreatDoorT48
import Derived.Test.YtkfpiadgjbhcpaaGreatDoorT34
import Derived.Test.YtkfpiadgjbhcpaaGreatDoorT24
set_option maxRecDepth 100000
set_option linter.unusedSimpArgs false
set_option linter.unusedVariables false
namespace Go.Proofs.YtkfpiadgjbhcpaaGreatDoor
open Go Go.Av Go.RowKit

/-- the pairs of the paragraphs of the scenes with a number in two scripts -/
def psOf (xs ys : List Sc) (no : List UInt8) : List (Nat × Nat) := match xs.find? (fun y => y.no == no), ys.find? (fun y => y.no == no) with
  | some a, some b => pairsL (a.paras.map lnP) (b.paras.map lnP)
  | _, _ => []
def confC (ps : List (Nat × Nat)) (c : Cv) : Option Cv := (ps.find? fun p => (p.1 : Int) == c.para).map fun p => ⟨p.2, c.inn, c.out, c.on⟩
def confT (xs ys : List Sc) (t : Tk) : Tk := ⟨t.scene, t.setup, t.number, t.roll, t.sound, t.inn, t.out, t.good, t.covers.filterMap (confC (psOf xs ys t.scene))⟩
/-- what take.Conform makes of takes -/
def confL (xs ys : List Sc) (l : List Tk) : List Tk := (l.filter fun t => ys.any fun y => y.no == t.scene).map (confT xs ys)

def prM (ps : List (Nat × Nat)) : List (AV × AV) := ps.map fun p => (.int .i64 (p.1 : Nat), .int .i64 (p.2 : Nat))
def keM (m : List UInt8 × Nat) : AV × AV := (.str m.1, .mp m.2)
/-- a take whose covers lie in the block j -/
def tkH (j : Nat) (t : Tk) : AV := .agg [.str t.scene, .str t.setup, .int .i64 t.number, .str t.roll, .str t.sound, .int .i64 t.inn, .int .i64 t.out, .bool t.good, .sl j 0 t.covers.length t.covers.length]
def rowH (q : Tk × Nat) : AV := tkH q.2 q.1
theorem find_no {xs : List Sc} (hd : ∀ i (h : i < xs.length) j (h2 : j < xs.length), xs[i].no = xs[j].no → i = j) {i : Nat} (hi : i < xs.length) : xs.find? (fun y => y.no == xs[i].no) = some xs[i] := by
  rw [List.find?_eq_some_iff_getElem]
  refine ⟨by simp, i, hi, rfl, fun j hj => ?_⟩
  have : xs[j].no ≠ xs[i].no := fun e => by have := hd _ (by omega) _ hi e; omega
  simpa using this
theorem rise_lt {α : Type} {a b : List α} : ∀ {ps : List (Nat × Nat)} {i j : Nat}, Rise a b i j ps → ps.Pairwise (fun p q => p.1 < q.1 ∧ p.2 < q.2) ∧ ∀ p ∈ ps, i ≤ p.1 ∧ j ≤ p.2 ∧ p.1 < a.length ∧ p.2 < b.length
  | [], _, _, _ => ⟨.nil, by simp⟩
  | p :: r, i, j, h => by
    obtain ⟨h1, h2, h3, h4, _, h6⟩ := h
    obtain ⟨k1, k2⟩ := rise_lt h6
    refine ⟨List.pairwise_cons.2 ⟨fun q hq => ?_, k1⟩, fun q hq => ?_⟩
    · have := k2 q hq; omega
    · rcases List.mem_cons.1 hq with rfl | hq
      · exact ⟨h1, h2, h3, h4⟩
      · have := k2 q hq; omega
theorem prM_find (key : Int) : ∀ (ps : List (Nat × Nat)) (n : Nat), (mfind (.int .i64) (.int .i64 key) (prM ps) n = some none ∧ ps.find? (fun p => (p.1 : Int) == key) = none) ∨
    ∃ i p, mfind (.int .i64) (.int .i64 key) (prM ps) n = some (some (n + i, .int .i64 (p.2 : Nat))) ∧ ps.find? (fun p => (p.1 : Int) == key) = some p
  | [], n => .inl ⟨rfl, rfl⟩
  | g :: r, n => by
    simp only [prM, List.map_cons, mfind, keyEq, List.find?_cons]
    by_cases hb : key = (g.1 : Int)
    · refine .inr ⟨0, g, ?_, ?_⟩ <;> simp [hb]
    · have hb' : (key == (g.1 : Int)) = false := by simpa using hb
      have hb2 : ((g.1 : Int) == key) = false := by simpa using Ne.symm hb
      simp only [hb2]
      rcases prM_find key r (n + 1) with ⟨h, hn⟩ | ⟨i, g', h1, h2⟩
      · exact .inl ⟨by simpa [hb', prM] using h, hn⟩
      · refine .inr ⟨i + 1, g', ?_, h2⟩
        simp only [hb']
        rw [show n + (i + 1) = n + 1 + i by omega]
        simpa [prM] using h1
theorem keM_find (s : List UInt8) : ∀ (M : List (List UInt8 × Nat)) (n : Nat), mfind .string (.str s) (M.map keM) n = some none ∨
    ∃ i m, mfind .string (.str s) (M.map keM) n = some (some (n + i, .mp m.2)) ∧ m ∈ M ∧ m.1 = s
  | [], n => .inl rfl
  | g :: r, n => by
    simp only [List.map_cons, keM, mfind, keyEq]
    by_cases hb : s = g.1
    · exact .inr ⟨0, g, by simp [hb], by simp, hb.symm⟩
    · have hb' : (s == g.1) = false := by simpa using hb
      rcases keM_find s r (n + 1) with h | ⟨i, g', h1, h2, h3⟩
      · exact .inl (by simpa [hb'] using h)
      · refine .inr ⟨i + 1, g', ?_, by simp [h2], h3⟩
        simp only [hb']
        rw [show n + (i + 1) = n + 1 + i by omega]
        simpa using h1
theorem keM_last (s : List UInt8) (a : Nat) (M : List (List UInt8 × Nat)) (n : Nat) (h : mfind .string (.str s) (M.map keM) n = some none) : mfind .string (.str s) ((M ++ [(s, a)]).map keM) n = some (some (n + M.length, .mp a)) := by
  induction M generalizing n with
  | nil => simp [keM, mfind, keyEq]
  | cons g r ih =>
    simp only [List.map_cons, keM, mfind, keyEq] at h
    simp only [List.cons_append, List.map_cons, keM, mfind, keyEq]
    by_cases hb : s = g.1
    · simp [hb] at h
    · have hb' : (s == g.1) = false := by simpa using hb
      simp only [hb'] at h ⊢
      have := ih (n + 1) (by simpa using h)
      rw [show n + (g :: r).length = n + 1 + r.length by simp; omega]
      simpa using this
/-- the table while takes are carried over -/
structure ConI (xs ys : List Sc) (M : List (List UInt8 × Nat)) (R : List (Tk × Nat)) (T : List Blk) : Prop where
  h0 : T[0]? = some (.mp (scMF 0 xs))
  h1 : T[1]? = some (.mp (scMF 0 ys))
  h2 : T[2]? = some (.mp (M.map keM))
  h3 : T[3]? = some (.arr 9 (R.map rowH))
  maps : ∀ m ∈ M, 4 ≤ m.2 ∧ T[m.2]? = some (.mp (prM (psOf xs ys m.1)))
  rows : ∀ q ∈ R, 4 ≤ q.2 ∧ T[q.2]? = some (.arr 4 (q.1.covers.map cvA))
  inj : R.Pairwise fun p q => p.2 ≠ q.2
  low : T.all (lowB T.length) = true
theorem ConI.big {xs ys M R T} (h : ConI xs ys M R T) : 4 ≤ T.length := by
  have := (List.getElem?_eq_some_iff.1 h.h3).1; omega
theorem ConI.mlt {xs ys M R T} (h : ConI xs ys M R T) {m} (hm : m ∈ M) : m.2 < T.length := (List.getElem?_eq_some_iff.1 (h.maps m hm).2).1
theorem ConI.rlt {xs ys M R T} (h : ConI xs ys M R T) {q} (hq : q ∈ R) : q.2 < T.length := (List.getElem?_eq_some_iff.1 (h.rows q hq).2).1
theorem atT_app {T : List Blk} {k : Nat} {b : Blk} (h : T[k]? = some b) (y : Blk) : (T ++ [y])[k]? = some b := by
  rw [List.getElem?_append_left (List.getElem?_eq_some_iff.1 h).1]; exact h
theorem atT_end (T : List Blk) (y : Blk) : (T ++ [y])[T.length]? = some y := by simp
theorem ConI.more {xs ys M R T} (h : ConI xs ys M R T) {y : Blk} (hy : lowB (T.length + 1) y = true) : ConI xs ys M R (T ++ [y]) :=
  ⟨atT_app h.h0 y, atT_app h.h1 y, atT_app h.h2 y, atT_app h.h3 y, fun m hm => ⟨(h.maps m hm).1, atT_app (h.maps m hm).2 y⟩, fun q hq => ⟨(h.rows q hq).1, atT_app (h.rows q hq).2 y⟩, h.inj, low_more h.low hy⟩
theorem low_prM (n : Nat) : ∀ ps : List (Nat × Nat), lowB n (.mp (prM ps)) = true
  | [] => rfl
  | p :: r => by
    have ih := low_prM n r
    simp only [lowB, prM, List.map_cons, List.all_cons] at ih ⊢
    rw [ih]; rfl
theorem low_keM {n : Nat} : ∀ {M : List (List UInt8 × Nat)}, (∀ m ∈ M, m.2 < n) → lowB n (.mp (M.map keM)) = true
  | [], _ => rfl
  | m :: r, h => by
    have ih := low_keM (M := r) fun q hq => h q (by simp [hq])
    have hm := h m (by simp)
    simp only [lowB, List.map_cons, List.all_cons, keM] at ih ⊢
    rw [ih]
    simpa [lowV, lowC] using hm
theorem low_rowH {n : Nat} : ∀ {R : List (Tk × Nat)}, (∀ q ∈ R, q.2 < n) → lowB n (.arr 9 (R.map rowH)) = true
  | [], _ => rfl
  | q :: r, h => by
    have ih := low_rowH (R := r) fun p hp => h p (by simp [hp])
    have hq := h q (by simp)
    simp only [lowB, List.map_cons, flat, List.all_append, Bool.and_eq_true] at ih ⊢
    refine ⟨?_, ih⟩
    simp [rowH, tkH, cellsOf, lowC, hq, Av.frozen]
/-- the pairs of a scene more -/
theorem ConI.pair {xs ys M R T} (h : ConI xs ys M R T) (s : List UInt8) : ConI xs ys (M ++ [(s, T.length)]) R ((T ++ [Blk.mp (prM (psOf xs ys s))]).set 2 (Blk.mp ((M ++ [(s, T.length)]).map keM))) := by
  have hb := h.big
  have h' := h.more (y := .mp (prM (psOf xs ys s))) (low_prM _ _)
  refine ⟨gd_set h'.h0 (by omega) _, gd_set h'.h1 (by omega) _, ?_, gd_set h'.h3 (by omega) _, fun m hm => ?_, fun q hq => ⟨(h'.rows q hq).1, gd_set (h'.rows q hq).2 (by have := (h'.rows q hq).1; omega) _⟩, h.inj, ?_⟩
  · rw [List.getElem?_set_self (by simp; omega)]
  · rcases List.mem_append.1 hm with hm | hm
    · exact ⟨(h'.maps m hm).1, gd_set (h'.maps m hm).2 (by have := (h'.maps m hm).1; omega) _⟩
    · rw [List.mem_singleton.1 hm]
      exact ⟨hb, by rw [List.getElem?_set_ne (by simp only; omega)]; exact atT_end _ _⟩
  · refine low_set h'.low (low_keM fun m hm => ?_)
    rw [List.length_append, List.length_singleton]
    rcases List.mem_append.1 hm with hm | hm
    · have := h.mlt hm; omega
    · rw [List.mem_singleton.1 hm]; simp only; omega
/-- a take more; in the block k something else lay, which nobody knows -/
theorem ConI.row {xs ys M R T} (h : ConI xs ys M R T) (t : Tk) {k : Nat} (hk : 4 ≤ k) (hkl : k < T.length) (hm : ∀ m ∈ M, m.2 ≠ k) (hr : ∀ q ∈ R, q.2 ≠ k) :
    ConI xs ys M (R ++ [(t, T.length)]) (((T ++ [Blk.arr 4 (t.covers.map cvA)]).set k (Blk.arr 9 [tkH T.length t])).set 3 (Blk.arr 9 ((R ++ [(t, T.length)]).map rowH))) := by
  have hb := h.big
  have h' := h.more (y := .arr 4 (t.covers.map cvA)) (low_all (cv_frz t.covers))
  refine ⟨gd_set (gd_set h'.h0 (by omega) _) (by omega) _, gd_set (gd_set h'.h1 (by omega) _) (by omega) _, gd_set (gd_set h'.h2 (by omega) _) (by omega) _, ?_, fun m hm' => ?_, fun q hq => ?_, ?_, ?_⟩
  · rw [List.getElem?_set_self (by simp; omega)]
  · exact ⟨(h'.maps m hm').1, gd_set (gd_set (h'.maps m hm').2 (Ne.symm (hm m hm')) _) (by have := (h'.maps m hm').1; omega) _⟩
  · rcases List.mem_append.1 hq with hq | hq
    · exact ⟨(h'.rows q hq).1, gd_set (gd_set (h'.rows q hq).2 (Ne.symm (hr q hq)) _) (by have := (h'.rows q hq).1; omega) _⟩
    · rw [List.mem_singleton.1 hq]
      refine ⟨hb, ?_⟩
      simp only
      rw [List.getElem?_set_ne (by omega), List.getElem?_set_ne (by omega)]
      exact atT_end _ _
  · rw [List.pairwise_append]
    exact ⟨h.inj, List.pairwise_singleton .., fun a ha b hb => by rw [List.mem_singleton.1 hb]; have := h.rlt ha; simp only; omega⟩
  · refine low_set (low_set h'.low ?_) (low_rowH fun q hq => ?_)
    · rw [List.length_append, List.length_singleton]
      simp [lowB, flat, tkH, cellsOf, lowC, Av.frozen]
    · rw [List.length_set, List.length_append, List.length_singleton]
      rcases List.mem_append.1 hq with hq | hq
      · have := h.rlt hq; omega
      · rw [List.mem_singleton.1 hq]; simp only; omega
-- a table with two blocks at its end
theorem gd_e0 (A : List Blk) (x y d : Blk) : ((A ++ [x]) ++ [y]).getD A.length d = x := by simp [List.getD]
theorem gd_e1 (A : List Blk) (x y d : Blk) : ((A ++ [x]) ++ [y]).getD (A.length + 1) d = y := by simp [List.getD]
theorem st_e0 (A : List Blk) (x y z : Blk) : ((A ++ [x]) ++ [y]).set A.length z = (A ++ [z]) ++ [y] := by simp
theorem st_e1 (A : List Blk) (x y z : Blk) : ((A ++ [x]) ++ [y]).set (A.length + 1) z = (A ++ [x]) ++ [z] := by simp
theorem gd_app2 {T : List Blk} {k : Nat} {b : Blk} (h : T[k]? = some b) (x y : Blk) : ((T ++ [x]) ++ [y]).getD k .dead = b := gd_app (atT_app h x) y
theorem shC_scMF (k : Nat) : ∀ (l : List Sc) (n : Nat), (scMF n l).map (fun x => (x.1, shC k x.2)) = scMF n l
  | [], _ => rfl
  | y :: r, n => by simp only [scMF, List.map_cons, shC_scMF k r (n + 1)]; rfl
end Go.Proofs.YtkfpiadgjbhcpaaGreatDoor
set_option linter.unusedSectionVars false
namespace Go.Av
open Go Go.RowKit
variable [Tr]

/-- a call that makes new blocks, over every table -/
theorem CtH.liftN {P : Program} {g : Std} {f : FuncId} {args : List AV} {post : AV → List Blk → Prop} (hc : CtH P g f args [] post) (ha : args.all nr1 = true) (hmp : ∀ r s', post r s' → s'.all mpOk = true)
    (s : List Blk) : CtH P g f args s (fun r2 s2 => ∃ r s', post r s' ∧ r2 = shV s.length r ∧ s2 = s ++ s'.map (shB s.length)) := by
  refine ⟨hc.1, fun h ρ w vs hg m r => ?_⟩
  have hm0 : Mine h (fun _ => none) [] w := ⟨m.mem, fun id blk e => by simp at e, fun _ _ => rfl, fun i j g t t' e => by simp at e, fun i g t e => by simp at e⟩
  refine (hc.2 h (fun _ => none) w vs (fun k o e => ⟨(hg k o e).1, fun i t x => by cases x⟩) hm0 ((nofrzL (Lf' := Lf0) r ha).thaw (fun _ _ _ x => x))).mono ?_
  rintro en w' ⟨v, r, s1, h', ρ1, rfl, hpost, m', lt, rv⟩
  have hgood : ∀ i g t, ρ1 i = some (g, t) → w.heap.size ≤ g := fun i g t e => by
    rcases lt.newown i g t e with ⟨j, t', hj⟩ | h
    · cases hj
    · exact h
  have hblk : ∀ k, k < w.heap.size → w'.heap[k]? = w.heap[k]? := fun k hk => lt.block k hk (fun i t e => by cases e)
  have hnew : ∀ b o, h b o = none → h' b o ≠ none → w.heap.size ≤ b := fun b o e n => by
    rcases lt.hnew b o e n with ⟨j, t', hj⟩ | h
    · cases hj
    · exact h
  obtain ⟨ρ2, hρ2⟩ : ∃ ρ2 : Own, ρ2 = fun k => if k < s.length then ρ k else ρ1 (k - s.length) := ⟨_, rfl⟩
  have hlo : ∀ i, i < s.length → ρ2 i = ρ i := fun i hi => by rw [hρ2]; simp [hi]
  have hhi : ∀ i, ρ2 (i + s.length) = ρ1 i := fun i => by
    rw [hρ2]
    show (if i + s.length < s.length then ρ (i + s.length) else ρ1 (i + s.length - s.length)) = _
    rw [if_neg (by omega), Nat.add_sub_cancel]
  have hkeep : ∀ v a, Lf ρ s v a → Lf ρ2 (s ++ s1.map (shB s.length)) v a := fun v a x => Lf_app hlo x
  have hst : ∀ id, (s ++ s1.map (shB s.length))[id + s.length]? = (s1[id]?).map (shB s.length) := fun id => by
    rw [List.getElem?_append_right (by omega), Nat.add_sub_cancel, List.getElem?_map]
  have hown : ∀ i g t, ρ2 i = some (g, t) → (i < s.length ∧ ρ i = some (g, t) ∧ g < w.heap.size) ∨ (s.length ≤ i ∧ ρ1 (i - s.length) = some (g, t) ∧ w.heap.size ≤ g) := fun i g t e => by
    by_cases hi : i < s.length
    · rw [hlo i hi] at e
      exact .inl ⟨hi, e, m.lt e⟩
    · have e2 : ρ2 i = ρ1 (i - s.length) := by rw [← hhi]; congr 1; omega
      rw [e2] at e
      exact .inr ⟨by omega, e, hgood _ g t e⟩
  refine ⟨v, _, _, h', ρ2, rfl, ⟨r, s1, hpost, rfl, rfl⟩, ⟨m'.mem, ?_, ?_, ?_, ?_⟩, ⟨lt.hle, fun b o e n => .inr (hnew b o e n), hkeep, lt.os, lt.tape, lt.output, lt.size, fun k hk _ => hblk k hk, ?_⟩, sh_val hst hhi rv⟩
  · intro i blk e
    by_cases hi : i < s.length
    · rw [List.getElem?_append_left hi] at e
      exact (m.own i blk e).mono lt.hle hkeep (hlo i hi) (fun g t hg => hblk g (m.lt hg))
    · obtain ⟨j, rfl⟩ : ∃ j, i = j + s.length := ⟨i - s.length, by omega⟩
      rw [hst] at e
      cases hb : s1[j]? with
      | none => rw [hb] at e; cases e
      | some b =>
        rw [hb] at e
        simp only [Option.map_some, Option.some.injEq] at e
        subst e
        have o := m'.own j b hb
        have hmb := List.all_eq_true.1 (hmp _ _ hpost) b (List.mem_of_getElem? hb)
        cases b with
        | arr es l =>
          rcases o with ⟨h1, h2⟩ | ⟨g, tot, cur, t, h1, h2, h3, h4, h5, h6, h7, h8, h9⟩
          · exact .inl ⟨by simp [h1], (hhi j).trans h2⟩
          · refine .inr ⟨g, tot, cur, t, (hhi j).trans h1, h2, h3, by simpa using h4, h5, h6, ?_, h8, ?_⟩
            · intro x hx
              obtain ⟨y, hy, rfl⟩ := List.mem_map.1 hx
              rw [shC_cells, List.length_map]
              exact h7 y hy
            · rw [shC_flat, List.length_map]
              exact sh_list hst hhi h9
        | mp es =>
          obtain ⟨g, en, cl, h1, h2, h3, h4, h5⟩ := o
          refine ⟨g, en, cl, (hhi j).trans h1, h2, by simpa using h3, fun k x y hx hy => ?_, h5⟩
          rw [List.getElem?_map] at hx
          obtain ⟨x', hx', rfl⟩ := Option.map_eq_some_iff.1 hx
          obtain ⟨p, q⟩ := h4 k x' y hx' hy
          exact ⟨p.thaw (fun _ _ _ x => x), sh_cell hst hhi q⟩
        | it mid n seen => cases hmb
        | dead => exact (hhi j).trans o
  · intro i hi
    simp at hi
    have e2 : ρ2 i = ρ1 (i - s.length) := by rw [← hhi]; congr 1; omega
    rw [e2]
    exact m'.out _ (by omega)
  · intro i j g t t' hi hj
    rcases hown i g t hi with ⟨a1, a2, a3⟩ | ⟨a1, a2, a3⟩ <;> rcases hown j g t' hj with ⟨b1, b2, b3⟩ | ⟨b1, b2, b3⟩
    · exact m.inj i j g t t' a2 b2
    · omega
    · omega
    · have := m'.inj _ _ g t t' a2 b2
      omega
  · intro i g t e o
    rcases hown i g t e with ⟨a1, a2, a3⟩ | ⟨a1, a2, a3⟩
    · cases hq : h' g o with
      | none => rfl
      | some z =>
        have := hnew g o (m.disj i g t a2 o) (by rw [hq]; simp)
        omega
    · exact m'.disj _ g t a2 o
  · intro i g t e
    rcases hown i g t e with ⟨a1, a2, a3⟩ | ⟨a1, a2, a3⟩
    · exact .inl ⟨i, t, a2⟩
    · exact .inr a3

end Go.Av
