/- The best assembly: bounds, the choice, runs: plain law. Own work of this seat. -/
import Derived.Test.YtkfpiadgjbhcpaaGreatDoorT21
import Derived.Test.YtkfpiadgjbhcpaaGreatDoorT41
set_option maxRecDepth 100000
set_option linter.unusedSimpArgs false
set_option linter.unusedVariables false
namespace Go.Proofs.YtkfpiadgjbhcpaaGreatDoor
open Go Go.Av Go.RowKit

structure ScrB (b : Int) (s : Scr) : Prop where
  j0 : 0 ≤ s.joins
  j1 : s.joins ≤ b
  o0 : 0 ≤ s.on
  o1 : s.on ≤ b
theorem ScrB.mono {b b' : Int} {s : Scr} (h : ScrB b s) (hb : b ≤ b') : ScrB b' s := ⟨h.j0, Int.le_trans h.j1 hb, h.o0, Int.le_trans h.o1 hb⟩
theorem own_bd (p : Pp') (sp : Bool) : (ownS p sp).joins = 0 ∧ 0 ≤ (ownS p sp).on ∧ (ownS p sp).on ≤ 1 := by
  unfold ownS
  split <;> simp
theorem bestL_bd {b : Int} : ∀ (l : List Scr) (o : Option Scr), (∀ s ∈ l, ScrB b s) → (∀ s, o = some s → ScrB b s) → 0 ≤ b → ScrB b ((bestL o l).getD ⟨0, 0⟩)
  | [], none, _, _, hb => ⟨Int.le_refl _, hb, Int.le_refl _, hb⟩
  | [], some s, _, h, _ => h s rfl
  | s :: r, none, h1, h2, hb => by
    simp only [bestL]
    exact bestL_bd r (some s) (fun x hx => h1 x (by simp [hx])) (fun x hx => by cases hx; exact h1 s (by simp)) hb
  | s :: r, some t, h1, h2, hb => by
    simp only [bestL]
    refine bestL_bd r _ (fun x hx => h1 x (by simp [hx])) (fun x hx => ?_) hb
    cases hx
    split
    · exact h1 s (by simp)
    · exact h2 t rfl
theorem restL'_bd {b : Int} (p : Pp') (scr : Pp' → Scr) (h : ∀ q, ScrB b (scr q)) : ∀ (l : List Pp') (s : Scr), 0 ≤ s.joins → s.joins ≤ b + 1 → 0 ≤ s.on → s.on ≤ b →
    0 ≤ (restL' p scr s l).joins ∧ (restL' p scr s l).joins ≤ b + 1 ∧ 0 ≤ (restL' p scr s l).on ∧ (restL' p scr s l).on ≤ b
  | [], s, h1, h2, h3, h4 => ⟨h1, h2, h3, h4⟩
  | q :: l, s, h1, h2, h3, h4 => by
    simp only [restL']
    split
    · have := h q
      exact restL'_bd p scr h l _ this.j0 (by have := this.j1; omega) this.o0 this.o1
    · exact restL'_bd p scr h l s h1 h2 h3 h4
theorem stepsN_bd : ∀ (l : List (Bool × List Pp')) (s : Stp) (r : List Stp), stepsN l = s :: r → (∀ p, ScrB l.length (s.scr p)) ∧ ScrB l.length s.best
  | [], s, r, h => by simp [stepsN] at h
  | (sp, ps) :: l, s, r, h => by
    simp only [stepsN, List.cons.injEq] at h
    obtain ⟨h1, h2⟩ := h
    have k : ∀ p, ScrB (((sp, ps) :: l).length : Int) (scrN sp (stepsN l).head? p) := by
      intro p
      have ho := own_bd p sp
      cases hr : stepsN l with
      | nil =>
        simp only [List.head?_nil, scrN]
        exact ⟨by omega, by simp only [List.length_cons]; omega, ho.2.1, by simp only [List.length_cons]; omega⟩
      | cons s' r' =>
        obtain ⟨i1, i2⟩ := stepsN_bd l s' r' hr
        obtain ⟨b1, b2, b3, b4⟩ := restL'_bd p s'.scr i1 s'.parts ⟨s'.best.joins + 1, s'.best.on⟩ (by have := i2.j0; simp only; omega) (by have := i2.j1; simp only; omega) i2.o0 i2.o1
        simp only [List.head?_cons, scrN, restS]
        exact ⟨b1, by simp only [List.length_cons]; omega, by simp only; omega, by simp only [List.length_cons]; omega⟩
    rw [← h1]
    refine ⟨k, ?_⟩
    exact bestL_bd _ none (fun x hx => by obtain ⟨p, _, rfl⟩ := List.mem_map.1 hx; exact k p) (by simp) (by simp only [List.length_cons]; omega)
theorem stepsN_drop : ∀ (l : List (Bool × List Pp')) (i : Nat), (stepsN l).drop i = stepsN (l.drop i)
  | l, 0 => rfl
  | [], i + 1 => by simp [stepsN]
  | (sp, ps) :: l, i + 1 => by simp only [stepsN, List.drop_succ_cons]; exact stepsN_drop l i
/-- a step's scores follow from the next step -/
theorem stepsN_at {l : List (Bool × List Pp')} {i : Nat} {x : Bool × List Pp'} (hx : l[i]? = some x) : ∃ s, (stepsN l)[i]? = some s ∧ s = stepN x.1 x.2 (stepsN l)[i + 1]? ∧ s.parts = x.2 := by
  have h1 := stepsN_drop l i
  have h2 := stepsN_drop l (i + 1)
  obtain ⟨hi, rfl⟩ := List.getElem?_eq_some_iff.1 hx
  have hd : l.drop i = l[i] :: l.drop (i + 1) := List.drop_eq_getElem_cons hi
  rw [hd] at h1
  generalize l[i] = y at *
  obtain ⟨sp, ps⟩ := y
  simp only [stepsN] at h1
  have e1 : (stepsN l)[i]? = some (stepN sp ps (stepsN (l.drop (i + 1))).head?) := by
    have := congrArg (·.head?) h1
    simpa using this
  have e2 : (stepsN l)[i + 1]? = (stepsN (l.drop (i + 1))).head? := by
    have := congrArg (·.head?) h2
    simpa using this
  exact ⟨_, e1, by rw [e2], rfl⟩

/-! ### the choice -/
def costO (last : Option Pp') (s : Stp) (p : Pp') : Scr := match last with
  | none => s.scr p
  | some l => cost s.scr l p
def wantO (last : Option Pp') (s : Stp) : Scr := match last with
  | none => s.best
  | some l => restS s l
def chosenF : Option Pp' → List Stp → List Pp'
  | _, [] => []
  | last, s :: r => match s.parts.find? (fun p => costO last s p == wantO last s) with
    | some p => p :: chosenF (some p) r
    | none => []
theorem pick_ok {s : Stp} (hs : StpOk s) (last : Option Pp') : ∃ p, s.parts.find? (fun p => costO last s p == wantO last s) = some p ∧ p ∈ s.parts ∧ costO last s p = wantO last s := by
  have he : ∃ q ∈ s.parts, costO last s q = wantO last s := by
    cases last with
    | none => exact hs.1
    | some l => exact (restS_ok hs.1 hs.2 l).1
  cases hf : s.parts.find? (fun p => costO last s p == wantO last s) with
  | none =>
    obtain ⟨q, hq, e⟩ := he
    have := List.find?_eq_none.1 hf q hq
    simp [e] at this
  | some p =>
    have h1 := List.mem_of_find?_eq_some hf
    have h2 := List.find?_some hf
    exact ⟨p, rfl, h1, by simpa using h2⟩
theorem chosenF_ok : ∀ (ss : List Stp) (last : Option Pp'), (∀ s ∈ ss, StpOk s) → ChosenN last ss (chosenF last ss)
  | [], last, _ => by simp [chosenF, ChosenN]
  | s :: r, last, h => by
    obtain ⟨p, h1, h2, h3⟩ := pick_ok (h s (by simp)) last
    have ih := chosenF_ok r (some p) (fun x hx => h x (by simp [hx]))
    simp only [chosenF, h1]
    cases last with
    | none => exact ⟨h2, h3, ih⟩
    | some l => exact ⟨h2, h3, ih⟩

/-! ### runs -/
def fols : List Pp' → Prop
  | [] => True
  | [_] => True
  | a :: b :: r => fol a b = true ∧ fols (b :: r)
theorem fols_snoc : ∀ (r : List Pp') (q p : Pp'), fols r → r.getLast? = some q → fol q p = true → fols (r ++ [p])
  | [], q, p, _, h, _ => by simp at h
  | [a], q, p, _, h, hf => by
    simp at h
    subst h
    exact ⟨hf, trivial⟩
  | a :: b :: r, q, p, hr, h, hf => by
    refine ⟨hr.1, ?_⟩
    exact fols_snoc (b :: r) q p hr.2 (by simpa [List.getLast?_cons_cons] using h) hf
theorem fols_take : ∀ (r : List Pp') (a q : Pp'), fols r → r.head? = some a → r.getLast? = some q → a.take = q.take
  | [], a, q, _, h, _ => by simp at h
  | [x], a, q, _, h, h2 => by simp at h h2; rw [← h, ← h2]
  | x :: y :: r, a, q, hr, h, h2 => by
    simp at h
    subst h
    have h1 := hr.1
    have := fols_take (y :: r) y q hr.2 rfl (by simpa [List.getLast?_cons_cons] using h2)
    simp only [fol, Bool.and_eq_true, beq_iff_eq] at h1
    rw [h1.1]; exact this
/-- the parts of a choice in runs without a join -/
structure RunsOk (rs : List (List Pp')) (ps : List Pp') : Prop where
  flat : rs.flatten = ps
  run : ∀ r ∈ rs, r ≠ [] ∧ fols r
  joins : ((if ps = [] then 0 else 1) + joinsN none ps) = (rs.length : Int)
theorem joinsN_snoc : ∀ (ps : List Pp') (last : Option Pp') (p : Pp'), joinsN last (ps ++ [p]) = joinsN last ps + joinN (match ps.getLast? with | some q => some q | none => last) p
  | [], last, p => by simp [joinsN]
  | q :: r, last, p => by
    simp only [List.cons_append, joinsN, joinsN_snoc r (some q) p]
    have : (match (q :: r).getLast? with | some q => some q | none => last) = (match r.getLast? with | some q' => some q' | none => some q) := by
      cases hr : r.getLast? with
      | none =>
        have : r = [] := by simpa using hr
        subst this; rfl
      | some z =>
        have : (q :: r).getLast? = some z := by
          cases r with
          | nil => simp at hr
          | cons a b => rw [List.getLast?_cons_cons]; exact hr
        rw [this]
    rw [this]
    omega
theorem runs_nil : RunsOk [] [] := ⟨rfl, by simp, by simp [joinsN]⟩
theorem flat_last {rs : List (List Pp')} {r : List Pp'} (h : rs.getLast? = some r) (hr : r ≠ []) : rs.flatten.getLast? = r.getLast? := by
  obtain ⟨ys, rfl⟩ := List.getLast?_eq_some_iff.1 h
  simp only [List.flatten_append, List.flatten_cons, List.flatten_nil, List.append_nil]
  rw [List.getLast?_append]
  cases hq : r.getLast? with
  | none => exact absurd (by simpa using hq) hr
  | some q => simp
/-- a part that follows the last one -/
theorem RunsOk.more {ys : List (List Pp')} {r : List Pp'} {ps : List Pp'} {q p : Pp'} (h : RunsOk (ys ++ [r]) ps) (hq : r.getLast? = some q) (hf : fol q p = true) : RunsOk (ys ++ [r ++ [p]]) (ps ++ [p]) := by
  have hr := h.run r (by simp)
  have hl : ps.getLast? = some q := by
    rw [← h.flat, flat_last (r := r) (by simp) hr.1]; exact hq
  have hne : ps ≠ [] := fun e => by rw [e] at hl; simp at hl
  refine ⟨?_, fun x hx => ?_, ?_⟩
  · rw [← h.flat]; simp
  · rcases List.mem_append.1 hx with hx | hx
    · exact h.run x (by simp [hx])
    · rw [List.mem_singleton.1 hx]
      exact ⟨by simp, fols_snoc r q p hr.2 hq hf⟩
  · have hj := h.joins
    rw [if_neg hne] at hj
    rw [if_neg (by simp), joinsN_snoc, hl]
    simp only [joinN, hf, if_true]
    simp only [List.length_append, List.length_cons, List.length_nil] at hj ⊢
    omega
/-- a part that does not -/
theorem RunsOk.next {rs : List (List Pp')} {ps : List Pp'} {p : Pp'} (h : RunsOk rs ps) (hf : ∀ q, ps.getLast? = some q → fol q p = false) : RunsOk (rs ++ [[p]]) (ps ++ [p]) := by
  refine ⟨by rw [← h.flat]; simp, fun x hx => ?_, ?_⟩
  · rcases List.mem_append.1 hx with hx | hx
    · exact h.run x hx
    · rw [List.mem_singleton.1 hx]; exact ⟨by simp, trivial⟩
  · have hj := h.joins
    rw [if_neg (by simp), joinsN_snoc]
    cases hl : ps.getLast? with
    | none =>
      have : ps = [] := by simpa using hl
      subst this
      simp [joinsN] at hj
      simp only [joinsN, joinN, List.length_append, List.length_cons, List.length_nil]
      omega
    | some q =>
      have hne : ps ≠ [] := fun e => by rw [e] at hl; simp at hl
      rw [if_neg hne] at hj
      simp only [joinN, hf q hl, Bool.false_eq_true, if_false, List.length_append, List.length_cons, List.length_nil]
      omega
structure Clp where
  take : Nat
  inn : Int
  out : Int
def clipR (r : List Pp') : Clp := match r.head?, r.getLast? with
  | some a, some q => ⟨a.take, a.cv.inn, q.cv.out⟩
  | _, _ => ⟨0, 0, 0⟩
theorem clip_one (p : Pp') : clipR [p] = ⟨p.take, p.cv.inn, p.cv.out⟩ := rfl
theorem clip_more {r : List Pp'} {a q : Pp'} (ha : r.head? = some a) (hq : r.getLast? = some q) (p : Pp') : clipR r = ⟨a.take, a.cv.inn, q.cv.out⟩ ∧ clipR (r ++ [p]) = ⟨a.take, a.cv.inn, p.cv.out⟩ := by
  constructor
  · simp [clipR, ha, hq]
  · have h1 : (r ++ [p]).head? = some a := by
      cases r with
      | nil => simp at ha
      | cons x y => simpa using ha
    simp [clipR, h1]
theorem gt_at {T U : List Blk} {c : Nat} {d : Blk} : (T ++ U).getD (T.length + c) d = U.getD c d := by
  rw [List.getD_eq_getElem?_getD, List.getD_eq_getElem?_getD, List.getElem?_append_right (by omega), Nat.add_sub_cancel_left]
theorem gt_at0 {T U : List Blk} {d : Blk} : (T ++ U).getD T.length d = U.getD 0 d := gt_at (c := 0)
theorem st_at {T U : List Blk} {c : Nat} {b : Blk} : (T ++ U).set (T.length + c) b = T ++ U.set c b := by
  rw [List.set_append, if_neg (by omega), Nat.add_sub_cancel_left]
theorem st_at0 {T U : List Blk} {b : Blk} : (T ++ U).set T.length b = T ++ U.set 0 b := st_at (c := 0)
theorem gt_old {T : List Blk} {k : Nat} {b : Blk} (h : T[k]? = some b) (U : List Blk) : (T ++ U).getD k .dead = b := by
  rw [List.getD_eq_getElem?_getD, List.getElem?_append_left (List.getElem?_eq_some_iff.1 h).1, h]; rfl
theorem low_mono {n m : Nat} (h : n ≤ m) {b : Blk} (hb : lowB n b = true) : lowB m b = true := by
  induction h with
  | refl => exact hb
  | step _ ih => exact lowB_succ ih
theorem low_app {T U : List Blk} (h : T.all (lowB T.length) = true) (hU : U.all (lowB (T.length + U.length)) = true) : (T ++ U).all (lowB (T ++ U).length) = true := by
  rw [List.length_append, List.all_append, hU, Bool.and_true, List.all_eq_true]
  rw [List.all_eq_true] at h
  exact fun b hb => low_mono (by omega) (h b hb)
theorem shift_lowE {c : Cx} {e e' : Env} {s : List Blk} (T U V : List Blk) (hs : s = T ++ (U ++ V)) (hc : c.sto.length ≤ T.length) (hT : T.all (lowB T.length) = true) (hU : U.all (lowB (T.length + U.length)) = true) (hw : wkl (T.length + U.length) e e') : Shift c e s e' (T ++ U) := by
  subst hs
  rw [← List.append_assoc]
  have h := Shift.low (c := c) (e := e) (e' := e') (s := (T ++ U) ++ V) (T.length + U.length) (by omega) (by simp) (by rw [← List.length_append, List.take_left]; exact low_app hT hU) hw
  rw [← List.length_append, List.take_left] at h
  exact h
theorem frz1_low {n id e : Nat} {l : List AV} (h : n ≤ id) {a : AV} (ha : lowC n a = true) : frz1 id e l a = a := by
  cases a with
  | sl m off len cap =>
    simp only [lowC, decide_eq_true_eq] at ha
    have : (m == id) = false := by simp; omega
    simp only [frz1, this, Bool.false_and, cond_false]
  | ptr m k i off =>
    simp only [lowC, decide_eq_true_eq] at ha
    have : (m == id) = false := by simp; omega
    simp only [frz1, this, Bool.false_and, cond_false]
  | _ => rfl
theorem map_id' {α : Type} {f : α → α} {l : List α} (h : ∀ x ∈ l, f x = x) : l.map f = l := by
  induction l with
  | nil => rfl
  | cons a r ih => rw [List.map_cons, h a (by simp), ih fun x hx => h x (by simp [hx])]
theorem flat_mem {x y : AV} : ∀ {l : List AV}, x ∈ l → y ∈ cellsOf x → y ∈ flat l
  | [], h, _ => by cases h
  | a :: r, h, hy => by
    simp only [flat, List.mem_append]
    rcases List.mem_cons.1 h with rfl | h
    · exact .inl hy
    · exact .inr (flat_mem h hy)
theorem frzB_low {n id e : Nat} {l : List AV} (h : n ≤ id) {b : Blk} (hb : lowB n b = true) : frzB id e l b = b := by
  cases b with
  | arr es r =>
    simp only [lowB, List.all_eq_true] at hb
    simp only [frzB, Blk.arr.injEq, true_and]
    refine map_id' fun x hx => ?_
    have hc : ∀ y ∈ cellsOf x, lowC n y = true := fun y hy => hb y (flat_mem hx hy)
    cases x with
    | agg r' =>
      simp only [frzC, AV.agg.injEq]
      exact map_id' fun y hy => frz1_low h (hc y hy)
    | _ => exact frz1_low (id := id) (e := e) (l := l) h (hc _ (.head _))
  | mp es =>
    simp only [lowB, List.all_eq_true] at hb
    simp only [frzB, Blk.mp.injEq]
    refine map_id' fun x hx => ?_
    have hv := hb x hx
    obtain ⟨k, v⟩ := x
    simp only [Prod.mk.injEq, true_and]
    cases v with
    | agg r' =>
      simp only [lowV, List.all_eq_true] at hv
      simp only [frz, AV.agg.injEq]
      exact map_id' fun y hy => frz1_low h (hv y hy)
    | fn f r' =>
      simp only [lowV, List.all_eq_true] at hv
      simp only [frz, AV.fn.injEq, true_and]
      exact map_id' fun y hy => frz1_low h (hv y hy)
    | _ => simp only [lowV] at hv; exact frz1_low (id := id) (e := e) (l := l) h hv
  | it a b c => rfl
  | dead => rfl
theorem shift_frzT {c : Cx} {en : Env} (T U : List Blk) (k : Nat) {es : Nat} {l : List AV} (hT : T.all (lowB T.length) = true) (hb : U.getD k .dead = .arr es l) (hf : (flat l).all Av.frozen = true) :
    Shift c en (T ++ U) (frzE (T.length + k) es l en) (T ++ (U.set k .dead).map (frzB (T.length + k) es l)) := by
  have h := Shift.frz (c := c) (en := en) (s := T ++ U) (T.length + k) (by rw [gt_at]; exact hb) hf
  rw [st_at, List.map_append, map_id' (fun b hb => frzB_low (Nat.le_add_right _ _) (List.all_eq_true.1 hT b hb))] at h
  exact h

set_option maxHeartbeats 2000000 in
theorem good_ct (l : List Tk) (hg : ∀ t ∈ l, t.good = true) (ps : List Pp') (hp : ∀ p ∈ ps, p.take < l.length) (hl : ps.length < 100000) (hll : l.length < 100000) (T : List Blk) (hT : T.all (lowB T.length) = true) (id : Nat) (hid : T[id]? = some (.arr 5 (ps.map ppA))) :
    Ct Tryz.prog 165 [.sl id 0 ps.length ps.length, .fz 9 (l.map tkA)] T (fun r s => r = .fz 5 (ps.map ppA) ∧ s = T) := by
  have h0 := gt_old hid
  have h00 := gd_of hid
  have hil := (List.getElem?_eq_some_iff.1 hid).1
  refine ct_intro Tryz.func165 rfl Tryz.ntmps165 hB165 (by simp) fun h ρ w => goB (N := 26) Tryz.ntmps165 300 ?_
  simp only [go_sem, h00, List.length_map]
  repeat refine And.intro (by first | omega | (simp; done) | (simp; omega)) ?_
  refine aloop (ι := Nat) (fun y => ps.length - y)
    (fun y => [(10, .int .i64 y), (9, .int .i64 ps.length), (8, .sl id 0 ps.length ps.length), (5, .sl T.length 0 y y), (1, .fz 9 (l.map tkA))])
    (fun y => T ++ [.arr 5 ((ps.take y).map ppA)]) (fun y => y ≤ ps.length) 0 (by simp) ?_ ?_
  · refine Shift.trans (Shift.nilsl 5 5 rfl) (Shift.weakS ?_ ?_)
    · simp only [wk, go_sem]
    · simp
  intro i g1 J hJ
  by_cases gi : i < ps.length
  · have di : decide ((i : Int) < (ps.length : Int)) = true := by simp; omega
    have hget := ppA_get ps i gi
    have htk : (ps.take (i + 1)).map ppA = (ps.take i).map ppA ++ [ppA ps[i]] := by
      rw [List.take_add_one, List.getElem?_eq_getElem gi, List.map_append]; rfl
    have hfin := hJ (i + 1) (by omega) (by omega)
    rw [htk] at hfin
    have hpi := hp _ (List.getElem_mem gi)
    have htl : ((ps.take i).map ppA).length = i := by simp; omega
    generalize ps[i] = p at *
    have hgt := tkA_get l p.take hpi
    have hgg := hg _ (List.getElem_mem hpi)
    simp only [ppA] at hfin
    refine goB (N := 26) Tryz.ntmps165 300 ?_
    simp only [go_sem, di, hget, h0, gt_at, gt_at0, st_at, st_at0, List.append_assoc, hgt, hgg, htl, List.length_map]
    repeat refine And.intro (by first | omega | (simp; done) | (simp; omega) | kernel_rfl | exact .inl rfl | exact .inl trivial) ?_
    rw [show (i : Int) + 1 = ((i + 1 : Nat) : Int) by omega]
    refine ainv hfin (shift_lowE T [_] [_] rfl (by simp) hT ?_ ?_)
    · simp only [List.all_cons, List.all_nil, lowB, flat_append, List.all_append, low_all (pp_frz _), flat, cellsOf, lowC, Av.frozen, List.append_nil, List.cons_append, List.nil_append, Bool.and_self]
    · simp only [wkl, lowV, lowC, Av.get, go_sem]
      repeat (first | rfl | (simp; done) | (simp; omega) | refine And.intro (by first | rfl | (simp; done) | (simp; omega)) ?_)
  · have di : decide ((i : Int) < (ps.length : Int)) = false := by simp; omega
    have hi : i = ps.length := by omega
    subst hi
    rw [List.take_length]
    clear hJ
    refine AWp.shift (Shift.freeze 5 (id := T.length) (l := ps.map ppA) rfl (by rw [gt_at0]; rfl) (by simp) (Nat.le_refl _) (pp_frz _)) ?_
    have htk : List.take ps.length (List.drop 0 (ps.map ppA)) = ps.map ppA := by rw [List.drop_zero, take_map]
    rw [htk, st_at0]
    refine goB (N := 26) Tryz.ntmps165 300 ?_
    simp only [go_sem, di]
    refine ARet.shift (shift_lowE T [] [_] rfl (by simp) hT rfl (e' := [(4, .fz 5 (ps.map ppA))]) ?_) ?_
    · simp only [wkl, lowV, lowC, Av.get, go_sem]
    · rw [List.append_nil]
      exact aret [4] rfl ⟨rfl, rfl⟩
theorem good_nil (l : List Tk) : Pc Tryz.prog 165 [.raw (.slice none 0 0), .fz 9 (l.map tkA)] (· = .fz 5 []) := by
  refine pc_intro (ct_intro Tryz.func165 rfl Tryz.ntmps165 hB165 (by simp) fun h ρ w => goB (N := 26) Tryz.ntmps165 300 ?_)
  simp only [go_sem]
  refine aenter (around (go (N := 26) Tryz.ntmps165 300 ?_))
  simp only [go_sem]
  refine ARet.shift (Shift.nilfz 4 5 rfl) (aret [4] rfl ⟨rfl, rfl⟩)
end Go.Proofs.YtkfpiadgjbhcpaaGreatDoor
