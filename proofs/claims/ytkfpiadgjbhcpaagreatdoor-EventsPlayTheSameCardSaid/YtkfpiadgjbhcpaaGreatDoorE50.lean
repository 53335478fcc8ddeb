/- Events of clips. Own work of this seat. -/
import Derived.Test.YtkfpiadgjbhcpaaGreatDoorE47
import Derived.Test.YtkfpiadgjbhcpaaGreatDoorE48
import Derived.Test.YtkfpiadgjbhcpaaGreatDoorE49
import Derived.Test.YtkfpiadgjbhcpaaGreatDoorE22
set_option maxRecDepth 100000
set_option linter.unusedSimpArgs false
set_option linter.unusedVariables false
namespace Go.Proofs.YtkfpiadgjbhcpaaGreatDoor
open Go Go.Av Go.RowKit

structure Ev where
  roll : List UInt8
  inn : Int
  out : Int
deriving DecidableEq
def evA (x : Ev) : AV := .agg [.str x.roll, .int .i64 x.inn, .int .i64 x.out]
def evStep (rn : List UInt8) (es : List Ev) (c : Clp) : List Ev := match es.getLast? with
  | some e => if e.out == c.inn then es.dropLast ++ [⟨rn, e.inn, c.out⟩] else es ++ [⟨rn, c.inn, c.out⟩]
  | none => es ++ [⟨rn, c.inn, c.out⟩]
def evF (rn : List UInt8) (cs : List Clp) : List Ev := cs.foldl (evStep rn) []
theorem evF_step (rn : List UInt8) (cs : List Clp) (i : Nat) (h : i < cs.length) : evF rn (cs.take (i + 1)) = evStep rn (evF rn (cs.take i)) cs[i] := by
  rw [List.take_add_one, List.getElem?_eq_getElem h]
  unfold evF
  rw [List.foldl_append]; rfl
theorem evStep_len (rn : List UInt8) (es : List Ev) (c : Clp) : (evStep rn es c).length ≤ es.length + 1 := by
  unfold evStep
  split
  · split
    · simp
    · simp
  · simp
theorem evF_len (rn : List UInt8) (cs : List Clp) : ∀ i, i ≤ cs.length → (evF rn (cs.take i)).length ≤ i
  | 0, _ => by simp [evF]
  | i + 1, h => by
    have ih := evF_len rn cs i (by omega)
    rw [evF_step rn cs i (by omega)]
    have := evStep_len rn (evF rn (cs.take i)) cs[i]
    omega
/-- events of right clips -/
structure EvOk (rn : List UInt8) (e : Ev) : Prop where
  roll : e.roll = rn
  lt : e.inn < e.out
theorem evStep_ok {rn : List UInt8} {es : List Ev} {c : Clp} (h : ∀ e ∈ es, EvOk rn e) (hc : c.inn < c.out) : ∀ e ∈ evStep rn es c, EvOk rn e := by
  intro e he
  unfold evStep at he
  split at he
  · rename_i q hq
    have hqm := List.mem_of_getLast? hq
    split at he
    · rename_i hb
      have hb : q.out = c.inn := by simpa using hb
      rcases List.mem_append.1 he with he | he
      · exact h e (List.dropLast_subset _ he)
      · rw [List.mem_singleton.1 he]
        have := h q hqm
        exact ⟨rfl, by have := this.lt; simp only; omega⟩
    · rcases List.mem_append.1 he with he | he
      · exact h e he
      · rw [List.mem_singleton.1 he]; exact ⟨rfl, hc⟩
  · rcases List.mem_append.1 he with he | he
    · exact h e he
    · rw [List.mem_singleton.1 he]; exact ⟨rfl, hc⟩
theorem evF_ok {rn : List UInt8} {cs : List Clp} (hc : ∀ c ∈ cs, c.inn < c.out) : ∀ i, i ≤ cs.length → ∀ e ∈ evF rn (cs.take i), EvOk rn e
  | 0, _ => by simp [evF]
  | i + 1, h => by
    rw [evF_step rn cs i (by omega)]
    exact evStep_ok (evF_ok hc i (by omega)) (hc _ (List.getElem_mem _))
theorem ev_frz : ∀ l : List Ev, (flat (l.map evA)).all Av.frozen = true
  | [] => rfl
  | x :: r => by simpa [flat, cellsOf, evA, Av.frozen] using ev_frz r
theorem evA_get (l : List Ev) (i : Nat) (h : i < l.length) : List.getD (l.map evA) i .any = .agg [.str l[i].roll, .int .i64 l[i].inn, .int .i64 l[i].out] := by simp [List.getD, h, evA]
theorem clpA_get (l : List Clp) (i : Nat) (h : i < l.length) : List.getD (l.map clpA) i .any = .agg [.int .i64 l[i].take, .int .i64 l[i].inn, .int .i64 l[i].out] := by simp [List.getD, h, clpA]
theorem evs_get (l : List Ev) (e : Ev) {n : Nat} (h : n = l.length) : List.getD ((l ++ [e]).map evA) n .any = evA e := by
  rw [List.map_append, List.getD_eq_getElem?_getD, List.getElem?_append_right (by rw [List.length_map]; omega), List.length_map, h, Nat.sub_self]; rfl
theorem evs_set (l : List Ev) (e e' : Ev) {n : Nat} (h : n = l.length) : ((l ++ [e]).map evA).set n (evA e') = (l ++ [e']).map evA := by
  rw [List.map_append, List.map_append, List.set_append, if_neg (by rw [List.length_map]; omega), List.length_map, h, Nat.sub_self]; rfl
/-- clips that are right for events -/
def ClOk (rn : List UInt8) (l : List Tk) (c : Clp) : Prop := ∃ t, l[c.take]? = some t ∧ t.roll = rn ∧ t.inn ≤ c.inn ∧ c.inn < c.out ∧ c.out ≤ t.out
set_option maxHeartbeats 8000000 in
theorem events_pc (r : Rl) (rs : List Rl) (hr : RollsOk (r :: rs)) (hn : ∀ y ∈ r :: rs, y.name ∈ RnL) (hrl : rs.length ≤ 200) (l : List Tk) (hll : l.length ≤ 15) (cs : List Clp) (hcl : cs.length ≤ 60) (hc : ∀ c ∈ cs, ClOk r.name l c) :
    Pc Tryz.prog 20 [.fz 5 ((r :: rs).map rlA), .fz 9 (l.map tkA), .fz 3 (cs.map clpA)] (· = .tup [.fz 3 ((evF r.name cs).map evA), .int .i64 0]) := by
  have hch := checkRolls_pc (r :: rs) hr hn
  have hro := rollOf_pc r rs hrl
  simp only [List.map_cons, rlA] at hch hro ⊢
  obtain ⟨RS, hRS⟩ : ∃ z, z = AV.agg [.str r.name, .int .i64 r.rate, .int .i64 r.start, .int .i64 r.long, .int .i64 r.drift] :: rs.map rlA := ⟨_, rfl⟩
  simp only [← hRS] at hch hro ⊢
  clear hRS
  refine pc_intro (ct_intro Tryz.func20 rfl Tryz.ntmps20 hB20 (by simp) fun h ρ w => goB (N := 113) Tryz.ntmps20 300 ?_)
  simp only [go_sem]
  refine pcall1 (hch) rfl (N := 113) Tryz.ntmps20 rfl (goB (N := 113) Tryz.ntmps20 300 ?_)
  simp only [go_sem, List.length_map]
  refine aloop (ι := Nat) (fun i => cs.length - i)
    (fun i => [(23, .int .i64 i), (22, .int .i64 cs.length), (21, .fz 3 (cs.map clpA)), (9, .sl 0 0 (evF r.name (cs.take i)).length (evF r.name (cs.take i)).length), (0, .fz 5 RS), (1, .fz 9 (l.map tkA))])
    (fun i => [.arr 3 ((evF r.name (cs.take i)).map evA)]) (fun i => i ≤ cs.length) 0 (by simp) ?_ ?_
  · refine Shift.trans (Shift.nilsl 9 3 rfl) (Shift.weakS ?_ ?_)
    · simp only [wk, go_sem, List.length_map, List.take_zero, evF, List.foldl_nil, List.length_nil]
    · simp [evF]
  intro i g1 J hJ
  have hlen := evF_len r.name cs i g1
  have heok := evF_ok (rn := r.name) (fun c hcm => by obtain ⟨t, _, _, _, h, _⟩ := hc c hcm; exact h) i g1
  by_cases gi : i < cs.length
  · have di : decide ((i : Int) < (cs.length : Int)) = true := by simp; omega
    have hget := clpA_get cs i gi
    have hstep := evF_step r.name cs i gi
    have hfin := hJ (i + 1) (by omega) (by omega)
    rw [hstep] at hfin
    obtain ⟨t, ht, htr, ht1, ht2, ht3⟩ := hc _ (List.getElem_mem gi)
    generalize cs[i] = c at *
    obtain ⟨htl, hte⟩ := List.getElem?_eq_some_iff.1 ht
    have htg := tkA_get l c.take htl
    rw [hte, htr] at htg
    have d1 : decide ((c.take : Int) < 0) = false := by simp
    have d2 : decide ((c.take : Int) ≥ (l.length : Int)) = false := by simp; omega
    have d3 : decide (t.inn > c.inn) = false := by simp; omega
    have d4 : decide (c.inn ≥ c.out) = false := by simp; omega
    have d5 : decide (c.out > t.out) = false := by simp; omega
    generalize evF r.name (cs.take i) = es at *
    clear hJ
    cases hq : es.getLast? with
    | none =>
      have hes : es = [] := by simpa using hq
      subst hes
      have hf2 : evStep r.name [] c = [⟨r.name, c.inn, c.out⟩] := rfl
      rw [hf2] at hfin
      simp only [List.map_cons, List.map_nil, evA, List.length_cons, List.length_nil] at hfin ⊢
      have dn : decide ((0 : Int) - 1 ≥ 0) = false := by decide
      refine goB (N := 113) Tryz.ntmps20 300 ?_
      simp only [go_sem, di, hget, htg, d1, d2, List.length_map]
      repeat refine And.intro (by first | omega | rfl | (simp; done) | (simp; omega)) ?_
      refine pcall1 (hro) rfl (N := 113) Tryz.ntmps20 rfl (goB (N := 113) Tryz.ntmps20 300 ?_)
      simp only [go_sem, d3, d4, d5]
      repeat refine And.intro (by first | omega | rfl | (simp; done) | (simp; omega)) ?_
      refine adraw [] mixed (by decide) (N := 113) Tryz.ntmps20 (by decide) 100 ?_
      simp only [go_sem, dn, List.length_map]
      repeat refine And.intro (by first | omega | rfl | (simp; done) | (simp; omega)) ?_
      refine goB (N := 113) Tryz.ntmps20 300 ?_
      simp only [go_sem, List.length_map]
      repeat refine And.intro (by first | omega | rfl | exact .inl rfl | exact .inl trivial | (simp; done) | (simp; omega)) ?_
      rw [show (i : Int) + 1 = ((i + 1 : Nat) : Int) by omega]
      refine ainv hfin ?_
      refine Shift.low 1 (by simp) (by simp) ?_ ?_
      · simp only [List.take_succ_cons, List.take_zero, List.all_cons, List.all_nil, lowB, flat, cellsOf, lowC, Av.frozen, List.append_nil, List.cons_append, List.nil_append, Bool.and_self]
      · simp only [wkl, lowV, lowC, Av.get, go_sem]
    | some q =>
      obtain ⟨ys, rfl⟩ := List.getLast?_eq_some_iff.1 hq
      have hqr := (heok q (by simp)).roll
      obtain ⟨qr, qi, qo⟩ := q
      simp only at hqr
      subst hqr
      obtain ⟨n, hn⟩ : ∃ n, n = ys.length := ⟨_, rfl⟩
      have hnl : (ys ++ [(⟨r.name, qi, qo⟩ : Ev)]).length = n + 1 := by simp [hn]
      have hn1 : ((n + 1 : Nat) : Int) - 1 = (n : Int) := by omega
      have hel : ((ys ++ [(⟨r.name, qi, qo⟩ : Ev)]).map evA).length = n + 1 := by simp [hn]
      have heg := evs_get ys ⟨r.name, qi, qo⟩ hn
      have hes := evs_set ys ⟨r.name, qi, qo⟩ ⟨r.name, qi, c.out⟩ hn
      have hez := ev_frz (ys ++ [⟨r.name, qi, qo⟩])
      have hez2 := ev_frz (ys ++ [⟨r.name, qi, c.out⟩])
      have hea : (ys ++ [(⟨r.name, qi, qo⟩ : Ev)]).map evA ++ [.agg [.str r.name, .int .i64 c.inn, .int .i64 c.out]] = (ys ++ [(⟨r.name, qi, qo⟩ : Ev)] ++ [(⟨r.name, c.inn, c.out⟩ : Ev)]).map evA := by simp [evA]
      rw [show evA ⟨r.name, qi, qo⟩ = .agg [.str r.name, .int .i64 qi, .int .i64 qo] from rfl] at heg
      rw [show evA ⟨r.name, qi, c.out⟩ = .agg [.str r.name, .int .i64 qi, .int .i64 c.out] from rfl] at hes
      have hst : evStep r.name (ys ++ [⟨r.name, qi, qo⟩]) c = if qo == c.inn then ys ++ [⟨r.name, qi, c.out⟩] else ys ++ [⟨r.name, qi, qo⟩] ++ [⟨r.name, c.inn, c.out⟩] := by simp [evStep]
      rw [hst] at hfin
      rw [hnl] at hlen ⊢
      have dn : decide ((n : Int) ≥ 0) = true := by simp
      have hl2 : (ys ++ [(⟨r.name, qi, c.out⟩ : Ev)]).length = n + 1 := by simp [hn]
      have e1 : (r.name == r.name) = true := by simp
      cases hb : qo == c.inn with
      | true =>
        rw [hb, if_pos rfl, hl2, ← hes] at hfin
        rw [← hes] at hez2
        generalize (ys ++ [(⟨r.name, qi, qo⟩ : Ev)]).map evA = C at *
        refine goB (N := 113) Tryz.ntmps20 300 ?_
        simp only [go_sem, di, hget, htg, d1, d2, List.length_map]
        repeat refine And.intro (by first | omega | rfl | (simp; done) | (simp; omega)) ?_
        refine pcall1 (hro) rfl (N := 113) Tryz.ntmps20 rfl (goB (N := 113) Tryz.ntmps20 300 ?_)
        simp only [go_sem, d3, d4, d5, hn1]
        repeat refine And.intro (by first | omega | rfl | (simp; done) | (simp; omega)) ?_
        refine adraw [] mixed (by decide) (N := 113) Tryz.ntmps20 (by decide) 100 ?_
        simp only [go_sem, dn, hel, heg, hb, List.length_map]
        repeat refine And.intro (by first | omega | rfl | (simp; done) | (simp; omega)) ?_
        refine goB (N := 113) Tryz.ntmps20 300 ?_
        simp only [go_sem, hel, heg, List.length_map]
        repeat refine And.intro (by first | omega | rfl | exact .inl rfl | exact .inl trivial | (simp; done) | (simp; omega)) ?_
        rw [show (i : Int) + 1 = ((i + 1 : Nat) : Int) by omega]
        refine ainv hfin ?_
        refine Shift.low 1 (by simp) (by simp) ?_ ?_
        · simp only [List.take_succ_cons, List.take_zero, List.all_cons, List.all_nil, lowB, flat_append, List.all_append, low_all hez2, flat, cellsOf, lowC, Av.frozen, List.append_nil, List.cons_append, List.nil_append, Bool.and_self]
        · simp only [wkl, lowV, lowC, Av.get, go_sem]
      | false =>
        rw [hb, if_neg Bool.false_ne_true, List.length_append, hnl, ← hea] at hfin
        simp only [List.length_cons, List.length_nil, Nat.zero_add] at hfin
        generalize (ys ++ [(⟨r.name, qi, qo⟩ : Ev)]).map evA = C at *
        refine goB (N := 113) Tryz.ntmps20 300 ?_
        simp only [go_sem, di, hget, htg, d1, d2, List.length_map]
        repeat refine And.intro (by first | omega | rfl | (simp; done) | (simp; omega)) ?_
        refine pcall1 (hro) rfl (N := 113) Tryz.ntmps20 rfl (goB (N := 113) Tryz.ntmps20 300 ?_)
        simp only [go_sem, d3, d4, d5, hn1]
        repeat refine And.intro (by first | omega | rfl | (simp; done) | (simp; omega)) ?_
        refine adraw [] mixed (by decide) (N := 113) Tryz.ntmps20 (by decide) 100 ?_
        simp only [go_sem, dn, hel, heg, hb, List.length_map]
        repeat refine And.intro (by first | omega | rfl | (simp; done) | (simp; omega)) ?_
        refine goB (N := 113) Tryz.ntmps20 300 ?_
        simp only [go_sem, hel, heg, List.length_map]
        repeat refine And.intro (by first | omega | rfl | exact .inl rfl | exact .inl trivial | (simp; done) | (simp; omega)) ?_
        rw [show (i : Int) + 1 = ((i + 1 : Nat) : Int) by omega]
        refine ainv hfin ?_
        refine Shift.low 1 (by simp) (by simp) ?_ ?_
        · simp only [List.take_succ_cons, List.take_zero, List.all_cons, List.all_nil, lowB, flat_append, List.all_append, low_all hez, flat, cellsOf, lowC, Av.frozen, List.append_nil, List.cons_append, List.nil_append, Bool.and_self]
        · simp only [wkl, lowV, lowC, Av.get, go_sem]
  · have hi : i = cs.length := by omega
    have di : decide ((i : Int) < (cs.length : Int)) = false := by simp; omega
    rw [show cs.take i = cs from List.take_of_length_le (by omega)]
    clear hJ
    refine AWp.shift (Shift.freeze 9 (id := 0) (l := (evF r.name cs).map evA) rfl rfl (by simp) (Nat.le_refl _) (ev_frz _)) ?_
    have htk : List.take (evF r.name cs).length (List.drop 0 ((evF r.name cs).map evA)) = (evF r.name cs).map evA := by rw [List.drop_zero, List.take_of_length_le (by simp)]
    rw [htk]
    refine goB (N := 113) Tryz.ntmps20 300 ?_
    simp only [go_sem, di]
    exact aret [6, 7] rfl ⟨rfl, rfl⟩
def sumE : List Ev → Int
  | [] => 0
  | e :: r => (e.out - e.inn) + sumE r
theorem sumE_app : ∀ (a b : List Ev), sumE (a ++ b) = sumE a + sumE b
  | [], b => by simp [sumE]
  | x :: a, b => by simp only [List.cons_append, sumE, sumE_app a b]; omega
theorem sumE_step (es : List Ev) (i : Nat) (h : i < es.length) : sumE (es.take (i + 1)) = sumE (es.take i) + (es[i].out - es[i].inn) := by
  rw [List.take_add_one, List.getElem?_eq_getElem h, sumE_app]
  simp [sumE]
theorem sumE_pos : ∀ {es : List Ev}, (∀ e ∈ es, e.inn < e.out) → 0 ≤ sumE es
  | [], _ => by simp [sumE]
  | e :: r, h => by
    have := h e (by simp)
    have := sumE_pos (es := r) fun x hx => h x (by simp [hx])
    simp only [sumE]; omega
theorem sumE_le {es : List Ev} (h : ∀ e ∈ es, e.inn < e.out) (i : Nat) : 0 ≤ sumE (es.take i) ∧ sumE (es.take i) ≤ sumE es := by
  have h1 := sumE_pos (es := es.take i) fun e he => h e (List.mem_of_mem_take he)
  have h2 := sumE_pos (es := es.drop i) fun e he => h e (List.mem_of_mem_drop he)
  have h3 := sumE_app (es.take i) (es.drop i)
  rw [List.take_append_drop] at h3
  omega
/-- right events of one roll -/
structure EvsOk (r : Rl) (es : List Ev) : Prop where
  roll : ∀ e ∈ es, e.roll = r.name
  lt : ∀ e ∈ es, e.inn < e.out
  hold : ∀ e ∈ es, holdsB r e.inn e.out = true
  bd : ∀ e ∈ es, 0 ≤ e.inn ∧ e.out ≤ dayR r.rate
  len : es.length ≤ 999
  sum : sumE es ≤ dayR r.rate
set_option maxHeartbeats 8000000 in
theorem eventsFault_pc (r : Rl) (rs : List Rl) (hr : RollsOk (r :: rs)) (hrl : rs.length ≤ 200) (es : List Ev) (hv : EvsOk r es) :
    Pc Tryz.prog 59 [.fz 5 ((r :: rs).map rlA), .fz 3 (es.map evA)] (· = .int .i64 0) := by
  obtain ⟨hro0, _⟩ := hr.at' 0 r rfl
  have hrate := hro0.rate
  have hst := hro0.start
  have hlg := hro0.long
  have hdb : 0 ≤ dayR r.rate ∧ dayR r.rate ≤ 2592000 := by
    obtain h | h | h | h : r.rate = 1 ∨ r.rate = 2 ∨ r.rate = 3 ∨ r.rate = 4 := by omega
    all_goals rw [h]; decide
  have hro := rollOf_pc r rs hrl
  have hwi := fun a b => within_pc r a b (by omega) (by omega)
  have hfr := frames_pc r.rate hrate
  have hsl := fun i => sumE_le hv.lt i
  have hsum := hv.sum
  have hel := hv.len
  simp only [List.map_cons, rlA] at hro hwi ⊢
  obtain ⟨RS, hRS⟩ : ∃ z, z = AV.agg [.str r.name, .int .i64 r.rate, .int .i64 r.start, .int .i64 r.long, .int .i64 r.drift] :: rs.map rlA := ⟨_, rfl⟩
  simp only [← hRS] at hro ⊢
  clear hRS
  have d1 : decide ((es.length : Int) > 999) = false := by simp; omega
  refine pc_intro (ct_intro Tryz.func59 rfl Tryz.ntmps59 hB59 (by simp) fun h ρ w => goB (N := 64) Tryz.ntmps59 300 ?_)
  simp only [go_sem, d1, List.length_map]
  refine aloop (ι := Nat) (fun i => es.length - i)
    (fun i => [(16, .int .i64 i), (15, .int .i64 es.length), (14, .fz 3 (es.map evA)), (5, .int .i64 (if i = 0 then 0 else r.rate)), (6, .int .i64 (sumE (es.take i))), (0, .fz 5 RS), (1, .fz 3 (es.map evA))])
    (fun i => []) (fun i => i ≤ es.length) 0 (by simp) ?_ ?_
  · refine Shift.weakS ?_ rfl
    simp only [wk, go_sem, List.length_map, List.take_zero, sumE]
  intro i g1 J hJ
  have hsi := hsl i
  by_cases gi : i < es.length
  · have di : decide ((i : Int) < (es.length : Int)) = true := by simp; omega
    have hget := evA_get es i gi
    have hfin := hJ (i + 1) (by omega) (by omega)
    rw [sumE_step es i gi, if_neg (Nat.succ_ne_zero i)] at hfin
    have hsi2 := hsl (i + 1)
    rw [sumE_step es i gi] at hsi2
    have he1 := hv.roll _ (List.getElem_mem gi)
    have he2 := hv.lt _ (List.getElem_mem gi)
    have he3 := hv.hold _ (List.getElem_mem gi)
    have he4 := hv.bd _ (List.getElem_mem gi)
    generalize es[i] = e at *
    rw [he1] at hget
    have hwi := hwi e.inn e.out
    rw [he3] at hwi
    have hrr : (r.rate != r.rate) = false := by simp
    clear hJ hsl
    by_cases h0 : i = 0
    · have d0 : ((i : Int) == 0) = true := by simp [h0]
      rw [if_pos h0]
      refine goB (N := 64) Tryz.ntmps59 300 ?_
      simp only [go_sem, di, hget, List.length_map]
      repeat refine And.intro (by first | omega | rfl | (simp; done) | (simp; omega)) ?_
      refine pcall1 (hro) rfl (N := 64) Tryz.ntmps59 rfl (goB (N := 64) Tryz.ntmps59 300 ?_)
      simp only [go_sem, d0, hrr]
      refine pcall1 (hwi) rfl (N := 64) Tryz.ntmps59 rfl (goB (N := 64) Tryz.ntmps59 300 ?_)
      simp only [go_sem]
      repeat refine And.intro (by first | omega | rfl | (simp; done) | (simp; omega)) ?_
      rw [show (i : Int) + 1 = ((i + 1 : Nat) : Int) by omega]
      refine ainv hfin ?_
      refine Shift.low 0 (by simp) (by simp) rfl ?_
      simp only [wkl, lowV, lowC, Av.get, go_sem]
    · have d0 : ((i : Int) == 0) = false := by simpa using h0
      rw [if_neg h0]
      refine goB (N := 64) Tryz.ntmps59 300 ?_
      simp only [go_sem, di, hget, List.length_map]
      repeat refine And.intro (by first | omega | rfl | (simp; done) | (simp; omega)) ?_
      refine pcall1 (hro) rfl (N := 64) Tryz.ntmps59 rfl (goB (N := 64) Tryz.ntmps59 300 ?_)
      simp only [go_sem, d0, hrr]
      refine pcall1 (hwi) rfl (N := 64) Tryz.ntmps59 rfl (goB (N := 64) Tryz.ntmps59 300 ?_)
      simp only [go_sem]
      repeat refine And.intro (by first | omega | rfl | (simp; done) | (simp; omega)) ?_
      rw [show (i : Int) + 1 = ((i + 1 : Nat) : Int) by omega]
      refine ainv hfin ?_
      refine Shift.low 0 (by simp) (by simp) rfl ?_
      simp only [wkl, lowV, lowC, Av.get, go_sem]
  · have hi : i = es.length := by omega
    have di : decide ((i : Int) < (es.length : Int)) = false := by simp; omega
    rw [show es.take i = es from List.take_of_length_le (by omega)]
    clear hJ
    by_cases h0 : i = 0
    · have d0 : decide ((es.length : Int) > 0) = false := decide_eq_false (by omega)
      refine goB (N := 64) Tryz.ntmps59 300 ?_
      simp only [go_sem, di, d0, List.length_map]
      exact aret [4] rfl ⟨rfl, rfl⟩
    · have d0 : decide ((es.length : Int) > 0) = true := decide_eq_true (by omega)
      have d2 : decide (sumE es > dayR r.rate) = false := decide_eq_false (by omega)
      rw [if_neg h0]
      refine goB (N := 64) Tryz.ntmps59 300 ?_
      simp only [go_sem, di, d0, List.length_map]
      refine pcall1 (hfr) rfl (N := 64) Tryz.ntmps59 rfl (goB (N := 64) Tryz.ntmps59 300 ?_)
      simp only [go_sem, d2]
      exact aret [4] rfl ⟨rfl, rfl⟩
set_option maxHeartbeats 4000000 in
theorem joins_pc (es : List Ev) (hl : es.length ≤ 999) : Pc Tryz.prog 24 [.fz 3 (es.map evA)] (fun v => ∃ n : Int, v = .int .i64 n ∧ 0 ≤ n ∧ n ≤ 999 ∧ (es = [] → n = 0) ∧ (es ≠ [] → n ≤ (es.length : Int) - 1)) := by
  refine pc_intro (ct_intro Tryz.func24 rfl Tryz.ntmps24 hB24 (by simp) fun h ρ w => goB (N := 40) Tryz.ntmps24 300 ?_)
  simp only [go_sem]
  refine aloop (ι := Nat × Int) (fun y => es.length - y.1)
    (fun y => [(4, .int .i64 ((y.1 + 1 : Nat))), (3, .int .i64 y.2), (0, .fz 3 (es.map evA))])
    (fun _ => []) (fun y => y.1 ≤ es.length ∧ 0 ≤ y.2 ∧ y.2 ≤ y.1 ∧ (y.1 + 1 ≤ es.length ∨ y.1 = 0)) (0, 0) ⟨by simp, by simp, by simp, by simp⟩ ?_ ?_
  · refine Shift.weakS ?_ rfl
    simp only [wk, go_sem]
  rintro ⟨i, n⟩ ⟨g1, g2, g3, g4⟩ J hJ
  simp only at g1 g2 g3 g4 hJ ⊢
  by_cases gi : i + 1 < es.length
  · have di : decide ((((i + 1 : Nat)) : Int) < (es.length : Int)) = true := by simp; omega
    have hg1 := evA_get es (i + 1) gi
    have hg2 := evA_get es i (by omega)
    have hi1 : (((i + 1 : Nat) : Int) - 1) = (i : Int) := by omega
    have hf1 := hJ (i + 1, n + 1) ⟨by simp only; omega, by simp only; omega, by simp only; omega, by simp only; omega⟩ (by simp only; omega)
    have hf2 := hJ (i + 1, n) ⟨by simp only; omega, by simp only; omega, by simp only; omega, by simp only; omega⟩ (by simp only; omega)
    generalize es[i + 1] = b at *
    generalize es[i] = a at *
    clear hJ
    cases h1 : b.roll != a.roll with
    | true =>
      refine goB (N := 40) Tryz.ntmps24 300 ?_
      simp only [go_sem, di, List.length_map]
      refine adraw [] mixed (by decide) (N := 40) Tryz.ntmps24 (by decide) 100 ?_
      simp only [go_sem, hi1, hg1, hg2, h1, List.length_map]
      repeat refine And.intro (by first | omega | rfl | (simp; done) | (simp; omega)) ?_
      refine goB (N := 40) Tryz.ntmps24 300 ?_
      simp only [go_sem]
      repeat refine And.intro (by first | omega | rfl | (simp; done) | (simp; omega)) ?_
      rw [show ((i + 1 : Nat) : Int) + 1 = ((i + 1 + 1 : Nat) : Int) by omega]
      refine ainv hf1 (Shift.weakS ?_ rfl)
      simp only [wk, go_sem]
    | false =>
      cases h2 : b.inn != a.out with
      | true =>
        refine goB (N := 40) Tryz.ntmps24 300 ?_
        simp only [go_sem, di, List.length_map]
        refine adraw [] mixed (by decide) (N := 40) Tryz.ntmps24 (by decide) 100 ?_
        simp only [go_sem, hi1, hg1, hg2, h1, h2, List.length_map]
        repeat refine And.intro (by first | omega | rfl | (simp; done) | (simp; omega)) ?_
        refine goB (N := 40) Tryz.ntmps24 300 ?_
        simp only [go_sem]
        repeat refine And.intro (by first | omega | rfl | (simp; done) | (simp; omega)) ?_
        rw [show ((i + 1 : Nat) : Int) + 1 = ((i + 1 + 1 : Nat) : Int) by omega]
        refine ainv hf1 (Shift.weakS ?_ rfl)
        simp only [wk, go_sem]
      | false =>
        refine goB (N := 40) Tryz.ntmps24 300 ?_
        simp only [go_sem, di, List.length_map]
        refine adraw [] mixed (by decide) (N := 40) Tryz.ntmps24 (by decide) 100 ?_
        simp only [go_sem, hi1, hg1, hg2, h1, h2, List.length_map]
        repeat refine And.intro (by first | omega | rfl | (simp; done) | (simp; omega)) ?_
        refine goB (N := 40) Tryz.ntmps24 300 ?_
        simp only [go_sem]
        repeat refine And.intro (by first | omega | rfl | (simp; done) | (simp; omega)) ?_
        rw [show ((i + 1 : Nat) : Int) + 1 = ((i + 1 + 1 : Nat) : Int) by omega]
        refine ainv hf2 (Shift.weakS ?_ rfl)
        simp only [wk, go_sem]
  · have di : decide ((((i + 1 : Nat)) : Int) < (es.length : Int)) = false := by simp; omega
    refine goB (N := 40) Tryz.ntmps24 300 ?_
    simp only [go_sem, di, List.length_map]
    exact aret [2] rfl ⟨⟨n, rfl, g2, by omega, fun h => by subst h; simp at g4 g1; omega, fun h => by
      have : es.length ≠ 0 := fun e => h (List.eq_nil_of_length_eq_zero e)
      omega⟩, rfl⟩
end Go.Proofs.YtkfpiadgjbhcpaaGreatDoor
