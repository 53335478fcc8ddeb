/- A line that is read. Own work of this seat. -/
import Derived.Test.YtkfpiadgjbhcpaaGreatDoorE51
import Derived.Test.YtkfpiadgjbhcpaaGreatDoorE22
import Derived.Test.YtkfpiadgjbhcpaaGreatDoorE47
import Derived.Test.YtkfpiadgjbhcpaaGreatDoorE48
set_option maxRecDepth 100000
set_option linter.unusedSimpArgs false
set_option linter.unusedVariables false
namespace Go.Proofs.YtkfpiadgjbhcpaaGreatDoor
open Go Go.Av Go.RowKit

set_option maxHeartbeats 8000000 in
theorem eventLine_pch {S : Std} (hS : LibOk S) (r : Rl) (rs : List Rl) (hr : RollsOk (r :: rs)) (hn : r.name ∈ RnL) (hrl : rs.length ≤ 200) (i : Nat) (hi : i < 999) (a : Int) (e : Ev) (he : e.inn < e.out) (hb0 : 0 ≤ e.inn) (hb1 : e.out ≤ dayR r.rate) (ha0 : 0 ≤ a) (ha1 : a + (e.out - e.inn) ≤ dayR r.rate) :
    PcH Tryz.prog S 66 [.fz 5 ((r :: rs).map rlA), .str (lineE r i a e), .int .i64 ((i : Int) + 1), .int .i64 a] (· = .tup [.agg [.str r.name, .int .i64 e.inn, .int .i64 e.out], .bool true]) := by
  obtain ⟨hro0, _⟩ := hr.at' 0 r rfl
  have hrate := hro0.rate
  have hnl := rnL_bd _ hn
  have hdb : 0 ≤ dayR r.rate ∧ dayR r.rate ≤ 2592000 := by
    obtain h | h | h | h : r.rate = 1 ∨ r.rate = 2 ∨ r.rate = 3 ∨ r.rate = 4 := by omega
    all_goals rw [h]; decide
  have hro := rollOf_pc r rs hrl
  have hll := lineE_len r hnl i a e
  have hsp := split_pch hS (lineE r i a e) [32] (by omega) (by decide)
  have hws : splitL (lineE r i a e) [32] = [num3 ((i : Int) + 1), r.name, codeL r.rate e.inn, codeL r.rate (e.out - 1), codeL r.rate a, codeL r.rate (a + (e.out - e.inn) - 1)] := by
    unfold lineE
    refine splitL_join 32 _ _ fun x hx => ?_
    simp only [List.mem_cons, List.not_mem_nil, or_false] at hx
    rcases hx with rfl | rfl | rfl | rfl | rfl | rfl
    · exact (num3_clean _ (by omega) (by omega)).1
    · exact (name_clean hn hro0.name).1
    · exact (code_clean _ _ hrate (by omega) (by omega)).1
    · exact (code_clean _ _ hrate (by omega) (by omega)).1
    · exact (code_clean _ _ hrate (by omega) (by omega)).1
    · exact (code_clean _ _ hrate (by omega) (by omega)).1
  rw [hws] at hsp
  simp only [List.map_cons, List.map_nil] at hsp
  have hnum := num3_pch hS ((i : Int) + 1) (by omega) (by omega)
  have r0 := read_pc r.rate e.inn hrate.1 hrate.2 (by omega) (by omega)
  have r1 := read_pc r.rate (e.out - 1) hrate.1 hrate.2 (by omega) (by omega)
  have r2 := read_pc r.rate a hrate.1 hrate.2 (by omega) (by omega)
  have r3 := read_pc r.rate (a + (e.out - e.inn) - 1) hrate.1 hrate.2 (by omega) (by omega)
  generalize lineE r i a e = LL at *
  generalize codeL r.rate e.inn = C0 at *
  generalize codeL r.rate (e.out - 1) = C1 at *
  generalize codeL r.rate a = C2 at *
  generalize codeL r.rate (a + (e.out - e.inn) - 1) = C3 at *
  have hnn : (num3 ((i : Int) + 1) != num3 ((i : Int) + 1)) = false := by simp
  generalize num3 ((i : Int) + 1) = NN at *
  clear hws hll
  simp only [List.map_cons, rlA] at hro ⊢
  obtain ⟨RS, hRS⟩ : ∃ z, z = AV.agg [.str r.name, .int .i64 r.rate, .int .i64 r.start, .int .i64 r.long, .int .i64 r.drift] :: rs.map rlA := ⟨_, rfl⟩
  simp only [← hRS] at hro ⊢
  clear hRS
  obtain ⟨m0, hm0⟩ : ∃ m, m = e.inn := ⟨_, rfl⟩
  obtain ⟨m1, hm1⟩ : ∃ m, m = e.out - 1 := ⟨_, rfl⟩
  obtain ⟨m3, hm3⟩ : ∃ m, m = a + (e.out - e.inn) - 1 := ⟨_, rfl⟩
  rw [← hm0] at r0
  rw [← hm1] at r1
  rw [← hm3] at r3
  refine pch_intro (cth_intro Tryz.func66 rfl Tryz.ntmps66 hB66 (by simp) fun h ρ w hg => goB (N := 94) Tryz.ntmps66 300 ?_)
  simp only [go_sem]
  refine pcallH1 hg (hsp) rfl (N := 94) Tryz.ntmps66 rfl (goB (N := 94) Tryz.ntmps66 300 ?_)
  simp only [go_sem]
  refine adraw [.str NN] mixed (by decide) (N := 94) Tryz.ntmps66 (by decide) 100 ?_
  simp only [go_sem, hnn, List.length_cons, List.length_nil]
  repeat refine And.intro (by first | omega | exact PcH.at hg hnum | rfl | (simp; done) | (simp; omega)) ?_
  refine goB (N := 94) Tryz.ntmps66 300 ?_
  simp only [go_sem]
  repeat refine And.intro (by first | omega | rfl | (simp; done) | (simp; omega)) ?_
  refine pcall1 (hro) rfl (N := 94) Tryz.ntmps66 rfl (goB (N := 94) Tryz.ntmps66 300 ?_)
  simp only [go_sem]
  repeat refine And.intro (by first | omega | rfl | (simp; done) | (simp; omega)) ?_
  refine aloop (fun j : Nat => 5 - j) (fun j => [(40, .int .i64 j), (13, .ptr 2 1 0 0), (12, .bool true), (11, .ptr 1 1 0 0), (10, .fz 1 [.str NN, .str r.name, .str C0, .str C1, .str C2, .str C3]), (8, .ptr 0 1 0 0), (3, .int .i64 a)])
    (fun j => [.arr 3 [.agg [.str [], .int .i64 0, .int .i64 0]], .arr 5 [.agg [.str r.name, .int .i64 r.rate, .int .i64 r.start, .int .i64 r.long, .int .i64 r.drift]], .arr 4 [.agg [.int .i64 (if 0 < j then m0 else 0), .int .i64 (if 1 < j then m1 else 0), .int .i64 (if 2 < j then a else 0), .int .i64 (if 3 < j then m3 else 0)]]]) (fun j => j ≤ 4) 0 (by omega) ?_ ?_
  · refine Shift.weakS ?_ rfl
    simp only [wk, go_sem]
  · intro j hj J hJ
    obtain rfl | rfl | rfl | rfl | rfl : j = 0 ∨ j = 1 ∨ j = 2 ∨ j = 3 ∨ j = 4 := by omega
    · refine goB (N := 94) Tryz.ntmps66 300 ?_
      simp only [go_sem]
      refine adraw [.tup [.int .i64 m0, .bool true]] mixed (by decide) (N := 94) Tryz.ntmps66 (by decide) 100 ?_
      simp only [go_sem, List.length_cons, List.length_nil]
      repeat refine And.intro (by first | omega | exact r0.at | rfl | (simp; done) | (simp; omega)) ?_
      refine goB (N := 94) Tryz.ntmps66 300 ?_
      simp only [go_sem]
      repeat refine And.intro (by first | omega | rfl | (simp; done) | (simp; omega)) ?_
      refine ainv (hJ 1 (by omega) (by omega)) (Shift.weakS ?_ ?_)
      · simp only [wk, go_sem]
      · rfl
    · refine goB (N := 94) Tryz.ntmps66 300 ?_
      simp only [go_sem]
      refine adraw [.tup [.int .i64 m1, .bool true]] mixed (by decide) (N := 94) Tryz.ntmps66 (by decide) 100 ?_
      simp only [go_sem, List.length_cons, List.length_nil]
      repeat refine And.intro (by first | omega | exact r1.at | rfl | (simp; done) | (simp; omega)) ?_
      refine goB (N := 94) Tryz.ntmps66 300 ?_
      simp only [go_sem]
      repeat refine And.intro (by first | omega | rfl | (simp; done) | (simp; omega)) ?_
      refine ainv (hJ 2 (by omega) (by omega)) (Shift.weakS ?_ ?_)
      · simp only [wk, go_sem]
      · rfl
    · refine goB (N := 94) Tryz.ntmps66 300 ?_
      simp only [go_sem]
      refine adraw [.tup [.int .i64 a, .bool true]] mixed (by decide) (N := 94) Tryz.ntmps66 (by decide) 100 ?_
      simp only [go_sem, List.length_cons, List.length_nil]
      repeat refine And.intro (by first | omega | exact r2.at | rfl | (simp; done) | (simp; omega)) ?_
      refine goB (N := 94) Tryz.ntmps66 300 ?_
      simp only [go_sem]
      repeat refine And.intro (by first | omega | rfl | (simp; done) | (simp; omega)) ?_
      refine ainv (hJ 3 (by omega) (by omega)) (Shift.weakS ?_ ?_)
      · simp only [wk, go_sem]
      · rfl
    · refine goB (N := 94) Tryz.ntmps66 300 ?_
      simp only [go_sem]
      refine adraw [.tup [.int .i64 m3, .bool true]] mixed (by decide) (N := 94) Tryz.ntmps66 (by decide) 100 ?_
      simp only [go_sem, List.length_cons, List.length_nil]
      repeat refine And.intro (by first | omega | exact r3.at | rfl | (simp; done) | (simp; omega)) ?_
      refine goB (N := 94) Tryz.ntmps66 300 ?_
      simp only [go_sem]
      repeat refine And.intro (by first | omega | rfl | (simp; done) | (simp; omega)) ?_
      refine ainv (hJ 4 (by omega) (by omega)) (Shift.weakS ?_ ?_)
      · simp only [wk, go_sem]
      · rfl
    · have d1 : decide (m1 ≥ m0) = true := decide_eq_true (by omega)
      have d2 : (a == a) = true := by simp
      have d3 : (m3 - a == m1 - m0) = true := by simp; omega
      have ho : e.out = m1 + 1 := by omega
      rw [← hm0, ho]
      refine goB (N := 94) Tryz.ntmps66 300 ?_
      simp only [go_sem, d1, d2, d3]
      repeat refine And.intro (by first | omega | rfl | (simp; done) | (simp; omega)) ?_
      refine adraw [] mixed (by decide) (N := 94) Tryz.ntmps66 (by decide) 100 ?_
      simp only [go_sem]
      repeat refine And.intro (by first | omega | rfl | (simp; done) | (simp; omega)) ?_
      refine goB (N := 94) Tryz.ntmps66 300 ?_
      simp only [go_sem]
      exact aretc [.cell 8 78, .tmp 9] rfl [_, _] ⟨by simp only [go_sem, sideIs], by simp only [go_sem, sideIs], trivial⟩ ⟨rfl, rfl⟩
def linesE (r : Rl) : Nat → Int → List Ev → List (List UInt8)
  | _, _, [] => []
  | i, a, e :: t => lineE r i a e :: linesE r (i + 1) (a + (e.out - e.inn)) t
theorem linesE_len (r : Rl) : ∀ (i : Nat) (a : Int) (es : List Ev), (linesE r i a es).length = es.length
  | _, _, [] => rfl
  | i, a, e :: t => by simp [linesE, linesE_len r (i + 1) _ t]
theorem linesE_at (r : Rl) : ∀ (es : List Ev) (i : Nat) (a : Int) (j : Nat) (h : j < es.length), (linesE r i a es)[j]? = some (lineE r (i + j) (a + sumE (es.take j)) es[j])
  | [], i, a, j, h => absurd h (by simp)
  | e :: t, i, a, 0, h => by simp [linesE, sumE]
  | e :: t, i, a, j + 1, h => by
    have ih := linesE_at r t (i + 1) (a + (e.out - e.inn)) j (by simpa using h)
    simp only [linesE, List.getElem?_cons_succ, List.take_succ_cons, sumE, List.getElem_cons_succ]
    rw [ih, show i + 1 + j = i + (j + 1) by omega, show a + (e.out - e.inn) + sumE (t.take j) = a + (e.out - e.inn + sumE (t.take j)) by omega]
theorem no10_tail : ∀ (ws : List (List UInt8)), (∀ x ∈ ws, 10 ∉ x) → (10 : UInt8) ∉ Lib.joinTail [32] ws
  | [], _ => by simp [Lib.joinTail]
  | w :: ws, h => by
    have ih := no10_tail ws fun x hx => h x (by simp [hx])
    have hw := h w (by simp)
    have e : Lib.joinTail [32] (w :: ws) = 32 :: (w ++ Lib.joinTail [32] ws) := by simp [Lib.joinTail]
    rw [e]
    simp only [List.mem_cons, List.mem_append, not_or]
    exact ⟨by decide, hw, ih⟩
theorem lineE_no10 (r : Rl) (hr : RlOk r) (hn : r.name ∈ RnL) (i : Nat) (hi : i < 999) (a : Int) (e : Ev) (he : e.inn < e.out) (hb0 : 0 ≤ e.inn) (hb1 : e.out ≤ dayR r.rate) (ha0 : 0 ≤ a) (ha1 : a + (e.out - e.inn) ≤ dayR r.rate) : (10 : UInt8) ∉ lineE r i a e := by
  have hrate := hr.rate
  unfold lineE
  rw [Lib.join_cons, List.mem_append, not_or]
  refine ⟨(num3_clean _ (by omega) (by omega)).2, no10_tail _ fun x hx => ?_⟩
  simp only [List.mem_cons, List.not_mem_nil, or_false] at hx
  rcases hx with rfl | rfl | rfl | rfl | rfl
  · exact (name_clean hn hr.name).2
  · exact (code_clean _ _ hrate (by omega) (by omega)).2
  · exact (code_clean _ _ hrate (by omega) (by omega)).2
  · exact (code_clean _ _ hrate (by omega) (by omega)).2
  · exact (code_clean _ _ hrate (by omega) (by omega)).2
theorem split_print (r : Rl) (hr : RlOk r) (hn : r.name ∈ RnL) : ∀ (es : List Ev) (i : Nat) (a : Int), i + es.length ≤ 999 → (∀ e ∈ es, e.inn < e.out ∧ 0 ≤ e.inn ∧ e.out ≤ dayR r.rate) → 0 ≤ a → a + sumE es ≤ dayR r.rate → splitL (printE r i a es) [10] = linesE r i a es ++ [[]]
  | [], i, a, _, _, _, _ => splitL_none 10 [] (by simp)
  | e :: t, i, a, hi, he, ha, hs => by
    obtain ⟨e1, e2, e3⟩ := he e (by simp)
    simp only [List.length_cons, sumE] at hi hs
    have hp := sumE_pos (es := t) fun x hx => (he x (by simp [hx])).1
    have ih := split_print r hr hn t (i + 1) (a + (e.out - e.inn)) (by omega) (fun x hx => he x (by simp [hx])) (by omega) (by omega)
    have h10 := lineE_no10 r hr hn i (by omega) a e e1 e2 e3 ha (by omega)
    simp only [printE, linesE, List.append_assoc, List.cons_append, List.nil_append]
    rw [splitL_cons 10 _ _ h10, ih]
theorem printE_len (r : Rl) (hn : r.name.length < 100) : ∀ (es : List Ev) (i : Nat) (a : Int), (printE r i a es).length ≤ 701 * es.length
  | [], _, _ => by simp [printE]
  | e :: t, i, a => by
    have ih := printE_len r hn t (i + 1) (a + (e.out - e.inn))
    have hl := lineE_len r hn i a e
    simp only [printE, List.length_append, List.length_cons, List.length_nil]
    omega
set_option maxHeartbeats 8000000 in
theorem parseEvents_pch {S : Std} (hS : LibOk S) (r : Rl) (rs : List Rl) (hr : RollsOk (r :: rs)) (hn : ∀ y ∈ r :: rs, y.name ∈ RnL) (hrl : rs.length ≤ 200) (es : List Ev) (hv : EvsOk r es) (h60 : es.length ≤ 60) :
    PcH Tryz.prog S 22 [.fz 5 ((r :: rs).map rlA), .str (printE r 0 0 es)] (· = .tup [.fz 3 (es.map evA), .int .i64 0, .int .i64 0]) := by
  have hch := checkRolls_pc (r :: rs) hr hn
  have hef := eventsFault_pc r rs hr hrl es hv
  obtain ⟨hro0, _⟩ := hr.at' 0 r rfl
  have hrn := hn r (by simp)
  have hnl := rnL_bd _ hrn
  have hpl := printE_len r hnl es 0 0
  have hbb : ∀ e ∈ es, e.inn < e.out ∧ 0 ≤ e.inn ∧ e.out ≤ dayR r.rate := fun e he => ⟨hv.lt e he, (hv.bd e he).1, (hv.bd e he).2⟩
  have hspl := split_print r hro0 hrn es 0 0 (by omega) hbb (by omega) (by have := hv.sum; omega)
  have hsp := split_pch hS (printE r 0 0 es) [10] (by omega) (by decide)
  rw [hspl] at hsp
  have hdb : 0 ≤ dayR r.rate ∧ dayR r.rate ≤ 2592000 := by
    have := hro0.rate
    obtain h | h | h | h : r.rate = 1 ∨ r.rate = 2 ∨ r.rate = 3 ∨ r.rate = 4 := by omega
    all_goals rw [h]; decide
  have hsl := fun i => sumE_le hv.lt i
  have hsum := hv.sum
  have hlat := fun j hj => linesE_at r es 0 0 j hj
  have hlen := linesE_len r 0 0 es
  have hline := fun (j : Nat) (hj : j < es.length) (a : Int) (h1 : 0 ≤ a) (h2 : a + (es[j].out - es[j].inn) ≤ dayR r.rate) => eventLine_pch hS r rs hr hrn hrl j (by omega) a es[j] (hbb _ (List.getElem_mem hj)).1 (hbb _ (List.getElem_mem hj)).2.1 (hbb _ (List.getElem_mem hj)).2.2 h1 h2
  generalize linesE r 0 0 es = LS at *
  have hml : ((LS ++ [[]]).map AV.str).length = es.length + 1 := by simp [hlen]
  have hend : List.getD ((LS ++ [[]]).map AV.str) es.length .any = .str [] := by
    rw [List.map_append, List.getD_eq_getElem?_getD, List.getElem?_append_right (by rw [List.length_map]; omega), List.length_map, hlen, Nat.sub_self]; rfl
  have htake : List.take es.length ((LS ++ [[]]).map AV.str) = LS.map AV.str := by
    rw [List.map_append, List.take_append_of_le_length (by rw [List.length_map]; omega), List.take_of_length_le (by rw [List.length_map]; omega)]
  have d1 : decide (((printE r 0 0 es).length : Int) > 200000) = false := decide_eq_false (by omega)
  have hn1 : ((es.length + 1 : Nat) : Int) - 1 = (es.length : Int) := by omega
  generalize printE r 0 0 es = TX at *
  generalize (LS ++ [[]]).map AV.str = W at *
  clear hspl
  simp only [List.map_cons, rlA] at hch hef hline ⊢
  obtain ⟨RS, hRS⟩ : ∃ z, z = AV.agg [.str r.name, .int .i64 r.rate, .int .i64 r.start, .int .i64 r.long, .int .i64 r.drift] :: rs.map rlA := ⟨_, rfl⟩
  simp only [← hRS] at hch hef hline ⊢
  clear hRS
  have hnn : (([] : List UInt8) != []) = false := rfl
  have hkk : decide ((es.length : Int) ≤ ((es.length + 1 : Nat) : Int)) = true := decide_eq_true (by omega)
  refine pch_intro (cth_intro Tryz.func22 rfl Tryz.ntmps22 hB22 (by simp) fun h ρ w hg => goB (N := 76) Tryz.ntmps22 300 ?_)
  simp only [go_sem]
  refine pcall1 (hch) rfl (N := 76) Tryz.ntmps22 rfl (goB (N := 76) Tryz.ntmps22 300 ?_)
  simp only [go_sem, d1]
  refine pcallH1 hg (hsp) rfl (N := 76) Tryz.ntmps22 rfl (goB (N := 76) Tryz.ntmps22 300 ?_)
  simp only [go_sem, hml, hn1, hkk, htake]
  repeat refine And.intro (by first | omega | rfl | (simp; done) | (simp; omega)) ?_
  refine aloop (ι := Nat) (fun j => es.length - j)
    (fun j => [(34, .int .i64 j), (33, .int .i64 es.length), (32, .fz 1 (LS.map .str)), (11, .int .i64 es.length), (10, .fz 1 W), (9, .int .i64 (sumE (es.take j))), (8, .sl 0 0 j j), (0, .fz 5 RS)])
    (fun j => [.arr 3 ((es.take j).map evA)]) (fun j => j ≤ es.length) 0 (by simp) ?_ ?_
  · refine Shift.trans (Shift.nilsl 8 3 rfl) (Shift.weakS ?_ ?_)
    · simp only [wk, go_sem, List.length_map, hlen, List.take_zero, sumE]
    · simp
  intro j g1 J hJ
  have hsj := hsl j
  by_cases gj : j < es.length
  · have dj : decide ((j : Int) < (es.length : Int)) = true := by simp; omega
    have hgl : List.getD (LS.map AV.str) j .any = .str (lineE r j (sumE (es.take j)) es[j]) := by
      have := hlat j gj
      rw [Nat.zero_add, Int.zero_add] at this
      rw [List.getD_eq_getElem?_getD, List.getElem?_map, this]; rfl
    have hss := sumE_step es j gj
    have hsj2 := hsl (j + 1)
    rw [hss] at hsj2
    have hfin := hJ (j + 1) (by omega) (by omega)
    rw [hss, List.take_add_one, List.getElem?_eq_getElem gj] at hfin
    simp only [Option.toList, List.map_append, List.map_cons, List.map_nil] at hfin
    have hli := hline j gj (sumE (es.take j)) (by omega) (by omega)
    have he1 := hv.roll _ (List.getElem_mem gj)
    have he2 := hv.lt _ (List.getElem_mem gj)
    have he4 := hv.bd _ (List.getElem_mem gj)
    have hol : ((es.take j).map evA).length = j := by simp; omega
    have hoz := ev_frz (es.take j)
    generalize (es.take j).map evA = O at *
    obtain ⟨A, hA⟩ : ∃ z, z = sumE (es.take j) := ⟨_, rfl⟩
    rw [← hA] at hgl hsj hsj2 hfin hli ⊢
    generalize es[j] = e at *
    rw [show evA e = .agg [.str r.name, .int .i64 e.inn, .int .i64 e.out] by rw [← he1]; rfl] at hfin
    generalize lineE r j A e = LL at *
    clear hJ hsl hlat hline
    refine goB (N := 76) Tryz.ntmps22 300 ?_
    simp only [go_sem, dj, hgl, hlen, List.length_map]
    repeat refine And.intro (by first | omega | rfl | (simp; done) | (simp; omega)) ?_
    refine pcallH1 hg (hli) rfl (N := 76) Tryz.ntmps22 rfl (goB (N := 76) Tryz.ntmps22 300 ?_)
    simp only [go_sem, hol]
    repeat refine And.intro (by first | omega | rfl | exact .inl rfl | exact .inl trivial | (simp; done) | (simp; omega)) ?_
    rw [show (j : Int) + 1 = ((j + 1 : Nat) : Int) by omega]
    refine ainv hfin ?_
    refine Shift.low 1 (by simp) (by simp) ?_ ?_
    · simp only [List.take_succ_cons, List.take_zero, List.all_cons, List.all_nil, lowB, flat_append, List.all_append, low_all hoz, flat, cellsOf, lowC, Av.frozen, List.append_nil, List.cons_append, List.nil_append, Bool.and_self]
    · simp only [wkl, lowV, lowC, Av.get, go_sem]
  · have hj : j = es.length := by omega
    have dj : decide ((j : Int) < (es.length : Int)) = false := by simp; omega
    rw [show es.take j = es from List.take_of_length_le (by omega)]
    clear hJ
    refine AWp.shift (Shift.freeze 8 (id := 0) (l := es.map evA) rfl rfl (by simp; omega) (Nat.le_refl _) (ev_frz _)) ?_
    have htk : List.take j (List.drop 0 (es.map evA)) = es.map evA := by rw [List.drop_zero, List.take_of_length_le (by simp; omega)]
    rw [htk]
    refine goB (N := 76) Tryz.ntmps22 300 ?_
    simp only [go_sem, dj, hend, hml, hnn]
    repeat refine And.intro (by first | omega | rfl | (simp; done) | (simp; omega)) ?_
    refine pcall1 (hef) rfl (N := 76) Tryz.ntmps22 rfl (goB (N := 76) Tryz.ntmps22 300 ?_)
    simp only [go_sem]
    exact aret [4, 5, 6] rfl ⟨rfl, rfl⟩
end Go.Proofs.YtkfpiadgjbhcpaaGreatDoor
namespace Go.Proofs.YtkfpiadgjbhcpaaGreatDoor
open Go Go.Av Go.RowKit

theorem chosen_at : ∀ (ss : List Stp) (last : Option Pp') (ps : List Pp'), ChosenN last ss ps → ∀ (m : Nat) (q : Pp'), ps[m]? = some q → ∃ s : Stp, ss[m]? = some s ∧ q ∈ s.parts
  | [], _, [], _, m, q, h => by simp at h
  | [], none, _ :: _, hc, _, _, _ => by simp [ChosenN] at hc
  | [], some _, _ :: _, hc, _, _, _ => by simp [ChosenN] at hc
  | _ :: _, _, [], _, m, q, h => by simp at h
  | s :: ss, none, p :: ps, hc, 0, q, h => by
    simp only [ChosenN] at hc
    simp at h
    subst h
    exact ⟨s, rfl, hc.1⟩
  | s :: ss, some _, p :: ps, hc, 0, q, h => by
    simp only [ChosenN] at hc
    simp at h
    subst h
    exact ⟨s, rfl, hc.1⟩
  | s :: ss, none, p :: ps, hc, m + 1, q, h => by
    simp only [ChosenN] at hc
    exact chosen_at ss _ ps hc.2.2 m q (by simpa using h)
  | s :: ss, some _, p :: ps, hc, m + 1, q, h => by
    simp only [ChosenN] at hc
    exact chosen_at ss _ ps hc.2.2 m q (by simpa using h)
section
variable {y : Sc} {l : List Tk}
theorem best_chosen (h : ∀ z ∈ rowsU y l, z.2 ≠ []) : ChosenN none (stepsN (rowsU y l)) (bestC y l) := chosenF_ok _ _ (stepsN_ok _ h)
theorem best_len (h : ∀ z ∈ rowsU y l, z.2 ≠ []) : (bestC y l).length = (needF 0 y.paras).length := by
  rw [chosen_len _ _ _ (best_chosen h), stepsN_len]
  simp [rowsU]
theorem best_in (h : ∀ z ∈ rowsU y l, z.2 ≠ []) : ∀ m q, (hm : m < (needF 0 y.paras).length) → (bestC y l)[m]? = some q → q ∈ partsU l y.no ((needF 0 y.paras)[m] : Nat) l.length := fun m q hm hq => by
  obtain ⟨s, hs, hqs⟩ := chosen_at _ _ _ (best_chosen h) m q hq
  have hr : (rowsU y l)[m]? = some (isSp y (needF 0 y.paras)[m], partsU l y.no ((needF 0 y.paras)[m] : Nat) l.length) := by
    rw [rowsU, List.getElem?_map, List.getElem?_eq_getElem hm]; rfl
  obtain ⟨s', e1, _, e3⟩ := stepsN_at hr
  rw [hs] at e1
  rw [Option.some.inj e1, e3] at hqs
  exact hqs
theorem best_few (h : ∀ z ∈ rowsU y l, z.2 ≠ []) (hl : y.paras.length ≤ 60) : joinsN none (bestC y l) = fewU l y.no (needF 0 y.paras) none 0 := by
  have hc := best_chosen h
  have hrl : (rowsU y l).length ≤ 1000000 := by
    have := needF_len y.paras 0
    simp [rowsU]; omega
  have e : fewU l y.no (needF 0 y.paras) none 0 = fewN none ((rowsU y l).map (·.2)) := by
    unfold fewU rowsU
    rw [List.drop_zero, List.map_map]
    rfl
  rw [e]
  cases hs : stepsN (rowsU y l) with
  | nil =>
    have h0 : (rowsU y l).length = 0 := by rw [← stepsN_len, hs]; rfl
    have h1 : rowsU y l = [] := List.eq_nil_of_length_eq_zero h0
    have h2 : bestC y l = [] := List.eq_nil_of_length_eq_zero (by rw [chosen_len _ _ _ hc, hs]; rfl)
    rw [h1, h2]; rfl
  | cons s r =>
    have h1 := chosen_joins _ _ _ _ _ hs hc
    have h2 := (scr_few _ h hrl _ _ hs).2.1
    simp only at h1
    rw [h1, h2]
theorem best_joins (h : ∀ z ∈ rowsU y l, z.2 ≠ []) : decide (joinsN none (bestC y l) < ((runsF (bestC y l)).length : Int) - 1) = false := by
  have := (runs_ok (bestC y l)).joins
  simp only [decide_eq_false_iff_not]
  split at this <;> omega
theorem few_bd (hl : (needF 0 y.paras).length ≤ 60) : 0 ≤ fewU l y.no (needF 0 y.paras) none 0 ∧ fewU l y.no (needF 0 y.paras) none 0 ≤ 1073741824 := by
  unfold fewU
  exact fewN_low _ _ (by simp; omega)
end
end Go.Proofs.YtkfpiadgjbhcpaaGreatDoor
namespace Go.Proofs.YtkfpiadgjbhcpaaGreatDoor
open Go Go.Av Go.RowKit

theorem eqEv_pc (a : List Ev) (ha : a.length < 100000) : Pc Tryz.prog 23 [.fz 3 (a.map evA), .fz 3 (a.map evA)] (· = .bool true) := by
  have d0 : ((a.length : Int) != (a.length : Int)) = false := by simp
  refine pc_intro (ct_intro Tryz.func23 rfl Tryz.ntmps23 hB23 (by simp) fun h ρ w => goB (N := 26) Tryz.ntmps23 300 ?_)
  simp only [go_sem, d0, List.length_map]
  refine aloop (ι := Nat) (fun i => a.length - i) (fun i => [(13, .int .i64 i), (12, .int .i64 a.length), (1, .fz 3 (a.map evA)), (0, .fz 3 (a.map evA))]) (fun _ => []) (fun i => i ≤ a.length) 0 (by simp) ?_ ?_
  · refine Shift.weak ?_
    simp only [wk, go_sem]
  · intro i g1 J hJ
    by_cases gi : i < a.length
    · have di : decide ((i : Int) < (a.length : Int)) = true := by simp; omega
      have h1 := evA_get a i gi
      have hfin := hJ (i + 1) (by omega) (by omega)
      generalize a[i] = e at *
      refine goB (N := 26) Tryz.ntmps23 300 ?_
      simp only [go_sem, di]
      refine adraw [] mixed (by decide) (N := 26) Tryz.ntmps23 (by decide) 100 ?_
      simp only [go_sem, h1, beq_self_eq_true, Bool.and_self, Bool.not_true, List.length_map]
      repeat refine And.intro (by first | omega | rfl | kernel_rfl | (simp; done) | (simp; omega)) ?_
      refine goB (N := 26) Tryz.ntmps23 300 ?_
      simp only [go_sem]
      repeat refine And.intro (by first | omega | (simp; done) | (simp; omega)) ?_
      rw [show (i : Int) + 1 = ((i + 1 : Nat) : Int) by omega]
      refine ainv hfin (Shift.weak ?_)
      simp only [wk, go_sem]
    · have di : decide ((i : Int) < (a.length : Int)) = false := by simp; omega
      refine goB (N := 26) Tryz.ntmps23 300 ?_
      simp only [go_sem, di]
      exact aret [4] rfl ⟨rfl, rfl⟩
def sumC : List Clp → Int
  | [] => 0
  | c :: r => (c.out - c.inn) + sumC r
theorem sumC_step (cs : List Clp) (i : Nat) (h : i < cs.length) : sumC (cs.take (i + 1)) = sumC (cs.take i) + (cs[i].out - cs[i].inn) := by
  have app : ∀ (a b : List Clp), sumC (a ++ b) = sumC a + sumC b := by
    intro a b
    induction a with
    | nil => simp [sumC]
    | cons x a ih => simp only [List.cons_append, sumC, ih]; omega
  rw [List.take_add_one, List.getElem?_eq_getElem h, app]
  simp [sumC]
theorem evStep_sum (rn : List UInt8) (es : List Ev) (c : Clp) : sumE (evStep rn es c) = sumE es + (c.out - c.inn) := by
  unfold evStep
  split
  · rename_i e he
    obtain ⟨ys, rfl⟩ := List.getLast?_eq_some_iff.1 he
    split
    · rename_i hb
      have hb : e.out = c.inn := by simpa using hb
      rw [List.dropLast_concat, sumE_app, sumE_app]
      simp only [sumE]; omega
    · rw [sumE_app]
      simp only [sumE]; omega
  · rw [sumE_app]
    simp only [sumE]; omega
theorem evF_sum (rn : List UInt8) (cs : List Clp) : ∀ i, i ≤ cs.length → sumE (evF rn (cs.take i)) = sumC (cs.take i)
  | 0, _ => by simp [evF, sumE, sumC]
  | i + 1, h => by
    rw [evF_step rn cs i (by omega), evStep_sum, evF_sum rn cs i (by omega), sumC_step cs i (by omega)]
theorem evStep_in {rn : List UInt8} {lo up : Int} {es : List Ev} {c : Clp} (h : ∀ e ∈ es, lo ≤ e.inn ∧ e.out ≤ up) (hc : lo ≤ c.inn ∧ c.out ≤ up) : ∀ e ∈ evStep rn es c, lo ≤ e.inn ∧ e.out ≤ up := by
  intro e he
  unfold evStep at he
  split at he
  · rename_i q hq
    have hqm := h q (List.mem_of_getLast? hq)
    split at he
    · rcases List.mem_append.1 he with he | he
      · exact h e (List.dropLast_subset _ he)
      · rw [List.mem_singleton.1 he]; exact ⟨hqm.1, hc.2⟩
    · rcases List.mem_append.1 he with he | he
      · exact h e he
      · rw [List.mem_singleton.1 he]; exact hc
  · rcases List.mem_append.1 he with he | he
    · exact h e he
    · rw [List.mem_singleton.1 he]; exact hc
theorem evF_in {rn : List UInt8} {lo up : Int} {cs : List Clp} (hc : ∀ c ∈ cs, lo ≤ c.inn ∧ c.out ≤ up) : ∀ i, i ≤ cs.length → ∀ e ∈ evF rn (cs.take i), lo ≤ e.inn ∧ e.out ≤ up
  | 0, _ => by simp [evF]
  | i + 1, h => by
    rw [evF_step rn cs i (by omega)]
    exact evStep_in (evF_in hc i (by omega)) (hc _ (List.getElem_mem _))
theorem cov_in {x : Sr} {r : Rl} {l : List Tk} (h : TakesOk x r l) {k : Nat} {t : Tk} (ht : l[k]? = some t) {c : Cv} (hc : c ∈ t.covers) : t.inn ≤ c.inn ∧ c.inn < c.out ∧ c.out ≤ t.out := by
  have ha := h.at' k t ht
  obtain ⟨i, hi, his⟩ := (sceneIx_bd x t.scene).resolve_left (by have := ha.scene; omega)
  obtain ⟨j, hj, rfl⟩ := List.getElem_of_mem hc
  exact (ha.cov i hi his j _ (List.getElem?_eq_getElem hj)).2.2
/-- the clips of an assembly -/
def clipsC (y : Sc) (l : List Tk) : List Clp := (runsF (bestC y l)).map clipR
theorem clips_ok {x : Sr} {r : Rl} {rs : List Rl} {l : List Tk} (hf : FilmOk x r rs l) {y : Sc} (hne : ∀ z ∈ rowsU y l, z.2 ≠ []) : ∀ c ∈ clipsC y l, ∃ t, l[c.take]? = some t ∧ t.roll = r.name ∧ t.inn ≤ c.inn ∧ c.inn < c.out ∧ c.out ≤ t.out := by
  intro c hc
  obtain ⟨R, hR, rfl⟩ := List.mem_map.1 hc
  have hro := runs_ok (bestC y l)
  have hrr := hro.run R hR
  have hpm : ∀ p ∈ R, ∃ t, l[p.take]? = some t ∧ p.cv ∈ t.covers := fun p hp => by
    have hm : p ∈ bestC y l := by rw [← hro.flat]; exact List.mem_flatten.2 ⟨R, hR, hp⟩
    obtain ⟨m, hml, hme⟩ := List.getElem_of_mem hm
    have := best_in hne m p (by rw [← best_len hne]; exact hml) (by rw [List.getElem?_eq_getElem hml, hme])
    obtain ⟨_, t, ht, _, hfd⟩ := partsU_mem this
    exact ⟨t, ht, List.mem_of_find?_eq_some hfd⟩
  have hlt : ∀ p ∈ R, p.cv.inn < p.cv.out := fun p hp => by
    obtain ⟨t, ht, hc⟩ := hpm p hp
    exact (cov_in hf.ok ht hc).2.1
  obtain ⟨a, ha⟩ : ∃ a, R.head? = some a := by
    cases R with
    | nil => exact absurd rfl hrr.1
    | cons a b => exact ⟨a, rfl⟩
  obtain ⟨q, hq⟩ : ∃ q, R.getLast? = some q := by
    cases h : R.getLast? with
    | none => exact absurd (by simpa using h) hrr.1
    | some q => exact ⟨q, rfl⟩
  have hcl := (clip_more ha hq q).1
  have htk := fols_take R a q hrr.2 ha hq
  have ham : a ∈ R := List.mem_of_head? ha
  have hqm : q ∈ R := List.mem_of_getLast? hq
  obtain ⟨t, ht, htc⟩ := hpm a ham
  obtain ⟨t2, ht2, htc2⟩ := hpm q hqm
  rw [← htk, ht] at ht2
  cases ht2
  have h1 := cov_in hf.ok ht htc
  have h2 := cov_in hf.ok ht htc2
  have hR0 : 0 < R.length := by
    cases R with
    | nil => exact absurd rfl hrr.1
    | cons a b => simp
  have hrun := (run_ok R hrr.2 hlt 0 hR0).1
  have ha0 : R[0] = a := by
    cases R with
    | nil => simp at hR0
    | cons z b => simp at ha; simp [ha]
  rw [ha0] at hrun
  rw [hcl] at hrun ⊢
  have htm : t ∈ l := List.mem_of_getElem? ht
  exact ⟨t, ht, (hf.takes t htm).roll, h1.1, hrun, h2.2.2⟩
theorem sumC_le {B : Int} (hB : 0 ≤ B) : ∀ {cs : List Clp}, (∀ c ∈ cs, c.inn < c.out ∧ c.out - c.inn ≤ B) → 0 ≤ sumC cs ∧ sumC cs ≤ B * cs.length
  | [], _ => by simp [sumC]
  | c :: r, h => by
    have h1 := h c (by simp)
    have h2 := sumC_le hB (cs := r) fun x hx => h x (by simp [hx])
    simp only [sumC, List.length_cons]
    have : B * ((r.length + 1 : Nat) : Int) = B * (r.length : Int) + B := by rw [Int.natCast_add, Int.mul_add]; simp
    omega
theorem clips_few {y : Sc} {l : List Tk} (hne : ∀ z ∈ rowsU y l, z.2 ≠ []) (hp : y.paras.length ≤ 60) : (clipsC y l).length ≤ 60 := by
  have h1 := runs_len (runs_ok (bestC y l))
  rw [best_len hne] at h1
  have h2 := needF_len y.paras 0
  simp only [clipsC, List.length_map]
  omega
theorem evs_ok {x : Sr} {r : Rl} {rs : List Rl} {l : List Tk} (hf : FilmOk x r rs l) {y : Sc} (hne : ∀ z ∈ rowsU y l, z.2 ≠ []) (hp : y.paras.length ≤ 60) : EvsOk r (evF r.name (clipsC y l)) := by
  have hc := clips_ok hf hne
  have h60 := clips_few hne hp
  obtain ⟨hro0, _⟩ := hf.rolls.at' 0 r rfl
  have hst := hro0.start
  have hlg := hro0.long
  have hdb : 2073600 ≤ dayR r.rate := by
    have := hro0.rate
    obtain h | h | h | h : r.rate = 1 ∨ r.rate = 2 ∨ r.rate = 3 ∨ r.rate = 4 := by omega
    all_goals rw [h]; decide
  have hin : ∀ c ∈ clipsC y l, (r.start ≤ c.inn ∧ c.out ≤ r.start + r.long) ∧ c.inn < c.out ∧ c.out - c.inn ≤ 10000 := fun c hcm => by
    obtain ⟨t, ht, h1, h2, h3, h4⟩ := hc c hcm
    have hh := (hf.ok.at' c.take t ht).hold
    have hb := hf.takes t (List.mem_of_getElem? ht)
    have hb1 := hb.inn
    have hb2 := hb.out
    simp only [holdsB, Bool.and_eq_true, decide_eq_true_eq] at hh
    exact ⟨⟨by omega, by omega⟩, h3, by omega⟩
  have e0 : (clipsC y l).take (clipsC y l).length = clipsC y l := List.take_length
  have hok := evF_ok (rn := r.name) (cs := clipsC y l) (fun c hcm => (hin c hcm).2.1) _ (Nat.le_refl _)
  have hbd := evF_in (rn := r.name) (cs := clipsC y l) (fun c hcm => (hin c hcm).1) _ (Nat.le_refl _)
  have hsm := evF_sum r.name (clipsC y l) _ (Nat.le_refl _)
  have hln := evF_len r.name (clipsC y l) _ (Nat.le_refl _)
  rw [e0] at hok hbd hsm hln
  have hsl := sumC_le (B := 10000) (by decide) (cs := clipsC y l) fun c hcm => ⟨(hin c hcm).2.1, (hin c hcm).2.2⟩
  refine ⟨fun e he => (hok e he).roll, fun e he => (hok e he).lt, fun e he => ?_, fun e he => ?_, by omega, by omega⟩
  · have h1 := hbd e he
    have h2 := (hok e he).lt
    simp only [holdsB, Bool.and_eq_true, decide_eq_true_eq]
    exact ⟨⟨h1.1, h2⟩, h1.2⟩
  · have h1 := hbd e he
    exact ⟨by omega, by omega⟩
end Go.Proofs.YtkfpiadgjbhcpaaGreatDoor
