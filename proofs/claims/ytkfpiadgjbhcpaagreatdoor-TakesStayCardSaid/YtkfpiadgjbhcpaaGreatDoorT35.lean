/- Rolls: drawn, told exactly; right ones. Own work of this seat. -/
import Derived.Test.YtkfpiadgjbhcpaaGreatDoorT34
import Derived.Test.YtkfpiadgjbhcpaaGreatDoorT21
set_option maxRecDepth 100000
set_option linter.unusedSimpArgs false
set_option linter.unusedVariables false
namespace Go.Proofs.YtkfpiadgjbhcpaaGreatDoor
open Go Go.Av Go.RowKit

def RnL : List (List UInt8) := [[65, 49], [65, 50], [83, 49], [], [97, 49], [65, 66, 67, 68, 69, 70, 71, 72, 73]]
def rollSet : List UInt8 := [65, 66, 67, 68, 69, 70, 71, 72, 73, 74, 75, 76, 77, 78, 79, 80, 81, 82, 83, 84, 85, 86, 87, 88, 89, 90, 48, 49, 50, 51, 52, 53, 54, 55, 56, 57]
def rnR (s : List UInt8) : Bool := longR s 1 8 && madeR s rollSet
def dayR (r : Int) : Int := if r = 1 then 2073600 else if r = 2 then 2160000 else if r = 3 then 2592000 else if r = 4 then 2589408 else 0
/-- a right roll after others -/
structure RlOk (x : Rl) : Prop where
  name : rnR x.name = true
  rate : 1 ≤ x.rate ∧ x.rate ≤ 4
  start : 0 ≤ x.start ∧ x.start < dayR x.rate
  long : 1 ≤ x.long ∧ x.long ≤ dayR x.rate - x.start
  drift : -1000 ≤ x.drift ∧ x.drift ≤ 1000
def RlAt (l : List Rl) (i : Nat) (x : Rl) : Prop := RlOk x ∧ ((l.take i).any fun y => y.name == x.name) = false
structure RollsOk (l : List Rl) : Prop where
  len : l.length ≤ 200
  at' : ∀ i x, l[i]? = some x → RlAt l i x
theorem RollsOk.no {l : List Rl} {i : Nat} {x : Rl} (hi : l[i]? = some x) (h : ¬ RlAt l i x) : ¬ RollsOk l := fun c => h (c.at' i x hi)
theorem rnL_bd : ∀ s ∈ RnL, s.length < 100 := by decide

theorem rateR_pc (r : Int) : Pc Tryz.prog 151 [.int .i64 r] (fun v => ∃ a b c : Int, v = .tup [.int .i64 a, .int .i64 (dayR r), .int .i64 b, .int .i64 c, .bool (decide (1 ≤ r ∧ r ≤ 4))]) := by
  refine pc_intro (ct_intro Tryz.func151 rfl Tryz.ntmps151 hB151 (by simp) fun h ρ w => goB (N := 16) Tryz.ntmps151 300 ?_)
  by_cases h : 1 ≤ r ∧ r ≤ 4
  · obtain rfl | rfl | rfl | rfl : r = 1 ∨ r = 2 ∨ r = 3 ∨ r = 4 := by omega
    all_goals
      simp only [go_sem]
      exact aret [2, 3, 4, 5, 6] rfl ⟨⟨_, _, _, rfl⟩, rfl⟩
  · have e1 : (r == 1) = false := by simp; omega
    have e2 : (r == 2) = false := by simp; omega
    have e3 : (r == 3) = false := by simp; omega
    have e4 : (r == 4) = false := by simp; omega
    have hd : dayR r = 0 := by unfold dayR; rw [if_neg (by omega), if_neg (by omega), if_neg (by omega), if_neg (by omega)]
    simp only [go_sem, e1, e2, e3, e4]
    exact aret [2, 3, 4, 5, 6] rfl ⟨⟨0, 0, 0, by rw [hd]; simp [resV, Av.get, Av.put, h]⟩, rfl⟩
theorem rightFrame_pc (r f : Int) (h : 1 ≤ r ∧ r ≤ 4) : Pc Tryz.prog 155 [.int .i64 r, .int .i64 f] (· = .bool (decide (0 ≤ f) && decide (f < dayR r))) := by
  have hr := rateR_pc r
  have hd : decide (1 ≤ r ∧ r ≤ 4) = true := by simpa using h
  refine pc_intro (ct_intro Tryz.func155 rfl Tryz.ntmps155 hB155 (by simp) fun h ρ w => goB (N := 28) Tryz.ntmps155 300 ?_)
  simp only [go_sem]
  refine pcall (hr) rfl (N := 28) Tryz.ntmps155 rfl ?_
  rintro _ ⟨a, b, c, rfl⟩
  refine goB (N := 28) Tryz.ntmps155 300 ?_
  cases e1 : decide (f ≥ 0) with
  | true =>
    have e1' : decide (0 ≤ f) = true := by simpa using e1
    simp only [go_sem, hd, e1]
    exact aret [4] rfl ⟨by simp [resV, Av.get, Av.put, e1'], rfl⟩
  | false =>
    have e1' : decide (0 ≤ f) = false := by simpa using e1
    simp only [go_sem, hd, e1]
    exact aret [4] rfl ⟨by simp [resV, Av.get, Av.put, e1'], rfl⟩
theorem rollName_pc (s : List UInt8) (hs : s.length < 100) : Pc Tryz.prog 152 [.str s] (· = .bool (rnR s)) := by
  have h1 := longR_pc s 1 8
  have h3 := madeR_pc s rollSet (by omega) (by decide) (ascii_set (by decide))
  simp only [rollSet] at h3
  refine pc_intro (ct_intro Tryz.func152 rfl Tryz.ntmps152 hB152 (by simp) fun h ρ w => goB (N := 9) Tryz.ntmps152 300 ?_)
  simp only [go_sem]
  refine pcall1 (h1) rfl (N := 9) Tryz.ntmps152 rfl (goB (N := 9) Tryz.ntmps152 300 ?_)
  cases e1 : longR s 1 8 with
  | false =>
    simp only [go_sem]
    exact aret [2] rfl ⟨by simp [resV, Av.get, Av.put, rnR, e1], rfl⟩
  | true =>
    simp only [go_sem]
    refine pcall1 (h3) rfl (N := 9) Tryz.ntmps152 rfl (goB (N := 9) Tryz.ntmps152 300 ?_)
    simp only [go_sem]
    exact aret [2] rfl ⟨by simp [resV, Av.get, Av.put, rnR, e1, rollSet], rfl⟩
theorem sameRoll_pc (x y : Rl) : Pc Tryz.prog 154 [rlA x, .pin 5 [rlA y] 0 0] (· = .bool (x.name == y.name)) := by
  simp only [rlA]
  refine pc_intro (ct_intro Tryz.func154 rfl Tryz.ntmps154 hB154 (by simp) fun h ρ w => goB (N := 9) Tryz.ntmps154 300 ?_)
  simp only [go_sem]
  exact aret [3] rfl ⟨rfl, rfl⟩
set_option maxHeartbeats 4000000 in
theorem rollsR_pc (l : List Rl) (hl : l.length ≤ 200) (hn : ∀ x ∈ l, x.name.length < 100) : Pc Tryz.prog 92 [.fz 5 (l.map rlA)] (fun r => ∃ n : Int, r = .int .i64 n ∧ (n = 0 ↔ RollsOk l)) := by
  have d1 : decide ((l.length : Int) > 200) = false := by simp; omega
  refine pc_intro (ct_intro Tryz.func92 rfl Tryz.ntmps92 hB92 (by simp) fun h ρ w => goB (N := 75) Tryz.ntmps92 300 ?_)
  simp only [go_sem, d1, List.length_map]
  refine aloop (ι := Nat) (fun y => l.length - y)
    (fun y => [(15, .int .i64 y), (14, .int .i64 l.length), (13, .fz 5 (l.map rlA)), (0, .fz 5 (l.map rlA))])
    (fun y => []) (fun y => y ≤ l.length ∧ ∀ j x, j < y → l[j]? = some x → RlAt l j x) 0 ⟨by simp, fun j _ h => absurd h (by omega)⟩ ?_ ?_
  · refine Shift.weakS ?_ rfl
    simp only [wk, go_sem, List.length_map]
  · rintro i ⟨g1, g2⟩ J hJ
    by_cases gi : i < l.length
    · have di : decide ((i : Int) < (l.length : Int)) = true := by simp; omega
      obtain ⟨x, hx⟩ : ∃ x, x = l[i] := ⟨_, rfl⟩
      have hxi : l[i]? = some x := by rw [hx]; exact List.getElem?_eq_getElem gi
      have hnx := hn x (by rw [hx]; exact List.getElem_mem gi)
      have hget := rlA_get l i gi
      rw [← hx] at hget
      have hret : ∀ (n : Int), n ≠ 0 → ¬ RlAt l i x → ∃ m : Int, AV.int .i64 n = .int .i64 m ∧ (m = 0 ↔ RollsOk l) := fun n hn hc => ⟨n, rfl, ⟨fun h => absurd h hn, fun h => absurd h (RollsOk.no hxi hc)⟩⟩
      have hfin : RlAt l i x → ∀ a w, Sim _ _ _ a w → J a w := fun hc => hJ (i + 1) ⟨by omega, fun j y hj hy => by
        rcases Nat.lt_or_ge j i with h2 | h2
        · exact g2 j y h2 hy
        · have : j = i := by omega
          subst this
          rw [hxi] at hy
          cases hy
          exact hc⟩ (by omega)
      have hany := anyRl_pc 154 [.pin 5 [rlA x] 0 0] rfl (fun y => y.name == x.name) (l.take i) (by rw [List.length_take]; omega) (fun y _ => sameRoll_pc y x)
      rw [List.map_take] at hany
      have hbor := Ct.borrowF (P := Tryz.prog) (f := 153) (args := [.fz 5 (List.take i (l.map rlA)), .fn (.func 154) [.ptr 0 1 0 0]]) 1 [.arr 5 [rlA x]] hany (by rintro r rfl; rfl)
      simp only [rlA] at hbor
      have hk2 : decide ((i : Int) ≤ (l.length : Int)) = true := by simp; omega
      have hrn := rollName_pc x.name hnx
      refine goB (N := 75) Tryz.ntmps92 300 ?_
      simp only [go_sem, di, hget, List.length_map]
      repeat refine And.intro (by first | omega | rfl | (simp; done) | (simp; omega)) ?_
      refine pcall (rateR_pc x.rate) rfl (N := 75) Tryz.ntmps92 rfl ?_
      rintro _ ⟨a, b, c, rfl⟩
      refine goB (N := 75) Tryz.ntmps92 300 ?_
      simp only [go_sem]
      refine pcall1 (hrn) rfl (N := 75) Tryz.ntmps92 rfl (goB (N := 75) Tryz.ntmps92 300 ?_)
      cases e1 : rnR x.name with
      | false =>
        simp only [go_sem]
        exact aret [2] rfl ⟨hret 5 (by decide) (fun h => by rw [h.1.name] at e1; cases e1), rfl⟩
      | true =>
        simp only [go_sem, hk2, List.length_map]
        repeat refine And.intro (by first | omega | rfl | (simp; done) | (simp; omega)) ?_
        refine acall (hbor) (N := 75) Tryz.ntmps92 rfl ?_
        rintro _ _ ⟨rfl, rfl⟩
        refine goB (N := 75) Tryz.ntmps92 300 ?_
        cases e2 : ((l.take i).any fun y => y.name == x.name) with
        | true =>
          simp only [go_sem]
          exact aret [2] rfl ⟨hret 6 (by decide) (fun h => by rw [h.2] at e2; cases e2), rfl⟩
        | false =>
          cases e3 : decide (1 ≤ x.rate ∧ x.rate ≤ 4) with
          | false =>
            simp only [go_sem, e3]
            exact aret [2] rfl ⟨hret 4 (by decide) (fun h => by have := h.1.rate; simp at e3; omega), rfl⟩
          | true =>
            have hr : 1 ≤ x.rate ∧ x.rate ≤ 4 := by simpa using e3
            have hdb : 0 ≤ dayR x.rate ∧ dayR x.rate ≤ 2592000 := by
              obtain h | h | h | h : x.rate = 1 ∨ x.rate = 2 ∨ x.rate = 3 ∨ x.rate = 4 := by omega
              all_goals rw [h]; decide
            simp only [go_sem, e3]
            refine pcall1 (rightFrame_pc x.rate x.start hr) rfl (N := 75) Tryz.ntmps92 rfl (goB (N := 75) Tryz.ntmps92 300 ?_)
            cases e4 : (decide (0 ≤ x.start) && decide (x.start < dayR x.rate)) with
            | false =>
              simp only [go_sem]
              exact aret [2] rfl ⟨hret 1 (by decide) (fun h => by have := h.1.start; simp at e4; omega), rfl⟩
            | true =>
              have hst : 0 ≤ x.start ∧ x.start < dayR x.rate := by simpa using e4
              cases e5 : decide (x.long < 1) with
              | true =>
                simp only [go_sem, e5]
                exact aret [2] rfl ⟨hret 1 (by decide) (fun h => by have := h.1.long; simp at e5; omega), rfl⟩
              | false =>
                cases e6 : decide (x.long > dayR x.rate - x.start) with
                | true =>
                  simp only [go_sem, e5, e6]
                  repeat refine And.intro (by first | omega | rfl | (simp; done) | (simp; omega)) ?_
                  exact aret [2] rfl ⟨hret 1 (by decide) (fun h => by have := h.1.long; simp at e6; omega), rfl⟩
                | false =>
                  cases e7 : decide (x.drift < -1000) with
                  | true =>
                    simp only [go_sem, e5, e6, e7]
                    repeat refine And.intro (by first | omega | rfl | (simp; done) | (simp; omega)) ?_
                    exact aret [2] rfl ⟨hret 1 (by decide) (fun h => by have := h.1.drift; simp at e7; omega), rfl⟩
                  | false =>
                    cases e8 : decide (x.drift > 1000) with
                    | true =>
                      simp only [go_sem, e5, e6, e7, e8]
                      repeat refine And.intro (by first | omega | rfl | (simp; done) | (simp; omega)) ?_
                      exact aret [2] rfl ⟨hret 1 (by decide) (fun h => by have := h.1.drift; simp at e8; omega), rfl⟩
                    | false =>
                      simp only [go_sem, e5, e6, e7, e8]
                      repeat refine And.intro (by first | omega | rfl | (simp; done) | (simp; omega)) ?_
                      rw [show (i : Int) + 1 = ((i + 1 : Nat) : Int) by omega]
                      refine ainv (hfin ⟨⟨e1, hr, hst, by simp at e5 e6; omega, by simp at e7 e8; omega⟩, e2⟩) (Shift.low 0 (by simp) (by simp) ?_ ?_)
                      · simp only [List.take_zero, List.all_nil]
                      · simp only [wkl, lowV, lowC, Av.get, go_sem]
    · have di : decide ((i : Int) < (l.length : Int)) = false := by simp; omega
      refine goB (N := 75) Tryz.ntmps92 300 ?_
      simp only [go_sem, di]
      exact aret [2] rfl ⟨⟨0, rfl, ⟨fun _ => ⟨hl, fun j x hj => g2 j x (by have := (List.getElem?_eq_some_iff.1 hj).1; omega) hj⟩, fun _ => rfl⟩⟩, rfl⟩

def updR (L : List Int) (k u : Int) (x : Rl) : Rl :=
  if u = 0 then ⟨oneF L k [[], [97, 49], [65, 49], [65, 66, 67, 68, 69, 70, 71, 72, 73]], x.rate, x.start, x.long, x.drift⟩
  else if u = 1 then ⟨x.name, pickF L k [0, 5], x.start, x.long, x.drift⟩
  else if u = 2 then ⟨x.name, x.rate, pickF L k [-1, 2592000, 2073599], x.long, x.drift⟩
  else if u = 3 then ⟨x.name, x.rate, x.start, pickF L k [0, -1, 2592000], x.drift⟩
  else ⟨x.name, x.rate, x.start, x.long, pickF L k [1001, -1001]⟩
def rolls0 (L : List Int) (k : Int) : List Rl :=
  [⟨[65, 49], pickF L k [1, 1, 2, 3, 4], pickF L (k + 1) [0, 1000, 86000], 3000, 0⟩, ⟨[65, 50], pickF L k [1, 1, 2, 3, 4], pickF L (k + 1 + 1) [0, 5000], pickF L (k + 1 + 1 + 1) [500, 3000], 0⟩,
   ⟨[83, 49], pickF L (k + 1 + 1 + 1 + 1) [pickF L k [1, 1, 2, 3, 4], pickF L k [1, 1, 2, 3, 4], 1, 4], 0, 100000, pickF L (k + 1 + 1 + 1 + 1 + 1) [0, 1000, -1000, 7]⟩]
def rollsF (L : List Int) (k : Int) : List Rl × Int :=
  if flipF L (k + 6) 10 then
    ((rolls0 L k).set (nx L (k + 7) 3).toNat (updR L (k + 9) (nx L (k + 8) 5) ((rolls0 L k).getD (nx L (k + 7) 3).toNat ⟨[], 0, 0, 0, 0⟩)), k + 10)
  else (rolls0 L k, k + 7)
theorem updR_name (L : List Int) (k u : Int) (x : Rl) (h : x.name ∈ RnL) : (updR L k u x).name ∈ RnL := by
  unfold updR
  split
  · have := oneF_mem (L := L) (k := k) (ls := [[], [97, 49], [65, 49], [65, 66, 67, 68, 69, 70, 71, 72, 73]]) (by decide)
    revert this
    generalize oneF L k [[], [97, 49], [65, 49], [65, 66, 67, 68, 69, 70, 71, 72, 73]] = z
    simp only [RnL, List.mem_cons, List.not_mem_nil, or_false]
    rintro (rfl | rfl | rfl | rfl) <;> simp
  · repeat (first | exact h | split)
theorem rollsF_ok (L : List Int) (k : Int) : (rollsF L k).1.length = 3 ∧ (∀ x ∈ (rollsF L k).1, x.name ∈ RnL) ∧ k ≤ (rollsF L k).2 ∧ (rollsF L k).2 ≤ k + 10 := by
  have h0 : ∀ x ∈ rolls0 L k, x.name ∈ RnL := by
    intro x hx
    simp only [rolls0, List.mem_cons, List.not_mem_nil, or_false] at hx
    rcases hx with rfl | rfl | rfl <;> simp [RnL]
  unfold rollsF
  split
  · have hb := nx_bd L (k + 7) 3 (by decide)
    have hlt : (nx L (k + 7) 3).toNat < (rolls0 L k).length := by simp [rolls0]; omega
    refine ⟨by simp [rolls0], fun x hx => ?_, by simp only; omega, by simp only; omega⟩
    rcases List.mem_or_eq_of_mem_set hx with hx | rfl
    · exact h0 x hx
    · refine updR_name L _ _ _ (h0 _ ?_)
      rw [List.getD_eq_getElem?_getD, List.getElem?_eq_getElem hlt]
      exact List.getElem_mem hlt
  · exact ⟨by simp [rolls0], h0, by simp only; omega, by simp only; omega⟩
theorem rl_frz : ∀ l : List Rl, (flat (l.map rlA)).all Av.frozen = true
  | [] => rfl
  | x :: r => by simpa [flat, cellsOf, rlA, Av.frozen] using rl_frz r
set_option maxHeartbeats 8000000 in
theorem rollsX_mc (L : List Int) (k : Int) (h3 : 0 ≤ k) (h4 : k ≤ 800000) :
    Mc Tryz.prog 149 2 (str L k) [] (fun r s => r = .fz 5 ((rollsF L k).1.map rlA) ∧ s = str L (rollsF L k).2) := by
  obtain ⟨⟨z, kz⟩, hz⟩ : ∃ z, z = rollsF L k := ⟨_, rfl⟩
  rw [← hz]
  unfold rollsF rolls0 at hz
  have p1 := pickX_mc L k [1, 1, 2, 3, 4] (by decide) (by decide) (by omega) (by omega)
  have p2 := pickX_mc L (k + 1) [0, 1000, 86000] (by decide) (by decide) (by omega) (by omega)
  have p3 := pickX_mc L (k + 1 + 1) [0, 5000] (by decide) (by decide) (by omega) (by omega)
  have p4 := pickX_mc L (k + 1 + 1 + 1) [500, 3000] (by decide) (by decide) (by omega) (by omega)
  generalize pickF L k [1, 1, 2, 3, 4] = ra at *
  have p5 := pickX_mc L (k + 1 + 1 + 1 + 1) [ra, ra, 1, 4] (by simp) (by simp) (by omega) (by omega)
  have p6 := pickX_mc L (k + 1 + 1 + 1 + 1 + 1) [0, 1000, -1000, 7] (by decide) (by decide) (by omega) (by omega)
  generalize pickF L (k + 1) [0, 1000, 86000] = s1 at *
  generalize pickF L (k + 1 + 1) [0, 5000] = s2 at *
  generalize pickF L (k + 1 + 1 + 1) [500, 3000] = l2 at *
  generalize pickF L (k + 1 + 1 + 1 + 1) [ra, ra, 1, 4] = r3 at *
  generalize pickF L (k + 1 + 1 + 1 + 1 + 1) [0, 1000, -1000, 7] = d3 at *
  have q6 : k + 1 + 1 + 1 + 1 + 1 + 1 = k + 6 := by omega
  have q7 : k + 6 + 1 = k + 7 := by omega
  have q8 : k + 7 + 1 = k + 8 := by omega
  have q9 : k + 8 + 1 = k + 9 := by omega
  have q10 : k + 9 + 1 = k + 10 := by omega
  rw [q6] at p6
  have hfl := flipX_mc L (k + 6) 10 (by decide) (by decide) (by omega) (by omega)
  have hn3 := nextX_mc L (k + 7) 3 (by decide) (by decide) (by omega) (by omega)
  have hn5 := nextX_mc L (k + 8) 5 (by decide) (by decide) (by omega) (by omega)
  rw [q7] at hfl
  rw [q8] at hn3
  rw [q9] at hn5
  have b3 := nx_bd L (k + 7) 3 (by decide)
  have b5 := nx_bd L (k + 8) 5 (by decide)
  have u0 := oneX_mc L (k + 9) [[], [97, 49], [65, 49], [65, 66, 67, 68, 69, 70, 71, 72, 73]] (by decide) (by decide) (by omega) (by omega)
  have u1 := pickX_mc L (k + 9) [0, 5] (by decide) (by decide) (by omega) (by omega)
  have u2 := pickX_mc L (k + 9) [-1, 2592000, 2073599] (by decide) (by decide) (by omega) (by omega)
  have u3 := pickX_mc L (k + 9) [0, -1, 2592000] (by decide) (by decide) (by omega) (by omega)
  have u4 := pickX_mc L (k + 9) [1001, -1001] (by decide) (by decide) (by omega) (by omega)
  rw [q10] at u0 u1 u2 u3 u4
  unfold updR at hz
  generalize oneF L (k + 9) [[], [97, 49], [65, 49], [65, 66, 67, 68, 69, 70, 71, 72, 73]] = v0 at *
  generalize pickF L (k + 9) [0, 5] = v1 at *
  generalize pickF L (k + 9) [-1, 2592000, 2073599] = v2 at *
  generalize pickF L (k + 9) [0, -1, 2592000] = v3 at *
  generalize pickF L (k + 9) [1001, -1001] = v4 at *
  generalize nx L (k + 7) 3 = j at *
  generalize nx L (k + 8) 5 = u at *
  generalize flipF L (k + 6) 10 = fb at *
  refine ct_intro Tryz.func149 rfl Tryz.ntmps149 hB149 (by simp) fun h ρ w => goF (N := 79) Tryz.ntmps149 300 ?_
  simp only [go_sem]
  refine mcall (p1) rfl rfl (id := 0) rfl (N := 79) Tryz.ntmps149 rfl ?_
  rintro _ _ ⟨rfl, rfl⟩
  refine goF (N := 79) Tryz.ntmps149 300 ?_
  simp only [go_sem]
  refine mcall (p2) rfl rfl (id := 0) rfl (N := 79) Tryz.ntmps149 rfl ?_
  rintro _ _ ⟨rfl, rfl⟩
  refine goF (N := 79) Tryz.ntmps149 300 ?_
  simp only [go_sem]
  refine mcall (p3) rfl rfl (id := 0) rfl (N := 79) Tryz.ntmps149 rfl ?_
  rintro _ _ ⟨rfl, rfl⟩
  refine goF (N := 79) Tryz.ntmps149 300 ?_
  simp only [go_sem]
  refine mcall (p4) rfl rfl (id := 0) rfl (N := 79) Tryz.ntmps149 rfl ?_
  rintro _ _ ⟨rfl, rfl⟩
  refine goF (N := 79) Tryz.ntmps149 300 ?_
  simp only [go_sem]
  refine mcall (p5) rfl rfl (id := 0) rfl (N := 79) Tryz.ntmps149 rfl ?_
  rintro _ _ ⟨rfl, rfl⟩
  refine goF (N := 79) Tryz.ntmps149 300 ?_
  simp only [go_sem]
  refine mcall (p6) rfl rfl (id := 0) rfl (N := 79) Tryz.ntmps149 rfl ?_
  rintro _ _ ⟨rfl, rfl⟩
  refine go (N := 79) Tryz.ntmps149 300 ?_
  simp only [go_sem]
  refine mcall (hfl) rfl rfl (id := 0) rfl (N := 79) Tryz.ntmps149 rfl ?_
  rintro _ _ ⟨rfl, rfl⟩
  cases fb with
  | false =>
    simp only [Bool.false_eq_true, if_false, Prod.mk.injEq] at hz
    obtain ⟨rfl, rfl⟩ := hz
    refine go (N := 79) Tryz.ntmps149 300 ?_
    simp only [go_sem]
    refine ARet.shift (Shift.freeze 2 (id := 1) rfl rfl (by simp) (Nat.le_refl _) (rl_frz [⟨[65, 49], ra, s1, 3000, 0⟩, ⟨[65, 50], ra, s2, l2, 0⟩, ⟨[83, 49], r3, 0, 100000, d3⟩])) (aret [2] rfl ⟨_, _, rfl, ?_, rfl, rfl, rfl⟩)
    simp [resV, Av.get, Av.put, rlA]
  | true =>
    simp only [if_true, Prod.mk.injEq] at hz
    have hj : j = 0 ∨ j = 1 ∨ j = 2 := by omega
    have hu : u = 0 ∨ u = 1 ∨ u = 2 ∨ u = 3 ∨ u = 4 := by omega
    obtain ⟨hz, rfl⟩ := hz
    have hfz := rl_frz z
    rcases hj with rfl | rfl | rfl <;> rcases hu with rfl | rfl | rfl | rfl | rfl <;>
    · simp [List.getD] at hz
      refine go (N := 79) Tryz.ntmps149 300 ?_
      simp only [go_sem]
      refine mcall (hn3) rfl rfl (id := 0) rfl (N := 79) Tryz.ntmps149 rfl ?_
      rintro _ _ ⟨rfl, rfl⟩
      refine go (N := 79) Tryz.ntmps149 300 ?_
      simp only [go_sem]
      repeat refine And.intro (by first | omega | rfl | (simp; done) | (simp; omega)) ?_
      refine mcall (hn5) rfl rfl (id := 0) rfl (N := 79) Tryz.ntmps149 rfl ?_
      rintro _ _ ⟨rfl, rfl⟩
      refine goF (N := 79) Tryz.ntmps149 300 ?_
      simp only [go_sem]
      first
        | (refine mcall u0 rfl rfl (id := 0) rfl (N := 79) Tryz.ntmps149 rfl ?_)
        | (refine mcall u1 rfl rfl (id := 0) rfl (N := 79) Tryz.ntmps149 rfl ?_)
        | (refine mcall u2 rfl rfl (id := 0) rfl (N := 79) Tryz.ntmps149 rfl ?_)
        | (refine mcall u3 rfl rfl (id := 0) rfl (N := 79) Tryz.ntmps149 rfl ?_)
        | (refine mcall u4 rfl rfl (id := 0) rfl (N := 79) Tryz.ntmps149 rfl ?_)
      rintro _ _ ⟨rfl, rfl⟩
      refine go (N := 79) Tryz.ntmps149 300 ?_
      simp only [go_sem]
      repeat refine And.intro (by first | omega | rfl | (simp; done) | (simp; omega)) ?_
      subst hz
      refine ARet.shift (Shift.freeze 2 (id := 1) rfl rfl (by simp) (Nat.le_refl _) hfz) (aret [2] rfl ⟨_, _, rfl, ?_, rfl, rfl, rfl⟩)
      simp [resV, Av.get, Av.put, rlA]
def rollsD : List Rl := [⟨[65, 49], 1, 0, 3000, 0⟩, ⟨[65, 50], 1, 0, 3000, 0⟩, ⟨[83, 49], 4, 0, 100000, 0⟩]
open Classical in
noncomputable def rightF (L : List Int) (k : Int) : List Rl := if RollsOk (rollsF L k).1 then (rollsF L k).1 else rollsD
theorem rollsD_ok : RollsOk rollsD := by
  refine ⟨by decide, fun i x hx => ?_⟩
  have hn : rnR [65, 49] = true ∧ rnR [65, 50] = true ∧ rnR [83, 49] = true := by decide
  have : i = 0 ∨ i = 1 ∨ i = 2 := by
    have := (List.getElem?_eq_some_iff.1 hx).1
    simp [rollsD] at this
    omega
  rcases this with rfl | rfl | rfl <;> (simp [rollsD] at hx; subst hx)
  · exact ⟨⟨hn.1, by decide, by decide, by decide, by decide⟩, by decide⟩
  · exact ⟨⟨hn.2.1, by decide, by decide, by decide, by decide⟩, by decide⟩
  · exact ⟨⟨hn.2.2, by decide, by decide, by decide, by decide⟩, by decide⟩
theorem rightF_ok (L : List Int) (k : Int) : RollsOk (rightF L k) ∧ (rightF L k).length = 3 ∧ ∀ x ∈ rightF L k, x.name ∈ RnL := by
  obtain ⟨a, b, _, _⟩ := rollsF_ok L k
  unfold rightF
  split
  · rename_i h
    exact ⟨h, a, b⟩
  · exact ⟨rollsD_ok, rfl, by decide⟩
theorem rightX_mc (L : List Int) (k : Int) (h3 : 0 ≤ k) (h4 : k ≤ 800000) :
    Mc Tryz.prog 88 2 (str L k) [] (fun r s => r = .fz 5 ((rightF L k).map rlA) ∧ s = str L (rollsF L k).2) := by
  have hm := rollsX_mc L k h3 h4
  obtain ⟨a, b, _, _⟩ := rollsF_ok L k
  unfold rightF
  generalize rollsF L k = z at *
  obtain ⟨l, k'⟩ := z
  simp only at hm a b ⊢
  have hf := rollsR_pc l (by omega) (fun x hx => rnL_bd _ (b x hx))
  refine ct_intro Tryz.func88 rfl Tryz.ntmps88 hB88 (by simp) fun h ρ w => goF (N := 14) Tryz.ntmps88 300 ?_
  simp only [go_sem]
  refine mcall (hm) rfl rfl (id := 0) rfl (N := 14) Tryz.ntmps88 rfl ?_
  rintro _ _ ⟨rfl, rfl⟩
  refine goF (N := 14) Tryz.ntmps88 300 ?_
  simp only [go_sem]
  refine pcall (hf) rfl (N := 14) Tryz.ntmps88 rfl ?_
  rintro _ ⟨n, rfl, hn⟩
  refine goF (N := 14) Tryz.ntmps88 300 ?_
  cases e1 : n != 0 with
  | true =>
    have h : ¬ RollsOk l := fun h => by have := hn.2 h; simp [this] at e1
    rw [if_neg h]
    simp only [go_sem, e1]
    exact aret [2] rfl ⟨_, _, rfl, rfl, rfl, rfl, rfl⟩
  | false =>
    have h : RollsOk l := hn.1 (by simpa using e1)
    rw [if_pos h]
    simp only [go_sem, e1]
    exact aret [2] rfl ⟨_, _, rfl, rfl, rfl, rfl, rfl⟩
theorem rightRX_mc (L : List Int) (k : Int) (h3 : 0 ≤ k) (h4 : k ≤ 800000) :
    Mc Tryz.prog 34 2 (str L k) [] (fun r s => r = .fz 5 ((rightF L k).map rlA) ∧ s = str L (rollsF L k).2) := by
  refine ct_intro Tryz.func34 rfl Tryz.ntmps34 hB34 (by simp) fun h ρ w => goF (N := 5) Tryz.ntmps34 300 ?_
  simp only [go_sem]
  refine mcall (rightX_mc L k h3 h4) rfl rfl (id := 0) rfl (N := 5) Tryz.ntmps34 rfl ?_
  rintro _ _ ⟨rfl, rfl⟩
  refine goF (N := 5) Tryz.ntmps34 300 ?_
  simp only [go_sem]
  exact aret [2] rfl ⟨_, _, rfl, rfl, rfl, rfl, rfl⟩

theorem isRate_pc (r : Int) (h : 1 ≤ r ∧ r ≤ 4) : Pc Tryz.prog 103 [.int .i64 r] (· = .bool true) := by
  have e1 : decide (r ≥ 1) = true := by simpa using h.1
  have e2 : decide (r ≤ 4) = true := by simpa using h.2
  refine pc_intro (ct_intro Tryz.func103 rfl Tryz.ntmps103 hB103 (by simp) fun h ρ w => goB (N := 9) Tryz.ntmps103 300 ?_)
  simp only [go_sem, e1, e2]
  exact aret [2] rfl ⟨rfl, rfl⟩
def cntR (r : Int) : Int := if r = 1 then 24 else if r = 2 then 25 else 30
theorem counted_pc (r : Int) (h : 1 ≤ r ∧ r ≤ 4) : Pc Tryz.prog 115 [.int .i64 r] (· = .int .i64 (cntR r)) := by
  refine pc_intro (ct_intro Tryz.func115 rfl Tryz.ntmps115 hB115 (by simp) fun h ρ w => goB (N := 6) Tryz.ntmps115 300 ?_)
  obtain rfl | rfl | rfl | rfl : r = 1 ∨ r = 2 ∨ r = 3 ∨ r = 4 := by omega
  all_goals
    simp only [go_sem]
    exact aret [2] rfl ⟨rfl, rfl⟩
theorem frames_pc (r : Int) (h : 1 ≤ r ∧ r ≤ 4) : Pc Tryz.prog 104 [.int .i64 r] (· = .int .i64 (dayR r)) := by
  refine pc_intro (ct_intro Tryz.func104 rfl Tryz.ntmps104 hB104 (by simp) fun h ρ w => goB (N := 8) Tryz.ntmps104 300 ?_)
  obtain rfl | rfl | rfl | rfl : r = 1 ∨ r = 2 ∨ r = 3 ∨ r = 4 := by omega
  case inr.inr.inr =>
    simp only [go_sem]
    exact aret [2] rfl ⟨rfl, rfl⟩
  all_goals
    simp only [go_sem]
    refine pcall1 (counted_pc _ (by decide)) rfl (N := 8) Tryz.ntmps104 rfl (goB (N := 8) Tryz.ntmps104 300 ?_)
    simp only [go_sem, cntR]
    exact aret [2] rfl ⟨rfl, rfl⟩
def rollC (c : UInt8) : Bool := (decide (65 ≤ c.toNat) && decide (c.toNat ≤ 90)) || (decide (48 ≤ c.toNat) && decide (c.toNat ≤ 57))
theorem rnL_roll : ∀ s ∈ RnL, rnR s = true → s.all rollC = true ∧ 1 ≤ s.length ∧ s.length ≤ 8 := by decide +kernel
theorem isRoll_pc (s : List UInt8) (hal : s.all rollC = true) (h1 : 1 ≤ s.length) (h2 : s.length ≤ 8) : Pc Tryz.prog 109 [.str s] (· = .bool true) := by
  have e1 : decide ((s.length : Int) ≥ 1) = true := by simp; omega
  have e2 : decide ((s.length : Int) ≤ 8) = true := by simp; omega
  refine pc_intro (ct_intro Tryz.func109 rfl Tryz.ntmps109 hB109 (by simp) fun h ρ w => goB (N := 40) Tryz.ntmps109 300 ?_)
  simp only [go_sem]
  refine aloop (ι := Nat) (fun i => s.length - i) (fun i => [(6, .int .i64 i), (5, .int .i64 s.length), (0, .str s)]) (fun _ => []) (fun i => i ≤ s.length) 0 (by omega) ?_ ?_
  · refine Shift.weakS ?_ rfl
    simp only [wk, go_sem]
  · intro i g1 J hJ
    by_cases gi : i < s.length
    · have di : decide ((i : Int) < (s.length : Int)) = true := by simp; omega
      have hx : s.getD i 0 = s[i] := by simp [List.getD, gi]
      have hc := List.all_eq_true.1 hal s[i] (List.getElem_mem gi)
      simp only [rollC, Bool.or_eq_true, Bool.and_eq_true, decide_eq_true_eq] at hc
      have hgo := hJ (i + 1) (by omega) (by omega)
      refine goB (N := 40) Tryz.ntmps109 300 ?_
      rcases hc with hc | hc
      · have q1 : decide ((s[i].toNat : Int) < 65) = false := by simp; omega
        have q2 : decide ((s[i].toNat : Int) > 90) = false := by simp; omega
        simp only [go_sem, di, hx, q1, q2]
        repeat refine And.intro (by first | omega | rfl | (simp; done) | (simp; omega)) ?_
        rw [show (i : Int) + 1 = ((i + 1 : Nat) : Int) by omega]
        refine ainv hgo (Shift.weakS ?_ rfl)
        simp only [wk, go_sem]
      · have q1 : decide ((s[i].toNat : Int) < 65) = true := by simp; omega
        have q2 : decide ((s[i].toNat : Int) < 48) = false := by simp; omega
        have q3 : decide ((s[i].toNat : Int) > 57) = false := by simp; omega
        simp only [go_sem, di, hx, q1, q2, q3]
        repeat refine And.intro (by first | omega | rfl | (simp; done) | (simp; omega)) ?_
        rw [show (i : Int) + 1 = ((i + 1 : Nat) : Int) by omega]
        refine ainv hgo (Shift.weakS ?_ rfl)
        simp only [wk, go_sem]
    · have di : decide ((i : Int) < (s.length : Int)) = false := by simp; omega
      refine goB (N := 40) Tryz.ntmps109 300 ?_
      simp only [go_sem, di, e1, e2]
      exact aret [2] rfl ⟨rfl, rfl⟩
theorem RollsOk.ne {l : List Rl} (h : RollsOk l) {i j : Nat} {x y : Rl} (hi : l[i]? = some x) (hj : l[j]? = some y) (hij : i < j) : x.name ≠ y.name := by
  have := (h.at' j y hj).2
  rw [List.any_eq_false] at this
  have h2 := this x (List.mem_iff_getElem?.2 ⟨i, by rw [List.getElem?_take, if_pos hij]; exact hi⟩)
  simpa using h2
set_option maxHeartbeats 4000000 in
theorem checkRolls_pc (l : List Rl) (hok : RollsOk l) (hn : ∀ x ∈ l, x.name ∈ RnL) : Pc Tryz.prog 57 [.fz 5 (l.map rlA)] (· = .int .i64 0) := by
  have hlen := hok.len
  have d1 : decide ((l.length : Int) > 200) = false := by simp; omega
  refine pc_intro (ct_intro Tryz.func57 rfl Tryz.ntmps57 hB57 (by simp) fun h ρ w => goB (N := 73) Tryz.ntmps57 300 ?_)
  simp only [go_sem, d1, List.length_map]
  refine aloop (ι := Nat × List (List UInt8)) (fun y => l.length - y.1)
    (fun y => [(12, .int .i64 y.1), (11, .int .i64 l.length), (10, .fz 5 (l.map rlA)), (3, .mp 0)])
    (fun y => [.mp (seenM y.2)]) (fun y => y.1 ≤ l.length ∧ y.2 = (l.take y.1).map (·.name)) (0, []) ⟨by simp, by simp⟩ ?_ ?_
  · refine Shift.weakS ?_ rfl
    simp only [wk, go_sem, List.length_map]
  · rintro ⟨i, acc⟩ ⟨g1, g2⟩ J hJ
    simp only at g1 g2 hJ ⊢
    by_cases gi : i < l.length
    · have di : decide ((i : Int) < (l.length : Int)) = true := by simp; omega
      have hxi : l[i]? = some l[i] := List.getElem?_eq_getElem gi
      obtain ⟨hx, _⟩ := hok.at' i _ hxi
      have hm := hn _ (List.getElem_mem gi)
      obtain ⟨r1, r2, r3⟩ := rnL_roll _ hm hx.name
      have hnew : l[i].name ∉ acc := by
        rw [g2]
        intro hmem
        obtain ⟨y, hy, e⟩ := List.mem_map.1 hmem
        obtain ⟨j, hj, rfl⟩ := List.getElem_of_mem hy
        rw [List.length_take] at hj
        rw [List.getElem_take] at e
        exact hok.ne (List.getElem?_eq_getElem (by omega)) hxi (by omega) e
      have m1 := @mfind_out l[i].name acc 0 hnew
      have m2 : seenM acc ++ [(.str l[i].name, .bool true)] = seenM (acc ++ [l[i].name]) := by simp [seenM]
      have hfin := hJ (i + 1, acc ++ [l[i].name]) ⟨by simp only; omega, by simp only; rw [g2, List.take_add_one, List.map_append, hxi]; rfl⟩ (by simp only; omega)
      have hget := rlA_get l i gi
      have hs := hx.start
      have hg := hx.long
      have hd := hx.drift
      have hr := hx.rate
      generalize l[i] = x at *
      have hdb : 0 ≤ dayR x.rate ∧ dayR x.rate ≤ 2592000 := by
        obtain h | h | h | h : x.rate = 1 ∨ x.rate = 2 ∨ x.rate = 3 ∨ x.rate = 4 := by omega
        all_goals rw [h]; decide
      have e1 : decide (x.start < 0) = false := by simp; omega
      have e2 : decide (x.start ≥ dayR x.rate) = false := by simp; omega
      have e3 : decide (x.long < 1) = false := by simp; omega
      have e4 : decide (x.long > dayR x.rate - x.start) = false := by simp; omega
      have e5 : decide (x.drift < -1000) = false := by simp; omega
      have e6 : decide (x.drift > 1000) = false := by simp; omega
      refine goB (N := 73) Tryz.ntmps57 300 ?_
      simp only [go_sem, di, hget, List.length_map]
      repeat refine And.intro (by first | omega | rfl | (simp; done) | (simp; omega)) ?_
      refine pcall1 (isRoll_pc x.name r1 r2 r3) rfl (N := 73) Tryz.ntmps57 rfl (goB (N := 73) Tryz.ntmps57 300 ?_)
      simp only [go_sem, m1]
      repeat refine And.intro (by first | omega | rfl | kernel_rfl | (simp; done) | (simp; omega)) ?_
      refine pcall1 (isRate_pc x.rate hr) rfl (N := 73) Tryz.ntmps57 rfl (goB (N := 73) Tryz.ntmps57 300 ?_)
      simp only [go_sem]
      refine adraw [.int .i64 (dayR x.rate), .int .i64 (dayR x.rate)] mixed (by decide) (N := 73) Tryz.ntmps57 (by decide) 100 ?_
      simp only [go_sem, e1, e2, e3, e4, e5, e6]
      repeat refine And.intro (by first | omega | rfl | exact (frames_pc x.rate hr).at | (simp; done) | (simp; omega)) ?_
      refine goB (N := 73) Tryz.ntmps57 300 ?_
      simp only [go_sem, m1, m2]
      repeat refine And.intro (by first | omega | rfl | kernel_rfl | (simp; done) | (simp; omega)) ?_
      rw [show (i : Int) + 1 = ((i + 1 : Nat) : Int) by omega]
      refine ainv hfin (Shift.low 1 (by simp) (by simp) ?_ ?_)
      · simp only [List.take_succ_cons, List.take_zero, List.all_cons, List.all_nil, ↓low_seen, Bool.and_self]
      · simp only [wkl, lowV, lowC, Av.get, go_sem]
    · have di : decide ((i : Int) < (l.length : Int)) = false := by simp; omega
      refine goB (N := 73) Tryz.ntmps57 300 ?_
      simp only [go_sem, di]
      exact aret [2] rfl ⟨rfl, rfl⟩
end Go.Proofs.YtkfpiadgjbhcpaaGreatDoor
