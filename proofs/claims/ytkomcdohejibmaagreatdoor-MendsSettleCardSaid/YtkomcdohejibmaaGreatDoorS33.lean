/- slices.Concat at deeds. Own work of this seat. -/
import Derived.Test.YtkomcdohejibmaaGreatDoorS32
import Derived.Test.YtkomcdohejibmaaGreatDoorS29
import Derived.Test.YtkomcdohejibmaaGreatDoorS23
set_option maxRecDepth 100000
set_option linter.unusedSimpArgs false
set_option linter.unusedVariables false
namespace Go.Proofs.YtkomcdohejibmaaGreatDoor
open Go Go.Av Go.RowKit

theorem grow_ct (n : Nat) (hn : 0 < n) (hl : n < 1000000) (r : List Blk) :
    Ct Tryz.prog 98 [.raw (.slice none 0 0), .int .i64 n] r (fun v s => v = .sl r.length 0 0 n ∧ s = r ++ [.arr 7 (List.replicate n (optA none))]) := by
  have d1 : decide ((n : Int) < 0) = false := by simp
  have d2 : decide ((n : Int) > 0) = true := by simp; omega
  refine ct_intro Tryz.func98 rfl Tryz.ntmps98 hB98 (by simp) fun h ρ w => goB (N := 27) Tryz.ntmps98 300 ?_
  simp only [go_sem, d1, d2, Int.sub_zero, getD_end, set_end, List.length_replicate]
  repeat refine And.intro (by first | omega | rfl | (simp; omega) | (simp; done)) ?_
  exact aret [4] rfl ⟨by simp [resV, Av.get, Av.put], rfl⟩
theorem grow0_ct (r : List Blk) :
    Ct Tryz.prog 98 [.raw (.slice none 0 0), .int .i64 0] r (fun v s => v = .raw (.slice none 0 0) ∧ s = r) := by
  refine ct_intro Tryz.func98 rfl Tryz.ntmps98 hB98 (by simp) fun h ρ w => goB (N := 27) Tryz.ntmps98 300 ?_
  simp only [go_sem]
  repeat refine And.intro (by first | omega | rfl | (simp; omega)) ?_
  exact aret [4] rfl ⟨rfl, rfl⟩

theorem splice_a {n : Nat} {z : AV} {x y : List AV} (h : x.length + y.length = n) : splice' (splice' (List.replicate n z) 0 x) x.length y = x ++ y := by
  subst h
  simp [splice']

set_option maxHeartbeats 4000000 in
theorem concat_ct (a b : List De) (ha : a.length < 100000) (hb : b.length < 100000) (r : List Blk) :
    Ct Tryz.prog 43 [.fz 1 [.fz 7 (a.map deA), .fz 7 (b.map deA)]] r (fun v s => v = .sl r.length 0 (a ++ b).length (a ++ b).length ∧ s = r ++ [.arr 7 ((a ++ b).map deA)]) := by
  have t1 : decide ((0 : Int) + (a.length : Int) < 0) = false := decide_eq_false (by omega)
  have t2 : decide ((0 : Int) + (a.length : Int) + (b.length : Int) < 0) = false := decide_eq_false (by omega)
  have e0 : (0 : Int) + (a.length : Int) + (b.length : Int) = ((a.length + b.length : Nat) : Int) := by omega
  by_cases hn : 0 < a.length + b.length
  · have hg := grow_ct (a.length + b.length) hn (by omega) r
    refine ct_intro Tryz.func43 rfl Tryz.ntmps43 hB43 (by simp) fun h ρ w => goB (N := 36) Tryz.ntmps43 300 ?_
    simp only [go_sem]
    refine aenter (around ?_)
    refine goB (N := 36) Tryz.ntmps43 300 ?_
    simp only [go_sem, List.length_map, t1]
    repeat refine And.intro (by first | omega | rfl | (simp; omega)) ?_
    refine aagain (around ?_)
    refine goB (N := 36) Tryz.ntmps43 300 ?_
    simp only [go_sem, List.length_map, t2]
    repeat refine And.intro (by omega) ?_
    refine aagain (around ?_)
    refine goB (N := 36) Tryz.ntmps43 300 ?_
    simp only [go_sem, e0]
    refine acall (hg) (N := 36) Tryz.ntmps43 rfl ?_
    rintro _ _ ⟨rfl, rfl⟩
    refine goB (N := 36) Tryz.ntmps43 300 ?_
    simp only [go_sem]
    refine aenter (around ?_)
    have q1 : (0 == a.length + b.length) = false := by simp; omega
    have s1 := splice_a (n := a.length + b.length) (z := optA none) (x := a.map deA) (y := b.map deA) (by simp)
    have hz : optA none = .agg [.str [], .int .i64 0, .raw (.slice none 0 0), .int .i64 0, .str [], .str [], .str []] := rfl
    have l1 : (splice' (List.replicate (a.length + b.length) (optA none)) 0 (a.map deA)).length = a.length + b.length := by simp [splice'] <;> omega
    by_cases hb0 : b = []
    · subst hb0
      have l2 : splice' (List.replicate a.length (optA none)) 0 (a.map deA) = a.map deA := by simp [splice']
      simp only [List.length_nil, Nat.add_zero] at q1 l1 ⊢
      refine goB (N := 36) Tryz.ntmps43 300 ?_
      simp only [go_sem, q1, getD_end, set_end, List.length_map, List.length_replicate, l2, take_map]
      repeat refine And.intro (by first | omega | rfl | exact .inl rfl | exact .inl trivial | (simp; done) | (simp; omega)) ?_
      refine aagain (around ?_)
      refine goB (N := 36) Tryz.ntmps43 300 ?_
      simp only [go_sem, getD_end, set_end, List.length_map, List.length_replicate, l2]
      repeat refine And.intro (by first | omega | rfl | exact .inl rfl | exact .inl trivial | (simp; done) | (simp; omega)) ?_
      refine aagain (around ?_)
      refine goB (N := 36) Tryz.ntmps43 300 ?_
      simp only [go_sem]
      exact aret [2] rfl ⟨by simp [resV, Av.get, Av.put], by simp⟩
    · have hb1 : 0 < b.length := List.length_pos_iff.2 hb0
      have q2 : (0 + a.length == a.length + b.length) = false := by simp; omega
      have q3 : (a.length == a.length + b.length) = false := by simp; omega
      refine goB (N := 36) Tryz.ntmps43 300 ?_
      simp only [go_sem, q1, q2, q3, getD_end, set_end, List.length_map, List.length_replicate, l1]
      repeat refine And.intro (by first | omega | rfl | exact .inl rfl | exact .inl trivial | (simp; done) | (simp; omega)) ?_
      refine aagain (around ?_)
      refine goB (N := 36) Tryz.ntmps43 300 ?_
      simp only [go_sem, q1, q2, q3, getD_end, set_end, List.length_map, List.length_replicate, l1]
      repeat refine And.intro (by first | omega | rfl | exact .inl rfl | exact .inl trivial | (simp; done) | (simp; omega)) ?_
      refine aagain (around ?_)
      refine goB (N := 36) Tryz.ntmps43 300 ?_
      simp only [go_sem]
      refine aret [2] rfl ⟨by simp [resV, Av.get, Av.put], ?_⟩
      have : List.drop (a.length + b.length) (a.map deA ++ List.drop a.length (List.replicate (a.length + b.length) (optA none))) = [] := List.drop_eq_nil_of_le (by simp)
      rw [this, List.append_nil, List.take_left' (by simp), ← List.map_append]
  · obtain rfl : a = [] := List.eq_nil_of_length_eq_zero (by omega)
    obtain rfl : b = [] := List.eq_nil_of_length_eq_zero (by omega)
    have hg := grow0_ct r
    refine ct_intro Tryz.func43 rfl Tryz.ntmps43 hB43 (by simp) fun h ρ w => goB (N := 36) Tryz.ntmps43 300 ?_
    simp only [go_sem]
    refine aenter (around ?_)
    refine goB (N := 36) Tryz.ntmps43 300 ?_
    simp only [go_sem, List.map_nil, List.length_nil]
    repeat refine And.intro (by first | omega | rfl | (simp; omega)) ?_
    refine aagain (around ?_)
    refine goB (N := 36) Tryz.ntmps43 300 ?_
    simp only [go_sem, List.map_nil, List.length_nil]
    repeat refine And.intro (by first | omega | rfl | (simp; omega)) ?_
    refine aagain (around ?_)
    refine goB (N := 36) Tryz.ntmps43 300 ?_
    simp only [go_sem]
    refine acall (hg) (N := 36) Tryz.ntmps43 rfl ?_
    rintro _ _ ⟨rfl, rfl⟩
    refine goB (N := 36) Tryz.ntmps43 300 ?_
    simp only [go_sem]
    refine aenter (around ?_)
    refine goB (N := 36) Tryz.ntmps43 300 ?_
    simp only [go_sem, List.map_nil, List.length_nil, getD_end, set_end]
    repeat refine And.intro (by first | omega | rfl | exact .inl rfl | exact .inl trivial | (simp; done) | (simp; omega)) ?_
    refine aagain (around ?_)
    refine goB (N := 36) Tryz.ntmps43 300 ?_
    simp only [go_sem, List.map_nil, List.length_nil, getD_end, set_end]
    repeat refine And.intro (by first | omega | rfl | exact .inl rfl | exact .inl trivial | (simp; done) | (simp; omega)) ?_
    refine aagain (around ?_)
    refine goB (N := 36) Tryz.ntmps43 300 ?_
    simp only [go_sem]
    exact aret [2] rfl ⟨by simp [resV, Av.get, Av.put], by simp⟩
end Go.Proofs.YtkomcdohejibmaaGreatDoor
/- The reference's JoinOf. Own work of this seat. -/
set_option maxRecDepth 100000
set_option linter.unusedSimpArgs false
set_option linter.unusedVariables false
namespace Go.Proofs.YtkomcdohejibmaaGreatDoor
open Go Go.Av Go.RowKit

/-- what a union is told to be -/
def JoinR (a b : List De) (r : AV) : Prop := ∃ (l : List De) (n : Int), r = .tup [.fz 7 (l.map deA), .int .i64 n] ∧ (n ≠ 0 → l = []) ∧ (n = 0 → CkOk l ∧ ∀ d, d ∈ l ↔ d ∈ a ∨ d ∈ b)
theorem mem_step {l : List De} {i : Nat} (h : i < l.length) (d : De) : d ∈ l.take (i + 1) ↔ d ∈ l.take i ∨ d = l[i] := by
  rw [List.take_succ_eq_append_getElem h, List.mem_append, List.mem_singleton]
set_option maxHeartbeats 8000000 in
theorem joinOf_pch {S : Std} (hS : LibD S) (a b : List De) (ha : SzL a) (hb : SzL b) (hla : a.length < 100000) : PcH Tryz.prog S 29 [.fz 7 (a.map deA), .fz 7 (b.map deA)] (JoinR a b) := by
  have hfa := fault_pch hS a ha
  refine pch_intro (cth_intro Tryz.func29 rfl Tryz.ntmps29 hB29 (by simp) fun h ρ w hg => goB (N := 66) Tryz.ntmps29 300 ?_)
  simp only [go_sem]
  refine pcallH hg (hfa) rfl (N := 66) Tryz.ntmps29 rfl ?_
  rintro _ ⟨n, rfl, hn⟩
  cases e0 : n != 0 with
  | true =>
    have e0' : n ≠ 0 := by simpa using e0
    refine goB (N := 66) Tryz.ntmps29 300 ?_
    simp only [go_sem, e0]
    exact ARet.shift (Shift.nilfz 4 7 rfl) (aret [4, 5] rfl ⟨⟨[], n, rfl, fun _ => rfl, fun h => absurd h e0'⟩, rfl⟩)
  | false =>
    by_cases hbig : b.length > 500
    · have d1 : decide ((b.length : Int) > 500) = true := by simp; omega
      refine goB (N := 66) Tryz.ntmps29 300 ?_
      simp only [go_sem, e0, d1, List.length_map]
      exact ARet.shift (Shift.nilfz 4 7 rfl) (aret [4, 5] rfl ⟨⟨[], 2, rfl, fun _ => rfl, fun h => absurd h (by decide)⟩, rfl⟩)
    have d1 : decide ((b.length : Int) > 500) = false := by simp; omega
    have hcc := concat_ct a b hla (by omega) []
    refine goB (N := 66) Tryz.ntmps29 300 ?_
    simp only [go_sem, e0, d1, List.length_map]
    refine acall (hcc) (N := 66) Tryz.ntmps29 rfl ?_
    rintro _ _ ⟨rfl, rfl⟩
    have hss := sortStable_ct (a ++ b) (by simp; omega)
    have hab : (a ++ b).length < 1000000 := by simp; omega
    have hin : ∀ d, d ∈ a ++ b ↔ d ∈ a ∨ d ∈ b := fun d => List.mem_append
    have hlen : (a ++ b).length = a.length + b.length := List.length_append
    have hszab : ∀ d ∈ a ++ b, SzD d := fun d hd => ((hin d).1 hd).elim (ha.all d) (hb.all d)
    refine goB (N := 66) Tryz.ntmps29 300 ?_
    simp only [go_sem]
    rw [hlen] at hss
    refine acall (hss) (N := 66) Tryz.ntmps29 rfl ?_
    rintro _ _ ⟨rfl, q, rfl, hq⟩
    have hql := hq.length_eq
    rw [hlen] at hql
    refine goB (N := 66) Tryz.ntmps29 300 ?_
    simp only [go_sem, List.length_map]
    refine And.intro (by omega) ?_
    refine aloop (ι := Nat × List De) (fun y => q.length - y.1) (fun y => [(29, .int .i64 y.1), (28, .int .i64 q.length), (27, .sl 0 0 q.length q.length), (8, .sl 1 0 y.2.length y.2.length)]) (fun y => [.arr 7 (q.map deA), .arr 7 (y.2.map deA)])
      (fun y => y.1 ≤ q.length ∧ y.2.length ≤ y.1 ∧ ∀ d, d ∈ y.2 ↔ d ∈ q.take y.1) (0, []) ⟨by simp, by simp, by simp⟩ ?_ ?_
    · refine Shift.trans (Shift.nilsl 8 7 rfl) (Shift.weakS ?_ rfl)
      simp only [wk, go_sem, hql]
    rintro ⟨i, o⟩ ⟨g1, g2, g3⟩ J hJ
    simp only at g1 g2 g3 hJ ⊢
    by_cases gi : i < q.length
    · have di : decide ((i : Int) < (q.length : Int)) = true := by simp; omega
      have hst := mem_step gi
      have p1 := deA_get q i gi
      have hszi : SzD q[i] := hszab _ (hq.subset (List.getElem_mem gi))
      have hszo : ∀ d ∈ o, SzD d := fun d hd => hszab _ (hq.subset (List.take_subset _ _ ((g3 d).1 hd)))
      have happ := hJ (i + 1, o ++ [q[i]]) ⟨by simp only; omega, by simp; omega, fun d => by rw [hst, List.mem_append, List.mem_singleton, g3]⟩ (by simp only; omega)
      simp only [List.length_append, List.length_cons, List.length_nil, List.map_append, List.map_cons, List.map_nil, Nat.zero_add, show deA q[i] = .agg [.str q[i].st.dept, .int .i64 q[i].st.no, .fz 2 (q[i].seen.map stA), .int .i64 q[i].kind, .str q[i].paper, .str q[i].text, .str q[i].person] from rfl] at happ
      have hlow : ([Blk.arr 7 (q.map deA), Blk.arr 7 (o.map deA ++ [.agg [.str q[i].st.dept, .int .i64 q[i].st.no, .fz 2 (q[i].seen.map stA), .int .i64 q[i].kind, .str q[i].paper, .str q[i].text, .str q[i].person]])]).all (lowB 2) = true := by
        have h1 := low_des 2 (o ++ [q[i]])
        simp only [List.map_append, List.map_cons, List.map_nil, show deA q[i] = .agg [.str q[i].st.dept, .int .i64 q[i].st.no, .fz 2 (q[i].seen.map stA), .int .i64 q[i].kind, .str q[i].paper, .str q[i].text, .str q[i].person] from rfl] at h1
        simp only [List.all_cons, List.all_nil, low_des, h1, Bool.and_self]
      by_cases ho : o.length = 0
      · have dk : decide ((o.length : Int) - 1 ≥ 0) = false := by simp; omega
        refine goB (N := 66) Tryz.ntmps29 300 ?_
        simp only [go_sem, di, p1, List.length_map]
        repeat refine And.intro (by first | omega | rfl | exact .inl rfl | exact .inl trivial | (simp; done) | (simp; omega)) ?_
        refine adraw [] mixed (by decide) (N := 66) Tryz.ntmps29 (by decide) 100 ?_
        simp only [go_sem, dk, List.length_map]
        repeat refine And.intro (by first | omega | rfl | exact .inl rfl | exact .inl trivial | (simp; done) | (simp; omega)) ?_
        refine goB (N := 66) Tryz.ntmps29 300 ?_
        simp only [go_sem, List.length_map]
        repeat refine And.intro (by first | omega | rfl | exact .inl rfl | exact .inl trivial | (simp; done) | (simp; omega)) ?_
        rw [show (i : Int) + 1 = ((i + 1 : Nat) : Int) by omega]
        refine ainv happ (Shift.low 2 (by simp) (by simp) ?_ ?_)
        · simpa only [List.take_succ_cons, List.take_zero] using hlow
        · simp only [wkl, lowV, lowC, Av.get, go_sem]
      have dk : decide ((o.length : Int) - 1 ≥ 0) = true := by simp; omega
      have ek : ((o.length : Int) - 1).toNat = o.length - 1 := by omega
      have p2 := deA_get o (o.length - 1) (by omega)
      have hx := sameDeed_pc (o[o.length - 1]'(by omega)) q[i] (hszo _ (List.getElem_mem _)).seen hszi.seen
      simp only [deA] at hx
      cases hs1 : stB (o[o.length - 1]'(by omega)).st q[i].st with
      | false =>
        simp only [stB] at hs1
        refine goB (N := 66) Tryz.ntmps29 300 ?_
        simp only [go_sem, di, p1, List.length_map]
        repeat refine And.intro (by first | omega | rfl | exact .inl rfl | exact .inl trivial | (simp; done) | (simp; omega)) ?_
        refine adraw [] mixed (by decide) (N := 66) Tryz.ntmps29 (by decide) 100 ?_
        simp only [go_sem, dk, ek, p2, hs1, List.length_map]
        repeat refine And.intro (by first | omega | rfl | kernel_rfl | exact .inl rfl | exact .inl trivial | (simp; done) | (simp; omega)) ?_
        refine goB (N := 66) Tryz.ntmps29 300 ?_
        simp only [go_sem, List.length_map]
        repeat refine And.intro (by first | omega | rfl | exact .inl rfl | exact .inl trivial | (simp; done) | (simp; omega)) ?_
        rw [show (i : Int) + 1 = ((i + 1 : Nat) : Int) by omega]
        refine ainv happ (Shift.low 2 (by simp) (by simp) ?_ ?_)
        · simpa only [List.take_succ_cons, List.take_zero] using hlow
        · simp only [wkl, lowV, lowC, Av.get, go_sem]
      | true =>
        simp only [stB] at hs1
        refine goB (N := 66) Tryz.ntmps29 300 ?_
        simp only [go_sem, di, p1, List.length_map]
        repeat refine And.intro (by first | omega | rfl | exact .inl rfl | exact .inl trivial | (simp; done) | (simp; omega)) ?_
        refine adraw [] mixed (by decide) (N := 66) Tryz.ntmps29 (by decide) 100 ?_
        simp only [go_sem, dk, ek, p2, hs1, List.length_map]
        repeat refine And.intro (by first | omega | rfl | kernel_rfl | exact .inl rfl | exact .inl trivial | (simp; done) | (simp; omega)) ?_
        refine goB (N := 66) Tryz.ntmps29 300 ?_
        simp only [go_sem]
        refine adraw [.bool (sameP (o[o.length - 1]'(by omega)) q[i])] mixed (by decide) (N := 66) Tryz.ntmps29 (by decide) 100 ?_
        simp only [go_sem, ek, p2, List.length_map]
        repeat refine And.intro (by first | exact hx.at | omega | rfl | kernel_rfl | exact .inl rfl | exact .inl trivial | (simp; done) | (simp; omega)) ?_
        cases hs2 : sameP (o[o.length - 1]'(by omega)) q[i] with
        | true =>
          have hsame := sameP_iff.1 hs2
          have hfin := hJ (i + 1, o) ⟨by simp only; omega, by simp only; omega, fun d => by
            rw [hst, ← g3]
            refine ⟨.inl, fun h => h.elim id fun h => ?_⟩
            rw [h, ← hsame]
            exact List.getElem_mem _⟩ (by simp only; omega)
          refine goB (N := 66) Tryz.ntmps29 300 ?_
          simp only [go_sem]
          repeat refine And.intro (by first | omega | rfl | (simp; done) | (simp; omega)) ?_
          rw [show (i : Int) + 1 = ((i + 1 : Nat) : Int) by omega]
          refine ainv hfin (Shift.low 2 (by simp) (by simp) ?_ ?_)
          · simp only [List.take_succ_cons, List.take_zero, List.all_cons, List.all_nil, low_des, Bool.and_self]
          · simp only [wkl, lowV, lowC, Av.get, go_sem]
        | false =>
          refine goB (N := 66) Tryz.ntmps29 300 ?_
          simp only [go_sem]
          exact ARet.shift (Shift.trans (Shift.low 0 (e' := [(4, .raw (.slice none 0 0)), (5, .int .i64 17)]) (by simp) (by simp) rfl (by simp only [wkl, lowV, lowC, Av.get, go_sem])) (Shift.nilfz 4 7 rfl)) (aret [4, 5] rfl ⟨⟨[], 17, rfl, fun _ => rfl, fun h => absurd h (by decide)⟩, rfl⟩)
    have di : decide ((i : Int) < (q.length : Int)) = false := by simp; omega
    have ho : ∀ d, d ∈ o ↔ d ∈ a ∨ d ∈ b := fun d => by
      rw [g3, List.take_of_length_le (by omega), ← hin]
      exact hq.mem_iff
    have hfo := fault_pch hS o ⟨by omega, fun d hd => hszab _ ((hin d).2 ((ho d).1 hd))⟩
    clear hJ
    refine AWp.shift (Shift.freeze 8 (id := 1) (l := o.map deA) rfl rfl (by simp) (Nat.le_refl _) (deA_frz _)) ?_
    rw [List.drop_zero, take_map]
    refine goB (N := 66) Tryz.ntmps29 300 ?_
    simp only [go_sem, di]
    refine pcallH hg (hfo) rfl (N := 66) Tryz.ntmps29 rfl ?_
    rintro _ ⟨n2, rfl, hn2⟩
    cases e2 : n2 != 0 with
    | true =>
      have e2' : n2 ≠ 0 := by simpa using e2
      refine goB (N := 66) Tryz.ntmps29 300 ?_
      simp only [go_sem, e2]
      exact ARet.shift (Shift.nilfz 4 7 rfl) (aret [4, 5] rfl ⟨⟨[], n2, rfl, fun _ => rfl, fun h => absurd h e2'⟩, rfl⟩)
    | false =>
      have e2' : n2 = 0 := by simpa using e2
      refine goB (N := 66) Tryz.ntmps29 300 ?_
      simp only [go_sem, e2]
      exact aret [4, 5] rfl ⟨⟨o, 0, rfl, fun h => absurd rfl h, fun _ => ⟨hn2 e2', ho⟩⟩, rfl⟩
end Go.Proofs.YtkomcdohejibmaaGreatDoor
