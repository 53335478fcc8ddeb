/- JoinOf, told exactly. Own work of this seat. -/
import Derived.Test.YtkomcdohejibmaaGreatDoorY44
import Derived.Test.YtkomcdohejibmaaGreatDoorY22
import Derived.Test.YtkomcdohejibmaaGreatDoorY21
import Derived.Test.YtkomcdohejibmaaGreatDoorY13
set_option maxRecDepth 100000
set_option linter.unusedSimpArgs false
set_option linter.unusedVariables false
namespace Go.Proofs.YtkomcdohejibmaaGreatDoor
open Go Go.Av Go.RowKit

/-- what stands once of those that stand twice (none: a clash) -/
def ddF : List De → List De → Option (List De)
  | [], o => some o
  | d :: r, o => if 0 < o.length ∧ stB (o.getD (o.length - 1) d00).st d.st = true then (if sameP (o.getD (o.length - 1) d00) d = true then ddF r o else none) else ddF r (o ++ [d])
theorem ddF_mem : ∀ (r o u : List De), ddF r o = some u → ∀ d, d ∈ u ↔ d ∈ o ∨ d ∈ r
  | [], o, u, h, d => by
    rw [ddF] at h
    cases h
    simp
  | x :: r, o, u, h, d => by
    rw [ddF] at h
    split at h
    · rename_i h1
      split at h
      · rename_i h2
        have e := sameP_iff.1 h2
        rw [atD (by omega)] at e
        rw [ddF_mem r o u h d, List.mem_cons]
        constructor
        · rintro (h3 | h3)
          · exact .inl h3
          · exact .inr (.inr h3)
        · rintro (h3 | rfl | h3)
          · exact .inl h3
          · rw [← e]; exact .inl (List.getElem_mem _)
          · exact .inr h3
      · cases h
    · rw [ddF_mem r _ u h d, List.mem_append, List.mem_singleton, List.mem_cons, or_assoc]
/-- what JoinOf comes to: the list, and whether it is right -/
def JoinX (S : Std) (a b jl : List De) (jok : Prop) : Prop := (jok → CkOk jl ∧ ∀ d, d ∈ jl ↔ d ∈ a ∨ d ∈ b) ∧ (¬ jok → jl = []) ∧ PcH Tryz.prog S 29 [.fz 7 (a.map deA), .fz 7 (b.map deA)] (fun r => ∃ n : Int, r = .tup [.fz 7 (jl.map deA), .int .i64 n] ∧ (n = 0 ↔ jok))
set_option maxHeartbeats 8000000 in
theorem joinX {S : Std} (hS : LibD S) (a b : List De) (ha : SzL a) (hb : SzL b) (hla : a.length < 100000) : ∃ (jl : List De) (jok : Prop), JoinX S a b jl jok := by
  obtain ⟨Z, hZ⟩ : ∃ Z, ddF (stF (a ++ b)) [] = Z := ⟨_, rfl⟩
  obtain ⟨jok, hjok⟩ : ∃ jok : Prop, (RefOk a ∧ b.length ≤ 500 ∧ ∃ u, Z = some u ∧ RefOk u) = jok := ⟨_, rfl⟩
  obtain ⟨jl, hj1, hj2⟩ : ∃ jl : List De, (∀ u, Z = some u → jok → jl = u) ∧ (¬ jok → jl = []) := by
    by_cases h : jok
    · have h2 := h
      rw [← hjok] at h2
      obtain ⟨_, _, u, hu, _⟩ := h2
      exact ⟨u, fun u' hu' _ => by rw [hu] at hu'; cases hu'; rfl, fun h3 => absurd h h3⟩
    · exact ⟨[], fun _ _ h3 => absurd h3 h, fun _ => rfl⟩
  refine ⟨jl, jok, fun h => ?_, hj2, ?_⟩
  · have h2 := h
    rw [← hjok] at h2
    obtain ⟨_, _, u, hu, hr⟩ := h2
    rw [hj1 u hu h]
    refine ⟨hr.1, fun d => ?_⟩
    rw [ddF_mem _ _ _ (hZ.trans hu) d, (stF_perm (a ++ b)).mem_iff, List.mem_append]
    simp
  have herr : ∀ n : Int, n ≠ 0 → ¬ (RefOk a ∧ b.length ≤ 500 ∧ ∃ u, Z = some u ∧ RefOk u) → ∃ n' : Int, (AV.tup [.fz 7 [], .int .i64 n]) = .tup [.fz 7 (jl.map deA), .int .i64 n'] ∧ (n' = 0 ↔ jok) := fun n hn h => by
    rw [hjok] at h
    rw [hj2 h]
    exact ⟨n, rfl, fun e => absurd e hn, fun e => absurd e h⟩
  have hfine : ∀ u, Z = some u → (RefOk a ∧ b.length ≤ 500 ∧ ∃ u, Z = some u ∧ RefOk u) → ∃ n' : Int, (AV.tup [.fz 7 (u.map deA), .int .i64 0]) = .tup [.fz 7 (jl.map deA), .int .i64 n'] ∧ (n' = 0 ↔ jok) := fun u hu h => by
    rw [hjok] at h
    rw [hj1 u hu h]
    exact ⟨0, rfl, fun _ => h, fun _ => rfl⟩
  have hfa := faultX_pch hS a ha
  refine pch_intro (cth_intro Tryz.func29 rfl Tryz.ntmps29 hB29 (by simp) fun h ρ w hg => goB (N := 66) Tryz.ntmps29 300 ?_)
  simp only [go_sem]
  refine pcallH hg (hfa) rfl (N := 66) Tryz.ntmps29 rfl ?_
  rintro _ ⟨n, rfl, hn⟩
  cases e0 : n != 0 with
  | true =>
    have e0' : n ≠ 0 := by simpa using e0
    refine goB (N := 66) Tryz.ntmps29 300 ?_
    simp only [go_sem, e0]
    exact ARet.shift (Shift.nilfz 4 7 rfl) (aret [4, 5] rfl ⟨herr n e0' fun h => e0' (hn.2 h.1), rfl⟩)
  | false =>
    by_cases hbig : b.length > 500
    · have d1 : decide ((b.length : Int) > 500) = true := by simp; omega
      refine goB (N := 66) Tryz.ntmps29 300 ?_
      simp only [go_sem, e0, d1, List.length_map]
      exact ARet.shift (Shift.nilfz 4 7 rfl) (aret [4, 5] rfl ⟨herr 2 (by decide) fun h => absurd h.2.1 (by omega), rfl⟩)
    have d1 : decide ((b.length : Int) > 500) = false := by simp; omega
    have hcc := concat_ct a b hla (by omega) []
    refine goB (N := 66) Tryz.ntmps29 300 ?_
    simp only [go_sem, e0, d1, List.length_map]
    refine acall (hcc) (N := 66) Tryz.ntmps29 rfl ?_
    rintro _ _ ⟨rfl, rfl⟩
    have hss := sortStableX (a ++ b) (by simp; omega)
    have hab : (a ++ b).length < 1000000 := by simp; omega
    have hin : ∀ d, d ∈ a ++ b ↔ d ∈ a ∨ d ∈ b := fun d => List.mem_append
    have hlen : (a ++ b).length = a.length + b.length := List.length_append
    have hszab : ∀ d ∈ a ++ b, SzD d := fun d hd => ((hin d).1 hd).elim (ha.all d) (hb.all d)
    refine goB (N := 66) Tryz.ntmps29 300 ?_
    simp only [go_sem]
    rw [hlen] at hss
    refine acall (hss) (N := 66) Tryz.ntmps29 rfl ?_
    rintro _ _ ⟨rfl, rfl⟩
    have hq := stF_perm (a ++ b)
    generalize stF (a ++ b) = q at *
    have hql := hq.length_eq
    rw [hlen] at hql
    refine goB (N := 66) Tryz.ntmps29 300 ?_
    simp only [go_sem, List.length_map]
    refine And.intro (by omega) ?_
    refine aloop (ι := Nat × List De) (fun y => q.length - y.1) (fun y => [(29, .int .i64 y.1), (28, .int .i64 q.length), (27, .sl 0 0 q.length q.length), (8, .sl 1 0 y.2.length y.2.length)]) (fun y => [.arr 7 (q.map deA), .arr 7 (y.2.map deA)])
      (fun y => y.1 ≤ q.length ∧ y.2.length ≤ y.1 ∧ (∀ d, d ∈ y.2 ↔ d ∈ q.take y.1) ∧ ddF (q.drop y.1) y.2 = Z) (0, []) ⟨by simp, by simp, by simp, hZ⟩ ?_ ?_
    · refine Shift.trans (Shift.nilsl 8 7 rfl) (Shift.weakS ?_ rfl)
      simp only [wk, go_sem, hql]
    rintro ⟨i, o⟩ ⟨g1, g2, g3, g4⟩ J hJ
    simp only at g1 g2 g3 g4 hJ ⊢
    by_cases gi : i < q.length
    · have di : decide ((i : Int) < (q.length : Int)) = true := by simp; omega
      have hst := mem_step gi
      have p1 := deA_get q i gi
      have hszi : SzD q[i] := hszab _ (hq.subset (List.getElem_mem gi))
      have hszo : ∀ d ∈ o, SzD d := fun d hd => hszab _ (hq.subset (List.take_subset _ _ ((g3 d).1 hd)))
      rw [List.drop_eq_getElem_cons gi, ddF] at g4
      have happ0 : ddF (q.drop (i + 1)) (o ++ [q[i]]) = Z → _ := fun hz => hJ (i + 1, o ++ [q[i]]) ⟨by simp only; omega, by simp; omega, fun d => by rw [hst, List.mem_append, List.mem_singleton, g3], hz⟩ (by simp only; omega)
      simp only [List.length_append, List.length_cons, List.length_nil, List.map_append, List.map_cons, List.map_nil, Nat.zero_add, show deA q[i] = .agg [.str q[i].st.dept, .int .i64 q[i].st.no, .fz 2 (q[i].seen.map stA), .int .i64 q[i].kind, .str q[i].paper, .str q[i].text, .str q[i].person] from rfl] at happ0
      have hlow : ([Blk.arr 7 (q.map deA), Blk.arr 7 (o.map deA ++ [.agg [.str q[i].st.dept, .int .i64 q[i].st.no, .fz 2 (q[i].seen.map stA), .int .i64 q[i].kind, .str q[i].paper, .str q[i].text, .str q[i].person]])]).all (lowB 2) = true := by
        have h1 := low_des 2 (o ++ [q[i]])
        simp only [List.map_append, List.map_cons, List.map_nil, show deA q[i] = .agg [.str q[i].st.dept, .int .i64 q[i].st.no, .fz 2 (q[i].seen.map stA), .int .i64 q[i].kind, .str q[i].paper, .str q[i].text, .str q[i].person] from rfl] at h1
        simp only [List.all_cons, List.all_nil, low_des, h1, Bool.and_self]
      by_cases ho : o.length = 0
      · have happ := happ0 (by rw [if_neg (fun h => absurd h.1 (by omega))] at g4; exact g4)
        have dk : decide ((o.length : Int) - 1 ≥ 0) = false := by simp; omega
        refine goB (N := 66) Tryz.ntmps29 300 ?_
        simp only [go_sem, di, p1, List.length_map]
        repeat refine And.intro (by first | omega | rfl | exact .inl rfl | exact .inl trivial | (simp; done) | (simp; omega)) ?_
        refine adraw [] mixed (by decide) (N := 66) Tryz.ntmps29 (by decide) 100 ?_
        simp only [go_sem, dk, List.length_map]
        repeat refine And.intro (by first | omega | rfl | exact .inl rfl | exact .inl trivial | (simp; done) | (simp; omega)) ?_
        refine goB (N := 66) Tryz.ntmps29 300 ?_
        simp only [go_sem, List.length_map]
        repeat refine And.intro (by first | omega | rfl | exact .inl rfl | exact .inl trivial | (simp; done) | (simp; omega)) ?_
        rw [show (i : Int) + 1 = ((i + 1 : Nat) : Int) by omega]
        refine ainv happ (Shift.low 2 (by simp) (by simp) ?_ ?_)
        · simpa only [List.take_succ_cons, List.take_zero] using hlow
        · simp only [wkl, lowV, lowC, Av.get, go_sem]
      have dk : decide ((o.length : Int) - 1 ≥ 0) = true := by simp; omega
      have ek : ((o.length : Int) - 1).toNat = o.length - 1 := by omega
      have p2 := deA_get o (o.length - 1) (by omega)
      have hx := sameDeed_pc (o[o.length - 1]'(by omega)) q[i] (hszo _ (List.getElem_mem _)).seen hszi.seen
      simp only [deA] at hx
      cases hs1 : stB (o[o.length - 1]'(by omega)).st q[i].st with
      | false =>
        have happ := happ0 (by rw [if_neg (fun h => by have h2 := h.2; rw [atD (by omega), hs1] at h2; cases h2)] at g4; exact g4)
        simp only [stB] at hs1
        refine goB (N := 66) Tryz.ntmps29 300 ?_
        simp only [go_sem, di, p1, List.length_map]
        repeat refine And.intro (by first | omega | rfl | exact .inl rfl | exact .inl trivial | (simp; done) | (simp; omega)) ?_
        refine adraw [] mixed (by decide) (N := 66) Tryz.ntmps29 (by decide) 100 ?_
        simp only [go_sem, dk, ek, p2, hs1, List.length_map]
        repeat refine And.intro (by first | omega | rfl | kernel_rfl | exact .inl rfl | exact .inl trivial | (simp; done) | (simp; omega)) ?_
        refine goB (N := 66) Tryz.ntmps29 300 ?_
        simp only [go_sem, List.length_map]
        repeat refine And.intro (by first | omega | rfl | exact .inl rfl | exact .inl trivial | (simp; done) | (simp; omega)) ?_
        rw [show (i : Int) + 1 = ((i + 1 : Nat) : Int) by omega]
        refine ainv happ (Shift.low 2 (by simp) (by simp) ?_ ?_)
        · simpa only [List.take_succ_cons, List.take_zero] using hlow
        · simp only [wkl, lowV, lowC, Av.get, go_sem]
      | true =>
        rw [if_pos ⟨by omega, by rw [atD (by omega)]; exact hs1⟩, atD (by omega)] at g4
        simp only [stB] at hs1
        refine goB (N := 66) Tryz.ntmps29 300 ?_
        simp only [go_sem, di, p1, List.length_map]
        repeat refine And.intro (by first | omega | rfl | exact .inl rfl | exact .inl trivial | (simp; done) | (simp; omega)) ?_
        refine adraw [] mixed (by decide) (N := 66) Tryz.ntmps29 (by decide) 100 ?_
        simp only [go_sem, dk, ek, p2, hs1, List.length_map]
        repeat refine And.intro (by first | omega | rfl | kernel_rfl | exact .inl rfl | exact .inl trivial | (simp; done) | (simp; omega)) ?_
        refine goB (N := 66) Tryz.ntmps29 300 ?_
        simp only [go_sem]
        refine adraw [.bool (sameP (o[o.length - 1]'(by omega)) q[i])] mixed (by decide) (N := 66) Tryz.ntmps29 (by decide) 100 ?_
        simp only [go_sem, ek, p2, List.length_map]
        repeat refine And.intro (by first | exact hx.at | omega | rfl | kernel_rfl | exact .inl rfl | exact .inl trivial | (simp; done) | (simp; omega)) ?_
        cases hs2 : sameP (o[o.length - 1]'(by omega)) q[i] with
        | true =>
          have hsame := sameP_iff.1 hs2
          have hfin := hJ (i + 1, o) ⟨by simp only; omega, by simp only; omega, fun d => by
            rw [hst, ← g3]
            refine ⟨.inl, fun h => h.elim id fun h => ?_⟩
            rw [h, ← hsame]
            exact List.getElem_mem _, by rw [if_pos hs2] at g4; exact g4⟩ (by simp only; omega)
          refine goB (N := 66) Tryz.ntmps29 300 ?_
          simp only [go_sem]
          repeat refine And.intro (by first | omega | rfl | (simp; done) | (simp; omega)) ?_
          rw [show (i : Int) + 1 = ((i + 1 : Nat) : Int) by omega]
          refine ainv hfin (Shift.low 2 (by simp) (by simp) ?_ ?_)
          · simp only [List.take_succ_cons, List.take_zero, List.all_cons, List.all_nil, low_des, Bool.and_self]
          · simp only [wkl, lowV, lowC, Av.get, go_sem]
        | false =>
          refine goB (N := 66) Tryz.ntmps29 300 ?_
          simp only [go_sem]
          exact ARet.shift (Shift.trans (Shift.low 0 (e' := [(4, .raw (.slice none 0 0)), (5, .int .i64 17)]) (by simp) (by simp) rfl (by simp only [wkl, lowV, lowC, Av.get, go_sem])) (Shift.nilfz 4 7 rfl)) (aret [4, 5] rfl ⟨herr 17 (by decide) (fun h => by
            rw [if_neg (by rw [hs2]; simp)] at g4
            obtain ⟨u, hu, _⟩ := h.2.2
            rw [← g4] at hu
            cases hu), rfl⟩)
    have di : decide ((i : Int) < (q.length : Int)) = false := by simp; omega
    have ho : ∀ d, d ∈ o ↔ d ∈ a ∨ d ∈ b := fun d => by
      rw [g3, List.take_of_length_le (by omega), ← hin]
      exact hq.mem_iff
    have hzo : Z = some o := by rw [← g4, List.drop_of_length_le (by omega)]; rfl
    have hfo := faultX_pch hS o ⟨by omega, fun d hd => hszab _ ((hin d).2 ((ho d).1 hd))⟩
    clear hJ
    refine AWp.shift (Shift.freeze 8 (id := 1) (l := o.map deA) rfl rfl (by simp) (Nat.le_refl _) (deA_frz _)) ?_
    rw [List.drop_zero, take_map]
    refine goB (N := 66) Tryz.ntmps29 300 ?_
    simp only [go_sem, di]
    refine pcallH hg (hfo) rfl (N := 66) Tryz.ntmps29 rfl ?_
    rintro _ ⟨n2, rfl, hn2⟩
    cases e2 : n2 != 0 with
    | true =>
      have e2' : n2 ≠ 0 := by simpa using e2
      refine goB (N := 66) Tryz.ntmps29 300 ?_
      simp only [go_sem, e2]
      exact ARet.shift (Shift.nilfz 4 7 rfl) (aret [4, 5] rfl ⟨herr n2 e2' (fun h => by
        obtain ⟨u, hu, hr⟩ := h.2.2
        rw [hzo] at hu
        cases hu
        exact e2' (hn2.2 hr)), rfl⟩)
    | false =>
      have e2' : n2 = 0 := by simpa using e2
      refine goB (N := 66) Tryz.ntmps29 300 ?_
      simp only [go_sem, e2]
      exact aret [4, 5] rfl ⟨hfine o hzo ⟨hn.1 (by simpa using e0), by omega, o, hzo, hn2.1 e2'⟩, rfl⟩
end Go.Proofs.YtkomcdohejibmaaGreatDoor
/- A call that makes one new block, over every table; nil as an argument. Own work of this seat. -/
set_option linter.unusedSimpArgs false
set_option linter.unusedVariables false
set_option linter.unusedSectionVars false
namespace Go.Av
open Go Go.RowKit
variable [Tr]
/-- a call that makes one new block, over every table -/
theorem Ct.lift {P : Program} {f : FuncId} {args : List AV} {n es : Nat} {l : List AV} (hc : Ct P f args [] (fun r s => r = .sl 0 0 n n ∧ s = [.arr es l])) (ha : args.all nr1 = true) (hf : (flat l).all frozen = true)
    (s : List Blk) : Ct P f args s (fun r s' => r = .sl s.length 0 n n ∧ s' = s ++ [.arr es l]) := by
  refine ⟨hc.1, fun h ρ w vs m r => ?_⟩
  have hm0 : Mine h (fun _ => none) [] w := ⟨m.mem, fun id blk e => by simp at e, fun _ _ => rfl, fun i j g t t' e => by simp at e, fun i g t e => by simp at e⟩
  refine (hc.2 h (fun _ => none) w vs hm0 ((nofrzL (Lf' := Lf0) r ha).thaw (fun _ _ _ x => x))).mono ?_
  rintro en w' ⟨v, r, s1, h', ρ1, rfl, ⟨rfl, rfl⟩, m', lt, rv⟩
  have hgood : ∀ i g t, ρ1 i = some (g, t) → w.heap.size ≤ g := fun i g t e => by
    rcases lt.newown i g t e with ⟨j, t', hj⟩ | h
    · cases hj
    · exact h
  have hblk : ∀ k, k < w.heap.size → w'.heap[k]? = w.heap[k]? := fun k hk => lt.block k hk (fun i t e => by cases e)
  have hnew : ∀ b o, h b o = none → h' b o ≠ none → w.heap.size ≤ b := fun b o e n => by
    rcases lt.hnew b o e n with ⟨j, t', hj⟩ | h
    · cases hj
    · exact h
  have hρ : ∀ i, i ≠ s.length → upd ρ s.length (ρ1 0) i = ρ i := fun i hi => by simp [upd, hi]
  have hρi : upd ρ s.length (ρ1 0) s.length = ρ1 0 := by simp [upd]
  have hkeep : ∀ v a, Lf ρ s v a → Lf (upd ρ s.length (ρ1 0)) (s ++ [.arr es l]) v a := fun v a x => Lf_push x
  have hown : ∀ i g t, upd ρ s.length (ρ1 0) i = some (g, t) → (i ≠ s.length ∧ ρ i = some (g, t) ∧ g < w.heap.size) ∨ (i = s.length ∧ ρ1 0 = some (g, t) ∧ w.heap.size ≤ g) := fun i g t e => by
    by_cases hi : i = s.length
    · rw [hi, hρi] at e
      exact .inr ⟨hi, e, hgood 0 g t e⟩
    · rw [hρ i hi] at e
      exact .inl ⟨hi, e, m.lt e⟩
  refine ⟨v, _, _, h', upd ρ s.length (ρ1 0), rfl, ⟨rfl, rfl⟩, ⟨m'.mem, ?_, ?_, ?_, ?_⟩, ⟨lt.hle, fun b o e n => .inr (hnew b o e n), hkeep, lt.os, lt.tape, lt.output, lt.size, fun k hk _ => hblk k hk, ?_⟩, ?_⟩
  · intro i blk e
    by_cases hi : i = s.length
    · subst hi
      simp at e
      subst e
      rcases m'.own 0 (.arr es l) rfl with ⟨h1, h2⟩ | ⟨g, tot, cur, t, h1, h2, h3, h4, h5, h6, h7, h8, h9⟩
      · exact .inl ⟨h1, hρi.trans h2⟩
      · exact .inr ⟨g, tot, cur, t, hρi.trans h1, h2, h3, h4, h5, h6, h7, h8, rl_frozen hf h9⟩
    · have hlt : i < s.length := by
        have := (List.getElem?_eq_some_iff.1 e).1
        simp at this
        omega
      rw [List.getElem?_append_left hlt] at e
      exact (m.own i blk e).mono lt.hle hkeep (hρ i hi) (fun g t hg => hblk g (m.lt hg))
  · intro i hi
    simp at hi
    rw [hρ i (by omega)]
    exact m.out i (by omega)
  · intro i j g t t' hi hj
    rcases hown i g t hi with ⟨a1, a2, a3⟩ | ⟨a1, a2, a3⟩ <;> rcases hown j g t' hj with ⟨b1, b2, b3⟩ | ⟨b1, b2, b3⟩
    · exact m.inj i j g t t' a2 b2
    · omega
    · omega
    · omega
  · intro i g t e o
    rcases hown i g t e with ⟨a1, a2, a3⟩ | ⟨a1, a2, a3⟩
    · cases hq : h' g o with
      | none => rfl
      | some z =>
        have := hnew g o (m.disj i g t a2 o) (by rw [hq]; simp)
        omega
    · exact m'.disj 0 g t a2 o
  · intro i g t e
    rcases hown i g t e with ⟨a1, a2, a3⟩ | ⟨a1, a2, a3⟩
    · exact .inl ⟨i, t, a2⟩
    · exact .inr a3
  · have q := inv_sl rv
    exact .leaf ⟨q.1, LfC_at (blk := .arr es l) rfl (by simp) hρi q.2⟩
/-- nil is an empty list -/
theorem Pc.nilarg {P : Program} {f : FuncId} {es : Nat} {args : List AV} {post : AV → Prop} (hc : Pc P f (.fz es [] :: args) post) : Pc P f (.raw (.slice none 0 0) :: args) post := by
  refine ⟨hc.1, fun h w vs hm hv => hc.2 h w vs hm ?_⟩
  cases hv with
  | cons r1 r2 =>
    have : _ = Value.slice none 0 0 := inv_raw (ρ := fun _ => none) (sto := []) (r1.thaw (fun _ _ _ x => x) (fl := false))
    subst this
    exact .cons (.fznil es) r2
/-- a third cell that is nil, told as an empty list -/
theorem rl_raw3 {h : Mem} {L : Value → AV → Prop} {fl : Bool} {a b : AV} {r : List AV} {es : Nat} {vs : List Value} (hl : ∀ v a, L v a → False) (x : RL h L fl vs (a :: b :: .raw (.slice none 0 0) :: r)) : RL h L fl vs (a :: b :: .fz es [] :: r) := by
  cases x with
  | cons r1 x =>
  cases x with
  | cons r2 x =>
  cases x with
  | cons r3 x =>
    refine .cons r1 (.cons r2 (.cons ?_ x))
    cases r3 with
    | leaf p => exact (hl _ _ p).elim
    | raw => exact .fznil es
theorem Pc.rawcell {P : Program} {f : FuncId} {es : Nat} {a b : AV} {r : List AV} {post : AV → Prop} (hc : Pc P f [.agg (a :: b :: .fz es [] :: r)] post) : Pc P f [.agg (a :: b :: .raw (.slice none 0 0) :: r)] post := by
  refine ⟨hc.1, fun h w vs hm hv => hc.2 h w vs hm ?_⟩
  cases hv with
  | cons r1 r2 =>
    cases r2
    cases r1 with
    | agg vs l rl => exact .cons (.agg _ _ (rl_raw3 (fun _ _ p => p) rl)) .nil
end Go.Av
