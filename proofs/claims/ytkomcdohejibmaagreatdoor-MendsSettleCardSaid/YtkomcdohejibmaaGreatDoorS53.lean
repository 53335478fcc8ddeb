/- Names of papers, papers: the reference. Own work of this seat. -/
import Derived.Test.YtkomcdohejibmaaGreatDoorS49
import Derived.Test.YtkomcdohejibmaaGreatDoorS23
import Derived.Test.YtkomcdohejibmaaGreatDoorS52
set_option maxRecDepth 100000
set_option linter.unusedSimpArgs false
set_option linter.unusedVariables false
namespace Go.Proofs.YtkomcdohejibmaaGreatDoor
open Go Go.Av Go.RowKit

theorem strs_set (o : List (List UInt8)) (i : Nat) (x : List UInt8) : (o.map AV.str).set i (.str x) = (o.set i x).map .str := by rw [List.map_set]
set_option maxHeartbeats 4000000 in
theorem compact_ct (o : List (List UInt8)) (hl : o.length < 1000000) :
    Ct Tryz.prog 112 [.sl 0 0 o.length o.length] [.arr 1 (o.map .str)] (fun r s => ∃ (k : Nat) (o' : List (List UInt8)), r = .sl 0 0 k o.length ∧ s = [.arr 1 (o'.map .str)] ∧ o'.length = o.length ∧ k ≤ o.length) := by
  by_cases h2 : o.length < 2
  · have d2 : decide ((o.length : Int) < 2) = true := by simp; omega
    refine ct_intro Tryz.func112 rfl Tryz.ntmps112 hB112 (by simp) fun h ρ w => go (N := 61) Tryz.ntmps112 300 ?_
    simp only [go_sem, d2, List.length_map]
    repeat refine And.intro (by first | omega | rfl | exact .inl rfl | exact .inl trivial | (simp; done) | (simp; omega)) ?_
    exact aret [2] rfl ⟨o.length, o, rfl, rfl, rfl, by omega⟩
  have d2 : decide ((o.length : Int) < 2) = false := by simp; omega
  refine ct_intro Tryz.func112 rfl Tryz.ntmps112 hB112 (by simp) fun h ρ w => go (N := 61) Tryz.ntmps112 300 ?_
  simp only [go_sem, d2, List.length_map]
  repeat refine And.intro (by first | omega | rfl | exact .inl rfl | exact .inl trivial | (simp; done) | (simp; omega)) ?_
  refine aloop (ι := Nat) (fun k => o.length - k) (fun k => [(3, .int .i64 k), (0, .sl 0 0 o.length o.length)]) (fun _ => [.arr 1 (o.map .str)]) (fun k => 1 ≤ k ∧ k ≤ o.length) 1 ⟨by omega, by omega⟩ ?_ ?_
  · refine Shift.weakS ?_ rfl
    simp only [wk, go_sem]
    try rfl
  rintro k ⟨g1, g2⟩ J hJ
  by_cases gk : k < o.length
  · have dk : decide ((k : Int) < (o.length : Int)) = true := by simp; omega
    have p1 := dstr_get gk
    have p2 := dstr_get (l := o) (i := k - 1) (by omega)
    have ek : ((k : Int) - 1).toNat = k - 1 := by omega
    cases e : o[k] == o[k - 1] with
    | false =>
      have hfin := hJ (k + 1) ⟨by omega, by omega⟩ (by omega)
      refine go (N := 61) Tryz.ntmps112 300 ?_
      simp only [go_sem, dk, List.length_map]
      repeat refine And.intro (by first | omega | rfl | exact .inl rfl | exact .inl trivial | (simp; done) | (simp; omega)) ?_
      refine adraw [] mixed (by decide) (N := 61) Tryz.ntmps112 (by decide) 100 ?_
      simp only [go_sem, p1, p2, ek, e, List.length_map]
      repeat refine And.intro (by first | omega | rfl | exact .inl rfl | exact .inl trivial | (simp; done) | (simp; omega)) ?_
      refine go (N := 61) Tryz.ntmps112 300 ?_
      simp only [go_sem]
      repeat refine And.intro (by first | omega | rfl | exact .inl rfl | exact .inl trivial | (simp; done) | (simp; omega)) ?_
      rw [show (k : Int) + 1 = ((k + 1 : Nat) : Int) by omega]
      refine ainv hfin (Shift.weakS ?_ rfl)
      simp only [wk, go_sem]
    | true =>
      clear hJ
      refine go (N := 61) Tryz.ntmps112 300 ?_
      simp only [go_sem, dk, List.length_map]
      repeat refine And.intro (by first | omega | rfl | exact .inl rfl | exact .inl trivial | (simp; done) | (simp; omega)) ?_
      refine adraw [] mixed (by decide) (N := 61) Tryz.ntmps112 (by decide) 100 ?_
      simp only [go_sem, p1, p2, ek, e, List.length_map]
      repeat refine And.intro (by first | omega | rfl | exact .inl rfl | exact .inl trivial | (simp; done) | (simp; omega)) ?_
      refine go (N := 61) Tryz.ntmps112 300 ?_
      simp only [go_sem, List.length_map]
      repeat refine And.intro (by first | omega | rfl | exact .inl rfl | exact .inl trivial | (simp; done) | (simp; omega)) ?_
      refine aloop (ι := Nat × Nat × List (List UInt8)) (fun y => o.length - y.1) (fun y => [(5, .int .i64 y.1), (4, .sl 0 k (o.length - k) (o.length - k)), (3, .int .i64 y.2.1), (0, .sl 0 0 o.length o.length)]) (fun y => [.arr 1 (y.2.2.map .str)])
        (fun y => 1 ≤ y.1 ∧ y.1 ≤ o.length - k ∧ y.2.2.length = o.length ∧ k ≤ y.2.1 ∧ y.2.1 < k + y.1) (1, k, o) ⟨by simp, by simp only; omega, rfl, by simp, by simp⟩ ?_ ?_
      · refine Shift.weakS ?_ rfl
        simp only [wk, go_sem]
        rw [show ((o.length : Int) - (k : Int)).toNat = o.length - k by omega]
      rintro ⟨j, kk, o2⟩ ⟨q1, q2, q3, q4, q5⟩ K hK
      simp only at q1 q2 q3 q4 q5 hK ⊢
      by_cases gj : j < o.length - k
      · have dj : decide ((j : Int) < ((o.length - k : Nat) : Int)) = true := by simp; omega
        have p3 := dstr_get (l := o2) (i := k + j) (by omega)
        have p4 := dstr_get (l := o2) (i := k + (j - 1)) (by omega)
        have ej : ((j : Int) - 1).toNat = j - 1 := by omega
        have hset := strs_set o2 kk (o2[k + j]'(by omega))
        cases e2 : (o2[k + j]'(by omega)) != (o2[k + (j - 1)]'(by omega)) with
        | false =>
          have hfin := hK (j + 1, kk, o2) ⟨by simp only; omega, by simp only; omega, q3, q4, by simp only; omega⟩ (by simp only; omega)
          refine go (N := 61) Tryz.ntmps112 300 ?_
          simp only [go_sem, dj, List.length_map, q3]
          repeat refine And.intro (by first | omega | rfl | exact .inl rfl | exact .inl trivial | (simp; done) | (simp; omega)) ?_
          refine adraw [] mixed (by decide) (N := 61) Tryz.ntmps112 (by decide) 100 ?_
          simp only [go_sem, p3, p4, ej, e2, List.length_map, q3]
          repeat refine And.intro (by first | omega | rfl | exact .inl rfl | exact .inl trivial | (simp; done) | (simp; omega)) ?_
          refine go (N := 61) Tryz.ntmps112 300 ?_
          simp only [go_sem]
          repeat refine And.intro (by first | omega | rfl | exact .inl rfl | exact .inl trivial | (simp; done) | (simp; omega)) ?_
          rw [show (j : Int) + 1 = ((j + 1 : Nat) : Int) by omega]
          refine ainv hfin (Shift.weakS ?_ rfl)
          simp only [wk, go_sem]
        | true =>
          have hfin := hK (j + 1, kk + 1, o2.set kk (o2[k + j]'(by omega))) ⟨by simp only; omega, by simp only; omega, by simp [q3], by simp only; omega, by simp only; omega⟩ (by simp only; omega)
          have pk := dstr_get (l := o2) (i := kk) (by omega)
          refine go (N := 61) Tryz.ntmps112 300 ?_
          simp only [go_sem, dj, List.length_map, q3]
          repeat refine And.intro (by first | omega | rfl | exact .inl rfl | exact .inl trivial | (simp; done) | (simp; omega)) ?_
          refine adraw [] mixed (by decide) (N := 61) Tryz.ntmps112 (by decide) 100 ?_
          simp only [go_sem, p3, p4, ej, e2, List.length_map, q3]
          repeat refine And.intro (by first | omega | rfl | exact .inl rfl | exact .inl trivial | (simp; done) | (simp; omega)) ?_
          refine go (N := 61) Tryz.ntmps112 300 ?_
          simp only [go_sem, p3, pk, hset, List.length_map, q3]
          repeat refine And.intro (by first | omega | rfl | exact .inl rfl | exact .inl trivial | (simp; done) | (simp; omega)) ?_
          rw [show (j : Int) + 1 = ((j + 1 : Nat) : Int) by omega, show (kk : Int) + 1 = ((kk + 1 : Nat) : Int) by omega]
          refine ainv hfin (Shift.weakS ?_ rfl)
          simp only [wk, go_sem]
      · have dj : decide ((j : Int) < ((o.length - k : Nat) : Int)) = false := by simp; omega
        refine go (N := 61) Tryz.ntmps112 300 ?_
        simp only [go_sem, dj, List.length_map, q3]
        repeat refine And.intro (by first | omega | rfl | exact .inl rfl | exact .inl trivial | (simp; done) | (simp; omega)) ?_
        have ek0 : ((kk : Int) - 0).toNat = kk := by omega
        have ek1 : ((o.length : Int) - (kk : Int)).toNat = o.length - kk := by omega
        refine aret [2] rfl ⟨kk, o2.take kk ++ List.replicate (o.length - kk) [], ?_, ?_, ?_, by omega⟩
        · simp only [resV, Av.get, Av.put, beq_self_eq_true, cond_true, ek0, Nat.sub_zero]
        · rw [ek1, List.drop_eq_nil_of_le (by simp; omega), List.append_nil, List.map_append, List.map_take, List.map_replicate]
        · simp; omega
  · have dk : decide ((k : Int) < (o.length : Int)) = false := by simp; omega
    refine go (N := 61) Tryz.ntmps112 300 ?_
    simp only [go_sem, dk, List.length_map]
    repeat refine And.intro (by first | omega | rfl | exact .inl rfl | exact .inl trivial | (simp; done) | (simp; omega)) ?_
    exact aret [2] rfl ⟨o.length, o, rfl, rfl, rfl, by omega⟩
set_option maxHeartbeats 4000000 in
theorem paperNames_pc (l : List De) (hl : SzL l) (hlen : l.length ≤ 1000) : Pc Tryz.prog 57 [.fz 7 (l.map deA)] (fun r => ∃ o : List (List UInt8), r = .fz 1 (o.map .str) ∧ o.length ≤ l.length) := by
  refine pc_intro (ct_intro Tryz.func57 rfl Tryz.ntmps57 hB57 (by simp) fun h ρ w => goB (N := 22) Tryz.ntmps57 300 ?_)
  simp only [go_sem, List.length_map]
  refine aloop (ι := Nat) (fun i => l.length - i) (fun i => [(8, .int .i64 i), (7, .int .i64 l.length), (6, .fz 7 (l.map deA)), (3, .sl 0 0 i i)])
    (fun i => [.arr 1 (((l.take i).map (·.paper)).map .str)]) (fun i => i ≤ l.length) 0 (by simp) ?_ ?_
  · refine Shift.trans (Shift.nilsl 3 1 rfl) (Shift.weakS ?_ rfl)
    simp only [wk, go_sem]
  intro i g1 J hJ
  by_cases gi : i < l.length
  · have di : decide ((i : Int) < (l.length : Int)) = true := by simp; omega
    have hst := map_step l i gi
    have hlen2 : (l.take i).length = i := by simp; omega
    have hfin := hJ (i + 1) (by omega) (by omega)
    simp only [hst] at hfin
    generalize l.take i = o at *
    refine goB (N := 22) Tryz.ntmps57 300 ?_
    simp only [go_sem, di, deA_get l i gi, List.length_map]
    repeat refine And.intro (by first | omega | rfl | exact .inl rfl | exact .inl trivial | (simp; done) | (simp; omega)) ?_
    rw [show (i : Int) + 1 = ((i + 1 : Nat) : Int) by omega]
    simp only [List.map_append, List.map_cons, List.map_nil] at hfin
    refine ainv hfin (Shift.low 1 (by simp) (by simp) ?_ ?_)
    · have := low_all (n := 1) (strs_frz (o.map (·.paper) ++ [l[i].paper]))
      simp only [List.map_append, List.map_cons, List.map_nil] at this
      simp only [List.take_succ_cons, List.take_zero, List.all_cons, List.all_nil, lowB, this, Bool.and_self]
    · simp only [wkl, lowV, lowC, Av.get, go_sem]
  have di : decide ((i : Int) < (l.length : Int)) = false := by simp; omega
  have : i = l.length := by omega
  subst this
  rw [List.take_length]
  clear hJ
  generalize hps : l.map (·.paper) = ps at *
  have hpl : ps.length = l.length := by rw [← hps, List.length_map]
  have hs := sortStrs ps [.arr 1 (ps.map .str)] 0 rfl (by have := hl.len; omega)
  rw [hpl] at hs
  refine goB (N := 22) Tryz.ntmps57 300 ?_
  simp only [go_sem, di]
  refine acall (hs) (N := 22) Tryz.ntmps57 rfl ?_
  rintro _ _ ⟨rfl, o2, rfl, hp⟩
  have ho2 := hp.length_eq
  have hc := compact_ct o2 (by have := hl.len; omega)
  rw [ho2, hpl] at hc
  refine goB (N := 22) Tryz.ntmps57 300 ?_
  simp only [go_sem]
  refine acall (hc) (N := 22) Tryz.ntmps57 rfl ?_
  rintro _ _ ⟨k, o3, rfl, rfl, h3, h4⟩
  have htk : List.take k (o3.map AV.str) = (o3.take k).map .str := by rw [List.map_take]
  refine goB (N := 22) Tryz.ntmps57 300 ?_
  simp only [go_sem]
  refine ARet.shift (Shift.freeze 2 (id := 0) (l := o3.map .str) rfl rfl (by simp; omega) (by omega) (strs_frz _)) (aret [2] rfl ⟨⟨o3.take k, ?_, by simp; omega⟩, ?_⟩)
  · simp only [resV, Av.get, Av.put, beq_self_eq_true, cond_true, List.drop_zero, htk]
  · rfl
theorem ppA_frz : ∀ l : List Pp, (flat (l.map ppA)).all Av.frozen = true
  | [] => rfl
  | a :: l => by simp only [List.map_cons, flat, ppA, cellsOf, List.cons_append, List.nil_append, List.all_cons, Av.frozen, ppA_frz l, Bool.and_self]
set_option maxHeartbeats 4000000 in
theorem papersOf_pc (l : List De) (hl : SzL l) (hlen : l.length ≤ 1000) : Pc Tryz.prog 18 [.fz 7 (l.map deA)] (fun r => ∃ o : List Pp, r = .fz 2 (o.map ppA) ∧ o.length ≤ l.length ∧ ∀ p ∈ o, thereL l p.name = true) := by
  have hpn := paperNames_pc l hl hlen
  refine pc_intro (ct_intro Tryz.func18 rfl Tryz.ntmps18 hB18 (by simp) fun h ρ w => goB (N := 26) Tryz.ntmps18 300 ?_)
  simp only [go_sem]
  refine pcall (hpn) rfl (N := 26) Tryz.ntmps18 rfl ?_
  rintro _ ⟨q, rfl, hq⟩
  refine goB (N := 26) Tryz.ntmps18 300 ?_
  simp only [go_sem, List.length_map]
  refine aloop (ι := Nat × List Pp) (fun y => q.length - y.1) (fun y => [(9, .int .i64 y.1), (8, .int .i64 q.length), (7, .fz 1 (q.map .str)), (3, .sl 0 0 y.2.length y.2.length), (0, .fz 7 (l.map deA))])
    (fun y => [.arr 2 (y.2.map ppA)]) (fun y => y.1 ≤ q.length ∧ y.2.length ≤ y.1 ∧ ∀ p ∈ y.2, thereL l p.name = true) (0, []) ⟨by simp, by simp, by simp⟩ ?_ ?_
  · refine Shift.trans (Shift.nilsl 3 2 rfl) (Shift.weakS ?_ rfl)
    simp only [wk, go_sem]
  rintro ⟨i, o⟩ ⟨g1, g2, g3⟩ J hJ
  simp only at g1 g2 g3 hJ ⊢
  by_cases gi : i < q.length
  · have di : decide ((i : Int) < (q.length : Int)) = true := by simp; omega
    have p1 := dstr_get gi
    have hth := there_pc l q[i] hl.sz
    have hve := versionsOf_pc l q[i] hl.sz
    generalize hqi : q[i] = qi at *
    cases ht : thereL l qi with
    | false =>
      have hfin := hJ (i + 1, o) ⟨by simp only; omega, by simp only; omega, g3⟩ (by simp only; omega)
      rw [ht] at hth
      refine goB (N := 26) Tryz.ntmps18 300 ?_
      simp only [go_sem, di, p1, List.length_map]
      repeat refine And.intro (by first | omega | rfl | exact .inl rfl | exact .inl trivial | (simp; done) | (simp; omega)) ?_
      refine pcall1 (hth) rfl (N := 26) Tryz.ntmps18 rfl (goB (N := 26) Tryz.ntmps18 300 ?_)
      simp only [go_sem]
      repeat refine And.intro (by first | omega | rfl | exact .inl rfl | exact .inl trivial | (simp; done) | (simp; omega)) ?_
      rw [show (i : Int) + 1 = ((i + 1 : Nat) : Int) by omega]
      refine ainv hfin (Shift.weakS ?_ rfl)
      simp only [wk, go_sem]
    | true =>
      have hfin := hJ (i + 1, o ++ [⟨qi, (rversL l qi).map (·.st)⟩]) ⟨by simp only; omega, by simp; omega, fun p hp => by
        rcases List.mem_append.1 hp with hp | hp
        · exact g3 p hp
        · rw [List.mem_singleton.1 hp]; exact ht⟩ (by simp only; omega)
      simp only [List.length_append, List.length_cons, List.length_nil, List.map_append, List.map_cons, List.map_nil, Nat.zero_add, ppA] at hfin
      rw [ht] at hth
      refine goB (N := 26) Tryz.ntmps18 300 ?_
      simp only [go_sem, di, p1, List.length_map]
      repeat refine And.intro (by first | omega | rfl | exact .inl rfl | exact .inl trivial | (simp; done) | (simp; omega)) ?_
      refine pcall1 (hth) rfl (N := 26) Tryz.ntmps18 rfl (goB (N := 26) Tryz.ntmps18 300 ?_)
      simp only [go_sem]
      refine pcall1 (hve) rfl (N := 26) Tryz.ntmps18 rfl (goB (N := 26) Tryz.ntmps18 300 ?_)
      simp only [go_sem, List.length_map]
      repeat refine And.intro (by first | omega | rfl | exact .inl rfl | exact .inl trivial | (simp; done) | (simp; omega)) ?_
      rw [show (i : Int) + 1 = ((i + 1 : Nat) : Int) by omega]
      refine ainv hfin (Shift.weakS ?_ rfl)
      simp only [wk, go_sem]
  · have di : decide ((i : Int) < (q.length : Int)) = false := by simp; omega
    clear hJ
    refine goB (N := 26) Tryz.ntmps18 300 ?_
    simp only [go_sem, di]
    exact ARet.shift (Shift.freeze 2 (id := 0) (l := o.map ppA) rfl rfl (by simp) (Nat.le_refl _) (ppA_frz _)) (aret [2] rfl ⟨⟨o, by simp only [resV, Av.get, Av.put, beq_self_eq_true, cond_true, List.drop_zero, take_map], by omega, g3⟩, rfl⟩)
end Go.Proofs.YtkomcdohejibmaaGreatDoor
/- The law MailMakesNobodyLate, walked. Own work of this seat. -/
set_option maxRecDepth 100000
set_option linter.unusedSimpArgs false
set_option linter.unusedVariables false
namespace Go.Proofs.YtkomcdohejibmaaGreatDoor
open Go Go.Av Go.RowKit

end Go.Proofs.YtkomcdohejibmaaGreatDoor
/- The law MendsSettle, walked. Own work of this seat. -/
set_option maxRecDepth 100000
set_option linter.unusedSimpArgs false
set_option linter.unusedVariables false
namespace Go.Proofs.YtkomcdohejibmaaGreatDoor
open Go Go.Av Go.RowKit

theorem art_key : keyL [97, 114, 116] = true := by decide
set_option maxHeartbeats 4000000 in
theorem mends_pch {S : Std} (hS : LibD S) (L : List Int) : PcH Tryz.prog S 7 [.fz 1 (L.map (.int .i64))] (· = .bool true) := by
  have hdb := deedsB_pc
  refine pch_intro (cth_intro Tryz.func7 rfl Tryz.ntmps7 hB7 (by simp) fun h ρ w hg => goF (N := 86) Tryz.ntmps7 300 ?_)
  simp only [go_sem]
  refine mcallH hg (agg := str L 0) (deeds_mch hS L 0 (by omega) (by omega)) rfl rfl (id := 0) rfl (N := 86) Tryz.ntmps7 rfl ?_
  rintro _ _ ⟨all, k', rfl, hok, hlen, hsz, rfl, hk1, hk2⟩
  refine goF (N := 86) Tryz.ntmps7 300 ?_
  simp only [go_sem]
  refine pcall (papersOf_pc all hsz (by omega)) rfl (N := 86) Tryz.ntmps7 rfl ?_
  rintro _ ⟨ps, rfl, hpl, hth⟩
  refine goF (N := 86) Tryz.ntmps7 300 ?_
  simp only [go_sem, List.length_map]
  refine aloop (ι := Nat) (fun i => ps.length - i) (fun i => [(24, .int .i64 i), (23, .int .i64 ps.length), (22, .fz 2 (ps.map ppA)), (4, .fz 7 (all.map deA))]) (fun i => [.arr 2 [str L k']]) (fun i => i ≤ ps.length) 0 (by simp) ?_ ?_
  · refine Shift.weakS ?_ (by simp)
    simp only [wk, go_sem]
    try rfl
  intro i g1 J hJ
  by_cases gi : i < ps.length
  · have di : decide ((i : Int) < (ps.length : Int)) = true := by simp; omega
    have p1 := ppA_get ps i gi
    have ht := hth _ (List.getElem_mem gi)
    have hkey := there_key hok ht
    have hnl := keyL_le hkey
    have hfin := hJ (i + 1) (by omega) (by omega)
    generalize hname : ps[i].name = name at *
    have hme := mend_pch hS all name hsz
    refine goF (N := 86) Tryz.ntmps7 300 ?_
    simp only [go_sem, di, p1, List.length_map]
    repeat refine And.intro (by first | omega | rfl | exact .inl rfl | exact .inl trivial | (simp; done) | (simp; omega)) ?_
    refine pcallH hg (hme) rfl (N := 86) Tryz.ntmps7 rfl ?_
    rintro _ ⟨t, c, n, rfl, hn⟩
    cases e0 : n != 0 with
    | true =>
      refine goF (N := 86) Tryz.ntmps7 300 ?_
      simp only [go_sem, e0]
      rw [show (i : Int) + 1 = ((i + 1 : Nat) : Int) by omega]
      repeat refine And.intro (by first | omega | rfl | exact .inl rfl | exact .inl trivial | (simp; done) | (simp; omega)) ?_
      refine ainv hfin (Shift.low 1 (by simp) (by simp) rfl ?_)
      simp only [wkl, lowV, lowC, Av.get, go_sem]
    | false =>
    have e0' : n = 0 := by simpa using e0
    obtain ⟨ht1, ht2⟩ := hn e0'
    cases ec : decide ((c.length : Int) > 0) with
    | true =>
      refine goF (N := 86) Tryz.ntmps7 300 ?_
      simp only [go_sem, e0, ec, prs_len]
      rw [show (i : Int) + 1 = ((i + 1 : Nat) : Int) by omega]
      repeat refine And.intro (by first | omega | rfl | exact .inl rfl | exact .inl trivial | (simp; done) | (simp; omega)) ?_
      refine ainv hfin (Shift.low 1 (by simp) (by simp) rfl ?_)
      simp only [wkl, lowV, lowC, Av.get, go_sem]
    | false =>
    refine goF (N := 86) Tryz.ntmps7 300 ?_
    simp only [go_sem, e0, ec, prs_len]
    refine pcall (add_pc all [97, 114, 116] 1 name t [] hsz (by omega) (by simp) (by omega) (by omega) (by simp)) rfl (N := 86) Tryz.ntmps7 rfl ?_
    rintro _ ⟨x, m, rfl, h1, h2⟩
    have hm0 : m = 0 := h2 hok (by omega) art_key (body_put hkey ht1 ht2) (.inl rfl)
    subst hm0
    obtain ⟨_, _, _, _, hxs, hxp⟩ := h1 rfl
    obtain ⟨d, m1, m2, m3, m4, m5, m6⟩ := mend_law hok hkey art_key ht1 ht2 (by omega) hxs hxp
    have hxl := hxp.length_eq
    simp only [List.length_append, List.length_cons, List.length_nil] at hxl
    have hszd := add_sz (d := ⟨⟨[97, 114, 116], 0⟩, [], 1, name, t, []⟩) hok art_key ⟨by simp, by simp, by simp only; omega, by simp only; omega, by simp, by simp⟩
    have hszx : SzL x := ⟨by omega, fun e he => by
      rcases (perm_mem hxp e).1 he with h | rfl
      · exact hsz.all e h
      · exact hszd⟩
    have hve := versions_pc x name hszx
    have htx := text_pc x d hszx m1 m4 m5
    rw [m6] at htx
    have htt : (t == t) = true := by simp
    have htn : (t != t) = false := by simp
    refine goF (N := 86) Tryz.ntmps7 300 ?_
    simp only [go_sem]
    refine pcall (hve) rfl (N := 86) Tryz.ntmps7 rfl ?_
    rintro _ ⟨o, n2, rfl, h3⟩
    obtain ⟨rfl, rfl⟩ := h3 m1 m2
    rw [m3]
    simp only [stA] at htx
    refine goF (N := 86) Tryz.ntmps7 300 ?_
    simp only [go_sem, List.length_map, List.map_cons, List.map_nil, List.length_cons, List.length_nil, stA]
    refine pcall1 (htx) rfl (N := 86) Tryz.ntmps7 rfl (goF (N := 86) Tryz.ntmps7 300 ?_)
    simp only [go_sem, htt, htn]
    repeat refine And.intro (by first | omega | rfl | exact .inl rfl | exact .inl trivial | (simp; done) | (simp; omega)) ?_
    rw [show (i : Int) + 1 = ((i + 1 : Nat) : Int) by omega]
    refine ainv hfin (Shift.low 1 (by simp) (by simp) rfl ?_)
    simp only [wkl, lowV, lowC, Av.get, go_sem]
  · have di : decide ((i : Int) < (ps.length : Int)) = false := by simp; omega
    refine goF (N := 86) Tryz.ntmps7 300 ?_
    simp only [go_sem, di]
    refine pcall1 (hdb) rfl (N := 86) Tryz.ntmps7 rfl (goF (N := 86) Tryz.ntmps7 300 ?_)
    simp only [go_sem]
    exact aret [2] rfl ⟨rfl, rfl⟩
end Go.Proofs.YtkomcdohejibmaaGreatDoor
