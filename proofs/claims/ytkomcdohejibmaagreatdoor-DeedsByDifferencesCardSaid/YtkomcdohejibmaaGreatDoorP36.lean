/- Vectors of deeds; views. Own work of this seat. -/
import Derived.Test.YtkomcdohejibmaaGreatDoorP34
import Derived.Test.YtkomcdohejibmaaGreatDoorP35
import Derived.Test.YtkomcdohejibmaaGreatDoorP23
set_option maxRecDepth 100000
set_option linter.unusedSimpArgs false
set_option linter.unusedVariables false
namespace Go.Proofs.YtkomcdohejibmaaGreatDoor
open Go Go.Av Go.RowKit

/-- one deed more in a vector -/
def vecStep (o : List St) (s : St) : List St := if 0 < o.length ∧ (o.getD (o.length - 1) ⟨[], 0⟩).dept = s.dept then o.set (o.length - 1) s else o ++ [s]
def vecL (l : List De) : List St := (l.map (·.st)).foldl vecStep []
theorem vec_step (l : List De) (i : Nat) (h : i < l.length) : vecL (l.take (i + 1)) = vecStep (vecL (l.take i)) l[i].st := by
  unfold vecL
  rw [List.take_succ_eq_append_getElem h, List.map_append, List.foldl_append]
  rfl
theorem vecStep_len (o : List St) (s : St) : (vecStep o s).length ≤ o.length + 1 := by
  unfold vecStep; split <;> simp
theorem vec_len (l : List De) : (vecL l).length ≤ l.length := by
  have e1 : (l.map (·.st)).length = l.length := List.length_map _
  unfold vecL
  rw [← e1]
  generalize l.map (·.st) = s
  have : ∀ (s o : List St), (s.foldl vecStep o).length ≤ o.length + s.length := by
    intro s
    induction s with
    | nil => simp
    | cons x s ih =>
      intro o
      have h1 := ih (vecStep o x)
      have h2 := vecStep_len o x
      simp only [List.foldl_cons, List.length_cons] at h1 ⊢
      omega
  have := this s []
  simpa using this
theorem set_stA (l : List St) (i : Nat) (x : St) : (l.map stA).set i (.agg [.str x.dept, .int .i64 x.no]) = (l.set i x).map stA := by
  rw [List.map_set]; rfl

set_option maxHeartbeats 4000000 in
theorem rvec_pc (l : List De) (hl : l.length < 1000000) : Pc Tryz.prog 105 [.fz 7 (l.map deA)] (· = .fz 2 ((vecL l).map stA)) := by
  refine pc_intro (ct_intro Tryz.func105 rfl Tryz.ntmps105 hB105 (by simp) fun h ρ w => goB (N := 41) Tryz.ntmps105 300 ?_)
  simp only [go_sem]
  refine aloop (ι := Nat) (fun i => l.length - i) (fun i => [(9, .int .i64 i), (8, .int .i64 l.length), (7, .fz 7 (l.map deA)), (3, .sl 0 0 (vecL (l.take i)).length (vecL (l.take i)).length)])
    (fun i => [.arr 2 ((vecL (l.take i)).map stA)]) (fun i => i ≤ l.length) 0 (by simp) ?_ ?_
  · refine Shift.trans (Shift.nilsl 3 2 rfl) (Shift.weak ?_)
    simp only [wk, go_sem, List.length_map, vecL, List.take_zero, List.map_nil, List.foldl_nil]
  intro i g1 J hJ
  by_cases gi : i < l.length
  · have di : decide ((i : Int) < (l.length : Int)) = true := by simp; omega
    have hst := vec_step l i gi
    have hle := vec_len (l.take i)
    rw [List.length_take] at hle
    have hfin := hJ (i + 1) (by omega) (by omega)
    rw [hst] at hfin
    generalize vecL (l.take i) = o at *
    have p1 := deA_get l i gi
    by_cases ho : 0 < o.length
    · have dk : decide ((o.length : Int) - 1 ≥ 0) = true := by simp; omega
      have ek : ((o.length : Int) - 1).toNat = o.length - 1 := by omega
      have p2 := stA_get o (o.length - 1) (by omega)
      have hgo : o.getD (o.length - 1) ⟨[], 0⟩ = o[o.length - 1] := by
        rw [List.getD_eq_getElem?_getD, List.getElem?_eq_getElem (by omega)]; rfl
      by_cases hd : (o[o.length - 1]'(by omega)).dept = l[i].st.dept
      · have dd : ((o[o.length - 1]'(by omega)).dept == l[i].st.dept) = true := by simpa using hd
        have s1 := set_stA o (o.length - 1) l[i].st
        unfold vecStep at hfin
        rw [hgo, if_pos ⟨ho, hd⟩] at hfin
        simp only [List.length_set] at hfin
        refine goB (N := 41) Tryz.ntmps105 300 ?_
        simp only [go_sem, di, p1, List.length_map]
        repeat refine And.intro (by first | omega | rfl | exact .inl rfl | exact .inl trivial | (simp; done) | (simp; omega)) ?_
        refine adraw [] mixed (by decide) (N := 41) Tryz.ntmps105 (by decide) 100 ?_
        simp only [go_sem, dk, ek, p2, dd, List.length_map]
        repeat refine And.intro (by first | omega | rfl | exact .inl rfl | exact .inl trivial | (simp; done) | (simp; omega)) ?_
        refine goB (N := 41) Tryz.ntmps105 300 ?_
        simp only [go_sem, ek, p2, s1, List.length_map]
        repeat refine And.intro (by first | omega | rfl | exact .inl rfl | exact .inl trivial | (simp; done) | (simp; omega)) ?_
        rw [show (i : Int) + 1 = ((i + 1 : Nat) : Int) by omega]
        refine ainv hfin (Shift.low 1 (by simp) (by simp) ?_ ?_)
        · simp only [List.take_succ_cons, List.take_zero, List.all_cons, List.all_nil, low_sts, Bool.and_self]
        · simp only [wkl, lowV, lowC, Av.get, go_sem]
      · have dd : ((o[o.length - 1]'(by omega)).dept == l[i].st.dept) = false := by simpa using hd
        unfold vecStep at hfin
        rw [hgo, if_neg (fun h => hd h.2)] at hfin
        simp only [List.length_append, List.length_cons, List.length_nil, List.map_append, List.map_cons, List.map_nil, Nat.zero_add, stA] at hfin
        refine goB (N := 41) Tryz.ntmps105 300 ?_
        simp only [go_sem, di, p1, List.length_map]
        repeat refine And.intro (by first | omega | rfl | exact .inl rfl | exact .inl trivial | (simp; done) | (simp; omega)) ?_
        refine adraw [] mixed (by decide) (N := 41) Tryz.ntmps105 (by decide) 100 ?_
        simp only [go_sem, dk, ek, p2, dd, List.length_map]
        repeat refine And.intro (by first | omega | rfl | exact .inl rfl | exact .inl trivial | (simp; done) | (simp; omega)) ?_
        refine goB (N := 41) Tryz.ntmps105 300 ?_
        simp only [go_sem, List.length_map]
        repeat refine And.intro (by first | omega | rfl | exact .inl rfl | exact .inl trivial | (simp; done) | (simp; omega)) ?_
        rw [show (i : Int) + 1 = ((i + 1 : Nat) : Int) by omega]
        refine ainv hfin (Shift.low 1 (by simp) (by simp) ?_ ?_)
        · have h1 := low_sts 1 (o ++ [l[i].st])
          simp only [List.map_append, List.map_cons, List.map_nil, stA] at h1
          simpa only [List.take_succ_cons, List.take_zero, List.all_cons, List.all_nil, Bool.and_true, stA] using h1
        · simp only [wkl, lowV, lowC, Av.get, go_sem]
    · have dk : decide ((o.length : Int) - 1 ≥ 0) = false := by simp; omega
      unfold vecStep at hfin
      rw [if_neg (fun h => ho h.1)] at hfin
      simp only [List.length_append, List.length_cons, List.length_nil, List.map_append, List.map_cons, List.map_nil, Nat.zero_add, stA] at hfin
      refine goB (N := 41) Tryz.ntmps105 300 ?_
      simp only [go_sem, di, p1, List.length_map]
      repeat refine And.intro (by first | omega | rfl | exact .inl rfl | exact .inl trivial | (simp; done) | (simp; omega)) ?_
      refine adraw [] mixed (by decide) (N := 41) Tryz.ntmps105 (by decide) 100 ?_
      simp only [go_sem, dk, List.length_map]
      repeat refine And.intro (by first | omega | rfl | exact .inl rfl | exact .inl trivial | (simp; done) | (simp; omega)) ?_
      refine goB (N := 41) Tryz.ntmps105 300 ?_
      simp only [go_sem, List.length_map]
      repeat refine And.intro (by first | omega | rfl | exact .inl rfl | exact .inl trivial | (simp; done) | (simp; omega)) ?_
      rw [show (i : Int) + 1 = ((i + 1 : Nat) : Int) by omega]
      refine ainv hfin (Shift.low 1 (by simp) (by simp) ?_ ?_)
      · have h1 := low_sts 1 (o ++ [l[i].st])
        simp only [List.map_append, List.map_cons, List.map_nil, stA] at h1
        simpa only [List.take_succ_cons, List.take_zero, List.all_cons, List.all_nil, Bool.and_true, stA] using h1
      · simp only [wkl, lowV, lowC, Av.get, go_sem]
  · have di : decide ((i : Int) < (l.length : Int)) = false := by simp; omega
    rw [List.take_of_length_le (by omega)]
    refine goB (N := 41) Tryz.ntmps105 300 ?_
    simp only [go_sem, di]
    exact ARet.shift (Shift.freeze 2 (id := 0) (l := (vecL l).map stA) rfl rfl (by simp) (Nat.le_refl _) (stA_frz _)) (aret [2] rfl ⟨by simp only [resV, Av.get, Av.put, beq_self_eq_true, cond_true, List.drop_zero, take_map], rfl⟩)

set_option maxHeartbeats 4000000 in
theorem ovec_pc (l : List De) (hl : l.length < 1000000) : Pc Tryz.prog 37 [.fz 7 (l.map deA)] (· = .fz 2 ((vecL l).map stA)) := by
  refine pc_intro (ct_intro Tryz.func37 rfl Tryz.ntmps37 hB37 (by simp) fun h ρ w => goB (N := 41) Tryz.ntmps37 300 ?_)
  simp only [go_sem]
  refine aloop (ι := Nat) (fun i => l.length - i) (fun i => [(9, .int .i64 i), (8, .int .i64 l.length), (7, .fz 7 (l.map deA)), (3, .sl 0 0 (vecL (l.take i)).length (vecL (l.take i)).length)])
    (fun i => [.arr 2 ((vecL (l.take i)).map stA)]) (fun i => i ≤ l.length) 0 (by simp) ?_ ?_
  · refine Shift.trans (Shift.nilsl 3 2 rfl) (Shift.weak ?_)
    simp only [wk, go_sem, List.length_map, vecL, List.take_zero, List.map_nil, List.foldl_nil]
  intro i g1 J hJ
  by_cases gi : i < l.length
  · have di : decide ((i : Int) < (l.length : Int)) = true := by simp; omega
    have hst := vec_step l i gi
    have hle := vec_len (l.take i)
    rw [List.length_take] at hle
    have hfin := hJ (i + 1) (by omega) (by omega)
    rw [hst] at hfin
    generalize vecL (l.take i) = o at *
    have p1 := deA_get l i gi
    by_cases ho : 0 < o.length
    · have dk : decide ((o.length : Int) - 1 ≥ 0) = true := by simp; omega
      have ek : ((o.length : Int) - 1).toNat = o.length - 1 := by omega
      have p2 := stA_get o (o.length - 1) (by omega)
      have hgo : o.getD (o.length - 1) ⟨[], 0⟩ = o[o.length - 1] := by
        rw [List.getD_eq_getElem?_getD, List.getElem?_eq_getElem (by omega)]; rfl
      by_cases hd : (o[o.length - 1]'(by omega)).dept = l[i].st.dept
      · have dd : ((o[o.length - 1]'(by omega)).dept == l[i].st.dept) = true := by simpa using hd
        have s1 := set_stA o (o.length - 1) l[i].st
        unfold vecStep at hfin
        rw [hgo, if_pos ⟨ho, hd⟩] at hfin
        simp only [List.length_set] at hfin
        refine goB (N := 41) Tryz.ntmps37 300 ?_
        simp only [go_sem, di, p1, List.length_map]
        repeat refine And.intro (by first | omega | rfl | exact .inl rfl | exact .inl trivial | (simp; done) | (simp; omega)) ?_
        refine adraw [] mixed (by decide) (N := 41) Tryz.ntmps37 (by decide) 100 ?_
        simp only [go_sem, dk, ek, p2, dd, List.length_map]
        repeat refine And.intro (by first | omega | rfl | exact .inl rfl | exact .inl trivial | (simp; done) | (simp; omega)) ?_
        refine goB (N := 41) Tryz.ntmps37 300 ?_
        simp only [go_sem, ek, p2, s1, List.length_map]
        repeat refine And.intro (by first | omega | rfl | exact .inl rfl | exact .inl trivial | (simp; done) | (simp; omega)) ?_
        rw [show (i : Int) + 1 = ((i + 1 : Nat) : Int) by omega]
        refine ainv hfin (Shift.low 1 (by simp) (by simp) ?_ ?_)
        · simp only [List.take_succ_cons, List.take_zero, List.all_cons, List.all_nil, low_sts, Bool.and_self]
        · simp only [wkl, lowV, lowC, Av.get, go_sem]
      · have dd : ((o[o.length - 1]'(by omega)).dept == l[i].st.dept) = false := by simpa using hd
        unfold vecStep at hfin
        rw [hgo, if_neg (fun h => hd h.2)] at hfin
        simp only [List.length_append, List.length_cons, List.length_nil, List.map_append, List.map_cons, List.map_nil, Nat.zero_add, stA] at hfin
        refine goB (N := 41) Tryz.ntmps37 300 ?_
        simp only [go_sem, di, p1, List.length_map]
        repeat refine And.intro (by first | omega | rfl | exact .inl rfl | exact .inl trivial | (simp; done) | (simp; omega)) ?_
        refine adraw [] mixed (by decide) (N := 41) Tryz.ntmps37 (by decide) 100 ?_
        simp only [go_sem, dk, ek, p2, dd, List.length_map]
        repeat refine And.intro (by first | omega | rfl | exact .inl rfl | exact .inl trivial | (simp; done) | (simp; omega)) ?_
        refine goB (N := 41) Tryz.ntmps37 300 ?_
        simp only [go_sem, List.length_map]
        repeat refine And.intro (by first | omega | rfl | exact .inl rfl | exact .inl trivial | (simp; done) | (simp; omega)) ?_
        rw [show (i : Int) + 1 = ((i + 1 : Nat) : Int) by omega]
        refine ainv hfin (Shift.low 1 (by simp) (by simp) ?_ ?_)
        · have h1 := low_sts 1 (o ++ [l[i].st])
          simp only [List.map_append, List.map_cons, List.map_nil, stA] at h1
          simpa only [List.take_succ_cons, List.take_zero, List.all_cons, List.all_nil, Bool.and_true, stA] using h1
        · simp only [wkl, lowV, lowC, Av.get, go_sem]
    · have dk : decide ((o.length : Int) - 1 ≥ 0) = false := by simp; omega
      unfold vecStep at hfin
      rw [if_neg (fun h => ho h.1)] at hfin
      simp only [List.length_append, List.length_cons, List.length_nil, List.map_append, List.map_cons, List.map_nil, Nat.zero_add, stA] at hfin
      refine goB (N := 41) Tryz.ntmps37 300 ?_
      simp only [go_sem, di, p1, List.length_map]
      repeat refine And.intro (by first | omega | rfl | exact .inl rfl | exact .inl trivial | (simp; done) | (simp; omega)) ?_
      refine adraw [] mixed (by decide) (N := 41) Tryz.ntmps37 (by decide) 100 ?_
      simp only [go_sem, dk, List.length_map]
      repeat refine And.intro (by first | omega | rfl | exact .inl rfl | exact .inl trivial | (simp; done) | (simp; omega)) ?_
      refine goB (N := 41) Tryz.ntmps37 300 ?_
      simp only [go_sem, List.length_map]
      repeat refine And.intro (by first | omega | rfl | exact .inl rfl | exact .inl trivial | (simp; done) | (simp; omega)) ?_
      rw [show (i : Int) + 1 = ((i + 1 : Nat) : Int) by omega]
      refine ainv hfin (Shift.low 1 (by simp) (by simp) ?_ ?_)
      · have h1 := low_sts 1 (o ++ [l[i].st])
        simp only [List.map_append, List.map_cons, List.map_nil, stA] at h1
        simpa only [List.take_succ_cons, List.take_zero, List.all_cons, List.all_nil, Bool.and_true, stA] using h1
      · simp only [wkl, lowV, lowC, Av.get, go_sem]
  · have di : decide ((i : Int) < (l.length : Int)) = false := by simp; omega
    rw [List.take_of_length_le (by omega)]
    refine goB (N := 41) Tryz.ntmps37 300 ?_
    simp only [go_sem, di]
    exact ARet.shift (Shift.freeze 2 (id := 0) (l := (vecL l).map stA) rfl rfl (by simp) (Nat.le_refl _) (stA_frz _)) (aret [2] rfl ⟨by simp only [resV, Av.get, Av.put, beq_self_eq_true, cond_true, List.drop_zero, take_map], rfl⟩)

theorem vector_pc (l : List De) (hl : SzL l) : Pc Tryz.prog 24 [.fz 7 (l.map deA)] (fun r => ∃ (v : List St) (n : Int), r = .tup [.fz 2 (v.map stA), .int .i64 n] ∧ (CkOk l → n = 0 ∧ v = vecL l) ∧ (n = 0 → CkOk l)) := by
  have hc := check_pc l hl
  have hv := ovec_pc l hl.len
  refine pc_intro (ct_intro Tryz.func24 rfl Tryz.ntmps24 hB24 (by simp) fun h ρ w => goB (N := 12) Tryz.ntmps24 300 ?_)
  simp only [go_sem]
  refine pcall (hc) rfl (N := 12) Tryz.ntmps24 rfl ?_
  rintro _ ⟨n, rfl, hn⟩
  cases e0 : n != 0 with
  | true =>
    have e0' : n ≠ 0 := by simpa using e0
    refine goB (N := 12) Tryz.ntmps24 300 ?_
    simp only [go_sem, e0]
    exact ARet.shift (Shift.nilfz 2 2 rfl) (aret [2, 3] rfl ⟨⟨[], n, rfl, fun h => absurd (hn.2 h) e0', fun h => absurd h e0'⟩, rfl⟩)
  | false =>
    have e0' : n = 0 := by simpa using e0
    refine goB (N := 12) Tryz.ntmps24 300 ?_
    simp only [go_sem, e0]
    refine pcall1 (hv) rfl (N := 12) Tryz.ntmps24 rfl (goB (N := 12) Tryz.ntmps24 300 ?_)
    simp only [go_sem]
    exact aret [2, 3] rfl ⟨⟨vecL l, 0, rfl, fun _ => ⟨rfl, rfl⟩, fun _ => hn.1 e0'⟩, rfl⟩
end Go.Proofs.YtkomcdohejibmaaGreatDoor
/- Views of deeds. Own work of this seat. -/
set_option maxRecDepth 100000
set_option linter.unusedSimpArgs false
set_option linter.unusedVariables false
namespace Go.Proofs.YtkomcdohejibmaaGreatDoor
open Go Go.Av Go.RowKit

set_option maxHeartbeats 4000000 in
theorem viewFault_pc (l : List De) (seen : List St) (hl : SzL l) (hs : seen.length < 1000000) (hk : ∀ s ∈ seen, s.dept.length < 1000000) :
    Pc Tryz.prog 63 [.fz 7 (l.map deA), .fz 2 (seen.map stA)] (fun r => ∃ n : Int, r = .int .i64 n ∧ (n = 0 ↔ CkOk l ∧ SeenOk (l.map (·.st)) [] seen)) := by
  have hc := check_pc l hl
  have hlen := hl.len
  refine pc_intro (ct_intro Tryz.func63 rfl Tryz.ntmps63 hB63 (by simp) fun h ρ w => goB (N := 29) Tryz.ntmps63 300 ?_)
  simp only [go_sem]
  refine pcall (hc) rfl (N := 29) Tryz.ntmps63 rfl ?_
  rintro _ ⟨n, rfl, hn⟩
  cases e0 : n != 0 with
  | true =>
    have e0' : n ≠ 0 := by simpa using e0
    refine goB (N := 29) Tryz.ntmps63 300 ?_
    simp only [go_sem, e0]
    exact aret [4] rfl ⟨⟨n, rfl, ⟨fun h => absurd h e0', fun h => absurd (hn.2 h.1) e0'⟩⟩, rfl⟩
  | false =>
    have e0' : n = 0 := by simpa using e0
    refine goB (N := 29) Tryz.ntmps63 300 ?_
    simp only [go_sem, e0, List.length_map]
    refine aloop (ι := Nat × List St) (fun y => l.length - y.1)
      (fun y => [(17, .int .i64 y.1), (16, .int .i64 l.length), (15, .fz 7 (l.map deA)), (6, .mp 0), (1, .fz 2 (seen.map stA))])
      (fun y => [.mp (thM y.2)]) (fun y => y.1 ≤ l.length ∧ ∀ s, s ∈ y.2 ↔ s ∈ (l.take y.1).map (·.st)) (0, []) ⟨by simp, by simp⟩ ?_ ?_
    · refine Shift.weakS ?_ rfl
      simp only [wk, go_sem, List.length_map]
    rintro ⟨i, ks⟩ ⟨g1, g2⟩ J hJ
    simp only at g1 g2 hJ ⊢
    by_cases gi : i < l.length
    · have di : decide ((i : Int) < (l.length : Int)) = true := by simp; omega
      have hst := map_step l i gi
      have hlow : ∀ x : Blk, ([Blk.mp (thM ks), x].take 1).all (lowB 1) = true := fun x => by
        simp only [List.take_succ_cons, List.take_zero, List.all_cons, List.all_nil, low_thM, Bool.and_self]
      rcases thM_find l[i].st ks with ⟨m1, m2⟩ | ⟨q, m1, m2⟩
      · have hfin := hJ (i + 1, ks ++ [l[i].st]) ⟨by simp only; omega, fun s => by rw [hst, List.map_append, List.mem_append, List.mem_append, g2]; simp only [List.map_cons, List.map_nil]⟩ (by simp only; omega)
        simp only [stA] at m1
        rw [← thM_push] at hfin
        simp only [stA] at hfin
        refine goB (N := 29) Tryz.ntmps63 300 ?_
        simp only [go_sem, di, deA_get l i gi, List.length_map, m1]
        repeat refine And.intro (by first | omega | rfl | kernel_rfl | exact .inl rfl | exact .inl trivial | (simp; done) | (simp; omega)) ?_
        rw [show (i : Int) + 1 = ((i + 1 : Nat) : Int) by omega]
        refine ainv hfin (Shift.low 1 (by simp) (by simp) ?_ ?_)
        · have := low_thM 1 (ks ++ [l[i].st])
          rw [← thM_push] at this
          simp only [stA] at this
          simp only [List.take_succ_cons, List.take_zero, List.all_cons, List.all_nil, this, Bool.and_self]
        · simp only [wkl, lowV, lowC, Av.get, go_sem]
      · have m3 : l[i].st ∈ ks := List.mem_of_getElem? m2
        have hfin := hJ (i + 1, ks) ⟨by simp only; omega, fun s => by
          rw [hst, List.map_append, List.mem_append, ← g2]
          exact ⟨.inl, fun h => h.elim id fun h => by simp at h; rw [h]; exact m3⟩⟩ (by simp only; omega)
        have hset := thM_set ks _ _ m2
        simp only [stA] at m1 hset
        refine goB (N := 29) Tryz.ntmps63 300 ?_
        simp only [go_sem, di, deA_get l i gi, List.length_map, m1, hset]
        repeat refine And.intro (by first | omega | rfl | kernel_rfl | exact .inl rfl | exact .inl trivial | (simp; done) | (simp; omega)) ?_
        rw [show (i : Int) + 1 = ((i + 1 : Nat) : Int) by omega]
        refine ainv hfin (Shift.low 1 (by simp) (by simp) (hlow _) ?_)
        simp only [wkl, lowV, lowC, Av.get, go_sem]
    · have di : decide ((i : Int) < (l.length : Int)) = false := by simp; omega
      have hi : i = l.length := by omega
      rw [hi, List.take_length] at g2
      have hks : ∀ own seen, SeenOk ks own seen ↔ SeenOk (l.map (·.st)) own seen := fun own seen => SeenOk.congr g2
      have hcs := checkSeen_ct ⟨⟨[], 0⟩, seen, 0, [], [], []⟩ ks [] rfl hs hk
      simp only [deA] at hcs
      refine goB (N := 29) Tryz.ntmps63 300 ?_
      simp only [go_sem, di]
      repeat refine And.intro (by first | omega | rfl | kernel_rfl | (simp; done)) ?_
      refine acall (hcs) (N := 29) Tryz.ntmps63 rfl ?_
      rintro _ _ ⟨⟨n2, rfl, hn2⟩, rfl⟩
      rw [hks] at hn2
      refine goB (N := 29) Tryz.ntmps63 300 ?_
      simp only [go_sem]
      exact aret [4] rfl ⟨⟨n2, rfl, hn2.trans ⟨fun h => ⟨hn.1 e0', h⟩, fun h => h.2⟩⟩, rfl⟩
theorem viewFn_pc (seen : List St) (d : De) (hs : seen.length < 1000000) : Pc Tryz.prog 64 [deA d, .pin 1 [.fz 2 (seen.map stA)] 0 0] (· = .bool (coversL seen d.st)) := by
  have hc := covers_pc seen d.st hs
  simp only [deA, stA] at hc ⊢
  refine pc_intro (ct_intro Tryz.func64 rfl Tryz.ntmps64 hB64 (by simp) fun h ρ w => goB (N := 8) Tryz.ntmps64 300 ?_)
  simp only [go_sem]
  refine pcall1 (hc) rfl (N := 8) Tryz.ntmps64 rfl (goB (N := 8) Tryz.ntmps64 300 ?_)
  simp only [go_sem]
  exact aret [3] rfl ⟨rfl, rfl⟩
theorem sinceFn_pc (seen : List St) (d : De) (hs : seen.length < 1000000) : Pc Tryz.prog 67 [deA d, .pin 1 [.fz 2 (seen.map stA)] 0 0] (· = .bool (!coversL seen d.st)) := by
  have hc := covers_pc seen d.st hs
  simp only [deA, stA] at hc ⊢
  refine pc_intro (ct_intro Tryz.func67 rfl Tryz.ntmps67 hB67 (by simp) fun h ρ w => goB (N := 9) Tryz.ntmps67 300 ?_)
  simp only [go_sem]
  refine pcall1 (hc) rfl (N := 9) Tryz.ntmps67 rfl (goB (N := 9) Tryz.ntmps67 300 ?_)
  simp only [go_sem]
  exact aret [3] rfl ⟨rfl, rfl⟩
def viewL (l : List De) (seen : List St) : List De := l.filter fun d => coversL seen d.st
def restL (l : List De) (seen : List St) : List De := l.filter fun d => !coversL seen d.st
theorem view_pc (l : List De) (seen : List St) (hl : SzL l) (hs : seen.length < 1000000) (hk : ∀ s ∈ seen, s.dept.length < 1000000) :
    Pc Tryz.prog 22 [.fz 7 (l.map deA), .fz 2 (seen.map stA)] (fun r => ∃ (l' : List De) (n : Int), r = .tup [.fz 7 (l'.map deA), .int .i64 n] ∧ (n = 0 ↔ CkOk l ∧ SeenOk (l.map (·.st)) [] seen ∧ CkOk (viewL l seen)) ∧ (n = 0 → l' = viewL l seen)) := by
  have hv := viewFault_pc l seen hl hs hk
  have hch := chosen_pc 64 [.pin 1 [.fz 2 (seen.map stA)] 0 0] rfl (fun d => coversL seen d.st) l hl.sz fun x _ => viewFn_pc seen x hs
  have hck := check_pc (viewL l seen) ⟨Nat.lt_of_le_of_lt (List.length_filter_le _ _) hl.len, fun d hd => hl.all d (List.mem_filter.1 hd).1⟩
  refine pc_intro (ct_intro Tryz.func22 rfl Tryz.ntmps22 hB22 (by simp) fun h ρ w => goB (N := 21) Tryz.ntmps22 300 ?_)
  simp only [go_sem]
  refine pcall (hv) rfl (N := 21) Tryz.ntmps22 rfl ?_
  rintro _ ⟨n, rfl, hn⟩
  cases e0 : n != 0 with
  | true =>
    have e0' : n ≠ 0 := by simpa using e0
    refine goB (N := 21) Tryz.ntmps22 300 ?_
    simp only [go_sem, e0]
    exact ARet.shift (Shift.nilfz 4 7 rfl) (aret [4, 5] rfl ⟨⟨[], n, rfl, ⟨fun h => absurd h e0', fun h => absurd (hn.2 ⟨h.1, h.2.1⟩) e0'⟩, fun h => absurd h e0'⟩, rfl⟩)
  | false =>
    have e0' : n = 0 := by simpa using e0
    refine goB (N := 21) Tryz.ntmps22 300 ?_
    simp only [go_sem, e0]
    refine pcall1 (hch) rfl (N := 21) Tryz.ntmps22 rfl (goB (N := 21) Tryz.ntmps22 300 ?_)
    simp only [go_sem]
    refine pcall (hck) rfl (N := 21) Tryz.ntmps22 rfl ?_
    rintro _ ⟨n2, rfl, hn2⟩
    cases e2 : n2 != 0 with
    | true =>
      have e2' : n2 ≠ 0 := by simpa using e2
      refine goB (N := 21) Tryz.ntmps22 300 ?_
      simp only [go_sem, e2]
      exact ARet.shift (Shift.nilfz 4 7 rfl) (aret [4, 5] rfl ⟨⟨[], 3, rfl, ⟨fun h => absurd h (by decide), fun h => absurd (hn2.2 h.2.2) e2'⟩, fun h => absurd h (by decide)⟩, rfl⟩)
    | false =>
      have e2' : n2 = 0 := by simpa using e2
      refine goB (N := 21) Tryz.ntmps22 300 ?_
      simp only [go_sem, e2]
      exact aret [4, 5] rfl ⟨⟨viewL l seen, 0, rfl, ⟨fun _ => ⟨(hn.1 e0').1, (hn.1 e0').2, hn2.1 e2'⟩, fun _ => rfl⟩, fun _ => rfl⟩, rfl⟩
theorem since_pc (l : List De) (seen : List St) (hl : SzL l) (hs : seen.length < 1000000) (hk : ∀ s ∈ seen, s.dept.length < 1000000) :
    Pc Tryz.prog 25 [.fz 7 (l.map deA), .fz 2 (seen.map stA)] (fun r => ∃ (l' : List De) (n : Int), r = .tup [.fz 7 (l'.map deA), .int .i64 n] ∧ (n = 0 ↔ CkOk l ∧ SeenOk (l.map (·.st)) [] seen) ∧ (n = 0 → l' = restL l seen)) := by
  have hv := viewFault_pc l seen hl hs hk
  have hch := chosen_pc 67 [.pin 1 [.fz 2 (seen.map stA)] 0 0] rfl (fun d => !coversL seen d.st) l hl.sz fun x _ => sinceFn_pc seen x hs
  refine pc_intro (ct_intro Tryz.func25 rfl Tryz.ntmps25 hB25 (by simp) fun h ρ w => goB (N := 16) Tryz.ntmps25 300 ?_)
  simp only [go_sem]
  refine pcall (hv) rfl (N := 16) Tryz.ntmps25 rfl ?_
  rintro _ ⟨n, rfl, hn⟩
  cases e0 : n != 0 with
  | true =>
    have e0' : n ≠ 0 := by simpa using e0
    refine goB (N := 16) Tryz.ntmps25 300 ?_
    simp only [go_sem, e0]
    exact ARet.shift (Shift.nilfz 4 7 rfl) (aret [4, 5] rfl ⟨⟨[], n, rfl, ⟨fun h => absurd h e0', fun h => absurd (hn.2 h) e0'⟩, fun h => absurd h e0'⟩, rfl⟩)
  | false =>
    have e0' : n = 0 := by simpa using e0
    refine goB (N := 16) Tryz.ntmps25 300 ?_
    simp only [go_sem, e0]
    refine pcall1 (hch) rfl (N := 16) Tryz.ntmps25 rfl (goB (N := 16) Tryz.ntmps25 300 ?_)
    simp only [go_sem]
    exact aret [4, 5] rfl ⟨⟨restL l seen, 0, rfl, ⟨fun _ => hn.1 e0', fun _ => rfl⟩, fun _ => rfl⟩, rfl⟩
end Go.Proofs.YtkomcdohejibmaaGreatDoor
