/- Vectors of deeds; views. Own work of this seat. -/
import Derived.Test.YtkomcdohejibmaaGreatDoorY30
import Derived.Test.YtkomcdohejibmaaGreatDoorY22
import Derived.Shelf.SlGeneric
import Derived.Shelf.SlSortCmp.WholeK
import Derived.Shelf.SlIter.Nil
import Derived.Shelf.SortM.Plain
import Derived.Shelf.SortM.SortNone
import Derived.Test.YtkomcdohejibmaaGreatDoorProg
set_option maxRecDepth 100000
set_option linter.unusedSimpArgs false
set_option linter.unusedVariables false
namespace Go.Proofs.YtkomcdohejibmaaGreatDoor
open Go Go.Av Go.RowKit

/-- one deed more in a vector -/
def vecStep (o : List St) (s : St) : List St := if 0 < o.length ∧ (o.getD (o.length - 1) ⟨[], 0⟩).dept = s.dept then o.set (o.length - 1) s else o ++ [s]
def vecL (l : List De) : List St := (l.map (·.st)).foldl vecStep []
theorem vec_step (l : List De) (i : Nat) (h : i < l.length) : vecL (l.take (i + 1)) = vecStep (vecL (l.take i)) l[i].st := by
  unfold vecL
  rw [List.take_succ_eq_append_getElem h, List.map_append, List.foldl_append]
  rfl
theorem vecStep_len (o : List St) (s : St) : (vecStep o s).length ≤ o.length + 1 := by
  unfold vecStep; split <;> simp
theorem vec_len (l : List De) : (vecL l).length ≤ l.length := by
  have e1 : (l.map (·.st)).length = l.length := List.length_map _
  unfold vecL
  rw [← e1]
  generalize l.map (·.st) = s
  have : ∀ (s o : List St), (s.foldl vecStep o).length ≤ o.length + s.length := by
    intro s
    induction s with
    | nil => simp
    | cons x s ih =>
      intro o
      have h1 := ih (vecStep o x)
      have h2 := vecStep_len o x
      simp only [List.foldl_cons, List.length_cons] at h1 ⊢
      omega
  have := this s []
  simpa using this
theorem set_stA (l : List St) (i : Nat) (x : St) : (l.map stA).set i (.agg [.str x.dept, .int .i64 x.no]) = (l.set i x).map stA := by
  rw [List.map_set]; rfl

set_option maxHeartbeats 4000000 in
theorem rvec_pc (l : List De) (hl : l.length < 1000000) : Pc Tryz.prog 105 [.fz 7 (l.map deA)] (· = .fz 2 ((vecL l).map stA)) := by
  refine pc_intro (ct_intro Tryz.func105 rfl Tryz.ntmps105 hB105 (by simp) fun h ρ w => goB (N := 41) Tryz.ntmps105 300 ?_)
  simp only [go_sem]
  refine aloop (ι := Nat) (fun i => l.length - i) (fun i => [(9, .int .i64 i), (8, .int .i64 l.length), (7, .fz 7 (l.map deA)), (3, .sl 0 0 (vecL (l.take i)).length (vecL (l.take i)).length)])
    (fun i => [.arr 2 ((vecL (l.take i)).map stA)]) (fun i => i ≤ l.length) 0 (by simp) ?_ ?_
  · refine Shift.trans (Shift.nilsl 3 2 rfl) (Shift.weak ?_)
    simp only [wk, go_sem, List.length_map, vecL, List.take_zero, List.map_nil, List.foldl_nil]
  intro i g1 J hJ
  by_cases gi : i < l.length
  · have di : decide ((i : Int) < (l.length : Int)) = true := by simp; omega
    have hst := vec_step l i gi
    have hle := vec_len (l.take i)
    rw [List.length_take] at hle
    have hfin := hJ (i + 1) (by omega) (by omega)
    rw [hst] at hfin
    generalize vecL (l.take i) = o at *
    have p1 := deA_get l i gi
    by_cases ho : 0 < o.length
    · have dk : decide ((o.length : Int) - 1 ≥ 0) = true := by simp; omega
      have ek : ((o.length : Int) - 1).toNat = o.length - 1 := by omega
      have p2 := stA_get o (o.length - 1) (by omega)
      have hgo : o.getD (o.length - 1) ⟨[], 0⟩ = o[o.length - 1] := by
        rw [List.getD_eq_getElem?_getD, List.getElem?_eq_getElem (by omega)]; rfl
      by_cases hd : (o[o.length - 1]'(by omega)).dept = l[i].st.dept
      · have dd : ((o[o.length - 1]'(by omega)).dept == l[i].st.dept) = true := by simpa using hd
        have s1 := set_stA o (o.length - 1) l[i].st
        unfold vecStep at hfin
        rw [hgo, if_pos ⟨ho, hd⟩] at hfin
        simp only [List.length_set] at hfin
        refine goB (N := 41) Tryz.ntmps105 300 ?_
        simp only [go_sem, di, p1, List.length_map]
        repeat refine And.intro (by first | omega | rfl | exact .inl rfl | exact .inl trivial | (simp; done) | (simp; omega)) ?_
        refine adraw [] mixed (by decide) (N := 41) Tryz.ntmps105 (by decide) 100 ?_
        simp only [go_sem, dk, ek, p2, dd, List.length_map]
        repeat refine And.intro (by first | omega | rfl | exact .inl rfl | exact .inl trivial | (simp; done) | (simp; omega)) ?_
        refine goB (N := 41) Tryz.ntmps105 300 ?_
        simp only [go_sem, ek, p2, s1, List.length_map]
        repeat refine And.intro (by first | omega | rfl | exact .inl rfl | exact .inl trivial | (simp; done) | (simp; omega)) ?_
        rw [show (i : Int) + 1 = ((i + 1 : Nat) : Int) by omega]
        refine ainv hfin (Shift.low 1 (by simp) (by simp) ?_ ?_)
        · simp only [List.take_succ_cons, List.take_zero, List.all_cons, List.all_nil, low_sts, Bool.and_self]
        · simp only [wkl, lowV, lowC, Av.get, go_sem]
      · have dd : ((o[o.length - 1]'(by omega)).dept == l[i].st.dept) = false := by simpa using hd
        unfold vecStep at hfin
        rw [hgo, if_neg (fun h => hd h.2)] at hfin
        simp only [List.length_append, List.length_cons, List.length_nil, List.map_append, List.map_cons, List.map_nil, Nat.zero_add, stA] at hfin
        refine goB (N := 41) Tryz.ntmps105 300 ?_
        simp only [go_sem, di, p1, List.length_map]
        repeat refine And.intro (by first | omega | rfl | exact .inl rfl | exact .inl trivial | (simp; done) | (simp; omega)) ?_
        refine adraw [] mixed (by decide) (N := 41) Tryz.ntmps105 (by decide) 100 ?_
        simp only [go_sem, dk, ek, p2, dd, List.length_map]
        repeat refine And.intro (by first | omega | rfl | exact .inl rfl | exact .inl trivial | (simp; done) | (simp; omega)) ?_
        refine goB (N := 41) Tryz.ntmps105 300 ?_
        simp only [go_sem, List.length_map]
        repeat refine And.intro (by first | omega | rfl | exact .inl rfl | exact .inl trivial | (simp; done) | (simp; omega)) ?_
        rw [show (i : Int) + 1 = ((i + 1 : Nat) : Int) by omega]
        refine ainv hfin (Shift.low 1 (by simp) (by simp) ?_ ?_)
        · have h1 := low_sts 1 (o ++ [l[i].st])
          simp only [List.map_append, List.map_cons, List.map_nil, stA] at h1
          simpa only [List.take_succ_cons, List.take_zero, List.all_cons, List.all_nil, Bool.and_true, stA] using h1
        · simp only [wkl, lowV, lowC, Av.get, go_sem]
    · have dk : decide ((o.length : Int) - 1 ≥ 0) = false := by simp; omega
      unfold vecStep at hfin
      rw [if_neg (fun h => ho h.1)] at hfin
      simp only [List.length_append, List.length_cons, List.length_nil, List.map_append, List.map_cons, List.map_nil, Nat.zero_add, stA] at hfin
      refine goB (N := 41) Tryz.ntmps105 300 ?_
      simp only [go_sem, di, p1, List.length_map]
      repeat refine And.intro (by first | omega | rfl | exact .inl rfl | exact .inl trivial | (simp; done) | (simp; omega)) ?_
      refine adraw [] mixed (by decide) (N := 41) Tryz.ntmps105 (by decide) 100 ?_
      simp only [go_sem, dk, List.length_map]
      repeat refine And.intro (by first | omega | rfl | exact .inl rfl | exact .inl trivial | (simp; done) | (simp; omega)) ?_
      refine goB (N := 41) Tryz.ntmps105 300 ?_
      simp only [go_sem, List.length_map]
      repeat refine And.intro (by first | omega | rfl | exact .inl rfl | exact .inl trivial | (simp; done) | (simp; omega)) ?_
      rw [show (i : Int) + 1 = ((i + 1 : Nat) : Int) by omega]
      refine ainv hfin (Shift.low 1 (by simp) (by simp) ?_ ?_)
      · have h1 := low_sts 1 (o ++ [l[i].st])
        simp only [List.map_append, List.map_cons, List.map_nil, stA] at h1
        simpa only [List.take_succ_cons, List.take_zero, List.all_cons, List.all_nil, Bool.and_true, stA] using h1
      · simp only [wkl, lowV, lowC, Av.get, go_sem]
  · have di : decide ((i : Int) < (l.length : Int)) = false := by simp; omega
    rw [List.take_of_length_le (by omega)]
    refine goB (N := 41) Tryz.ntmps105 300 ?_
    simp only [go_sem, di]
    exact ARet.shift (Shift.freeze 2 (id := 0) (l := (vecL l).map stA) rfl rfl (by simp) (Nat.le_refl _) (stA_frz _)) (aret [2] rfl ⟨by simp only [resV, Av.get, Av.put, beq_self_eq_true, cond_true, List.drop_zero, take_map], rfl⟩)

set_option maxHeartbeats 4000000 in
theorem ovec_pc (l : List De) (hl : l.length < 1000000) : Pc Tryz.prog 37 [.fz 7 (l.map deA)] (· = .fz 2 ((vecL l).map stA)) := by
  refine pc_intro (ct_intro Tryz.func37 rfl Tryz.ntmps37 hB37 (by simp) fun h ρ w => goB (N := 41) Tryz.ntmps37 300 ?_)
  simp only [go_sem]
  refine aloop (ι := Nat) (fun i => l.length - i) (fun i => [(9, .int .i64 i), (8, .int .i64 l.length), (7, .fz 7 (l.map deA)), (3, .sl 0 0 (vecL (l.take i)).length (vecL (l.take i)).length)])
    (fun i => [.arr 2 ((vecL (l.take i)).map stA)]) (fun i => i ≤ l.length) 0 (by simp) ?_ ?_
  · refine Shift.trans (Shift.nilsl 3 2 rfl) (Shift.weak ?_)
    simp only [wk, go_sem, List.length_map, vecL, List.take_zero, List.map_nil, List.foldl_nil]
  intro i g1 J hJ
  by_cases gi : i < l.length
  · have di : decide ((i : Int) < (l.length : Int)) = true := by simp; omega
    have hst := vec_step l i gi
    have hle := vec_len (l.take i)
    rw [List.length_take] at hle
    have hfin := hJ (i + 1) (by omega) (by omega)
    rw [hst] at hfin
    generalize vecL (l.take i) = o at *
    have p1 := deA_get l i gi
    by_cases ho : 0 < o.length
    · have dk : decide ((o.length : Int) - 1 ≥ 0) = true := by simp; omega
      have ek : ((o.length : Int) - 1).toNat = o.length - 1 := by omega
      have p2 := stA_get o (o.length - 1) (by omega)
      have hgo : o.getD (o.length - 1) ⟨[], 0⟩ = o[o.length - 1] := by
        rw [List.getD_eq_getElem?_getD, List.getElem?_eq_getElem (by omega)]; rfl
      by_cases hd : (o[o.length - 1]'(by omega)).dept = l[i].st.dept
      · have dd : ((o[o.length - 1]'(by omega)).dept == l[i].st.dept) = true := by simpa using hd
        have s1 := set_stA o (o.length - 1) l[i].st
        unfold vecStep at hfin
        rw [hgo, if_pos ⟨ho, hd⟩] at hfin
        simp only [List.length_set] at hfin
        refine goB (N := 41) Tryz.ntmps37 300 ?_
        simp only [go_sem, di, p1, List.length_map]
        repeat refine And.intro (by first | omega | rfl | exact .inl rfl | exact .inl trivial | (simp; done) | (simp; omega)) ?_
        refine adraw [] mixed (by decide) (N := 41) Tryz.ntmps37 (by decide) 100 ?_
        simp only [go_sem, dk, ek, p2, dd, List.length_map]
        repeat refine And.intro (by first | omega | rfl | exact .inl rfl | exact .inl trivial | (simp; done) | (simp; omega)) ?_
        refine goB (N := 41) Tryz.ntmps37 300 ?_
        simp only [go_sem, ek, p2, s1, List.length_map]
        repeat refine And.intro (by first | omega | rfl | exact .inl rfl | exact .inl trivial | (simp; done) | (simp; omega)) ?_
        rw [show (i : Int) + 1 = ((i + 1 : Nat) : Int) by omega]
        refine ainv hfin (Shift.low 1 (by simp) (by simp) ?_ ?_)
        · simp only [List.take_succ_cons, List.take_zero, List.all_cons, List.all_nil, low_sts, Bool.and_self]
        · simp only [wkl, lowV, lowC, Av.get, go_sem]
      · have dd : ((o[o.length - 1]'(by omega)).dept == l[i].st.dept) = false := by simpa using hd
        unfold vecStep at hfin
        rw [hgo, if_neg (fun h => hd h.2)] at hfin
        simp only [List.length_append, List.length_cons, List.length_nil, List.map_append, List.map_cons, List.map_nil, Nat.zero_add, stA] at hfin
        refine goB (N := 41) Tryz.ntmps37 300 ?_
        simp only [go_sem, di, p1, List.length_map]
        repeat refine And.intro (by first | omega | rfl | exact .inl rfl | exact .inl trivial | (simp; done) | (simp; omega)) ?_
        refine adraw [] mixed (by decide) (N := 41) Tryz.ntmps37 (by decide) 100 ?_
        simp only [go_sem, dk, ek, p2, dd, List.length_map]
        repeat refine And.intro (by first | omega | rfl | exact .inl rfl | exact .inl trivial | (simp; done) | (simp; omega)) ?_
        refine goB (N := 41) Tryz.ntmps37 300 ?_
        simp only [go_sem, List.length_map]
        repeat refine And.intro (by first | omega | rfl | exact .inl rfl | exact .inl trivial | (simp; done) | (simp; omega)) ?_
        rw [show (i : Int) + 1 = ((i + 1 : Nat) : Int) by omega]
        refine ainv hfin (Shift.low 1 (by simp) (by simp) ?_ ?_)
        · have h1 := low_sts 1 (o ++ [l[i].st])
          simp only [List.map_append, List.map_cons, List.map_nil, stA] at h1
          simpa only [List.take_succ_cons, List.take_zero, List.all_cons, List.all_nil, Bool.and_true, stA] using h1
        · simp only [wkl, lowV, lowC, Av.get, go_sem]
    · have dk : decide ((o.length : Int) - 1 ≥ 0) = false := by simp; omega
      unfold vecStep at hfin
      rw [if_neg (fun h => ho h.1)] at hfin
      simp only [List.length_append, List.length_cons, List.length_nil, List.map_append, List.map_cons, List.map_nil, Nat.zero_add, stA] at hfin
      refine goB (N := 41) Tryz.ntmps37 300 ?_
      simp only [go_sem, di, p1, List.length_map]
      repeat refine And.intro (by first | omega | rfl | exact .inl rfl | exact .inl trivial | (simp; done) | (simp; omega)) ?_
      refine adraw [] mixed (by decide) (N := 41) Tryz.ntmps37 (by decide) 100 ?_
      simp only [go_sem, dk, List.length_map]
      repeat refine And.intro (by first | omega | rfl | exact .inl rfl | exact .inl trivial | (simp; done) | (simp; omega)) ?_
      refine goB (N := 41) Tryz.ntmps37 300 ?_
      simp only [go_sem, List.length_map]
      repeat refine And.intro (by first | omega | rfl | exact .inl rfl | exact .inl trivial | (simp; done) | (simp; omega)) ?_
      rw [show (i : Int) + 1 = ((i + 1 : Nat) : Int) by omega]
      refine ainv hfin (Shift.low 1 (by simp) (by simp) ?_ ?_)
      · have h1 := low_sts 1 (o ++ [l[i].st])
        simp only [List.map_append, List.map_cons, List.map_nil, stA] at h1
        simpa only [List.take_succ_cons, List.take_zero, List.all_cons, List.all_nil, Bool.and_true, stA] using h1
      · simp only [wkl, lowV, lowC, Av.get, go_sem]
  · have di : decide ((i : Int) < (l.length : Int)) = false := by simp; omega
    rw [List.take_of_length_le (by omega)]
    refine goB (N := 41) Tryz.ntmps37 300 ?_
    simp only [go_sem, di]
    exact ARet.shift (Shift.freeze 2 (id := 0) (l := (vecL l).map stA) rfl rfl (by simp) (Nat.le_refl _) (stA_frz _)) (aret [2] rfl ⟨by simp only [resV, Av.get, Av.put, beq_self_eq_true, cond_true, List.drop_zero, take_map], rfl⟩)

end Go.Proofs.YtkomcdohejibmaaGreatDoor
/- Views of deeds. Own work of this seat. -/
set_option maxRecDepth 100000
set_option linter.unusedSimpArgs false
set_option linter.unusedVariables false
namespace Go.Proofs.YtkomcdohejibmaaGreatDoor
open Go Go.Av Go.RowKit

end Go.Proofs.YtkomcdohejibmaaGreatDoor
/- The library contracts laid at this seat, in the plain words that a tool of the kit has written. -/
namespace Go.Proofs
open Go.Shelf
def Tryz.sortDe_ren : Go.Shelf.Ren := ⟨fun | 6 => 40 | 15 => 94 | 14 => 93 | 28 => 150 | 29 => 151 | 20 => 142 | 21 => 143 | 22 => 144 | 23 => 145 | 24 => 146 | 25 => 147 | 26 => 148 | 27 => 149 | 46 => 179 | 47 => 180 | 48 => 181 | 49 => 182 | 50 => 183 | 57 => 209 | n => n, fun | 22 => 26 | 24 => 41 | 25 => 79 | 3 => 3 | 39 => 123 | 0 => 0 | 53 => 166 | 55 => 168 | 4 => 4 | 46 => 159 | 45 => 158 | 50 => 163 | 5 => 5 | 9 => 9 | 66 => 183 | 70 => 187 | 76 => 203 | 77 => 204 | n => n, fun | n => n⟩
theorem Tryz.sortDe : Go.Proofs.SlLaysF0.n6 Tryz.prog Tryz.sortDe_ren := {
  mixed := by kernel_rfl
  f6 := ⟨Tryz.f40.name, by decide, Tryz.func40.trans (congrArg some (by kernel_rfl))⟩
  f14 := ⟨Tryz.f93.name, by decide, Tryz.func93.trans (congrArg some (by kernel_rfl))⟩
  f15 := Tryz.func94.trans (congrArg some (by kernel_rfl))
  f20 := ⟨Tryz.f142.name, by decide, Tryz.func142.trans (congrArg some (by kernel_rfl))⟩
  f21 := ⟨Tryz.f143.name, by decide, Tryz.func143.trans (congrArg some (by kernel_rfl))⟩
  f22 := ⟨Tryz.f144.name, by decide, Tryz.func144.trans (congrArg some (by kernel_rfl))⟩
  f23 := ⟨Tryz.f145.name, by decide, Tryz.func145.trans (congrArg some (by kernel_rfl))⟩
  f24 := ⟨Tryz.f146.name, by decide, Tryz.func146.trans (congrArg some (by kernel_rfl))⟩
  f25 := ⟨Tryz.f147.name, by decide, Tryz.func147.trans (congrArg some (by kernel_rfl))⟩
  f26 := ⟨Tryz.f148.name, by decide, Tryz.func148.trans (congrArg some (by kernel_rfl))⟩
  f27 := ⟨Tryz.f149.name, by decide, Tryz.func149.trans (congrArg some (by kernel_rfl))⟩
  f28 := Tryz.func150.trans (congrArg some (by kernel_rfl))
  f29 := Tryz.func151.trans (congrArg some (by kernel_rfl))
  f46 := ⟨Tryz.f179.name, by decide, Tryz.func179.trans (congrArg some (by kernel_rfl))⟩
  f47 := Tryz.func180.trans (congrArg some (by kernel_rfl))
  f48 := Tryz.func181.trans (congrArg some (by kernel_rfl))
  f49 := ⟨Tryz.f182.name, by decide, Tryz.func182.trans (congrArg some (by kernel_rfl))⟩
  f50 := ⟨Tryz.f183.name, by decide, Tryz.func183.trans (congrArg some (by kernel_rfl))⟩
  f57 := ⟨Tryz.f209.name, by decide, Tryz.func209.trans (congrArg some (by kernel_rfl))⟩
  t0 := Tryz.underlying0
  a0 := Tryz.isAgg0
  z0 := Tryz.sizeOf0
  v0 := Tryz.zeroValue0
  t3 := Tryz.underlying3
  a3 := Tryz.isAgg3
  z3 := Tryz.sizeOf3
  v3 := Tryz.zeroValue3
  t4 := Tryz.underlying4
  a4 := Tryz.isAgg4
  z4 := Tryz.sizeOf4
  v4 := Tryz.zeroValue4
  t5 := Tryz.underlying5
  a5 := Tryz.isAgg5
  z5 := Tryz.sizeOf5
  v5 := Tryz.zeroValue5
  t9 := Tryz.underlying9
  a9 := Tryz.isAgg9
  z9 := Tryz.sizeOf9
  v9 := Tryz.zeroValue9
  t22 := Tryz.underlying26
  a22 := Tryz.isAgg26
  z22 := Tryz.sizeOf26
  v22 := Tryz.zeroValue26
  t25 := Tryz.underlying79
  a25 := Tryz.isAgg79
  z25 := Tryz.sizeOf79
  v25 := Tryz.zeroValue79
  t39 := Tryz.underlying123
  a39 := Tryz.isAgg123
  z39 := Tryz.sizeOf123
  v39 := Tryz.zeroValue123
  t45 := Tryz.underlying158
  a45 := Tryz.isAgg158
  z45 := Tryz.sizeOf158
  v45 := Tryz.zeroValue158
  t46 := Tryz.underlying159
  a46 := Tryz.isAgg159
  z46 := Tryz.sizeOf159
  v46 := Tryz.zeroValue159
  t50 := Tryz.underlying163
  a50 := Tryz.isAgg163
  z50 := Tryz.sizeOf163
  v50 := Tryz.zeroValue163
  t53 := Tryz.underlying166
  a53 := Tryz.isAgg166
  z53 := Tryz.sizeOf166
  v53 := Tryz.zeroValue166
  t55 := Tryz.underlying168
  a55 := Tryz.isAgg168
  z55 := Tryz.sizeOf168
  v55 := Tryz.zeroValue168
  t66 := Tryz.underlying183
  a66 := Tryz.isAgg183
  z66 := Tryz.sizeOf183
  v66 := Tryz.zeroValue183
  t70 := Tryz.underlying187
  a70 := Tryz.isAgg187
  z70 := Tryz.sizeOf187
  v70 := Tryz.zeroValue187
  t76 := Tryz.underlying203
  a76 := Tryz.isAgg203
  z76 := Tryz.sizeOf203
  v76 := Tryz.zeroValue203
  t77 := Tryz.underlying204
  a77 := Tryz.isAgg204
  z77 := Tryz.sizeOf204
  v77 := Tryz.zeroValue204 }
def Tryz.keysP_ren : Go.Shelf.Ren := ⟨fun | 7 => 87 | 10 => 138 | n => n, fun | 23 => 113 | 26 => 9 | 3 => 26 | 28 => 116 | 0 => 0 | 27 => 115 | 33 => 68 | 4 => 4 | n => n, fun | n => n⟩
theorem Tryz.keysP : Go.Proofs.SlLaysZ.n7 Tryz.prog Tryz.keysP_ren := {
  mixed := by kernel_rfl
  f7 := ⟨Tryz.f87.name, by decide, Tryz.func87.trans (congrArg some (by kernel_rfl))⟩
  f10 := ⟨Tryz.f138.name, by decide, Tryz.func138.trans (congrArg some (by kernel_rfl))⟩
  t0 := Tryz.underlying0
  a0 := Tryz.isAgg0
  z0 := Tryz.sizeOf0
  v0 := Tryz.zeroValue0
  t4 := Tryz.underlying4
  a4 := Tryz.isAgg4
  z4 := Tryz.sizeOf4
  v4 := Tryz.zeroValue4
  t23 := Tryz.underlying113
  a23 := Tryz.isAgg113
  z23 := Tryz.sizeOf113
  v23 := Tryz.zeroValue113
  t26 := Tryz.underlying9
  a26 := Tryz.isAgg9
  z26 := Tryz.sizeOf9
  v26 := Tryz.zeroValue9
  t27 := Tryz.underlying115
  a27 := Tryz.isAgg115
  z27 := Tryz.sizeOf115
  v27 := Tryz.zeroValue115
  t28 := Tryz.underlying116
  a28 := Tryz.isAgg116
  z28 := Tryz.sizeOf116
  v28 := Tryz.zeroValue116
  t33 := Tryz.underlying68
  a33 := Tryz.isAgg68
  z33 := Tryz.sizeOf68
  v33 := Tryz.zeroValue68 }
def Tryz.keysN_ren : Go.Shelf.Ren := ⟨fun | 7 => 100 | 10 => 154 | n => n, fun | 23 => 128 | 26 => 9 | 3 => 4 | 28 => 116 | 0 => 0 | 27 => 115 | 33 => 68 | 4 => 4 | n => n, fun | n => n⟩
theorem Tryz.keysN : Go.Proofs.SlLaysZ.n7 Tryz.prog Tryz.keysN_ren := {
  mixed := by kernel_rfl
  f7 := ⟨Tryz.f100.name, by decide, Tryz.func100.trans (congrArg some (by kernel_rfl))⟩
  f10 := ⟨Tryz.f154.name, by decide, Tryz.func154.trans (congrArg some (by kernel_rfl))⟩
  t0 := Tryz.underlying0
  a0 := Tryz.isAgg0
  z0 := Tryz.sizeOf0
  v0 := Tryz.zeroValue0
  t4 := Tryz.underlying4
  a4 := Tryz.isAgg4
  z4 := Tryz.sizeOf4
  v4 := Tryz.zeroValue4
  t23 := Tryz.underlying128
  a23 := Tryz.isAgg128
  z23 := Tryz.sizeOf128
  v23 := Tryz.zeroValue128
  t26 := Tryz.underlying9
  a26 := Tryz.isAgg9
  z26 := Tryz.sizeOf9
  v26 := Tryz.zeroValue9
  t27 := Tryz.underlying115
  a27 := Tryz.isAgg115
  z27 := Tryz.sizeOf115
  v27 := Tryz.zeroValue115
  t28 := Tryz.underlying116
  a28 := Tryz.isAgg116
  z28 := Tryz.sizeOf116
  v28 := Tryz.zeroValue116
  t33 := Tryz.underlying68
  a33 := Tryz.isAgg68
  z33 := Tryz.sizeOf68
  v33 := Tryz.zeroValue68 }
def Tryz.sorted_ren : Go.Shelf.Ren := ⟨fun | 6 => 86 | 8 => 137 | 9 => 111 | 11 => 178 | 13 => 94 | 12 => 164 | 23 => 150 | 24 => 151 | 14 => 191 | 15 => 192 | 16 => 193 | 17 => 194 | 18 => 195 | 19 => 196 | 20 => 197 | 21 => 198 | 22 => 199 | 25 => 221 | 26 => 180 | 27 => 181 | 28 => 222 | 29 => 223 | 30 => 224 | 31 => 234 | n => n, fun | 26 => 9 | 28 => 116 | 24 => 53 | 0 => 0 | 3 => 3 | 37 => 123 | 48 => 166 | 50 => 168 | 4 => 4 | 40 => 159 | 39 => 158 | 45 => 163 | 5 => 5 | 9 => 9 | 51 => 183 | 55 => 187 | 57 => 203 | 58 => 204 | 33 => 68 | n => n, fun | n => n⟩
theorem Tryz.sorted : Go.Proofs.SlLaysZ.n6 Tryz.prog Tryz.sorted_ren := {
  mixed := by kernel_rfl
  f6 := ⟨Tryz.f86.name, by decide, Tryz.func86.trans (congrArg some (by kernel_rfl))⟩
  f8 := ⟨Tryz.f137.name, by decide, Tryz.func137.trans (congrArg some (by kernel_rfl))⟩
  f11 := ⟨Tryz.f178.name, by decide, Tryz.func178.trans (congrArg some (by kernel_rfl))⟩
  t0 := Tryz.underlying0
  a0 := Tryz.isAgg0
  z0 := Tryz.sizeOf0
  v0 := Tryz.zeroValue0
  t24 := Tryz.underlying53
  a24 := Tryz.isAgg53
  z24 := Tryz.sizeOf53
  v24 := Tryz.zeroValue53
  t26 := Tryz.underlying9
  a26 := Tryz.isAgg9
  z26 := Tryz.sizeOf9
  v26 := Tryz.zeroValue9
  t28 := Tryz.underlying116
  a28 := Tryz.isAgg116
  z28 := Tryz.sizeOf116
  v28 := Tryz.zeroValue116
  i26 := by kernel_rfl }
def Tryz.sortS_ren : Go.Shelf.Ren := ⟨fun | 6 => 111 | 8 => 94 | 9 => 164 | 19 => 150 | 20 => 151 | 21 => 191 | 22 => 192 | 23 => 193 | 24 => 194 | 25 => 195 | 26 => 196 | 27 => 197 | 28 => 198 | 29 => 199 | 36 => 221 | 31 => 180 | 32 => 181 | 37 => 222 | 38 => 223 | 39 => 224 | 41 => 234 | n => n, fun | 27 => 53 | 29 => 9 | 3 => 3 | 32 => 123 | 26 => 53 | 0 => 0 | 44 => 166 | 46 => 168 | 4 => 4 | 36 => 159 | 35 => 158 | 41 => 163 | 5 => 5 | 9 => 9 | 53 => 183 | 57 => 187 | 63 => 203 | 64 => 204 | n => n, fun | n => n⟩
theorem Tryz.sortS : Go.Proofs.SlLaysM.n6 Tryz.prog Tryz.sortS_ren := {
  mixed := by kernel_rfl
  f6 := ⟨Tryz.f111.name, by decide, Tryz.func111.trans (congrArg some (by kernel_rfl))⟩
  f8 := Tryz.func94.trans (congrArg some (by kernel_rfl))
  f9 := ⟨Tryz.f164.name, by decide, Tryz.func164.trans (congrArg some (by kernel_rfl))⟩
  f19 := Tryz.func150.trans (congrArg some (by kernel_rfl))
  f20 := Tryz.func151.trans (congrArg some (by kernel_rfl))
  f21 := ⟨Tryz.f191.name, by decide, Tryz.func191.trans (congrArg some (by kernel_rfl))⟩
  f22 := ⟨Tryz.f192.name, by decide, Tryz.func192.trans (congrArg some (by kernel_rfl))⟩
  f23 := ⟨Tryz.f193.name, by decide, Tryz.func193.trans (congrArg some (by kernel_rfl))⟩
  f24 := ⟨Tryz.f194.name, by decide, Tryz.func194.trans (congrArg some (by kernel_rfl))⟩
  f25 := ⟨Tryz.f195.name, by decide, Tryz.func195.trans (congrArg some (by kernel_rfl))⟩
  f26 := ⟨Tryz.f196.name, by decide, Tryz.func196.trans (congrArg some (by kernel_rfl))⟩
  f27 := ⟨Tryz.f197.name, by decide, Tryz.func197.trans (congrArg some (by kernel_rfl))⟩
  f28 := ⟨Tryz.f198.name, by decide, Tryz.func198.trans (congrArg some (by kernel_rfl))⟩
  f29 := ⟨Tryz.f199.name, by decide, Tryz.func199.trans (congrArg some (by kernel_rfl))⟩
  f31 := Tryz.func180.trans (congrArg some (by kernel_rfl))
  f32 := Tryz.func181.trans (congrArg some (by kernel_rfl))
  f36 := ⟨Tryz.f221.name, by decide, Tryz.func221.trans (congrArg some (by kernel_rfl))⟩
  f37 := ⟨Tryz.f222.name, by decide, Tryz.func222.trans (congrArg some (by kernel_rfl))⟩
  f38 := ⟨Tryz.f223.name, by decide, Tryz.func223.trans (congrArg some (by kernel_rfl))⟩
  f39 := ⟨Tryz.f224.name, by decide, Tryz.func224.trans (congrArg some (by kernel_rfl))⟩
  f41 := ⟨Tryz.f234.name, by decide, Tryz.func234.trans (congrArg some (by kernel_rfl))⟩
  t0 := Tryz.underlying0
  a0 := Tryz.isAgg0
  z0 := Tryz.sizeOf0
  v0 := Tryz.zeroValue0
  t3 := Tryz.underlying3
  a3 := Tryz.isAgg3
  z3 := Tryz.sizeOf3
  v3 := Tryz.zeroValue3
  t4 := Tryz.underlying4
  a4 := Tryz.isAgg4
  z4 := Tryz.sizeOf4
  v4 := Tryz.zeroValue4
  t5 := Tryz.underlying5
  a5 := Tryz.isAgg5
  z5 := Tryz.sizeOf5
  v5 := Tryz.zeroValue5
  t9 := Tryz.underlying9
  a9 := Tryz.isAgg9
  z9 := Tryz.sizeOf9
  v9 := Tryz.zeroValue9
  t26 := Tryz.underlying53
  a26 := Tryz.isAgg53
  z26 := Tryz.sizeOf53
  v26 := Tryz.zeroValue53
  t27 := Tryz.underlying53
  a27 := Tryz.isAgg53
  z27 := Tryz.sizeOf53
  v27 := Tryz.zeroValue53
  t29 := Tryz.underlying9
  a29 := Tryz.isAgg9
  z29 := Tryz.sizeOf9
  v29 := Tryz.zeroValue9
  t32 := Tryz.underlying123
  a32 := Tryz.isAgg123
  z32 := Tryz.sizeOf123
  v32 := Tryz.zeroValue123
  t35 := Tryz.underlying158
  a35 := Tryz.isAgg158
  z35 := Tryz.sizeOf158
  v35 := Tryz.zeroValue158
  t36 := Tryz.underlying159
  a36 := Tryz.isAgg159
  z36 := Tryz.sizeOf159
  v36 := Tryz.zeroValue159
  t41 := Tryz.underlying163
  a41 := Tryz.isAgg163
  z41 := Tryz.sizeOf163
  v41 := Tryz.zeroValue163
  t44 := Tryz.underlying166
  a44 := Tryz.isAgg166
  z44 := Tryz.sizeOf166
  v44 := Tryz.zeroValue166
  t46 := Tryz.underlying168
  a46 := Tryz.isAgg168
  z46 := Tryz.sizeOf168
  v46 := Tryz.zeroValue168
  t53 := Tryz.underlying183
  a53 := Tryz.isAgg183
  z53 := Tryz.sizeOf183
  v53 := Tryz.zeroValue183
  t57 := Tryz.underlying187
  a57 := Tryz.isAgg187
  z57 := Tryz.sizeOf187
  v57 := Tryz.zeroValue187
  t63 := Tryz.underlying203
  a63 := Tryz.isAgg203
  z63 := Tryz.sizeOf203
  v63 := Tryz.zeroValue203
  t64 := Tryz.underlying204
  a64 := Tryz.isAgg204
  z64 := Tryz.sizeOf204
  v64 := Tryz.zeroValue204 }
end Go.Proofs
