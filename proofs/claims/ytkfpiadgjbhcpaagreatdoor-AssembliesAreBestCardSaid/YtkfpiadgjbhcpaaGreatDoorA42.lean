/- Parts of assemblies: small functions. Own work of this seat. -/
import Derived.Test.YtkfpiadgjbhcpaaGreatDoorA41
import Derived.Test.YtkfpiadgjbhcpaaGreatDoorA25
import Derived.Test.YtkfpiadgjbhcpaaGreatDoorA22
set_option maxRecDepth 100000
set_option linter.unusedSimpArgs false
set_option linter.unusedVariables false
namespace Go.Proofs.YtkfpiadgjbhcpaaGreatDoor
open Go Go.Av Go.RowKit

def ppA (p : Pp') : AV := .agg [.int .i64 p.take, .int .i64 p.cv.para, .int .i64 p.cv.inn, .int .i64 p.cv.out, .bool p.cv.on]
def scrA (s : Scr) : AV := .agg [.int .i64 s.joins, .int .i64 s.on]
def stpA (s : Stp) : AV := .agg [.fz 5 (s.parts.map ppA), .fz 2 (s.parts.map fun p => scrA (s.scr p)), .int .i64 s.best.joins, .int .i64 s.best.on]
theorem ppA_get (l : List Pp') (i : Nat) (h : i < l.length) : List.getD (List.map ppA l) i .any = .agg [.int .i64 l[i].take, .int .i64 l[i].cv.para, .int .i64 l[i].cv.inn, .int .i64 l[i].cv.out, .bool l[i].cv.on] := by simp [List.getD, h, ppA]
theorem pp_frz : ∀ l : List Pp', (flat (l.map ppA)).all Av.frozen = true
  | [] => rfl
  | x :: r => by simpa [flat, cellsOf, ppA, Av.frozen] using pp_frz r
theorem ints_frz : ∀ l : List Nat, (flat (l.map fun (n : Nat) => AV.int .i64 (n : Int))).all Av.frozen = true
  | [] => rfl
  | x :: r => by simpa [flat, cellsOf, Av.frozen] using ints_frz r
theorem own_pc (p : Pp') (sp : Bool) : Pc Tryz.prog 166 [ppA p, .bool sp] (· = scrA (ownS p sp)) := by
  unfold ownS scrA ppA
  refine pc_intro (ct_intro Tryz.func166 rfl Tryz.ntmps166 hB166 (by simp) fun h ρ w => goB (N := 13) Tryz.ntmps166 300 ?_)
  cases sp with
  | false =>
    simp only [go_sem]
    exact aretc [.cell 4 249] rfl [_] ⟨by simp only [go_sem, sideIs, Bool.false_and, Bool.false_eq_true, if_false], trivial⟩ ⟨rfl, rfl⟩
  | true =>
    cases h1 : p.cv.on with
    | false =>
      simp only [go_sem]
      exact aretc [.cell 4 249] rfl [_] ⟨by simp only [go_sem, sideIs, Bool.and_false, Bool.false_eq_true, if_false], trivial⟩ ⟨rfl, rfl⟩
    | true =>
      simp only [go_sem]
      exact aretc [.cell 4 249] rfl [_] ⟨by simp only [go_sem, sideIs, Bool.and_self, if_true], trivial⟩ ⟨rfl, rfl⟩
theorem nat_beq (a b : Nat) : ((a : Int) == (b : Int)) = (a == b) := by
  rw [Bool.eq_iff_iff, beq_iff_eq, beq_iff_eq]; omega
theorem follows2_pc (a b : Pp') : Pc Tryz.prog 167 [ppA a, ppA b] (· = .bool (fol a b)) := by
  unfold fol ppA
  refine pc_intro (ct_intro Tryz.func167 rfl Tryz.ntmps167 hB167 (by simp) fun h ρ w => goB (N := 19) Tryz.ntmps167 300 ?_)
  cases h1 : a.take == b.take with
  | false =>
    simp only [go_sem, nat_beq, h1]
    exact aret [4] rfl ⟨by simp [resV, Av.get, Av.put], rfl⟩
  | true =>
    simp only [go_sem, nat_beq, h1]
    exact aret [4] rfl ⟨by simp [resV, Av.get, Av.put], rfl⟩
theorem better_pc (a b : Scr) : Pc Tryz.prog 168 [scrA a, scrA b] (· = .bool (bet a b)) := by
  unfold bet scrA
  refine pc_intro (ct_intro Tryz.func168 rfl Tryz.ntmps168 hB168 (by simp) fun h ρ w => goB (N := 24) Tryz.ntmps168 300 ?_)
  cases h1 : decide (a.joins < b.joins) with
  | true =>
    simp only [go_sem, h1]
    exact aret [4] rfl ⟨by simp [resV, Av.get, Av.put], rfl⟩
  | false =>
    cases h2 : a.joins == b.joins with
    | false =>
      simp only [go_sem, h1, h2]
      exact aret [4] rfl ⟨by simp [resV, Av.get, Av.put], rfl⟩
    | true =>
      simp only [go_sem, h1, h2]
      exact aret [4] rfl ⟨by simp [resV, Av.get, Av.put], rfl⟩
/-- the paragraphs that need takes -/
def isNeed (p : Pa) : Bool := p.kind == 1 || p.kind == 4
def needF : Nat → List Pa → List Nat
  | _, [] => []
  | n, p :: r => if isNeed p then n :: needF (n + 1) r else needF (n + 1) r
theorem needF_app : ∀ (a b : List Pa) (n : Nat), needF n (a ++ b) = needF n a ++ needF (n + a.length) b
  | [], b, n => rfl
  | p :: a, b, n => by
    simp only [List.cons_append, needF, needF_app a b (n + 1), List.length_cons]
    rw [show n + 1 + a.length = n + (a.length + 1) by omega]
    split <;> rfl
theorem needF_len : ∀ (l : List Pa) (n : Nat), (needF n l).length ≤ l.length
  | [], n => by simp [needF]
  | p :: r, n => by
    have := needF_len r (n + 1)
    simp only [needF]
    split <;> (simp only [List.length_cons]; omega)
theorem needF_mem : ∀ (l : List Pa) (n : Nat), ∀ k ∈ needF n l, n ≤ k ∧ k < n + l.length
  | [], n, k, h => by simp [needF] at h
  | p :: r, n, k, h => by
    have ih := needF_mem r (n + 1)
    simp only [needF] at h
    split at h
    · rcases List.mem_cons.1 h with rfl | h
      · simp
      · have := ih k h; simp only [List.length_cons]; omega
    · have := ih k h; simp only [List.length_cons]; omega
theorem needF_step (l : List Pa) (i : Nat) (hi : i < l.length) : needF 0 (l.take (i + 1)) = needF 0 (l.take i) ++ (if isNeed l[i] then [i] else []) := by
  rw [List.take_add_one, List.getElem?_eq_getElem hi, needF_app]
  simp only [Option.toList, needF, List.length_take]
  rw [show 0 + min i l.length = i by omega]
def natA (l : List Nat) : List AV := l.map fun (n : Nat) => AV.int .i64 (n : Int)
set_option maxHeartbeats 1000000 in
theorem needing_pc (x : Sc) (hl : x.paras.length ≤ 60) : Pc Tryz.prog 164 [scA x] (· = .fz 1 (natA (needF 0 x.paras))) := by
  simp only [scA]
  refine pc_intro (ct_intro Tryz.func164 rfl Tryz.ntmps164 hB164 (by simp) fun h ρ w => goB (N := 28) Tryz.ntmps164 300 ?_)
  simp only [go_sem, List.length_map]
  refine aloop (ι := Nat) (fun y => x.paras.length - y)
    (fun y => [(9, .int .i64 y), (8, .int .i64 x.paras.length), (7, .fz 2 (x.paras.map paA)), (3, .sl 0 0 (needF 0 (x.paras.take y)).length (needF 0 (x.paras.take y)).length)])
    (fun y => [.arr 1 (natA (needF 0 (x.paras.take y)))]) (fun y => y ≤ x.paras.length) 0 (by simp) ?_ ?_
  · refine Shift.trans (Shift.nilsl 3 1 rfl) (Shift.weakS ?_ ?_)
    · simp only [wk, go_sem, List.length_map, List.take_zero, needF]
    · simp [natA, needF]
  intro i g1 J hJ
  have hnl := needF_len (x.paras.take i) 0
  rw [List.length_take] at hnl
  by_cases gi : i < x.paras.length
  · have di : decide ((i : Int) < (x.paras.length : Int)) = true := by simp; omega
    have hget := paA_get x.paras i gi
    have hstep := needF_step x.paras i gi
    have hfin := hJ (i + 1) (by omega) (by omega)
    rw [hstep] at hfin
    unfold isNeed at hfin
    generalize x.paras[i] = p at *
    generalize needF 0 (x.paras.take i) = u at *
    have hul : (natA u).length = u.length := by simp [natA]
    cases h1 : p.kind == 1 with
    | true =>
      simp only [h1, Bool.true_or, Bool.or_true, if_true, natA, List.map_append, List.length_append, List.map_cons, List.map_nil, List.length_cons, List.length_nil, Nat.zero_add] at hfin
      refine goB (N := 28) Tryz.ntmps164 300 ?_
      simp only [go_sem, di, hget, h1, List.length_map]
      repeat refine And.intro (by first | omega | rfl | exact .inl trivial | (simp; done) | (simp; omega)) ?_
      simp only [natA]
      refine goB (N := 28) Tryz.ntmps164 300 ?_
      simp only [go_sem, List.length_map]
      repeat refine And.intro (by first | omega | rfl | exact .inl trivial | (simp; done) | (simp; omega)) ?_
      rw [show (i : Int) + 1 = ((i + 1 : Nat) : Int) by omega]
      refine ainv hfin (Shift.low 1 (by simp) (by simp) ?_ ?_)
      · simp only [List.take_succ_cons, List.take_zero, List.all_cons, List.all_nil, lowB, flat, cellsOf, lowC, Av.frozen, List.append_nil, flat_append, List.all_append, low_all (ints_frz _), Bool.and_self]
      · simp only [wkl, lowV, lowC, Av.get, go_sem]
    | false =>
      cases h4 : p.kind == 4 with
      | true =>
        simp only [h1, h4, Bool.true_or, Bool.or_true, if_true, natA, List.map_append, List.length_append, List.map_cons, List.map_nil, List.length_cons, List.length_nil, Nat.zero_add] at hfin
        refine goB (N := 28) Tryz.ntmps164 300 ?_
        simp only [go_sem, di, hget, h1, h4, List.length_map]
        repeat refine And.intro (by first | omega | rfl | exact .inl trivial | (simp; done) | (simp; omega)) ?_
        simp only [natA]
        refine goB (N := 28) Tryz.ntmps164 300 ?_
        simp only [go_sem, List.length_map]
        repeat refine And.intro (by first | omega | rfl | exact .inl trivial | (simp; done) | (simp; omega)) ?_
        rw [show (i : Int) + 1 = ((i + 1 : Nat) : Int) by omega]
        refine ainv hfin (Shift.low 1 (by simp) (by simp) ?_ ?_)
        · simp only [List.take_succ_cons, List.take_zero, List.all_cons, List.all_nil, lowB, flat, cellsOf, lowC, Av.frozen, List.append_nil, flat_append, List.all_append, low_all (ints_frz _), Bool.and_self]
        · simp only [wkl, lowV, lowC, Av.get, go_sem]
      | false =>
        simp only [h1, h4, Bool.or_self, Bool.false_eq_true, if_false, List.append_nil] at hfin
        refine goB (N := 28) Tryz.ntmps164 300 ?_
        simp only [go_sem, di, hget, h1, h4, List.length_map]
        repeat refine And.intro (by first | omega | rfl | exact .inl trivial | (simp; done) | (simp; omega)) ?_
        rw [show (i : Int) + 1 = ((i + 1 : Nat) : Int) by omega]
        refine ainv hfin (Shift.low 1 (by simp) (by simp) ?_ ?_)
        · simp only [List.take_succ_cons, List.take_zero, List.all_cons, List.all_nil, lowB, natA, low_all (ints_frz _), Bool.and_self]
        · simp only [wkl, lowV, lowC, Av.get, go_sem]
  · have di : decide ((i : Int) < (x.paras.length : Int)) = false := by simp; omega
    rw [show x.paras.take i = x.paras from List.take_of_length_le (by omega)]
    clear hJ hnl
    generalize needF 0 x.paras = u
    refine AWp.shift (Shift.freeze 3 (id := 0) (l := natA u) rfl rfl (by simp [natA]) (Nat.le_refl _) (ints_frz _)) ?_
    have htk : List.take u.length (List.drop 0 (natA u)) = natA u := by rw [List.drop_zero, natA, List.take_of_length_le (by simp)]
    rw [htk]
    refine goB (N := 28) Tryz.ntmps164 300 ?_
    simp only [go_sem, di]
    exact aret [2] rfl ⟨rfl, rfl⟩
end Go.Proofs.YtkfpiadgjbhcpaaGreatDoor
