/- Names of papers, papers: the office; papers compared. Own work of this seat. -/
import Derived.Test.YtkomcdohejibmaaGreatDoorO45
import Derived.Test.YtkomcdohejibmaaGreatDoorO31
import Derived.Test.YtkomcdohejibmaaGreatDoorO23
import Derived.Test.YtkomcdohejibmaaGreatDoorO22
import Derived.Test.YtkomcdohejibmaaGreatDoorO16
set_option maxRecDepth 100000
set_option linter.unusedSimpArgs false
set_option linter.unusedVariables false
namespace Go.Proofs.YtkomcdohejibmaaGreatDoor
open Go Go.Av Go.RowKit

instance : DecidableEq Pp := fun a b => decidable_of_iff (a.name = b.name ∧ a.vers = b.vers) (by cases a; cases b; simp)
theorem keysN_ct (m : Nat) (s : List Blk) (es : List (AV × AV)) (hm : s[m]? = some (.mp es)) : Ct Tryz.prog 100 [.mp m] s (fun r s' => r = .fn (.func 154) [.ptr s.length 1 0 0] ∧ s' = s ++ [.arr 1 [.mp m]]) := by
  refine ct_intro Tryz.func100 rfl Tryz.ntmps100 hB100 (by simp) fun h ρ w => goF (N := 4) Tryz.ntmps100 300 ?_
  simp only [go_sem]
  repeat refine And.intro (by first | omega | rfl | exact .inl rfl | exact .inl trivial | (simp; done) | (simp; omega)) ?_
  exact aret [2] rfl ⟨rfl, rfl⟩
/-- names that are there -/
def nM (ks : List (List UInt8)) : List (AV × AV) := ks.map fun k => (.str k, .bool true)
theorem nM_find (k : List UInt8) : ∀ (ks : List (List UInt8)) (n : Nat), (mfind .string (.str k) (nM ks) n = some none ∧ k ∉ ks) ∨ ∃ i, mfind .string (.str k) (nM ks) n = some (some (n + i, .bool true)) ∧ ks[i]? = some k
  | [], n => .inl ⟨rfl, by simp⟩
  | g :: r, n => by
    simp only [nM, List.map_cons, mfind, keyEq]
    cases hb : k == g with
    | true =>
      have : k = g := by simpa using hb
      exact .inr ⟨0, by simp, by simp [this]⟩
    | false =>
      have hne : k ≠ g := by simpa using hb
      rcases nM_find k r (n + 1) with ⟨h, h0⟩ | ⟨i, h1, h2⟩
      · exact .inl ⟨h, by simp [hne, h0]⟩
      · refine .inr ⟨i + 1, ?_, by simpa using h2⟩
        simp only
        rw [show n + (i + 1) = n + 1 + i by omega]
        exact h1
theorem nM_push (ks : List (List UInt8)) (k : List UInt8) : nM ks ++ [(.str k, .bool true)] = nM (ks ++ [k]) := by simp [nM]
theorem nM_set (ks : List (List UInt8)) (i : Nat) (k : List UInt8) (h : ks[i]? = some k) : (nM ks).set i (.str k, .bool true) = nM ks := by
  apply List.ext_getElem?
  intro j
  rw [List.getElem?_set]
  split
  · rename_i e
    subst e
    have h2 := (List.getElem?_eq_some_iff.1 h).2
    simp [nM, h, (List.getElem?_eq_some_iff.1 h).1, h2]
  · rfl
theorem low_nM (n : Nat) (ks : List (List UInt8)) : lowB n (.mp (nM ks)) = true := by
  show (nM ks).all _ = true
  rw [nM, List.all_map, List.all_eq_true]
  intro x hx
  rfl
def namesL (l : List De) : List (List UInt8) := srtK (dd (l.map (·.paper)))
set_option maxHeartbeats 4000000 in
theorem names_pc (l : List De) (hl : SzL l) (hlen : l.length ≤ 1000) : Pc Tryz.prog 47 [.fz 7 (l.map deA)] (· = .fz 1 ((namesL l).map .str)) := by
  refine pc_intro (ct_intro Tryz.func47 rfl Tryz.ntmps47 hB47 (by simp) fun h ρ w => goB (N := 20) Tryz.ntmps47 300 ?_)
  simp only [go_sem, List.length_map]
  refine aloop (ι := Nat × List (List UInt8)) (fun y => l.length - y.1) (fun y => [(9, .int .i64 y.1), (8, .int .i64 l.length), (7, .fz 7 (l.map deA)), (3, .mp 0)])
    (fun y => [.mp (nM y.2)]) (fun y => y.1 ≤ l.length ∧ y.2.Nodup ∧ y.2.length ≤ y.1 ∧ ∀ k, k ∈ y.2 ↔ k ∈ (l.take y.1).map (·.paper)) (0, []) ⟨by simp, .nil, by simp, by simp⟩ ?_ ?_
  · refine Shift.weakS ?_ rfl
    simp only [wk, go_sem]
  rintro ⟨i, ks⟩ ⟨g1, g2, g3, g4⟩ J hJ
  simp only at g1 g2 g3 g4 hJ ⊢
  by_cases gi : i < l.length
  · have di : decide ((i : Int) < (l.length : Int)) = true := by simp; omega
    have hst := map_step l i gi
    have hlow : ∀ x : Blk, ([Blk.mp (nM ks), x].take 1).all (lowB 1) = true := fun x => by
      simp only [List.take_succ_cons, List.take_zero, List.all_cons, List.all_nil, low_nM, Bool.and_self]
    rcases nM_find l[i].paper ks 0 with ⟨m1, m2⟩ | ⟨q, m1, m2⟩
    · have hfin := hJ (i + 1, ks ++ [l[i].paper]) ⟨by simp only; omega, by
        rw [List.nodup_append]
        exact ⟨g2, by simp, fun a ha b hb e => m2 (by rw [List.mem_singleton.1 hb] at e; rw [← e]; exact ha)⟩, by simp; omega, fun k => by
        simp only
        rw [hst, List.map_append, List.mem_append, List.mem_append, g4]
        simp⟩ (by simp only; omega)
      rw [← nM_push] at hfin
      refine goB (N := 20) Tryz.ntmps47 300 ?_
      simp only [go_sem, di, deA_get l i gi, List.length_map, m1]
      repeat refine And.intro (by first | omega | rfl | kernel_rfl | exact .inl rfl | exact .inl trivial | (simp; done) | (simp; omega)) ?_
      rw [show (i : Int) + 1 = ((i + 1 : Nat) : Int) by omega]
      refine ainv hfin (Shift.low 1 (by simp) (by simp) ?_ ?_)
      · have := low_nM 1 (ks ++ [l[i].paper])
        rw [← nM_push] at this
        simp only [List.take_succ_cons, List.take_zero, List.all_cons, List.all_nil, this, Bool.and_self]
      · simp only [wkl, lowV, lowC, Av.get, go_sem]
    · have m3 : l[i].paper ∈ ks := List.mem_of_getElem? m2
      have hfin := hJ (i + 1, ks) ⟨by simp only; omega, g2, by simp only; omega, fun k => by
        simp only
        rw [hst, List.map_append, List.mem_append, ← g4]
        exact ⟨.inl, fun h => h.elim id fun h => by simp at h; rw [h]; exact m3⟩⟩ (by simp only; omega)
      have hset := nM_set ks _ _ m2
      rw [Nat.zero_add] at m1
      refine goB (N := 20) Tryz.ntmps47 300 ?_
      simp only [go_sem, di, deA_get l i gi, List.length_map, m1, hset]
      repeat refine And.intro (by first | omega | rfl | kernel_rfl | exact .inl rfl | exact .inl trivial | (simp; done) | (simp; omega)) ?_
      rw [show (i : Int) + 1 = ((i + 1 : Nat) : Int) by omega]
      refine ainv hfin (Shift.low 1 (by simp) (by simp) (hlow _) ?_)
      simp only [wkl, lowV, lowC, Av.get, go_sem]
  have di : decide ((i : Int) < (l.length : Int)) = false := by simp; omega
  have hi : i = l.length := by omega
  rw [hi, List.take_length] at g4
  clear hJ
  have hks : (nM ks).map (·.1) = ks.map .str := by simp [nM]
  have hkl : ∀ k ∈ ks, k.length ≤ 1000000 := fun k hk => by
    rw [g4, List.mem_map] at hk
    obtain ⟨d, hd, rfl⟩ := hk
    have := (hl.all d hd).paper
    omega
  have hkc := keysN_ct 0 [.mp (nM ks)] _ rfl
  have hsc := sorted_ct givesN (enters_of Tryz.func154 (by kernel_rfl) rfl) (s := [.mp (nM ks), .arr 1 [.mp 0]]) (j := 1) (m := 0) ks rfl rfl hks (by omega) hkl
  have hnl : namesL l = srtK ks := (srtK_dd g2 g4).symm
  rw [hnl]
  refine goB (N := 20) Tryz.ntmps47 300 ?_
  simp only [go_sem, di]
  refine acall (hkc) (N := 20) Tryz.ntmps47 rfl ?_
  rintro _ _ ⟨rfl, rfl⟩
  refine goB (N := 20) Tryz.ntmps47 300 ?_
  simp only [go_sem]
  refine acall (hsc) (N := 20) Tryz.ntmps47 rfl ?_
  rintro _ _ ⟨rfl, rfl⟩
  refine goB (N := 20) Tryz.ntmps47 300 ?_
  simp only [go_sem]
  exact aret [2] rfl ⟨rfl, rfl⟩
theorem names_len (l : List De) : (namesL l).length ≤ l.length := by
  have h2 := (srtK_perm (dd (l.map (·.paper)))).length_eq
  have h3 := dd_len (l.map (·.paper))
  unfold namesL
  rw [List.length_map] at h3
  omega
def pap (l : List De) (n : List UInt8) : Pp := ⟨n, versL l n⟩
def isB (l : List De) (n : List UInt8) : Bool := (versL l n).any (isPutL l)
def papersL (l : List De) : List Pp := ((namesL l).filter (isB l)).map (pap l)
theorem ppA_frz2 : ∀ l : List Pp, (flat (l.map ppA)).all Av.frozen = true
  | [] => rfl
  | a :: l => by simp only [List.map_cons, flat, ppA, cellsOf, List.cons_append, List.nil_append, List.all_cons, Av.frozen, ppA_frz2 l, Bool.and_self]
set_option maxHeartbeats 4000000 in
theorem papers_pc (l : List De) (hl : SzL l) (hlen : l.length ≤ 1000) : Pc Tryz.prog 11 [.fz 7 (l.map deA)] (fun r => ∃ (o : List Pp) (n : Int), r = .tup [.fz 2 (o.map ppA), .int .i64 n] ∧ (CkOk l → n = 0 ∧ o = papersL l)) := by
  have hck := check_pc l hl
  have hna := names_pc l hl hlen
  have hnl := names_len l
  have hvl : ∀ q, (versL l q).length ≤ l.length := fun q => by
    unfold versL lastL
    rw [List.length_map]
    exact Nat.le_trans (List.length_filter_le _ _) (List.length_filter_le _ _)
  refine pc_intro (ct_intro Tryz.func11 rfl Tryz.ntmps11 hB11 (by simp) fun h ρ w => goB (N := 35) Tryz.ntmps11 300 ?_)
  simp only [go_sem]
  refine pcall (hck) rfl (N := 35) Tryz.ntmps11 rfl ?_
  rintro _ ⟨n, rfl, hn⟩
  cases e0 : n != 0 with
  | true =>
    have e0' : n ≠ 0 := by simpa using e0
    refine goB (N := 35) Tryz.ntmps11 300 ?_
    simp only [go_sem, e0]
    exact ARet.shift (Shift.nilfz 2 2 rfl) (aret [2, 3] rfl ⟨⟨[], n, rfl, fun h1 => absurd (hn.2 h1) e0'⟩, rfl⟩)
  | false =>
  refine goB (N := 35) Tryz.ntmps11 300 ?_
  simp only [go_sem, e0]
  refine pcall1 (hna) rfl (N := 35) Tryz.ntmps11 rfl (goB (N := 35) Tryz.ntmps11 300 ?_)
  simp only [go_sem, List.length_map]
  unfold papersL
  generalize namesL l = q at *
  refine aloop (ι := Nat) (fun i => q.length - i)
    (fun i => [(17, .int .i64 i), (16, .int .i64 q.length), (15, .fz 1 (q.map .str)), (5, .sl 0 0 (((q.take i).filter (isB l)).map (pap l)).length (((q.take i).filter (isB l)).map (pap l)).length), (3, .int .i64 0), (0, .fz 7 (l.map deA))])
    (fun i => [.arr 2 ((((q.take i).filter (isB l)).map (pap l)).map ppA)]) (fun i => i ≤ q.length) 0 (by simp) ?_ ?_
  · refine Shift.trans (Shift.nilsl 5 2 rfl) (Shift.weakS ?_ rfl)
    simp only [wk, go_sem, List.take_zero, List.filter_nil, List.length_nil, List.map_nil]
  intro i g1 J hJ
  by_cases gi : i < q.length
  · have di : decide ((i : Int) < (q.length : Int)) = true := by simp; omega
    have p1 : List.getD (List.map AV.str q) i .any = .str q[i] := by simp [List.getD, gi]
    have hve := vers_pc l q[i] hl.sz
    have hth := isThere_pc l (versL l q[i]) hl.len (by have := hvl q[i]; omega)
    have hst := filter_step (isB l) q i gi
    have hfin := hJ (i + 1) (by omega) (by omega)
    rw [hst] at hfin
    have hol : ((q.take i).filter (isB l)).length ≤ i := Nat.le_trans (List.length_filter_le _ _) (by simp; omega)
    have hol2 : (((q.take i).filter (isB l)).map (pap l)).length = ((q.take i).filter (isB l)).length := List.length_map _
    simp only [List.map_append] at hfin
    generalize ((q.take i).filter (isB l)).map (pap l) = o at *
    cases hb : isB l q[i] with
    | true =>
      have hb2 := hb
      unfold isB at hb2
      rw [hb2] at hth
      rw [hb] at hfin
      simp only [if_true, List.length_append, List.length_cons, List.length_nil, List.map_append, List.map_cons, List.map_nil, Nat.zero_add, ppA, pap] at hfin
      refine goB (N := 35) Tryz.ntmps11 300 ?_
      simp only [go_sem, di, p1, List.length_map]
      repeat refine And.intro (by first | omega | rfl | kernel_rfl | (simp; done) | (simp; omega)) ?_
      refine pcall1 (hve) rfl (N := 35) Tryz.ntmps11 rfl (goB (N := 35) Tryz.ntmps11 300 ?_)
      simp only [go_sem]
      refine pcall1 (hth) rfl (N := 35) Tryz.ntmps11 rfl (goB (N := 35) Tryz.ntmps11 300 ?_)
      simp only [go_sem, List.length_map]
      repeat refine And.intro (by first | omega | rfl | exact .inl rfl | exact .inl trivial | (simp; done) | (simp; omega)) ?_
      rw [show (i : Int) + 1 = ((i + 1 : Nat) : Int) by omega]
      refine ainv hfin (Shift.weakS ?_ rfl)
      simp only [wk, go_sem]
    | false =>
      have hb2 := hb
      unfold isB at hb2
      rw [hb2] at hth
      rw [hb] at hfin
      simp only [Bool.false_eq_true, if_false, List.append_nil, List.map_nil] at hfin
      refine goB (N := 35) Tryz.ntmps11 300 ?_
      simp only [go_sem, di, p1, List.length_map]
      repeat refine And.intro (by first | omega | rfl | kernel_rfl | (simp; done) | (simp; omega)) ?_
      refine pcall1 (hve) rfl (N := 35) Tryz.ntmps11 rfl (goB (N := 35) Tryz.ntmps11 300 ?_)
      simp only [go_sem]
      refine pcall1 (hth) rfl (N := 35) Tryz.ntmps11 rfl (goB (N := 35) Tryz.ntmps11 300 ?_)
      simp only [go_sem, List.length_map]
      repeat refine And.intro (by first | omega | rfl | exact .inl rfl | exact .inl trivial | (simp; done) | (simp; omega)) ?_
      rw [show (i : Int) + 1 = ((i + 1 : Nat) : Int) by omega]
      refine ainv hfin (Shift.weakS ?_ rfl)
      simp only [wk, go_sem]
  have di : decide ((i : Int) < (q.length : Int)) = false := by simp; omega
  have hi2 : i = q.length := by omega
  subst hi2
  rw [List.take_length]
  clear hJ
  generalize (q.filter (isB l)).map (pap l) = o at *
  refine goB (N := 35) Tryz.ntmps11 300 ?_
  simp only [go_sem, di]
  exact ARet.shift (Shift.freeze 2 (id := 0) (l := o.map ppA) rfl rfl (by simp) (Nat.le_refl _) (ppA_frz2 _)) (aret [2, 3] rfl ⟨⟨o, 0, by simp only [resV, Av.get, Av.put, beq_self_eq_true, cond_true, cond_false, List.drop_zero, take_map, Nat.reduceBEq, List.map_cons, List.map_nil], fun _ => ⟨rfl, rfl⟩⟩, rfl⟩)

theorem eqFuncPp_pc (f : FuncId) (p : Pp → Pp → Bool) (hp : ∀ x y, p x y = true ↔ x = y) (a b : List Pp) (ha : a.length < 1000000) (hb : b.length < 1000000) (hf : ∀ x ∈ a, ∀ y ∈ b, Pc Tryz.prog f [ppA x, ppA y] (· = .bool (p x y))) :
    Pc Tryz.prog 54 [.fz 2 (a.map ppA), .fz 2 (b.map ppA), .fn (.func f) []] (· = .bool (decide (a = b))) := by
  by_cases hl : a.length = b.length
  · have d0 : ((a.length : Int) != (b.length : Int)) = false := by simp [hl]
    refine pc_intro (ct_intro Tryz.func54 rfl Tryz.ntmps54 hB54 (by simp) fun h ρ w => goB (N := 32) Tryz.ntmps54 300 ?_)
    simp only [go_sem, d0, List.length_map]
    refine aloop (ι := Nat) (fun i => a.length - i) (fun i => [(17, .int .i64 i), (16, .int .i64 a.length), (15, .fz 2 (a.map ppA)), (2, .fn (.func f) []), (1, .fz 2 (b.map ppA))]) (fun _ => []) (fun i => i ≤ a.length ∧ a.take i = b.take i) 0 (by simp) ?_ ?_
    · refine Shift.weakS ?_ rfl
      simp only [wk, go_sem]
    · rintro i ⟨g1, g2⟩ J hJ
      by_cases gi : i < a.length
      · have di : decide ((i : Int) < (a.length : Int)) = true := by simp; omega
        have gb : i < b.length := by omega
        have h1 := ppA_get a i gi
        have h2 := ppA_get b i gb
        have hfx := hf a[i] (List.getElem_mem gi) b[i] (List.getElem_mem gb)
        simp only [ppA] at hfx
        refine goB (N := 32) Tryz.ntmps54 300 ?_
        simp only [go_sem, di, h1, h2, List.length_map]
        repeat refine And.intro (by first | omega | rfl | kernel_rfl | (simp; omega)) ?_
        refine pcall1 (hfx) rfl (N := 32) Tryz.ntmps54 rfl (goB (N := 32) Tryz.ntmps54 300 ?_)
        cases he : p a[i] b[i] with
        | true =>
          have he2 := (hp _ _).1 he
          have hfin := hJ (i + 1) ⟨by omega, by rw [List.take_succ_eq_append_getElem gi, List.take_succ_eq_append_getElem gb, g2, he2]⟩ (by omega)
          simp only [go_sem]
          repeat refine And.intro (by first | omega | (simp; omega)) ?_
          rw [show (i : Int) + 1 = ((i + 1 : Nat) : Int) by omega]
          refine ainv hfin (Shift.low 0 (by simp) (by simp) rfl ?_)
          simp only [wkl, lowV, lowC, Av.get, go_sem]
        | false =>
          have hab : ¬ a = b := by
            rintro rfl
            rw [(hp _ _).2 rfl] at he
            cases he
          simp only [go_sem]
          refine ARet.shift (Shift.low 0 (e' := [(6, .bool false)]) (by simp) (by simp) rfl ?_) (aret [6] rfl ⟨by simp [resV, Av.get, Av.put, hab], rfl⟩)
          simp only [wkl, lowV, lowC, Av.get, go_sem]
      · have di : decide ((i : Int) < (a.length : Int)) = false := by simp; omega
        have : a = b := by
          rw [List.take_of_length_le (by omega), List.take_of_length_le (by omega)] at g2
          exact g2
        subst this
        refine goB (N := 32) Tryz.ntmps54 300 ?_
        simp only [go_sem, di]
        exact aret [6] rfl ⟨by simp [resV, Av.get], rfl⟩
  · have d0 : ((a.length : Int) != (b.length : Int)) = true := by simp; omega
    have hab : ¬ a = b := by
      rintro rfl
      exact hl rfl
    refine pc_intro (ct_intro Tryz.func54 rfl Tryz.ntmps54 hB54 (by simp) fun h ρ w => goB (N := 32) Tryz.ntmps54 300 ?_)
    simp only [go_sem, d0, List.length_map]
    exact aret [6] rfl ⟨by simp [resV, Av.get, Av.put, hab], rfl⟩
theorem samePapers_pc (a b : List Pp) (ha : a.length < 1000000) (hb : b.length < 1000000) (hs : ∀ x ∈ a, x.vers.length < 1000000) (ht : ∀ x ∈ b, x.vers.length < 1000000) : Pc Tryz.prog 17 [.fz 2 (a.map ppA), .fz 2 (b.map ppA)] (· = .bool (decide (a = b))) := by
  have hf := eqFuncPp_pc 55 (fun a b => a.name == b.name && decide (a.vers = b.vers)) (fun x y => by cases x; cases y; simp) a b ha hb fun x hx y hy => samePapFn_pc x y (hs x hx) (ht y hy)
  refine pc_intro (ct_intro Tryz.func17 rfl Tryz.ntmps17 hB17 (by simp) fun h ρ w => goB (N := 8) Tryz.ntmps17 300 ?_)
  simp only [go_sem]
  refine pcall1 (hf) rfl (N := 8) Tryz.ntmps17 rfl (goB (N := 8) Tryz.ntmps17 300 ?_)
  simp only [go_sem]
  exact aret [4] rfl ⟨rfl, rfl⟩
theorem papersL_len (l : List De) : (papersL l).length ≤ l.length ∧ ∀ x ∈ papersL l, x.vers.length ≤ l.length := by
  constructor
  · unfold papersL
    rw [List.length_map]
    exact Nat.le_trans (List.length_filter_le _ _) (names_len l)
  · intro x hx
    unfold papersL at hx
    obtain ⟨q, _, rfl⟩ := List.mem_map.1 hx
    show (versL l q).length ≤ l.length
    unfold versL lastL
    rw [List.length_map]
    exact Nat.le_trans (List.length_filter_le _ _) (List.length_filter_le _ _)
end Go.Proofs.YtkomcdohejibmaaGreatDoor
/- Calls that change nothing and whose result is not known exactly, in an open-order statement. Own work of this seat. -/
set_option linter.unusedSimpArgs false
set_option linter.unusedVariables false
set_option linter.unusedSectionVars false
namespace Go.Av
open Go Go.RowKit
variable [Tr]
variable {c : Cx} {s : List Blk}

end Go.Av
