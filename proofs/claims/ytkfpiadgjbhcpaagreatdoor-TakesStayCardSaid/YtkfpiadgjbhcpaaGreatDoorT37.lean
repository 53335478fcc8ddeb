/- Takes that are drawn: the walk. Own work of this seat. -/
import Derived.Test.YtkfpiadgjbhcpaaGreatDoorT36
import Derived.Test.YtkfpiadgjbhcpaaGreatDoorT21
set_option maxRecDepth 100000
set_option linter.unusedSimpArgs false
set_option linter.unusedVariables false
namespace Go.Proofs.YtkfpiadgjbhcpaaGreatDoor
open Go Go.Av Go.RowKit

theorem tk_frz : ∀ l : List Tk, (flat (l.map tkA)).all Av.frozen = true
  | [] => rfl
  | x :: r => by simpa [flat, cellsOf, tkA, Av.frozen] using tk_frz r
theorem cv_frz : ∀ l : List Cv, (flat (l.map cvA)).all Av.frozen = true
  | [] => rfl
  | x :: r => by simpa [flat, cellsOf, cvA, Av.frozen] using cv_frz r
theorem frzC_tk (id e : Nat) (z : List AV) (t : Tk) : frzC id e z (tkA t) = tkA t := rfl
theorem frzC_tks (id e : Nat) (z : List AV) (l : List Tk) : (l.map tkA).map (frzC id e z) = l.map tkA := by
  rw [List.map_map]
  exact List.map_congr_left fun t _ => frzC_tk id e z t
set_option maxHeartbeats 8000000 in
theorem fullX_mc (L : List Int) (k : Int) (x : Sr) (hx : StoryOk x) (r : Rl) (rs : List Rl) (h3 : 0 ≤ k) (h4 : k ≤ 700000) (hr1 : 0 ≤ r.start ∧ r.start ≤ 2600000) (hr2 : r.long ≤ 2600000) :
    Mc Tryz.prog 35 2 (str L k) [srA x, .fz 5 ((r :: rs).map rlA)] (fun v s => v = .fz 9 ((fullF L k x.scenes r).1.map tkA) ∧ s = str L (fullF L k x.scenes r).2) := by
  obtain ⟨Z, hZ⟩ : ∃ Z, Z = fullN L r x.scenes ⟨r.start, [], k⟩ := ⟨_, rfl⟩
  unfold fullF
  rw [← hZ]
  have hlen := hx.len
  obtain ⟨ti, xs⟩ := x
  simp only at hlen hZ
  have hget0 : List.getD (List.map rlA (r :: rs)) 0 .any = .agg [.str r.name, .int .i64 r.rate, .int .i64 r.start, .int .i64 r.long, .int .i64 r.drift] := rfl
  have hno : ∀ i, (hi : i < xs.length) → xs[i].no.length < 10 ∧ xs[i].paras.length ≤ 60 := fun i hi => by
    have h1 := no_facts i (by omega)
    rw [hx.no i hi]
    exact ⟨by omega, (hx.all i hi).len⟩
  simp only [srA]
  refine ct_intro Tryz.func35 rfl Tryz.ntmps35 hB35 (by simp) fun h ρ w => goB (N := 117) Tryz.ntmps35 300 ?_
  simp only [go_sem, rlA, List.length_map, List.length_cons]
  repeat refine And.intro (by first | omega | rfl | (simp [rlA]; done) | (simp; omega)) ?_
  refine aloop (ι := Nat × Int × List Tk × Int) (fun y => xs.length - y.1)
    (fun y => [(23, .int .i64 y.1), (22, .int .i64 xs.length), (21, .fz 5 (xs.map scA)), (8, .int .i64 y.2.1), (7, .sl 1 0 y.2.2.1.length y.2.2.1.length), (2, .fz 5 (.agg [.str r.name, .int .i64 r.rate, .int .i64 r.start, .int .i64 r.long, .int .i64 r.drift] :: rs.map rlA)), (0, .ptr 0 1 0 0)])
    (fun y => [.arr 2 [str L y.2.2.2], .arr 9 (y.2.2.1.map tkA)])
    (fun y => y.1 ≤ xs.length ∧ k ≤ y.2.2.2 ∧ y.2.2.2 ≤ k + 760 * y.1 ∧ TkSB r (3 * y.1) ⟨y.2.1, y.2.2.1, y.2.2.2⟩ ∧ fullN L r (xs.drop y.1) ⟨y.2.1, y.2.2.1, y.2.2.2⟩ = Z)
    (0, r.start, [], k) ⟨by simp, by simp only; omega, by simp only; omega, ⟨by simp only; omega, by simp, by simp⟩, by simpa using hZ.symm⟩ ?_ ?_
  · refine Shift.trans (Shift.nilsl 7 9 rfl) (Shift.weakS ?_ ?_)
    · simp only [wk, go_sem]
    · simp
  rintro ⟨i, a, out, k1⟩ ⟨g1, g2, g3, g4, g5⟩ J hJ
  simp only at g1 g2 g3 g4 g5 hJ ⊢
  have gl := g4.len
  simp only at gl
  by_cases gi : i < xs.length
  · have di : decide ((i : Int) < (xs.length : Int)) = true := by simp; omega
    have hd : xs.drop i = xs[i] :: xs.drop (i + 1) := List.drop_eq_getElem_cons gi
    rw [hd] at g5
    simp only [fullN] at g5
    have hget := scA_get xs i gi
    obtain ⟨hn1, hn2⟩ := hno i gi
    obtain ⟨s1, s2, s3⟩ := scTakes_bd L r xs[i] ⟨a, out, k1⟩ (3 * i) hn1 hn2 ⟨by omega, by omega⟩ g4
    simp only at s2 s3
    obtain ⟨Y, hY⟩ : ∃ Y, Y = scTakes L r xs[i] ⟨a, out, k1⟩ := ⟨_, rfl⟩
    rw [← hY] at g5 s1 s2 s3
    have hfin := hJ (i + 1, Y.at', Y.out, Y.k) ⟨by simp only; omega, by simp only; omega, by simp only; push_cast; omega, by
      simp only
      rw [show 3 * ((i + 1 : Nat) : Int) = 3 * (i : Int) + 3 by omega]
      exact s1, g5⟩ (by simp only; omega)
    have hrx := rangeX_mc L k1 1 3 (by decide) (by decide) (by decide) (by omega) (by omega)
    have hrb := range13 L k1 3 (by decide)
    unfold scTakes at hY
    simp only at hY
    generalize rangeF L k1 1 3 = m at *
    generalize xs[i] = y at *
    clear hJ
    refine goB (N := 117) Tryz.ntmps35 300 ?_
    simp only [go_sem, rlA, di, hget, List.length_map]
    repeat refine And.intro (by first | omega | rfl | (simp [rlA]; done) | (simp; omega)) ?_
    refine mcall (hrx) rfl rfl (id := 0) rfl (N := 117) Tryz.ntmps35 rfl ?_
    rintro _ _ ⟨rfl, rfl⟩
    refine goB (N := 117) Tryz.ntmps35 300 ?_
    simp only [go_sem, rlA]
    refine aloop (ι := Nat × Int × List Tk × Int) (fun q => m.toNat - q.1)
      (fun q => [(30, .int .i64 q.1), (29, .int .i64 m), (10, .ptr 2 1 0 0), (9, .int .i64 i), (23, .int .i64 i), (22, .int .i64 xs.length), (21, .fz 5 (xs.map scA)), (8, .int .i64 q.2.1), (7, .sl 1 0 q.2.2.1.length q.2.2.1.length), (2, .fz 5 (.agg [.str r.name, .int .i64 r.rate, .int .i64 r.start, .int .i64 r.long, .int .i64 r.drift] :: rs.map rlA)), (0, .ptr 0 1 0 0)])
      (fun q => [.arr 2 [str L q.2.2.2], .arr 9 (q.2.2.1.map tkA), .arr 5 [.agg [.str y.no, .int .i64 y.place, .str y.set, .int .i64 y.time, .fz 2 (y.paras.map paA)]]])
      (fun q => (q.1 : Int) ≤ m ∧ k1 ≤ q.2.2.2 ∧ q.2.2.2 ≤ k1 + 1 + 250 * q.1 ∧ TkSB r (3 * i + q.1) ⟨q.2.1, q.2.2.1, q.2.2.2⟩ ∧ takesN L y.no y.paras.length r (m.toNat - q.1) q.1 ⟨q.2.1, q.2.2.1, q.2.2.2⟩ = Y)
      (0, a, out, k1 + 1) ⟨by simp only; omega, by simp only; omega, by simp only; omega, by simpa using (⟨g4.at', g4.out, g4.len⟩ : TkSB r (3 * i) ⟨a, out, k1 + 1⟩), by simpa using hY.symm⟩ ?_ ?_
    · refine Shift.weakS ?_ rfl
      simp only [wk, go_sem]
    rintro ⟨n, a, out, k2⟩ ⟨e1, e2, e3, e4, e5⟩ J2 hJ2
    simp only at e1 e2 e3 e4 e5 hJ2 ⊢
    have el := e4.len
    have ea := e4.at'
    simp only at el ea
    by_cases gn : (n : Int) < m
    · have dn : decide ((n : Int) < m) = true := by simpa using gn
      rw [show m.toNat - n = (m.toNat - (n + 1)) + 1 by omega] at e5
      simp only [takesN] at e5
      obtain ⟨t1, t2, t3⟩ := takeStep_bd L y.no y.paras.length r n ⟨a, out, k2⟩ (3 * i + n) hn1 hn2 (by omega) ⟨by omega, by omega⟩ e4
      obtain ⟨z1, z2, z3, z4, z5, z6⟩ := covs_bd L n y.paras.length 0 ⟨a, [], k2⟩
      simp only at t2 t3 z1 z2 z3 z4 z5
      obtain ⟨X, hX⟩ : ∃ X, X = covs L n y.paras.length 0 ⟨a, [], k2⟩ := ⟨_, rfl⟩
      rw [← hX] at z1 z2 z3 z4 z5
      have hts : takeStep L y.no y.paras.length r n ⟨a, out, k2⟩ = ⟨X.inn + 1, if flipF L X.k 12 = false ∧ X.inn + 1 - r.start ≤ r.long then out ++ [mkTk y.no r n a X] else out, X.k + 1⟩ := by
        rw [hX]; rfl
      rw [hts] at e5 t1 t2 t3
      simp only at t2 t3
      have hfin2 := hJ2 (n + 1, X.inn + 1, if flipF L X.k 12 = false ∧ X.inn + 1 - r.start ≤ r.long then out ++ [mkTk y.no r n a X] else out, X.k + 1) ⟨by simp only; omega, by simp only; omega, by simp only; push_cast; omega, by
        simp only
        rw [show 3 * (i : Int) + ((n + 1 : Nat) : Int) = 3 * (i : Int) + n + 1 by omega]
        exact t1, e5⟩ (by simp only; omega)
      clear hJ2 e5 t1
      have hf12 := flipX_mc L X.k 12 (by decide) (by decide) (by omega) (by omega)
      generalize flipF L X.k 12 = fb at *
      refine goB (N := 117) Tryz.ntmps35 300 ?_
      simp only [go_sem, rlA, dn]
      refine adrawI [] 99 [] mixed (by decide) (N := 117) Tryz.ntmps35 (by decide) 100 ?_
      simp only [go_sem, rlA, List.length_map, List.length_cons]
      repeat refine And.intro (by first | omega | rfl | (simp [rlA]; done) | (simp; omega)) ?_
      refine goB (N := 117) Tryz.ntmps35 300 ?_
      simp only [go_sem, rlA, List.length_map]
      refine aloop (ι := Nat × Int × List Cv × Int) (fun q => y.paras.length - q.1)
        (fun q => [(47, .int .i64 q.1), (46, .int .i64 y.paras.length), (13, .int .i64 q.2.1), (12, .ptr 3 1 0 0), (11, .int .i64 n), (30, .int .i64 n), (29, .int .i64 m), (10, .ptr 2 1 0 0), (9, .int .i64 i), (23, .int .i64 i), (22, .int .i64 xs.length), (21, .fz 5 (xs.map scA)), (8, .int .i64 a), (7, .sl 1 0 out.length out.length), (2, .fz 5 (.agg [.str r.name, .int .i64 r.rate, .int .i64 r.start, .int .i64 r.long, .int .i64 r.drift] :: rs.map rlA)), (0, .ptr 0 1 0 0)])
        (fun q => [.arr 2 [str L q.2.2.2], .arr 9 (out.map tkA), .arr 5 [.agg [.str y.no, .int .i64 y.place, .str y.set, .int .i64 y.time, .fz 2 (y.paras.map paA)]], .arr 9 [.agg [.str y.no, .str [], .int .i64 (n + 1), .str r.name, .str [], .int .i64 a, .int .i64 0, .bool true, .sl 4 0 q.2.2.1.length q.2.2.1.length]], .arr 4 (q.2.2.1.map cvA)])
        (fun q => q.1 ≤ y.paras.length ∧ a ≤ q.2.1 ∧ q.2.1 ≤ a + 4 * q.1 ∧ k2 ≤ q.2.2.2 ∧ q.2.2.2 ≤ k2 + 4 * q.1 ∧ q.2.2.1.length ≤ q.1 ∧ covs L n (y.paras.length - q.1) q.1 ⟨q.2.1, q.2.2.1, q.2.2.2⟩ = X)
        (0, a, [], k2) ⟨by simp, by simp only; omega, by simp only; omega, by simp only; omega, by simp only; omega, by simp, by simpa using hX.symm⟩ ?_ ?_
      · refine Shift.trans (Shift.cells 3 4 [.agg [.str y.no, .str [], .int .i64 (n + 1), .str r.name, .str [], .int .i64 a, .int .i64 0, .bool true, .sl 4 0 0 0]] rfl rfl (by simp [cellsOf]) ⟨.refl, .refl, .refl, .refl, .refl, .refl, .refl, .refl, .sl, trivial⟩) (Shift.weakS ?_ ?_)
        · simp only [wk, go_sem]
        · simp
      rintro ⟨p, b, cs, k3⟩ ⟨f1, f2, f3, f4, f5, f6, f7⟩ J3 hJ3
      simp only at f1 f2 f3 f4 f5 f6 f7 hJ3 ⊢
      by_cases gp : p < y.paras.length
      · have dp : decide ((p : Int) < (y.paras.length : Int)) = true := by simp; omega
        rw [show y.paras.length - p = (y.paras.length - (p + 1)) + 1 by omega] at f7
        simp only [covs] at f7
        obtain ⟨c1, c2, c3, c4, c5, c6⟩ := covStep_bd L n p ⟨b, cs, k3⟩
        simp only at c1 c2 c3 c4 c5
        have hfin3 : ∀ V, V = covStep L n p ⟨b, cs, k3⟩ → _ := fun V hV => hJ3 (p + 1, V.inn, V.cs, V.k) ⟨by simp only; omega, by rw [hV]; simp only; omega, by rw [hV]; simp only; push_cast; omega, by rw [hV]; simp only; omega, by rw [hV]; simp only; push_cast; omega, by rw [hV]; simp only; omega, by rw [hV]; exact f7⟩ (by simp only; omega)
        have hfl3 := flipX_mc L k3 3 (by decide) (by decide) (by omega) (by omega)
        have hn2' := nextX_mc L (k3 + 1) 2 (by decide) (by decide) (by omega) (by omega)
        have hnb := nx_bd L (k3 + 1) 2 (by decide)
        -- the rest of a round, once it is known where the stream is
        have rest : ∀ k0 : Int, k0 = (if 0 < n then k3 + 1 else k3) → ¬ (0 < n ∧ flipF L k3 3 = true) → ∀ V, V = covStep L n p ⟨b, cs, k3⟩ → V = if flipF L (k0 + 1 + 1) 4 then ⟨b + rangeF L k0 1 3 + 1, cs ++ [⟨p, b + 1, b + rangeF L k0 1 3 + 1, flipF L (k0 + 1) 2⟩], k0 + 1 + 1 + 1⟩ else ⟨b + rangeF L k0 1 3, cs ++ [⟨p, b, b + rangeF L k0 1 3, flipF L (k0 + 1) 2⟩], k0 + 1 + 1 + 1⟩ := fun k0 hk hc V hV => by
          rw [hV, covStep, if_neg hc]
          simp only
          rw [← hk]
        by_cases hn0 : 0 < n
        · have q0 : decide ((n : Int) > 0) = true := by simp; omega
          cases hb3 : flipF L k3 3 with
          | true =>
            have hv : (⟨b + nx L (k3 + 1) 2, cs, k3 + 1 + 1⟩ : CvS) = covStep L n p ⟨b, cs, k3⟩ := by
              rw [covStep, if_pos ⟨hn0, hb3⟩]
            have hf := hfin3 _ hv
            simp only at hf
            rw [hb3] at hfl3
            generalize nx L (k3 + 1) 2 = nn at *
            refine goB (N := 117) Tryz.ntmps35 300 ?_
            simp only [go_sem, rlA, dp, q0]
            refine mcall (hfl3) rfl rfl (id := 0) rfl (N := 117) Tryz.ntmps35 rfl ?_
            rintro _ _ ⟨rfl, rfl⟩
            refine goB (N := 117) Tryz.ntmps35 300 ?_
            simp only [go_sem, rlA]
            refine mcall (hn2') rfl rfl (id := 0) rfl (N := 117) Tryz.ntmps35 rfl ?_
            rintro _ _ ⟨rfl, rfl⟩
            refine goB (N := 117) Tryz.ntmps35 300 ?_
            simp only [go_sem, rlA]
            repeat refine And.intro (by first | omega | rfl | (simp [rlA]; done) | (simp; omega)) ?_
            rw [show (p : Int) + 1 = ((p + 1 : Nat) : Int) by omega]
            refine ainv hf (Shift.weakS ?_ rfl)
            simp only [wk, go_sem]
          | false =>
            have hr := rest (k3 + 1) (by rw [if_pos hn0]) (by simp [hb3]) _ rfl
            rw [hb3] at hfl3
            have hra := rangeX_mc L (k3 + 1) 1 3 (by decide) (by decide) (by decide) (by omega) (by omega)
            have hrab := range13 L (k3 + 1) 3 (by decide)
            have hf2 := flipX_mc L (k3 + 1 + 1) 2 (by decide) (by decide) (by omega) (by omega)
            have hf4 := flipX_mc L (k3 + 1 + 1 + 1) 4 (by decide) (by decide) (by omega) (by omega)
            have hf := hfin3 _ rfl
            rw [hr] at hf c1 c2 c3 c4 c5
            clear rest hfin3 hJ3 c6 f7 hr
            generalize rangeF L (k3 + 1) 1 3 = rg at *
            generalize flipF L ((k3 + 1) + 1) 2 = b2 at *
            generalize flipF L ((k3 + 1) + 1 + 1) 4 = b4 at *
            cases b4 with
            | true =>
              simp only [if_true, List.map_append, List.length_append, List.map_cons, List.map_nil, List.length_cons, List.length_nil, Nat.zero_add, cvA] at hf
              refine goB (N := 117) Tryz.ntmps35 300 ?_
              simp only [go_sem, rlA, dp, q0]
              refine mcall (hfl3) rfl rfl (id := 0) rfl (N := 117) Tryz.ntmps35 rfl ?_
              rintro _ _ ⟨rfl, rfl⟩
              refine goB (N := 117) Tryz.ntmps35 300 ?_
              simp only [go_sem, rlA]
              refine mcall (hra) rfl rfl (id := 0) rfl (N := 117) Tryz.ntmps35 rfl ?_
              rintro _ _ ⟨rfl, rfl⟩
              refine goB (N := 117) Tryz.ntmps35 300 ?_
              simp only [go_sem, rlA]
              repeat refine And.intro (by first | omega | rfl | (simp [rlA]; done) | (simp; omega)) ?_
              refine mcall (hf2) rfl rfl (id := 0) rfl (N := 117) Tryz.ntmps35 rfl ?_
              rintro _ _ ⟨rfl, rfl⟩
              refine goB (N := 117) Tryz.ntmps35 300 ?_
              simp only [go_sem, rlA]
              refine mcall (hf4) rfl rfl (id := 0) rfl (N := 117) Tryz.ntmps35 rfl ?_
              rintro _ _ ⟨rfl, rfl⟩
              refine goB (N := 117) Tryz.ntmps35 300 ?_
              simp only [go_sem, rlA, List.length_map]
              repeat refine And.intro (by first | omega | rfl | exact .inl trivial | (simp [rlA]; done) | (simp; omega)) ?_
              rw [show (p : Int) + 1 = ((p + 1 : Nat) : Int) by omega]
              refine ainv hf (Shift.low 5 (by simp) (by simp) ?_ ?_)
              · simp only [List.take_succ_cons, List.take_zero, List.all_cons, List.all_nil, lowB, flat, cellsOf, lowC, str, Av.frozen, decide_true, List.append_nil, List.cons_append, List.nil_append, flat_append, List.all_append, low_all (tk_frz _), low_all (cv_frz _), Nat.reduceLT, Bool.and_self]
              · simp only [wkl, lowV, lowC, Av.get, go_sem]
            | false =>
              simp only [Bool.false_eq_true, if_false, List.map_append, List.length_append, List.map_cons, List.map_nil, List.length_cons, List.length_nil, Nat.zero_add, cvA] at hf
              refine goB (N := 117) Tryz.ntmps35 300 ?_
              simp only [go_sem, rlA, dp, q0]
              refine mcall (hfl3) rfl rfl (id := 0) rfl (N := 117) Tryz.ntmps35 rfl ?_
              rintro _ _ ⟨rfl, rfl⟩
              refine goB (N := 117) Tryz.ntmps35 300 ?_
              simp only [go_sem, rlA]
              refine mcall (hra) rfl rfl (id := 0) rfl (N := 117) Tryz.ntmps35 rfl ?_
              rintro _ _ ⟨rfl, rfl⟩
              refine goB (N := 117) Tryz.ntmps35 300 ?_
              simp only [go_sem, rlA]
              repeat refine And.intro (by first | omega | rfl | (simp [rlA]; done) | (simp; omega)) ?_
              refine mcall (hf2) rfl rfl (id := 0) rfl (N := 117) Tryz.ntmps35 rfl ?_
              rintro _ _ ⟨rfl, rfl⟩
              refine goB (N := 117) Tryz.ntmps35 300 ?_
              simp only [go_sem, rlA]
              refine mcall (hf4) rfl rfl (id := 0) rfl (N := 117) Tryz.ntmps35 rfl ?_
              rintro _ _ ⟨rfl, rfl⟩
              refine goB (N := 117) Tryz.ntmps35 300 ?_
              simp only [go_sem, rlA, List.length_map]
              repeat refine And.intro (by first | omega | rfl | exact .inl trivial | (simp [rlA]; done) | (simp; omega)) ?_
              rw [show (p : Int) + 1 = ((p + 1 : Nat) : Int) by omega]
              refine ainv hf (Shift.low 5 (by simp) (by simp) ?_ ?_)
              · simp only [List.take_succ_cons, List.take_zero, List.all_cons, List.all_nil, lowB, flat, cellsOf, lowC, str, Av.frozen, decide_true, List.append_nil, List.cons_append, List.nil_append, flat_append, List.all_append, low_all (tk_frz _), low_all (cv_frz _), Nat.reduceLT, Bool.and_self]
              · simp only [wkl, lowV, lowC, Av.get, go_sem]
        · have q0 : decide ((n : Int) > 0) = false := by simp; omega
          have hr := rest k3 (by rw [if_neg hn0]) (fun h => hn0 h.1) _ rfl
          have hra := rangeX_mc L k3 1 3 (by decide) (by decide) (by decide) (by omega) (by omega)
          have hrab := range13 L k3 3 (by decide)
          have hf2 := flipX_mc L (k3 + 1) 2 (by decide) (by decide) (by omega) (by omega)
          have hf4 := flipX_mc L (k3 + 1 + 1) 4 (by decide) (by decide) (by omega) (by omega)
          have hf := hfin3 _ rfl
          rw [hr] at hf c1 c2 c3 c4 c5
          clear rest hfin3 hJ3 c6 f7 hr
          generalize rangeF L k3 1 3 = rg at *
          generalize flipF L (k3 + 1) 2 = b2 at *
          generalize flipF L (k3 + 1 + 1) 4 = b4 at *
          cases b4 with
          | true =>
            simp only [if_true, List.map_append, List.length_append, List.map_cons, List.map_nil, List.length_cons, List.length_nil, Nat.zero_add, cvA] at hf
            refine goB (N := 117) Tryz.ntmps35 300 ?_
            simp only [go_sem, rlA, dp, q0]
            refine mcall (hra) rfl rfl (id := 0) rfl (N := 117) Tryz.ntmps35 rfl ?_
            rintro _ _ ⟨rfl, rfl⟩
            refine goB (N := 117) Tryz.ntmps35 300 ?_
            simp only [go_sem, rlA]
            repeat refine And.intro (by first | omega | rfl | (simp [rlA]; done) | (simp; omega)) ?_
            refine mcall (hf2) rfl rfl (id := 0) rfl (N := 117) Tryz.ntmps35 rfl ?_
            rintro _ _ ⟨rfl, rfl⟩
            refine goB (N := 117) Tryz.ntmps35 300 ?_
            simp only [go_sem, rlA]
            refine mcall (hf4) rfl rfl (id := 0) rfl (N := 117) Tryz.ntmps35 rfl ?_
            rintro _ _ ⟨rfl, rfl⟩
            refine goB (N := 117) Tryz.ntmps35 300 ?_
            simp only [go_sem, rlA, List.length_map]
            repeat refine And.intro (by first | omega | rfl | exact .inl trivial | (simp [rlA]; done) | (simp; omega)) ?_
            rw [show (p : Int) + 1 = ((p + 1 : Nat) : Int) by omega]
            refine ainv hf (Shift.low 5 (by simp) (by simp) ?_ ?_)
            · simp only [List.take_succ_cons, List.take_zero, List.all_cons, List.all_nil, lowB, flat, cellsOf, lowC, str, Av.frozen, decide_true, List.append_nil, List.cons_append, List.nil_append, flat_append, List.all_append, low_all (tk_frz _), low_all (cv_frz _), Nat.reduceLT, Bool.and_self]
            · simp only [wkl, lowV, lowC, Av.get, go_sem]
          | false =>
            simp only [Bool.false_eq_true, if_false, List.map_append, List.length_append, List.map_cons, List.map_nil, List.length_cons, List.length_nil, Nat.zero_add, cvA] at hf
            refine goB (N := 117) Tryz.ntmps35 300 ?_
            simp only [go_sem, rlA, dp, q0]
            refine mcall (hra) rfl rfl (id := 0) rfl (N := 117) Tryz.ntmps35 rfl ?_
            rintro _ _ ⟨rfl, rfl⟩
            refine goB (N := 117) Tryz.ntmps35 300 ?_
            simp only [go_sem, rlA]
            repeat refine And.intro (by first | omega | rfl | (simp [rlA]; done) | (simp; omega)) ?_
            refine mcall (hf2) rfl rfl (id := 0) rfl (N := 117) Tryz.ntmps35 rfl ?_
            rintro _ _ ⟨rfl, rfl⟩
            refine goB (N := 117) Tryz.ntmps35 300 ?_
            simp only [go_sem, rlA]
            refine mcall (hf4) rfl rfl (id := 0) rfl (N := 117) Tryz.ntmps35 rfl ?_
            rintro _ _ ⟨rfl, rfl⟩
            refine goB (N := 117) Tryz.ntmps35 300 ?_
            simp only [go_sem, rlA, List.length_map]
            repeat refine And.intro (by first | omega | rfl | exact .inl trivial | (simp [rlA]; done) | (simp; omega)) ?_
            rw [show (p : Int) + 1 = ((p + 1 : Nat) : Int) by omega]
            refine ainv hf (Shift.low 5 (by simp) (by simp) ?_ ?_)
            · simp only [List.take_succ_cons, List.take_zero, List.all_cons, List.all_nil, lowB, flat, cellsOf, lowC, str, Av.frozen, decide_true, List.append_nil, List.cons_append, List.nil_append, flat_append, List.all_append, low_all (tk_frz _), low_all (cv_frz _), Nat.reduceLT, Bool.and_self]
            · simp only [wkl, lowV, lowC, Av.get, go_sem]
      · have dp : decide ((p : Int) < (y.paras.length : Int)) = false := by simp; omega
        rw [show y.paras.length - p = 0 by omega] at f7
        simp only [covs] at f7
        subst f7
        simp only at hf12 hfin2 t2 t3 z1 z2 z3 z4 z5
        clear hJ3
        refine AWp.shift (Shift.frz 4 rfl (cv_frz cs)) ?_
        simp only [↓frzC_str, ↓frz_str, frzE, frz, frz1, frzC, frzB, List.map_cons, List.map_nil, List.set_cons_succ, List.set_cons_zero, Nat.reduceBEq, cond_true, cond_false, Bool.false_and, Bool.true_and, List.length_map, Nat.zero_add, decide_true, Nat.le_refl, List.drop_zero, frzC_tks, take_map, beq_self_eq_true]
        cases fb with
        | true =>
          simp only [Bool.true_eq_false, false_and, if_false] at hfin2
          refine goB (N := 117) Tryz.ntmps35 300 ?_
          simp only [go_sem, rlA, dp]
          repeat refine And.intro (by first | omega | rfl | (simp [rlA]; done) | (simp; omega)) ?_
          refine adrawI [1] 0 [] mixed (by decide) (N := 117) Tryz.ntmps35 (by decide) 100 ?_
          simp only [go_sem, rlA]
          refine icall hf12 rfl rfl rfl ⟨_, _, rfl, rfl⟩ ?_
          rintro _ _ ⟨rfl, rfl⟩
          simp only [go_sem, rlA]
          repeat refine And.intro (by first | omega | rfl | (simp [rlA]; done) | (simp; omega)) ?_
          refine goB (N := 117) Tryz.ntmps35 300 ?_
          simp only [go_sem, rlA]
          repeat refine And.intro (by first | omega | rfl | (simp [rlA]; done) | (simp; omega)) ?_
          rw [show (n : Int) + 1 = ((n + 1 : Nat) : Int) by omega]
          refine ainv hfin2 (Shift.low 3 (by simp) (by simp) ?_ ?_)
          · simp only [List.take_succ_cons, List.take_zero, List.all_cons, List.all_nil, lowB, flat, cellsOf, lowC, str, Av.frozen, decide_true, List.append_nil, List.cons_append, List.nil_append, flat_append, List.all_append, low_all (tk_frz _), low_all (cv_frz _), Nat.reduceLT, Bool.and_self]
          · simp only [wkl, lowV, lowC, Av.get, go_sem]
        | false =>
          cases hle : decide (b + 1 - r.start ≤ r.long) with
          | false =>
            have hle' : ¬ b + 1 - r.start ≤ r.long := by simpa using hle
            simp only [true_and, if_neg hle'] at hfin2
            refine goB (N := 117) Tryz.ntmps35 300 ?_
            simp only [go_sem, rlA, dp]
            repeat refine And.intro (by first | omega | rfl | (simp [rlA]; done) | (simp; omega)) ?_
            refine adrawI [1] 0 [] mixed (by decide) (N := 117) Tryz.ntmps35 (by decide) 100 ?_
            simp only [go_sem, rlA]
            refine icall hf12 rfl rfl rfl ⟨_, _, rfl, rfl⟩ ?_
            rintro _ _ ⟨rfl, rfl⟩
            simp only [go_sem, rlA, hle]
            repeat refine And.intro (by first | omega | rfl | (simp [rlA]; done) | (simp; omega)) ?_
            refine goB (N := 117) Tryz.ntmps35 300 ?_
            simp only [go_sem, rlA]
            repeat refine And.intro (by first | omega | rfl | (simp [rlA]; done) | (simp; omega)) ?_
            rw [show (n : Int) + 1 = ((n + 1 : Nat) : Int) by omega]
            refine ainv hfin2 (Shift.low 3 (by simp) (by simp) ?_ ?_)
            · simp only [List.take_succ_cons, List.take_zero, List.all_cons, List.all_nil, lowB, flat, cellsOf, lowC, str, Av.frozen, decide_true, List.append_nil, List.cons_append, List.nil_append, flat_append, List.all_append, low_all (tk_frz _), low_all (cv_frz _), Nat.reduceLT, Bool.and_self]
            · simp only [wkl, lowV, lowC, Av.get, go_sem]
          | true =>
            have hle' : b + 1 - r.start ≤ r.long := by simpa using hle
            simp only [true_and, if_pos hle', List.map_append, List.length_append, List.map_cons, List.map_nil, List.length_cons, List.length_nil, Nat.zero_add, mkTk, tkA] at hfin2
            refine goB (N := 117) Tryz.ntmps35 300 ?_
            simp only [go_sem, rlA, dp]
            repeat refine And.intro (by first | omega | rfl | (simp [rlA]; done) | (simp; omega)) ?_
            refine adrawI [1] 0 [] mixed (by decide) (N := 117) Tryz.ntmps35 (by decide) 100 ?_
            simp only [go_sem, rlA]
            refine icall hf12 rfl rfl rfl ⟨_, _, rfl, rfl⟩ ?_
            rintro _ _ ⟨rfl, rfl⟩
            simp only [go_sem, rlA, hle]
            repeat refine And.intro (by first | omega | rfl | (simp [rlA]; done) | (simp; omega)) ?_
            refine goB (N := 117) Tryz.ntmps35 300 ?_
            simp only [go_sem, rlA, List.length_map]
            repeat refine And.intro (by first | omega | rfl | exact .inl trivial | (simp [rlA]; done) | (simp; omega)) ?_
            rw [show (n : Int) + 1 = ((n + 1 : Nat) : Int) by omega]
            refine ainv hfin2 (Shift.low 3 (by simp) (by simp) ?_ ?_)
            · simp only [List.take_succ_cons, List.take_zero, List.all_cons, List.all_nil, lowB, flat, cellsOf, lowC, str, Av.frozen, decide_true, List.append_nil, List.cons_append, List.nil_append, flat_append, List.all_append, low_all (tk_frz _), low_all (cv_frz _), Nat.reduceLT, Bool.and_self]
            · simp only [wkl, lowV, lowC, Av.get, go_sem]
    · have dn : decide ((n : Int) < m) = false := by simp; omega
      rw [show m.toNat - n = 0 by omega] at e5
      simp only [takesN] at e5
      subst e5
      simp only at hfin
      clear hJ2
      refine goB (N := 117) Tryz.ntmps35 300 ?_
      simp only [go_sem, rlA, dn]
      repeat refine And.intro (by first | omega | rfl | (simp [rlA]; done) | (simp; omega)) ?_
      rw [show (i : Int) + 1 = ((i + 1 : Nat) : Int) by omega]
      refine ainv hfin (Shift.low 2 (by simp) (by simp) ?_ ?_)
      · simp only [List.take_succ_cons, List.take_zero, List.all_cons, List.all_nil, lowB, flat, cellsOf, lowC, str, Av.frozen, decide_true, List.append_nil, List.cons_append, List.nil_append, flat_append, List.all_append, low_all (tk_frz _), low_all (cv_frz _), Nat.reduceLT, Bool.and_self]
      · simp only [wkl, lowV, lowC, Av.get, go_sem]
  · have di : decide ((i : Int) < (xs.length : Int)) = false := by simp; omega
    rw [show xs.drop i = [] from List.drop_eq_nil_iff.2 (by omega)] at g5
    simp only [fullN] at g5
    subst g5
    clear hJ
    refine AWp.shift (Shift.freeze 7 (id := 1) (l := out.map tkA) rfl rfl (by simp) (Nat.le_refl _) (tk_frz _)) ?_
    have htk : List.take out.length (List.drop 0 (out.map tkA)) = out.map tkA := by rw [List.drop_zero, take_map]
    rw [htk]
    refine goB (N := 117) Tryz.ntmps35 300 ?_
    simp only [go_sem, rlA, di]
    exact aret [6] rfl ⟨_, _, rfl, rfl, rfl, rfl, rfl⟩
end Go.Proofs.YtkfpiadgjbhcpaaGreatDoor
