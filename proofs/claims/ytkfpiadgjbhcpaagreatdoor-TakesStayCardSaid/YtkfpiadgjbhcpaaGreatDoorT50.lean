/- take.Conform, walked. Own work of this seat. -/
import Derived.Test.YtkfpiadgjbhcpaaGreatDoorT49
import Derived.Test.YtkfpiadgjbhcpaaGreatDoorT42
import Derived.Test.YtkfpiadgjbhcpaaGreatDoorT21
import Derived.Test.YtkfpiadgjbhcpaaGreatDoorT23
import Derived.Test.YtkfpiadgjbhcpaaGreatDoorT26
set_option maxRecDepth 100000
set_option linter.unusedSimpArgs false
set_option linter.unusedVariables false
namespace Go.Proofs.YtkfpiadgjbhcpaaGreatDoor
open Go Go.Av Go.RowKit

/-- what Conform leaves: the takes in a list of one's own, each with covers of its own -/
structure RowsI (R : List (Tk × Nat)) (T : List Blk) : Prop where
  h3 : T[3]? = some (.arr 9 (R.map rowH))
  rows : ∀ q ∈ R, 4 ≤ q.2 ∧ T[q.2]? = some (.arr 4 (q.1.covers.map cvA))
  inj : R.Pairwise fun p q => p.2 ≠ q.2
  low : T.all (lowB T.length) = true
theorem prM_snoc (ps : List (Nat × Nat)) (j : Nat) (h : j < ps.length) : prM (ps.take j) ++ [(AV.int .i64 (ps[j].1 : Nat), AV.int .i64 (ps[j].2 : Nat))] = prM (ps.take (j + 1)) := by
  rw [List.take_add_one, List.getElem?_eq_getElem h, prM, prM, List.map_append]
  rfl
theorem prM_new {ps : List (Nat × Nat)} (hp : ps.Pairwise fun p q => p.1 < q.1 ∧ p.2 < q.2) (j : Nat) (h : j < ps.length) : mfind (.int .i64) (.int .i64 (ps[j].1 : Nat)) (prM (ps.take j)) 0 = some none := by
  rcases prM_find (ps[j].1 : Nat) (ps.take j) 0 with ⟨h1, _⟩ | ⟨i, p, _, h2⟩
  · exact h1
  · have hm := List.mem_of_find?_eq_some h2
    have he := List.find?_some h2
    obtain ⟨k, hk, rfl⟩ := List.getElem_of_mem hm
    rw [List.length_take] at hk
    have := List.pairwise_iff_getElem.1 hp k j (by omega) h (by omega)
    rw [List.getElem_take] at he
    simp at he
    omega
theorem prs_get (ps : List (Nat × Nat)) (j : Nat) (h : j < ps.length) : (prs ps).getD j .any = .agg [.int .i64 (ps[j].1 : Nat), .int .i64 (ps[j].2 : Nat)] := by simp [prs, List.getD, h]
def covF (ps : List (Nat × Nat)) (cs : List Cv) (c : Nat) : List Cv := (cs.take c).filterMap (confC ps)
theorem covF_len (ps : List (Nat × Nat)) (cs : List Cv) (c : Nat) : (covF ps cs c).length ≤ c := by
  unfold covF
  have := List.length_filterMap_le (confC ps) (cs.take c)
  rw [List.length_take] at this
  omega
theorem covF_step (ps : List (Nat × Nat)) (cs : List Cv) (c : Nat) (h : c < cs.length) : covF ps cs (c + 1) = covF ps cs c ++ (confC ps cs[c]).toList := by
  unfold covF
  rw [List.take_add_one, List.getElem?_eq_getElem h, List.filterMap_append]
  simp only [Option.toList, List.filterMap_cons, List.filterMap_nil]
  cases confC ps cs[c] <;> rfl
theorem confL_step (xs ys : List Sc) (l : List Tk) (i : Nat) (h : i < l.length) : confL xs ys (l.take (i + 1)) = confL xs ys (l.take i) ++ (if ys.any (fun y => y.no == l[i].scene) then [confT xs ys l[i]] else []) := by
  unfold confL
  rw [List.take_add_one, List.getElem?_eq_getElem h, List.filter_append, List.map_append]
  simp only [Option.toList, List.filter_cons, List.filter_nil]
  split <;> rfl
theorem shift_low1 {c : Cx} {e e' : Env} {s : List Blk} (T V : List Blk) (hs : s = T ++ V) (hc : c.sto.length ≤ T.length) (hT : T.all (lowB T.length) = true) (hw : wkl T.length e e') : Shift c e s e' T := by
  subst hs
  have h := Shift.low (c := c) (e := e) (e' := e') (s := T ++ V) T.length hc (by simp) (by rw [List.take_left]; exact hT) hw
  rw [List.take_left] at h
  exact h
set_option maxHeartbeats 8000000 in
theorem conform_cth {S : Std} (hS : LibOk S) (x y : Sr) (RS : List AV) (l : List Tk)
    (hck : PcH Tryz.prog S 37 [srA x, .fz 5 RS, .fz 9 (l.map tkA)] (· = .int .i64 0))
    (hsf : PcH Tryz.prog S 48 [srA y] (· = .int .i64 0))
    (hsx : Ct Tryz.prog 38 [srA x] [] (fun r s => r = .mp 0 ∧ s = [.mp (scMF 0 x.scenes)]))
    (hsy : Ct Tryz.prog 38 [srA y] [] (fun r s => r = .mp 0 ∧ s = [.mp (scMF 0 y.scenes)]))
    (hdx : ∀ i (h : i < x.scenes.length) j (h2 : j < x.scenes.length), x.scenes[i].no = x.scenes[j].no → i = j)
    (hdy : ∀ i (h : i < y.scenes.length) j (h2 : j < y.scenes.length), y.scenes[i].no = y.scenes[j].no → i = j)
    (hin : ∀ t ∈ l, ∃ i, ∃ (h : i < x.scenes.length), x.scenes[i].no = t.scene)
    (hbx : ∀ z ∈ x.scenes, (∀ p ∈ z.paras, 0 ≤ p.kind ∧ p.kind ≤ 999 ∧ p.text.length ≤ 100000) ∧ z.paras.length ≤ 1000)
    (hby : ∀ z ∈ y.scenes, (∀ p ∈ z.paras, 0 ≤ p.kind ∧ p.kind ≤ 999 ∧ p.text.length ≤ 100000) ∧ z.paras.length ≤ 1000)
    (hxl : x.scenes.length ≤ 1000) (hyl : y.scenes.length ≤ 1000)
    (hcl : ∀ t ∈ l, t.covers.length ≤ 1000) (hl : l.length ≤ 1000) :
    CtH Tryz.prog S 15 [srA x, srA y, .fz 5 RS, .fz 9 (l.map tkA)] [] (fun v s => ∃ R : List (Tk × Nat), v = .tup [.sl 3 0 R.length R.length, .int .i64 0] ∧ R.map (·.1) = confL x.scenes y.scenes l ∧ RowsI R s) := by
  simp only [srA] at hck hsf hsx hsy ⊢
  have hsy1 := hsy.liftN rfl (by rintro _ _ ⟨_, rfl⟩; rfl) [.mp (scMF 0 x.scenes)]
  refine cth_intro Tryz.func15 rfl Tryz.ntmps15 hB15 (by simp) fun h ρ w hg => goB (N := 139) Tryz.ntmps15 300 ?_
  simp only [go_sem]
  refine pcallH1 hg (hck) rfl (N := 139) Tryz.ntmps15 rfl (goB (N := 139) Tryz.ntmps15 300 ?_)
  simp only [go_sem]
  refine pcallH1 hg (hsf) rfl (N := 139) Tryz.ntmps15 rfl (goB (N := 139) Tryz.ntmps15 300 ?_)
  simp only [go_sem]
  refine adrawC [1, 3] 99 [] mixed (by decide) (N := 139) Tryz.ntmps15 (by decide) 100 ?_
  simp only [go_sem, Go.Av.dxn, Go.Av.dxnc, ↓Go.Av.dbrn_true, ↓Go.Av.dbrn_false, Go.Av.dbrn]
  refine icc hsx ⟨_, _, rfl, rfl⟩ ?_
  rintro _ _ ⟨rfl, rfl⟩
  refine ⟨Agr.push' (Nat.zero_le _) _, ?_⟩
  refine icc hsy1 ⟨_, _, _, _, ⟨rfl, rfl⟩, rfl, rfl⟩ ?_
  rintro _ _ ⟨_, _, ⟨rfl, rfl⟩, rfl, rfl⟩
  refine ⟨Agr.push' (Nat.zero_le _) _, ?_⟩
  simp only [shV, sh1, shB, List.map_cons, List.map_nil, shC_scMF, List.length_cons, List.length_nil, List.cons_append, List.nil_append, Nat.zero_add]
  refine goB (N := 139) Tryz.ntmps15 300 ?_
  simp only [go_sem, List.length_map]
  refine aloop (ι := Nat × List (List UInt8 × Nat) × List (Tk × Nat) × List Blk) (fun y => l.length - y.1)
    (fun q => [(49, .int .i64 q.1), (48, .int .i64 l.length), (47, .fz 9 (l.map tkA)), (15, .sl 3 0 q.2.2.1.length q.2.2.1.length), (14, .mp 2), (13, .mp 1), (12, .mp 0), (5, .pin 2 [.agg [.str y.title, .fz 5 (y.scenes.map scA)]] 0 0), (4, .pin 2 [.agg [.str x.title, .fz 5 (x.scenes.map scA)]] 0 0)])
    (fun q => q.2.2.2) (fun q => q.1 ≤ l.length ∧ ConI x.scenes y.scenes q.2.1 q.2.2.1 q.2.2.2 ∧ q.2.2.1.map (·.1) = confL x.scenes y.scenes (l.take q.1))
    (0, [], [], [.mp (scMF 0 x.scenes), .mp (scMF 0 y.scenes), .mp [], .arr 9 []]) ⟨by simp, ?_, by simp [confL]⟩ ?_ ?_
  · exact ⟨rfl, rfl, rfl, rfl, by simp, by simp, .nil, by simp only [List.all_cons, List.all_nil, ↓low_scM, lowB, flat, Bool.and_self]⟩
  · refine Shift.trans (Shift.nilsl 15 9 rfl) (Shift.weakS ?_ rfl)
    simp only [wk, go_sem, List.length_map]
  rintro ⟨i, M, R, T⟩ ⟨g1, g2, g3⟩ J hJ
  simp only at g1 g2 g3 hJ ⊢
  by_cases gi : i < l.length
  · have di : decide ((i : Int) < (l.length : Int)) = true := by simp; omega
    have hget := tkA_get l i gi
    obtain ⟨a, ha, has⟩ := hin _ (List.getElem_mem gi)
    have hcov := hcl _ (List.getElem_mem gi)
    have hstep := confL_step x.scenes y.scenes l i gi
    have mA := scMF_find (k := l[i].scene) x.scenes 0 0 a ha has (fun j hj e => by have := hdx _ (by omega) _ ha (e.trans has.symm); omega)
    rw [Nat.zero_add] at mA
    have hfA := find_no hdx ha
    rw [has] at hfA
    have hRl : R.length ≤ i := by
      have := congrArg List.length g3
      rw [List.length_map] at this
      rw [this]
      unfold confL
      rw [List.length_map]
      have := List.length_filter_le (fun t => y.scenes.any fun z => z.no == t.scene) (l.take i)
      rw [List.length_take] at this
      omega
    have hYs : (∃ b, ∃ (h : b < y.scenes.length), y.scenes[b].no = l[i].scene) ∨ ∀ z ∈ y.scenes, z.no ≠ l[i].scene := by
      by_cases h : ∃ b, ∃ (h : b < y.scenes.length), y.scenes[b].no = l[i].scene
      · exact .inl h
      · refine .inr fun z hz e => h ?_
        obtain ⟨b, hb, rfl⟩ := List.getElem_of_mem hz
        exact ⟨b, hb, e⟩
    generalize htt : l[i] = t at *
    have g2' := g2.more (y := .arr 9 [tkA t]) (low_all (tk_frz [t]))
    have k1 := gd_app g2.h1
    simp only [tkA] at g2'
    rcases hYs with ⟨b, hb, hbs⟩ | hno
    · have mB := scMF_find (k := t.scene) y.scenes 0 0 b hb hbs (fun j hj e => by have := hdy _ (by omega) _ hb (e.trans hbs.symm); omega)
      rw [Nat.zero_add] at mB
      have hfB := find_no hdy hb
      rw [hbs] at hfB
      have hany : y.scenes.any (fun z => z.no == t.scene) = true := List.any_eq_true.2 ⟨_, List.getElem_mem hb, by simp [hbs]⟩
      rw [hany] at hstep
      simp only [if_true] at hstep
      have hps : psOf x.scenes y.scenes t.scene = pairsL (x.scenes[a].paras.map lnP) (y.scenes[b].paras.map lnP) := by simp only [psOf, hfA, hfB]
      obtain ⟨hbx1, hbx2⟩ := hbx _ (List.getElem_mem ha)
      obtain ⟨hby1, hby2⟩ := hby _ (List.getElem_mem hb)
      have hln1 := linesP_pch hS x.scenes[a] hbx1 hbx2
      have hln2 := linesP_pch hS y.scenes[b] hby1 hby2
      have hpr := Pairs_pc (x.scenes[a].paras.map lnP) (y.scenes[b].paras.map lnP) (by simp; omega) (by simp; omega)
      have hrise := (rise_lt (pairsL_rise (x.scenes[a].paras.map lnP) (y.scenes[b].paras.map lnP))).1
      have hplen := pairsL_len (x.scenes[a].paras.map lnP) (y.scenes[b].paras.map lnP)
      rw [List.length_map, List.length_map] at hplen
      rw [← hps] at hpr hrise hplen
      obtain ⟨ps, hpsd⟩ : ∃ ps, ps = psOf x.scenes y.scenes t.scene := ⟨_, rfl⟩
      rw [← hpsd] at hpr hrise hplen
      have hplen : ps.length ≤ 2000 := by omega
      have hgA := scA_get x.scenes a ha
      have hgB := scA_get y.scenes b hb
      simp only [scA] at hln1 hln2
      have hkT : (T ++ [Blk.arr 9 [tkA t]])[T.length]? = some (.arr 9 [tkA t]) := atT_end _ _
      simp only [tkA] at hkT
      have hTl : (T ++ [Blk.arr 9 [tkA t]]).length = T.length + 1 := by simp
      simp only [tkA] at hTl
      refine goB (N := 139) Tryz.ntmps15 55 ?_
      simp only [go_sem, di, hget, k1, mB, gd_end, st_end, List.length_map]
      repeat refine And.intro (by first | omega | (simp; done) | (simp; omega) | kernel_rfl) ?_
      generalize hT1 : T ++ [Blk.arr 9 [AV.agg [.str t.scene, .str t.setup, .int .i64 t.number, .str t.roll, .str t.sound, .int .i64 t.inn, .int .i64 t.out, .bool t.good, .fz 4 (t.covers.map cvA)]]] = T1 at g2' hkT hTl ⊢
      refine acut (ι := List (List UInt8 × Nat) × List Blk)
        (fun _ => [(17, .ptr T.length 1 0 0), (49, .int .i64 i), (48, .int .i64 l.length), (47, .fz 9 (l.map tkA)), (15, .sl 3 0 R.length R.length), (14, .mp 2), (13, .mp 1), (12, .mp 0), (5, .pin 2 [.agg [.str y.title, .fz 5 (y.scenes.map scA)]] 0 0), (4, .pin 2 [.agg [.str x.title, .fz 5 (x.scenes.map scA)]] 0 0)])
        (fun q => q.2) (fun q => ConI x.scenes y.scenes q.1 R q.2 ∧ q.2[T.length]? = some (.arr 9 [.agg [.str t.scene, .str t.setup, .int .i64 t.number, .str t.roll, .str t.sound, .int .i64 t.inn, .int .i64 t.out, .bool t.good, .fz 4 (t.covers.map cvA)]]) ∧ (∃ n m, mfind .string (.str t.scene) (q.1.map keM) 0 = some (some (n, .mp m.2)) ∧ m ∈ q.1 ∧ m.1 = t.scene) ∧ ∀ m ∈ q.1, m.2 ≠ T.length) ?_ ?_
      · intro Jc hJc
        have hbig := g2.big
        have k0 := gd_of g2'.h0
        have k2 := gd_of g2'.h2
        have k3 := gd_of hkT
        rcases keM_find t.scene M 0 with m1 | ⟨n, m, m1, m2, m3⟩
        · refine goB (N := 139) Tryz.ntmps15 30 ?_
          simp only [go_sem, k2, k3, m1]
          repeat refine And.intro (by first | omega | (simp; done) | (simp; omega) | kernel_rfl) ?_
          refine adraw [.fz 1 (strs (x.scenes[a].paras.map lnP)), .fz 1 (strs (y.scenes[b].paras.map lnP)), .tup [.fz 2 (prs ps), .int .i64 0]] mixed (by decide) (N := 139) Tryz.ntmps15 (by decide) 100 ?_
          simp only [go_sem, k0, k3, mA, hgA, hgB, List.length_map]
          repeat refine And.intro (by first | omega | (simp; done) | (simp; omega) | kernel_rfl | exact hln1.at hg | exact hln2.at hg | exact hpr.at) ?_
          refine goB (N := 139) Tryz.ntmps15 300 ?_
          simp only [go_sem, prs_len]
          have hT1b := g2'.big
          refine aloop (ι := Nat) (fun j => ps.length - j)
            (fun j => [(92, .int .i64 j), (91, .int .i64 ps.length), (90, .fz 2 (prs ps)), (22, .mp T1.length), (17, .ptr T.length 1 0 0), (49, .int .i64 i), (48, .int .i64 l.length), (47, .fz 9 (l.map tkA)), (15, .sl 3 0 R.length R.length), (14, .mp 2), (13, .mp 1), (12, .mp 0), (5, .pin 2 [.agg [.str y.title, .fz 5 (y.scenes.map scA)]] 0 0), (4, .pin 2 [.agg [.str x.title, .fz 5 (x.scenes.map scA)]] 0 0)])
            (fun j => T1 ++ [.mp (prM (ps.take j))]) (fun j => j ≤ ps.length) 0 (by simp) ?_ ?_
          · refine Shift.weakS ?_ rfl
            simp only [wk, go_sem, prs_len]
          intro j f1 J2 hJ2
          by_cases gj : j < ps.length
          · have dj : decide ((j : Int) < (ps.length : Int)) = true := by simp; omega
            have hpg := prs_get ps j gj
            have hnew := prM_new hrise j gj
            have hsn := prM_snoc ps j gj
            have hfin := hJ2 (j + 1) (by omega) (by omega)
            refine goB (N := 139) Tryz.ntmps15 300 ?_
            simp only [go_sem, dj, hpg, hnew, hsn, gd_e0, gd_e1, st_e0, st_e1, prs_len]
            repeat refine And.intro (by first | omega | (simp; done) | (simp; omega) | kernel_rfl) ?_
            rw [show (j : Int) + 1 = ((j + 1 : Nat) : Int) by omega]
            refine ainv hfin (shift_lowE T1 [_] [_] (List.append_assoc _ _ _) (by simp) g2'.low ?_ ?_)
            · simp only [List.all_cons, List.all_nil, ↓low_prM, Bool.and_self]
            · simp only [wkl, lowV, lowC, Av.get, go_sem]
              repeat (first | rfl | (simp; done) | (simp; omega) | refine And.intro (by first | rfl | (simp; done) | (simp; omega)) ?_)
          · have dj : decide ((j : Int) < (ps.length : Int)) = false := by simp; omega
            have hkM : M.map keM ++ [(AV.str t.scene, AV.mp T1.length)] = (M ++ [(t.scene, T1.length)]).map keM := by simp [keM]
            have k2b := gd_app g2'.h2
            have k3b := gd_app hkT
            have hpair := g2'.pair t.scene
            rw [← hpsd] at hpair
            have hfin := hJc (M ++ [(t.scene, T1.length)], _) ⟨hpair, by rw [List.getElem?_set_ne (by omega)]; exact atT_app hkT _, ⟨0 + M.length, (t.scene, T1.length), keM_last t.scene T1.length M 0 m1, by simp, rfl⟩, fun q hq => by
              rcases List.mem_append.1 hq with hq | hq
              · have := g2.mlt hq; omega
              · rw [List.mem_singleton.1 hq]; simp only; omega⟩
            rw [show ps.take j = ps from List.take_of_length_le (by omega)]
            refine goB (N := 139) Tryz.ntmps15 300 ?_
            simp only [go_sem, dj, k2b, k3b, m1, hkM]
            repeat refine And.intro (by first | omega | (simp; done) | (simp; omega) | kernel_rfl) ?_
            refine ainv hfin (Shift.weakS ?_ rfl)
            simp only [wk, go_sem]
        · have k4 := gd_of (g2'.maps m m2).2
          have hfin := hJc (M, T1) ⟨g2', hkT, ⟨0 + n, m, m1, m2, m3⟩, fun q hq => by have := g2.mlt hq; omega⟩
          refine goB (N := 139) Tryz.ntmps15 300 ?_
          simp only [go_sem, k2, k3, m1, k4]
          repeat refine And.intro (by first | omega | (simp; done) | (simp; omega) | kernel_rfl) ?_
          refine ainv hfin (Shift.weakS ?_ rfl)
          simp only [wk, go_sem]
      rintro ⟨M2, T2⟩ ⟨c1, c2, ⟨n, m, m1, m2, m3⟩, c4⟩
      simp only at c1 c2 m1 m2 c4 ⊢
      have hbig := c1.big
      have hmps := (c1.maps m m2).2
      rw [m3, ← hpsd] at hmps
      have hmlt := c1.mlt m2
      have hTlt := (List.getElem?_eq_some_iff.1 c2).1
      have k17 := gd_of c2
      have hRlt : ∀ q ∈ R, q.2 ≠ T.length := fun q hq => by have := g2.rlt hq; omega
      have hb4 := g2.big
      refine goB (N := 139) Tryz.ntmps15 300 ?_
      simp only [go_sem, k17, List.length_map]
      repeat refine And.intro (by first | omega | (simp; done) | (simp; omega) | kernel_rfl) ?_
      refine aloop (ι := Nat) (fun c => t.covers.length - c)
        (fun c => [(109, .int .i64 c), (108, .int .i64 t.covers.length), (107, .fz 4 (t.covers.map cvA)), (25, .sl T2.length 0 (covF ps t.covers c).length (covF ps t.covers c).length), (17, .ptr T.length 1 0 0), (49, .int .i64 i), (48, .int .i64 l.length), (47, .fz 9 (l.map tkA)), (15, .sl 3 0 R.length R.length), (14, .mp 2), (13, .mp 1), (12, .mp 0), (5, .pin 2 [.agg [.str y.title, .fz 5 (y.scenes.map scA)]] 0 0), (4, .pin 2 [.agg [.str x.title, .fz 5 (x.scenes.map scA)]] 0 0)])
        (fun c => T2 ++ [.arr 4 ((covF ps t.covers c).map cvA)]) (fun c => c ≤ t.covers.length) 0 (by simp) ?_ ?_
      · refine Shift.trans (Shift.nilsl 25 4 rfl) (Shift.weakS ?_ rfl)
        simp only [wk, go_sem, List.length_map]
        repeat (first | rfl | (simp; done) | (simp; omega) | refine And.intro (by first | rfl | (simp; done) | (simp; omega)) ?_)
      intro c f1 J2 hJ2
      have hcl2 := covF_len ps t.covers c
      by_cases gc : c < t.covers.length
      · have dc : decide ((c : Int) < (t.covers.length : Int)) = true := by simp; omega
        have hgc := cvA_get t.covers c gc
        have hfin := hJ2 (c + 1) (by omega) (by omega)
        have hcs := covF_step ps t.covers c gc
        have hl0 := cv_frz (covF ps t.covers c)
        have q2 := gd_app2 c1.h2
        have q3 := gd_app2 c2
        have q4 := gd_app2 hmps
        obtain ⟨cs, hcs0⟩ : ∃ z, z = covF ps t.covers c := ⟨_, rfl⟩
        rw [← hcs0] at hcs hl0 hcl2 ⊢
        rcases prM_find t.covers[c].para ps 0 with ⟨p1, p2⟩ | ⟨n2, p, p1, p2⟩
        · have hcn : confC ps t.covers[c] = none := by simp only [confC, p2, Option.map_none]
          rw [hcn] at hcs
          simp only [Option.toList, List.append_nil] at hcs
          rw [hcs] at hfin
          refine goB (N := 139) Tryz.ntmps15 300 ?_
          simp only [go_sem, dc, hgc, q2, q3, q4, gd_e0, gd_e1, st_e0, st_e1, m1, p1, List.length_map]
          repeat refine And.intro (by first | omega | (simp; done) | (simp; omega) | kernel_rfl) ?_
          rw [show (c : Int) + 1 = ((c + 1 : Nat) : Int) by omega]
          refine ainv hfin (shift_lowE T2 [_] [_] (List.append_assoc _ _ _) (by simp) c1.low ?_ ?_)
          · simp only [List.all_cons, List.all_nil, lowB, low_all hl0, Bool.and_self]
          · simp only [wkl, lowV, lowC, Av.get, go_sem]
            repeat (first | rfl | (simp; done) | (simp; omega) | refine And.intro (by first | rfl | (simp; done) | (simp; omega)) ?_)
        · have hcn : confC ps t.covers[c] = some ⟨p.2, t.covers[c].inn, t.covers[c].out, t.covers[c].on⟩ := by simp only [confC, p2, Option.map_some]
          rw [hcn] at hcs
          simp only [Option.toList] at hcs
          rw [hcs] at hfin
          simp only [List.map_append, List.map_cons, List.map_nil, cvA, List.length_append, List.length_cons, List.length_nil, Nat.zero_add] at hfin
          refine goB (N := 139) Tryz.ntmps15 300 ?_
          simp only [go_sem, dc, hgc, q2, q3, q4, gd_e0, gd_e1, st_e0, st_e1, m1, p1, List.length_map]
          repeat refine And.intro (by first | omega | (simp; done) | (simp; omega) | kernel_rfl | exact .inl rfl | exact .inl trivial) ?_
          rw [show (c : Int) + 1 = ((c + 1 : Nat) : Int) by omega]
          refine ainv hfin (shift_lowE T2 [_] [_] (List.append_assoc _ _ _) (by simp) c1.low ?_ ?_)
          · simp only [List.all_cons, List.all_nil, lowB, flat_append, List.all_append, low_all hl0, flat, cellsOf, lowC, Av.frozen, List.append_nil, List.cons_append, List.nil_append, Bool.and_self]
          · simp only [wkl, lowV, lowC, Av.get, go_sem]
            repeat (first | rfl | (simp; done) | (simp; omega) | refine And.intro (by first | rfl | (simp; done) | (simp; omega)) ?_)
      · have dc : decide ((c : Int) < (t.covers.length : Int)) = false := by simp; omega
        have hce : covF ps t.covers c = (confT x.scenes y.scenes t).covers := by
          have : c = t.covers.length := by omega
          subst this
          unfold covF confT
          rw [List.take_length, ← hpsd]
        rw [hce] at hcl2 ⊢
        clear hJ2
        obtain ⟨u, hu⟩ : ∃ u, u = confT x.scenes y.scenes t := ⟨_, rfl⟩
        have e1 : u.scene = t.scene := by rw [hu]; rfl
        have e2 : u.setup = t.setup := by rw [hu]; rfl
        have e3 : u.number = t.number := by rw [hu]; rfl
        have e4 : u.roll = t.roll := by rw [hu]; rfl
        have e5 : u.sound = t.sound := by rw [hu]; rfl
        have e6 : u.inn = t.inn := by rw [hu]; rfl
        have e7 : u.out = t.out := by rw [hu]; rfl
        have e8 : u.good = t.good := by rw [hu]; rfl
        rw [← hu] at hcl2 hstep ⊢
        have hrow := c1.row u hb4 hTlt c4 hRlt
        have hfin := hJ (i + 1, M2, R ++ [(u, T2.length)], _) ⟨by simp only; omega, hrow, by simp only; rw [hstep, List.map_append, g3]; rfl⟩ (by simp only; omega)
        have q3 := gd_app c1.h3
        have q17 := gd_app c2
        simp only [tkH, e1, e2, e3, e4, e5, e6, e7, e8, List.length_append, List.length_cons, List.length_nil, Nat.zero_add, List.map_append, List.map_cons, List.map_nil, rowH] at hfin
        have hXl : ∀ v, ((T2 ++ [Blk.arr 4 (u.covers.map cvA)]).set T.length v).length = T2.length + 1 := fun v => by simp
        have q18 : ∀ v, ((T2 ++ [Blk.arr 4 (u.covers.map cvA)]).set T.length v).getD T.length .dead = v := fun v => by
          rw [List.getD_eq_getElem?_getD, List.getElem?_set_self (by simp; omega)]; rfl
        have q19 : ∀ v w, (((T2 ++ [Blk.arr 4 (u.covers.map cvA)]).set T.length v) ++ [w]).getD 3 .dead = .arr 9 (R.map rowH) := fun v w => gd_app (gd_set (atT_app c1.h3 _) (by omega) _) w
        have q20 : ∀ v w, (((T2 ++ [Blk.arr 4 (u.covers.map cvA)]).set T.length v) ++ [w]).getD (T2.length + 1) .dead = w := fun v w => by
          rw [← hXl v]; exact gd_end _ _ _
        have q21 : ∀ v w z, (((T2 ++ [Blk.arr 4 (u.covers.map cvA)]).set T.length v) ++ [w]).set 3 z = (((T2 ++ [Blk.arr 4 (u.covers.map cvA)]).set T.length v).set 3 z) ++ [w] := fun v w z => List.set_append_left _ _ (by rw [hXl]; omega)
        have hrowl := hrow.low
        simp only [tkH, e1, e2, e3, e4, e5, e6, e7, e8, List.map_append, List.map_cons, List.map_nil, rowH] at hrowl
        have hrm : ∀ q : Tk × Nat, rowH q = tkH q.2 q.1 := fun _ => rfl
        refine go (N := 139) Tryz.ntmps15 300 ?_
        simp only [go_sem, dc, q17, q3, q18, q19, q20, q21, hXl, List.length_map]
        repeat refine And.intro (by first | omega | (simp; done) | (simp; omega) | kernel_rfl | exact .inl rfl | exact .inl trivial) ?_
        rw [show (i : Int) + 1 = ((i + 1 : Nat) : Int) by omega]
        refine ainv hfin (shift_low1 _ [_] rfl (by simp) hrowl ?_)
        simp only [wkl, lowV, lowC, Av.get, go_sem]
        repeat (first | rfl | (simp; done) | (simp; omega) | refine And.intro (by first | rfl | (simp; done) | (simp; omega)) ?_)
    · have mB := scMF_none (k := t.scene) y.scenes 0 0 hno
      have hany : y.scenes.any (fun z => z.no == t.scene) = false := by
        rw [List.any_eq_false]
        intro z hz
        simpa using hno z hz
      rw [hany] at hstep
      simp only [Bool.false_eq_true, if_false, List.append_nil] at hstep
      have hfin := hJ (i + 1, M, R, _) ⟨by simp only; omega, g2', by simp only; rw [hstep]; exact g3⟩ (by simp only; omega)
      refine goB (N := 139) Tryz.ntmps15 300 ?_
      simp only [go_sem, di, hget, k1, mB, gd_end, st_end, List.length_map]
      repeat refine And.intro (by first | omega | (simp; done) | (simp; omega) | kernel_rfl) ?_
      trace_state
      rw [show (i : Int) + 1 = ((i + 1 : Nat) : Int) by omega]
      refine ainv hfin (Shift.weakS ?_ rfl)
      simp only [wk, go_sem]
  · have di : decide ((i : Int) < (l.length : Int)) = false := by simp; omega
    have : i = l.length := by omega
    subst this
    rw [List.take_of_length_le (Nat.le_refl _)] at g3
    refine goB (N := 139) Tryz.ntmps15 300 ?_
    simp only [go_sem, di]
    exact aret [8, 9] rfl ⟨R, rfl, g3, g2.h3, g2.rows, g2.inj, g2.low⟩
theorem eq_paras_pc (ps : List Pa) (hl : ps.length < 1000000) : Pc Tryz.prog 53 [.fz 2 (ps.map paA), .fz 2 (ps.map paA)] (· = .bool true) := by
  have d0 : ((ps.length : Int) != (ps.length : Int)) = false := by simp
  refine pc_intro (ct_intro Tryz.func53 rfl Tryz.ntmps53 hB53 (by simp) fun h ρ w => go (N := 26) Tryz.ntmps53 300 ?_)
  simp only [go_sem, d0, List.length_map]
  refine aloop (ι := Nat) (fun i => ps.length - i) (fun i => [(13, .int .i64 i), (12, .int .i64 ps.length), (1, .fz 2 (ps.map paA)), (0, .fz 2 (ps.map paA))]) (fun _ => []) (fun i => i ≤ ps.length) 0 (by simp) ?_ ?_
  · refine Shift.weak ?_
    simp only [wk, go_sem]
  · intro i g1 J hJ
    by_cases gi : i < ps.length
    · have di : decide ((i : Int) < (ps.length : Int)) = true := by simp; omega
      have hg' : List.getD (List.map paA ps) i .any = .agg [.int .i64 ps[i].kind, .str ps[i].text] := by simp [List.getD, gi, paA]
      refine go (N := 26) Tryz.ntmps53 300 ?_
      simp only [go_sem, di, hg']
      refine adraw [] mixed (by decide) (N := 26) Tryz.ntmps53 (by decide) 100 ?_
      simp only [go_sem, hg', List.length_map]
      repeat refine And.intro (by first | omega | simpa using gi | rfl) ?_
      refine ⟨by kernel_rfl, ?_⟩
      refine go (N := 26) Tryz.ntmps53 300 ?_
      simp only [go_sem]
      refine ⟨by omega, by omega, ?_⟩
      rw [show (i : Int) + 1 = ((i + 1 : Nat) : Int) by omega]
      refine ainv (hJ (i + 1) (by omega) (by omega)) (Shift.weak ?_)
      simp only [wk, go_sem]
    · have di : decide ((i : Int) < (ps.length : Int)) = false := by simp; omega
      refine go (N := 26) Tryz.ntmps53 300 ?_
      simp only [go_sem, di]
      exact aret [4] rfl ⟨rfl, rfl⟩

theorem same_scene_pc (x : Sc) (hl : x.paras.length < 1000000) : Pc Tryz.prog 52 [scA x, scA x] (· = .bool true) := by
  have e1 : (x.no == x.no) = true := by simp
  have e2 : (x.place == x.place) = true := by simp
  have e3 : (x.set == x.set) = true := by simp
  have e4 : (x.time == x.time) = true := by simp
  simp only [scA]
  refine pc_intro (ct_intro Tryz.func52 rfl Tryz.ntmps52 hB52 (by simp) fun h ρ w => go (N := 38) Tryz.ntmps52 300 ?_)
  simp only [go_sem, e1, e2, e3, e4]
  refine pcall1 (eq_paras_pc x.paras hl) rfl (N := 38) Tryz.ntmps52 rfl (go (N := 38) Tryz.ntmps52 300 ?_)
  simp only [go_sem, e1, e2, e3, e4]
  exact aret [4] rfl ⟨rfl, rfl⟩

theorem eq_scenes_ct (b : Blk) (hb : lowB 2 b = true) (xs : List Sc) (hl : xs.length < 1000000) (hp : ∀ x ∈ xs, x.paras.length < 1000000) :
    Ct Tryz.prog 51 [.fz 5 (xs.map scA), .fz 5 (xs.map scA), .fn (.func 52) []] [b, b] (fun r s => r = .bool true ∧ s = [b, b]) := by
  have d0 : ((xs.length : Int) != (xs.length : Int)) = false := by simp
  refine ct_intro Tryz.func51 rfl Tryz.ntmps51 hB51 (by simp) fun h ρ w => go (N := 32) Tryz.ntmps51 300 ?_
  simp only [go_sem, d0, List.length_map]
  refine aloop (ι := Nat) (fun i => xs.length - i) (fun i => [(17, .int .i64 i), (16, .int .i64 xs.length), (15, .fz 5 (xs.map scA)), (2, .fn (.func 52) []), (1, .fz 5 (xs.map scA))]) (fun _ => [b, b]) (fun i => i ≤ xs.length) 0 (by simp) ?_ ?_
  · refine Shift.weak ?_
    simp only [wk, go_sem]
  · intro i g1 J hJ
    by_cases gi : i < xs.length
    · have di : decide ((i : Int) < (xs.length : Int)) = true := by simp; omega
      have hg' : List.getD (List.map scA xs) i .any = .agg [.str xs[i].no, .int .i64 xs[i].place, .str xs[i].set, .int .i64 xs[i].time, .fz 2 (xs[i].paras.map paA)] := by simp [List.getD, gi, scA]
      have hc := same_scene_pc xs[i] (hp _ (List.getElem_mem gi))
      simp only [scA] at hc
      refine go (N := 32) Tryz.ntmps51 300 ?_
      simp only [go_sem, di, hg', List.length_map]
      repeat refine And.intro (by first | omega | simpa using gi | rfl) ?_
      refine pcall1 (hc) rfl (N := 32) Tryz.ntmps51 rfl (go (N := 32) Tryz.ntmps51 300 ?_)
      simp only [go_sem]
      repeat refine And.intro (by first | omega | simpa using gi | rfl) ?_
      rw [show (i : Int) + 1 = ((i + 1 : Nat) : Int) by omega]
      refine ainv (hJ (i + 1) (by omega) (by omega)) (Shift.low 2 (by simp) (by simp) ?_ ?_)
      · simp only [List.take_succ_cons, List.take_zero, List.all_cons, List.all_nil, hb, Bool.and_self]
      · simp only [wkl, lowV, lowC, Av.get, go_sem]
    · have di : decide ((i : Int) < (xs.length : Int)) = false := by simp; omega
      refine go (N := 32) Tryz.ntmps51 300 ?_
      simp only [go_sem, di]
      exact aret [6] rfl ⟨rfl, rfl⟩

theorem same_pc (x : Sr) (hl : x.scenes.length < 1000000) (hp : ∀ y ∈ x.scenes, y.paras.length < 1000000) : Pc Tryz.prog 17 [srA x, srA x] (· = .bool true) := by
  have e1 : (x.title == x.title) = true := by simp
  simp only [srA]
  refine pc_intro (ct_intro Tryz.func17 rfl Tryz.ntmps17 hB17 (by simp) fun h ρ w => go (N := 17) Tryz.ntmps17 300 ?_)
  simp only [go_sem, e1]
  refine acall (eq_scenes_ct _ rfl x.scenes hl hp) (N := 17) Tryz.ntmps17 rfl ?_
  rintro _ _ ⟨rfl, rfl⟩
  refine go (N := 17) Tryz.ntmps17 300 ?_
  simp only [go_sem, e1]
  exact aret [4] rfl ⟨rfl, rfl⟩
end Go.Proofs.YtkfpiadgjbhcpaaGreatDoor
