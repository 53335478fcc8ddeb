/- The checks of takes in the program. Own work of this seat. -/
import Derived.Test.YtkfpiadgjbhcpaaGreatDoorA40
import Derived.Test.YtkfpiadgjbhcpaaGreatDoorA24
import Derived.Test.YtkfpiadgjbhcpaaGreatDoorA22
set_option maxRecDepth 100000
set_option linter.unusedSimpArgs false
set_option linter.unusedVariables false
namespace Go.Proofs.YtkfpiadgjbhcpaaGreatDoor
open Go Go.Av Go.RowKit

theorem story_script {x : Sr} (h : StoryOk x) : ScriptOk x := by
  have hl := h.len
  have hs := story_sum h
  have ht := List.all_eq_true.1 title_all x.title h.title
  simp only [Bool.and_eq_true, decide_eq_true_eq] at ht
  refine ⟨ht.2, ht.1, by omega, by omega, ?_⟩
  have key : ∀ (l : List Sc) (i : Nat), i + l.length ≤ 5 → (∀ j, (hj : j < l.length) → l[j].no = lastL (i + j + 1) ∧ DrawnS ⟨[], l[j].place, l[j].set, l[j].time, l[j].paras⟩) → (i = 0 → ∀ y, l.head? = some y → y.time ≠ 5) → okFrom (accN i) (decide (i = 0)) l := by
    intro l
    induction l with
    | nil => intros; trivial
    | cons y r ih =>
      intro i hi hall h5
      simp only [List.length_cons] at hi
      obtain ⟨h1, h2⟩ := hall 0 (by simp)
      simp only [List.getElem_cons_zero, Nat.add_zero] at h1 h2
      have ha := acc_new i (by omega)
      have hd : dd (accN i) y.no = accN (i + 1) := by
        rw [h1, dd, if_neg ha.1]
        simp [accN, List.range_succ]
      refine ⟨.inr ?_, h2.place, h2.time, fun hf => h5 (by simpa using hf) y rfl, ?_, ?_⟩
      · rw [h1]; exact ⟨ha.2.1, ha.2.2, ha.1⟩
      · have := drawn_scene h2
        exact ⟨this.set, this.len, this.many, this.run⟩
      · rw [hd]
        have := ih (i + 1) (by omega) (fun j hj => by
          have := hall (j + 1) (by simpa using hj)
          simp only [List.getElem_cons_succ] at this
          rw [show i + 1 + j + 1 = i + (j + 1) + 1 by omega]
          exact this) (by simp)
        simpa using this
  have := key x.scenes 0 (by omega) (fun j hj => ⟨by rw [Nat.zero_add]; exact h.no j hj, h.all j hj⟩) (fun _ => h.first)
  simpa [accN] using this
theorem noNoT_pc (x : Sc) : Pc Tryz.prog 106 [scA x] (· = .bool (x.no == [])) := by
  simp only [scA]
  refine pc_intro (ct_intro Tryz.func106 rfl Tryz.ntmps106 hB106 (by simp) fun h ρ w => goB (N := 6) Tryz.ntmps106 300 ?_)
  simp only [go_sem]
  exact aret [2] rfl ⟨rfl, rfl⟩
theorem scriptFault_pch {S : Std} (hS : LibR S) (x : Sr) (hx : StoryOk x) : PcH Tryz.prog S 48 [srA x] (· = .int .i64 0) := by
  have h1 := check_pch hS.ok x (story_script hx)
  have h2 := anySc_pc 106 [] rfl (fun y => y.no == []) x.scenes (by have := hx.len; omega) (fun y _ => noNoT_pc y)
  rw [story_nos hx] at h2
  simp only [srA] at h1 ⊢
  refine pch_intro (cth_intro Tryz.func48 rfl Tryz.ntmps48 hB48 (by simp) fun h ρ w hg => goB (N := 12) Tryz.ntmps48 300 ?_)
  simp only [go_sem]
  refine pcallH1 hg (h1) rfl (N := 12) Tryz.ntmps48 rfl (goB (N := 12) Tryz.ntmps48 300 ?_)
  simp only [go_sem]
  refine pcall1 (h2) rfl (N := 12) Tryz.ntmps48 rfl (goB (N := 12) Tryz.ntmps48 300 ?_)
  simp only [go_sem]
  exact aret [2] rfl ⟨rfl, rfl⟩
theorem isSetup_pc : Pc Tryz.prog 94 [.str []] (· = .bool true) := by
  refine pc_intro (ct_intro Tryz.func94 rfl Tryz.ntmps94 hB94 (by simp) fun h ρ w => go (N := 35) Tryz.ntmps94 300 ?_)
  simp only [go_sem]
  refine aenter (around (go (N := 35) Tryz.ntmps94 300 ?_))
  simp only [go_sem]
  exact aret [2] rfl ⟨rfl, rfl⟩
set_option maxHeartbeats 4000000 in
theorem coversFault_pc (t : Tk) (np : Nat) (hb : t.covers.length ≤ 60) (hn : np ≤ 60) (hok : ∀ j c, t.covers[j]? = some c → CvAt t np j c) : Pc Tryz.prog 98 [tkA t, .int .i64 np] (· = .int .i64 0) := by
  simp only [tkA]
  refine pc_intro (ct_intro Tryz.func98 rfl Tryz.ntmps98 hB98 (by simp) fun h ρ w => goB (N := 73) Tryz.ntmps98 300 ?_)
  simp only [go_sem, List.length_map]
  refine aloop (ι := Nat) (fun y => t.covers.length - y)
    (fun y => [(10, .int .i64 y), (9, .int .i64 t.covers.length), (8, .fz 4 (t.covers.map cvA)), (2, .pin 9 [.agg [.str t.scene, .str t.setup, .int .i64 t.number, .str t.roll, .str t.sound, .int .i64 t.inn, .int .i64 t.out, .bool t.good, .fz 4 (t.covers.map cvA)]] 0 0), (1, .int .i64 np)])
    (fun _ => []) (fun y => y ≤ t.covers.length) 0 (by simp) ?_ ?_
  · refine Shift.weakS ?_ rfl
    simp only [wk, go_sem, List.length_map]
  intro j g1 J hJ
  by_cases gj : j < t.covers.length
  · have dj : decide ((j : Int) < (t.covers.length : Int)) = true := by simp; omega
    have hcj : t.covers[j]? = some t.covers[j] := List.getElem?_eq_getElem gj
    have hgc := cvA_get t.covers j gj
    obtain ⟨⟨c1, c2⟩, c3, c4, c5, c6⟩ := hok j _ hcj
    have hgp : 0 < j → ∃ q, t.covers[j - 1]? = some q ∧ List.getD (List.map cvA t.covers) (j - 1) .any = .agg [.int .i64 q.para, .int .i64 q.inn, .int .i64 q.out, .bool q.on] := fun h0 => ⟨t.covers[j - 1], List.getElem?_eq_getElem (by omega), cvA_get t.covers (j - 1) (by omega)⟩
    generalize t.covers[j] = c at *
    have hfin := hJ (j + 1) (by omega) (by omega)
    have hj1 : ((j : Int) - 1).toNat = j - 1 := by omega
    have f1 : decide (c.para < 0) = false := by simp; omega
    have f2 : decide (c.para ≥ (np : Int)) = false := by simp; omega
    have f5 : decide (t.inn > c.inn) = false := by simp; omega
    have f6 : decide (c.inn ≥ c.out) = false := by simp; omega
    have f7 : decide (c.out > t.out) = false := by simp; omega
    have hq : (decide ((j : Int) > 0) = false ∧ True ∧ True ∧ True ∧ True) ∨ (∃ q : Cv, decide ((j : Int) > 0) = true ∧ 0 < j ∧ List.getD (List.map cvA t.covers) (j - 1) .any = .agg [.int .i64 q.para, .int .i64 q.inn, .int .i64 q.out, .bool q.on] ∧ decide (c.para ≤ q.para) = false ∧ decide (c.inn < q.out) = false) := by
      by_cases h0 : 0 < j
      · obtain ⟨q, hq, hgq⟩ := hgp h0
        have := c3 h0 q hq
        exact .inr ⟨q, by simp; omega, h0, hgq, by simp; omega, by simp; omega⟩
      · exact .inl ⟨by simp; omega, trivial, trivial, trivial, trivial⟩
    rcases hq with ⟨q0, qj, q1, q2, q3⟩ | ⟨q, q0, qj, q1, q2, q3⟩ <;>
    · refine goB (N := 73) Tryz.ntmps98 300 ?_
      simp only [go_sem, dj, hgc, f1, f2, List.length_map]
      repeat refine And.intro (by first | omega | rfl | (simp; done) | (simp; omega)) ?_
      refine adraw [] mixed (by decide) (N := 73) Tryz.ntmps98 (by decide) 100 ?_
      simp only [go_sem, q0, hj1, q1, q2, q3, List.length_map]
      repeat refine And.intro (by first | omega | rfl | (simp; done) | (simp; omega)) ?_
      refine goB (N := 73) Tryz.ntmps98 300 ?_
      simp only [go_sem, f5, f6, f7]
      repeat refine And.intro (by first | omega | rfl | (simp; done) | (simp; omega)) ?_
      rw [show (j : Int) + 1 = ((j + 1 : Nat) : Int) by omega]
      refine ainv hfin (Shift.low 0 (by simp) (by simp) ?_ ?_)
      · simp only [List.take_zero, List.all_nil]
      · simp only [wkl, lowV, lowC, Av.get, go_sem]
  · have dj : decide ((j : Int) < (t.covers.length : Int)) = false := by simp; omega
    refine goB (N := 73) Tryz.ntmps98 300 ?_
    simp only [go_sem, dj]
    exact aret [4] rfl ⟨rfl, rfl⟩

/-- the scenes of a script by their numbers -/
def scMF : Nat → List Sc → List (AV × AV)
  | _, [] => []
  | n, y :: r => (.str y.no, .int .i64 n) :: scMF (n + 1) r
theorem scMF_app : ∀ (a b : List Sc) (n : Nat), scMF n (a ++ b) = scMF n a ++ scMF (n + a.length) b
  | [], b, n => rfl
  | y :: a, b, n => by simp only [List.cons_append, scMF, scMF_app a b (n + 1), List.length_cons]; rw [show n + 1 + a.length = n + (a.length + 1) by omega]
theorem scMF_none {k : List UInt8} : ∀ (l : List Sc) (n m : Nat), (∀ y ∈ l, y.no ≠ k) → mfind .string (.str k) (scMF n l) m = some none
  | [], n, m, _ => rfl
  | y :: r, n, m, h => by
    have : (k == y.no) = false := by have := h y (by simp); simpa using Ne.symm this
    simp only [scMF, mfind, keyEq, this]
    exact scMF_none r (n + 1) (m + 1) (fun z hz => h z (by simp [hz]))
theorem scMF_find {k : List UInt8} : ∀ (l : List Sc) (n m i : Nat) (hi : i < l.length), l[i].no = k → (∀ j, (hj : j < i) → (l[j]'(by omega)).no ≠ k) → mfind .string (.str k) (scMF n l) m = some (some (m + i, .int .i64 ((n + i : Nat) : Int)))
  | [], n, m, i, hi, _, _ => by simp at hi
  | y :: r, n, m, 0, hi, h, _ => by
    simp at h
    simp [scMF, mfind, keyEq, h]
  | y :: r, n, m, i + 1, hi, h, hn => by
    have h0 := hn 0 (by omega)
    simp only [List.getElem_cons_zero] at h0
    have : (k == y.no) = false := by simpa using Ne.symm h0
    simp only [scMF, mfind, keyEq, this]
    rw [scMF_find r (n + 1) (m + 1) i (by simpa using hi) (by simpa using h) (fun j hj => by simpa using hn (j + 1) (by omega)), show m + 1 + i = m + (i + 1) by omega, show n + 1 + i = n + (i + 1) by omega]
theorem low_scM (n m : Nat) (l : List Sc) : lowB n (.mp (scMF m l)) = true := by
  show (scMF m l).all _ = true
  rw [List.all_eq_true]
  intro x hx
  have key : ∀ (l : List Sc) (m : Nat), x ∈ scMF m l → ∃ s i, x = (.str s, .int .i64 i) := by
    intro l
    induction l with
    | nil => intro m h; simp [scMF] at h
    | cons y r ih =>
      intro m h
      simp only [scMF, List.mem_cons] at h
      rcases h with rfl | h
      · exact ⟨_, _, rfl⟩
      · exact ih _ h
  obtain ⟨s, i, rfl⟩ := key l m hx
  rfl
theorem scenesOf_ct0 (x : Sr) (hx : StoryOk x) : Ct Tryz.prog 38 [srA x] [] (fun r s => r = .mp 0 ∧ s = [.mp (scMF 0 x.scenes)]) := by
  have hlen := hx.len
  simp only [srA]
  refine ct_intro Tryz.func38 rfl Tryz.ntmps38 hB38 (by simp) fun h ρ w => goB (N := 21) Tryz.ntmps38 300 ?_
  simp only [go_sem, List.length_map]
  refine aloop (ι := Nat) (fun y => x.scenes.length - y)
    (fun y => [(10, .int .i64 y), (9, .int .i64 x.scenes.length), (8, .fz 5 (x.scenes.map scA)), (3, .mp 0)])
    (fun y => [.mp (scMF 0 (x.scenes.take y))]) (fun y => y ≤ x.scenes.length) 0 (by simp) ?_ ?_
  · refine Shift.weakS ?_ rfl
    simp only [wk, go_sem, List.length_map]
  intro i g1 J hJ
  by_cases gi : i < x.scenes.length
  · have di : decide ((i : Int) < (x.scenes.length : Int)) = true := by simp; omega
    have hget := scA_get x.scenes i gi
    have m1 := scMF_none (k := x.scenes[i].no) (x.scenes.take i) 0 0 (fun y hy => by
      obtain ⟨j, hj, rfl⟩ := List.getElem_of_mem hy
      rw [List.length_take] at hj
      rw [List.getElem_take]
      intro e
      exact absurd (hx.inj (by omega) gi e) (by omega))
    have m2 : scMF 0 (x.scenes.take i) ++ [(.str x.scenes[i].no, .int .i64 (i : Int))] = scMF 0 (x.scenes.take (i + 1)) := by
      rw [List.take_add_one, List.getElem?_eq_getElem gi, scMF_app]
      simp only [Option.toList, scMF, List.length_take]
      rw [show min i x.scenes.length = i by omega, Nat.zero_add]
    have hfin := hJ (i + 1) (by omega) (by omega)
    generalize x.scenes[i] = y at *
    refine goB (N := 21) Tryz.ntmps38 300 ?_
    simp only [go_sem, di, hget, m1, m2, List.length_map]
    repeat refine And.intro (by first | omega | rfl | kernel_rfl | (simp; done) | (simp; omega)) ?_
    rw [show (i : Int) + 1 = ((i + 1 : Nat) : Int) by omega]
    refine ainv hfin (Shift.low 1 (by simp) (by simp) ?_ ?_)
    · simp only [List.take_succ_cons, List.take_zero, List.all_cons, List.all_nil, ↓low_scM, Bool.and_self]
    · simp only [wkl, lowV, lowC, Av.get, go_sem]
  · have di : decide ((i : Int) < (x.scenes.length : Int)) = false := by simp; omega
    rw [show x.scenes.take i = x.scenes from List.take_of_length_le (by omega)]
    refine goB (N := 21) Tryz.ntmps38 300 ?_
    simp only [go_sem, di]
    exact aret [2] rfl ⟨rfl, rfl⟩
theorem scenes_at {x : Sr} (hx : StoryOk x) {no : List UInt8} {i : Nat} (hi : i < x.scenes.length) (hs : sceneIx x no = i) : x.scenes[i].no = no ∧ ∀ j, (hj : j < i) → (x.scenes[j]'(by omega)).no ≠ no := by
  unfold sceneIx idxP at hs
  cases hq : x.scenes.findIdx? (fun y => y.no == no && no != []) with
  | none => rw [hq] at hs; simp at hs
  | some j =>
    rw [hq] at hs
    have hij : j = i := by
      simp only at hs
      omega
    subst hij
    obtain ⟨h1, h2, h3⟩ := List.findIdx?_eq_some_iff_getElem.1 hq
    simp only [Bool.and_eq_true, beq_iff_eq] at h2
    refine ⟨h2.1, fun k hk e => ?_⟩
    have := hx.inj (show k < x.scenes.length by omega) hi (by rw [e, h2.1])
    omega
theorem winFn_pc (u : Wn) (t : Tk) : Pc Tryz.prog 97 [wnA u, .pin 9 [tkA t] 0 0] (· = .bool (decide (u.frm < t.out) && decide (t.inn < u.to'))) := by
  simp only [tkA, wnA]
  refine pc_intro (ct_intro Tryz.func97 rfl Tryz.ntmps97 hB97 (by simp) fun h ρ w => goB (N := 16) Tryz.ntmps97 300 ?_)
  cases e1 : decide (u.frm < t.out) with
  | false =>
    simp only [go_sem, e1]
    exact aret [3] rfl ⟨by simp [resV, Av.get, Av.put], rfl⟩
  | true =>
    simp only [go_sem, e1]
    exact aret [3] rfl ⟨by simp [resV, Av.get, Av.put], rfl⟩
end Go.Proofs.YtkfpiadgjbhcpaaGreatDoor
/- take.CheckTakes at a film. Own work of this seat. -/
set_option maxRecDepth 100000
set_option linter.unusedSimpArgs false
set_option linter.unusedVariables false
namespace Go.Proofs.YtkfpiadgjbhcpaaGreatDoor
open Go Go.Av Go.RowKit

/-! ### maps by slates -/
abbrev slFs : List Field := [{ name := "scene", type := 9, offset := 0, embedded := false, tag := "", pkgPath := "backlot/take", byteOffset := 0 }, { name := "setup", type := 9, offset := 1, embedded := false, tag := "", pkgPath := "backlot/take", byteOffset := 16 }, { name := "number", type := 3, offset := 2, embedded := false, tag := "", pkgPath := "backlot/take", byteOffset := 32 }]
def slA (x : List UInt8 × Int) : AV := .agg [.str x.1, .str [], .int .i64 x.2]
theorem keyEqS_sl (a b : List UInt8 × Int) : keyEqS Tryz.prog slFs (slA a) (slA b) = some (a.1 == b.1 && a.2 == b.2) := by
  simp only [keyEqS, slA, slFs, List.length_cons, List.length_nil, decide_true, Bool.and_self, cond_true, eqFs, Tryz.underlying9, Tryz.underlying3, leafEq, bothB, if_true, Bool.and_true]
  simp
def slM (l : List (List UInt8 × Int)) : List (AV × AV) := l.map fun x => (slA x, .bool true)
theorem slM_none (s : List UInt8 × Int) : ∀ (l : List (List UInt8 × Int)) (n : Nat), s ∉ l → mfindS Tryz.prog slFs (slA s) (slM l) n = some none
  | [], n, _ => rfl
  | a :: r, n, h => by
    simp only [List.mem_cons, not_or] at h
    have hb : (s.1 == a.1 && s.2 == a.2) = false := by
      cases hq : (s.1 == a.1 && s.2 == a.2) with
      | false => rfl
      | true =>
        simp only [Bool.and_eq_true, beq_iff_eq] at hq
        exact absurd (Prod.ext hq.1 hq.2) h.1
    simp only [slM, List.map_cons, mfindS, keyEqS_sl, hb]
    exact slM_none s r (n + 1) h.2
theorem low_slM (n : Nat) (l : List (List UInt8 × Int)) : lowB n (.mp (slM l)) = true := by
  show (slM l).all _ = true
  rw [List.all_eq_true]
  intro x hx
  simp only [slM, List.mem_map] at hx
  obtain ⟨k, _, rfl⟩ := hx
  rfl
theorem bor_wn (n : Nat) (s : List Blk) (id : Nat) (ws : List Wn) (h : s.getD id .dead = .arr 2 (ws.map wnA)) : borF 1 s (.sl id 0 ws.length ws.length) = .fz 2 (ws.map wnA) := by
  show bor (0 + 1) s (.sl id 0 ws.length ws.length) = _
  rw [bor_sl, h]
  simp only [Nat.zero_add, List.length_map, decide_true, Nat.le_refl, Bool.and_self, cond_true, List.drop_zero, AV.fz.injEq, true_and]
  rw [List.take_of_length_le (by simp), List.map_map]
  exact List.map_congr_left fun x _ => rfl
theorem wn_frz : ∀ l : List Wn, (flat (l.map wnA)).all Av.frozen = true
  | [] => rfl
  | x :: r => by simpa [flat, cellsOf, wnA, Av.frozen] using wn_frz r
def keyT (t : Tk) : List UInt8 × Int := (t.scene, t.number)
def winT (t : Tk) : Wn := ⟨t.inn, t.out⟩
theorem TakesOk.new {x : Sr} {r : Rl} {l : List Tk} (hok : TakesOk x r l) (hl : ∀ t ∈ l, TkB r t) (i : Nat) (hi : i < l.length) : keyT l[i] ∉ (l.take i).map keyT := by
  intro h
  obtain ⟨y, hy, e⟩ := List.mem_map.1 h
  have hd := (hok.at' i _ (List.getElem?_eq_getElem hi)).dup
  rw [List.any_eq_false] at hd
  have h2 := hd y hy
  simp only [keyT, Prod.mk.injEq] at e
  have hy' := hl y (List.mem_of_mem_take hy)
  have hi' := hl _ (List.getElem_mem hi)
  apply h2
  simp [dupB, e.1, e.2, hy'.setup, hi'.setup]
theorem TakesOk.free {x : Sr} {r : Rl} {l : List Tk} (hok : TakesOk x r l) (hl : ∀ t ∈ l, TkB r t) (i : Nat) (hi : i < l.length) : (((l.take i).map winT).any fun w => decide (w.frm < l[i].out) && decide (l[i].inn < w.to')) = false := by
  have hd := (hok.at' i _ (List.getElem?_eq_getElem hi)).busy
  rw [List.any_eq_false] at hd ⊢
  intro w hw
  obtain ⟨y, hy, rfl⟩ := List.mem_map.1 hw
  have h2 := hd y hy
  have hy' := hl y (List.mem_of_mem_take hy)
  have hi' := hl _ (List.getElem_mem hi)
  simp only [busyB, hy'.roll, hi'.roll, beq_self_eq_true, Bool.true_and] at h2
  exact h2

theorem ren_scM (σ : List Nat) : ∀ (l : List Sc) (n : Nat), (scMF n l).map (fun x => (x.1, renV σ x.2)) = scMF n l
  | [], n => rfl
  | y :: r, n => by simp only [scMF, List.map_cons, ren_scM σ r (n + 1)]; rfl
theorem ren_slM (σ : List Nat) : ∀ (l : List (List UInt8 × Int)), (slM l).map (fun x => (x.1, renV σ x.2)) = slM l
  | [] => rfl
  | y :: r => by
    have := ren_slM σ r
    simp only [slM, List.map_cons] at this ⊢
    rw [this]; rfl
theorem ren_first (xs : List Sc) (ks : List (List UInt8 × Int)) (nm : List UInt8) (a b : Int) (b3 b4 b5 b6 : Blk) :
    renS [0, 1, 2, 7] (.mp (scMF 0 xs) :: .mp (slM ks) :: .mp [(.str nm, .sl 7 0 1 1)] :: b3 :: b4 :: b5 :: b6 :: [.arr 2 [.agg [.int .i64 a, .int .i64 b]]]) = [.mp (scMF 0 xs), .mp (slM ks), .mp [(.str nm, .sl 3 0 1 1)], .arr 2 [.agg [.int .i64 a, .int .i64 b]]] := by
  have h : renS [0, 1, 2, 7] (.mp (scMF 0 xs) :: .mp (slM ks) :: .mp [(.str nm, .sl 7 0 1 1)] :: b3 :: b4 :: b5 :: b6 :: [.arr 2 [.agg [.int .i64 a, .int .i64 b]]]) =
    [.mp ((scMF 0 xs).map fun x => (x.1, renV [0, 1, 2, 7] x.2)), .mp ((slM ks).map fun x => (x.1, renV [0, 1, 2, 7] x.2)), .mp [(.str nm, .sl 3 0 1 1)], .arr 2 [.agg [.int .i64 a, .int .i64 b]]] := rfl
  rw [h, ren_scM, ren_slM]
set_option maxHeartbeats 8000000 in
theorem checkTakes_pch {S : Std} (hS : LibR S) (x : Sr) (r : Rl) (rs : List Rl) (l : List Tk) (hf : FilmOk x r rs l) :
    PcH Tryz.prog S 37 [srA x, .fz 5 ((r :: rs).map rlA), .fz 9 (l.map tkA)] (· = .int .i64 0) := by
  have hx := hf.story
  have hlen := hx.len
  have hll := hf.len
  have hok := hf.ok
  have htb := hf.takes
  have hm := hf.many
  have h1 := scriptFault_pch hS x hx
  have h2 := checkRolls_pc (r :: rs) hf.rolls hf.names
  have h3 := scenesOf_ct0 x hx
  have d1 : decide ((l.length : Int) > 3000) = false := by simp; omega
  obtain ⟨hro0, _⟩ := hf.rolls.at' 0 r rfl
  have hrs := hro0.start
  have hrg := hro0.long
  have hdb : 0 ≤ dayR r.rate ∧ dayR r.rate ≤ 2592000 := by
    have := hro0.rate
    obtain h | h | h | h : r.rate = 1 ∨ r.rate = 2 ∨ r.rate = 3 ∨ r.rate = 4 := by omega
    all_goals rw [h]; decide
  have hro1 := rollOf_pc r rs (by omega)
  have hro2 := rollOfE_pc (r :: rs) (by simp; omega) (fun y hy => by
    obtain ⟨i, hi, rfl⟩ := List.getElem_of_mem hy
    exact rn_ne (hf.rolls.at' i _ (List.getElem?_eq_getElem hi)).1.name)
  have hset := isSetup_pc
  simp only [srA, List.map_cons, rlA, rlZ] at h1 h2 h3 hro1 hro2 ⊢
  refine pch_intro (cth_intro Tryz.func37 rfl Tryz.ntmps37 hB37 (by simp) fun h ρ w hg => goB (N := 149) Tryz.ntmps37 300 ?_)
  simp only [go_sem]
  refine pcallH1 hg (h1) rfl (N := 149) Tryz.ntmps37 rfl (goB (N := 149) Tryz.ntmps37 300 ?_)
  simp only [go_sem]
  refine pcall1 (h2) rfl (N := 149) Tryz.ntmps37 rfl (goB (N := 149) Tryz.ntmps37 300 ?_)
  simp only [go_sem, d1, List.length_map]
  refine acall (h3) (N := 149) Tryz.ntmps37 rfl ?_
  rintro _ _ ⟨rfl, rfl⟩
  refine goB (N := 149) Tryz.ntmps37 300 ?_
  simp only [go_sem, List.length_map]
  refine aloop (ι := Nat) (fun y => l.length - y)
    (fun y => [(40, .int .i64 y), (39, .int .i64 l.length), (38, .fz 9 (l.map tkA)), (9, .mp 0), (10, .mp 1), (11, .mp 2), (3, .pin 2 [.agg [.str x.title, .fz 5 (x.scenes.map scA)]] 0 0), (1, .fz 5 (.agg [.str r.name, .int .i64 r.rate, .int .i64 r.start, .int .i64 r.long, .int .i64 r.drift] :: rs.map rlA)), (2, .fz 9 (l.map tkA))])
    (fun y => .mp (scMF 0 x.scenes) :: .mp (slM ((l.take y).map keyT)) :: (if y = 0 then [.mp []] else [.mp [(.str r.name, .sl 3 0 ((l.take y).map winT).length ((l.take y).map winT).length)], .arr 2 (((l.take y).map winT).map wnA)]))
    (fun y => y ≤ l.length) 0 (by simp) ?_ ?_
  · refine Shift.weakS ?_ rfl
    simp only [wk, go_sem, List.length_map]
  intro i g1 J hJ
  by_cases gi : i < l.length
  · have di : decide ((i : Int) < (l.length : Int)) = true := by simp; omega
    have hget := tkA_get l i gi
    have hti := hok.at' i _ (List.getElem?_eq_getElem gi)
    have hb := htb _ (List.getElem_mem gi)
    obtain ⟨j, hj, hjs⟩ := (sceneIx_bd x l[i].scene).resolve_left (by have := hti.scene; omega)
    obtain ⟨s1, s2⟩ := scenes_at hx hj hjs
    have m0 := scMF_find x.scenes 0 0 j hj s1 s2
    rw [Nat.zero_add] at m0
    have mS := slM_none (keyT l[i]) ((l.take i).map keyT) 0 (hok.new htb i gi)
    have mP : slM ((l.take i).map keyT) ++ [(slA (keyT l[i]), .bool true)] = slM ((l.take (i + 1)).map keyT) := by
      rw [List.take_add_one, List.getElem?_eq_getElem gi, List.map_append, slM, slM, List.map_append]
      rfl
    have hcov := coversFault_pc l[i] x.scenes[j].paras.length hb.len (by have := (hx.all j hj).len; exact this) (fun k c hc => hti.cov j hj hjs k c hc)
    have hfree := hok.free htb i gi
    have hwin := anyWn_pc 97 [.pin 9 [tkA l[i]] 0 0] rfl (fun w => decide (w.frm < l[i].out) && decide (l[i].inn < w.to')) ((l.take i).map winT) (by simp; omega) (fun w _ => winFn_pc w l[i])
    rw [hfree] at hwin
    have hgs := scA_get x.scenes j hj
    have hfin := hJ (i + 1) (by omega) (by omega)
    rw [if_neg (by omega)] at hfin
    have hwl : ((l.take i).map winT).length = i := by simp; omega
    have hW : (l.take (i + 1)).map winT = (l.take i).map winT ++ [winT l[i]] := by
      rw [List.take_add_one, List.getElem?_eq_getElem gi, List.map_append]
      rfl
    rw [hW] at hfin
    have b1 := hb.setup
    have b2 := hb.number
    have b3 := hb.roll
    have b4 := hb.sound
    have b5 := hb.inn
    have b6 := hb.out
    have hhold := within_pc r l[i].inn l[i].out ⟨by omega, by omega⟩ ⟨by omega, by omega⟩
    rw [hti.hold] at hhold
    have n1 : decide (l[i].number < 1) = false := by simp; omega
    have n2 : decide (l[i].number > 99) = false := by simp; omega
    have hsc : (x.scenes[j].paras.map paA).length = x.scenes[j].paras.length := by simp
    generalize hti' : l[i] = t at *
    generalize x.scenes[j] = y at *
    simp only [tkA, rlA, b1, b3, b4, slA, keyT, winT] at hget hhold mS mP hcov hwin hfin
    by_cases h0 : i = 0
    · have hw0 : (l.take i).map winT = [] := by rw [h0]; rfl
      rw [if_pos h0]
      simp only [hw0, List.map_nil, List.nil_append, List.length_cons, List.length_nil, Nat.zero_add, List.map_cons, wnA] at hfin hwin
      refine goB (N := 149) Tryz.ntmps37 300 ?_
      simp only [go_sem, di, hget, m0, List.length_map]
      repeat refine And.intro (by first | omega | rfl | kernel_rfl | (simp; done) | (simp; omega)) ?_
      refine pcall1 (hset) rfl (N := 149) Tryz.ntmps37 rfl (goB (N := 149) Tryz.ntmps37 300 ?_)
      simp only [go_sem, n1, n2, mS, mP]
      repeat refine And.intro (by first | omega | rfl | kernel_rfl | (simp; done) | (simp; omega)) ?_
      refine pcall1 (hro1) rfl (N := 149) Tryz.ntmps37 rfl (goB (N := 149) Tryz.ntmps37 300 ?_)
      simp only [go_sem]
      refine pcall1 (hro2) rfl (N := 149) Tryz.ntmps37 rfl (goB (N := 149) Tryz.ntmps37 300 ?_)
      simp only [go_sem]
      refine pcall1 (hhold) rfl (N := 149) Tryz.ntmps37 rfl (goB (N := 149) Tryz.ntmps37 300 ?_)
      simp only [go_sem, mfind]
      have hbor := Ct.borrowF (P := Tryz.prog) (f := 96) (args := [.raw (.slice none 0 0), .fn (.func 97) [.ptr 3 1 0 0]]) 1 [.mp (scMF 0 x.scenes), .mp (slM ((l.take (i + 1)).map keyT)), .mp [], .arr 9 [.agg [.str t.scene, .str [], .int .i64 t.number, .str r.name, .str [], .int .i64 t.inn, .int .i64 t.out, .bool t.good, .fz 4 (t.covers.map cvA)]], .arr 3 [.agg [.str t.scene, .str [], .int .i64 t.number]], .arr 5 [.agg [.str r.name, .int .i64 r.rate, .int .i64 r.start, .int .i64 r.long, .int .i64 r.drift]], .arr 5 [.agg [.str [], .int .i64 0, .int .i64 0, .int .i64 0, .int .i64 0]]] hwin.nilarg (by rintro r rfl; rfl)
      refine acall (hbor) (N := 149) Tryz.ntmps37 rfl ?_
      rintro _ _ ⟨rfl, rfl⟩
      refine goB (N := 149) Tryz.ntmps37 300 ?_
      simp only [go_sem]
      repeat refine And.intro (by first | omega | rfl | kernel_rfl | (simp; done) | (simp; omega)) ?_
      refine adrawA (7) [] mixed (by decide) (N := 149) Tryz.ntmps37 (by decide) 100 ?_
      simp only [go_sem, mfind, List.length_map, cka, isApp, appOk]
      repeat refine And.intro (by first | omega | rfl | kernel_rfl | exact .inl rfl | exact .inl trivial | (simp; done) | (simp; omega)) ?_
      refine goB (N := 149) Tryz.ntmps37 300 ?_
      simp only [go_sem]
      refine adraw [.int .i64 0] mixed (by decide) (N := 149) Tryz.ntmps37 (by decide) 100 ?_
      simp only [go_sem, hgs, List.length_map]
      repeat refine And.intro (by first | omega | rfl | kernel_rfl | exact hcov.at | (simp; done) | (simp; omega)) ?_
      refine goB (N := 149) Tryz.ntmps37 300 ?_
      simp only [go_sem]
      repeat refine And.intro (by first | omega | rfl | kernel_rfl | (simp; done) | (simp; omega)) ?_
      rw [show (i : Int) + 1 = ((i + 1 : Nat) : Int) by omega]
      refine ainv hfin (Shift.trans (Shift.ren [0, 1, 2, 7] rfl) (Shift.weakS ?_ ?_))
      · simp only [renE, List.map_cons, List.map_nil, wk, go_sem, renV, renC, ren1]
        repeat (first | rfl | refine And.intro rfl ?_)
      · exact ren_first x.scenes ((l.take (i + 1)).map keyT) r.name t.inn t.out _ _ _ _
    · rw [if_neg h0]
      obtain ⟨ws, hws⟩ : ∃ ws, ws = (l.take i).map winT := ⟨_, rfl⟩
      rw [← hws] at hwin hwl hfin ⊢
      have mU : mfind .string (.str r.name) [(AV.str r.name, AV.sl 3 0 ws.length ws.length)] 0 = some (some (0, AV.sl 3 0 ws.length ws.length)) := by simp [mfind, keyEq]
      simp only [List.map_append, List.length_append, List.length_cons, List.length_nil, List.map_cons, List.map_nil, Nat.zero_add, wnA] at hfin
      refine goB (N := 149) Tryz.ntmps37 300 ?_
      simp only [go_sem, di, hget, m0, List.length_map]
      repeat refine And.intro (by first | omega | rfl | kernel_rfl | (simp; done) | (simp; omega)) ?_
      refine pcall1 (hset) rfl (N := 149) Tryz.ntmps37 rfl (goB (N := 149) Tryz.ntmps37 300 ?_)
      simp only [go_sem, n1, n2, mS, mP]
      repeat refine And.intro (by first | omega | rfl | kernel_rfl | (simp; done) | (simp; omega)) ?_
      refine pcall1 (hro1) rfl (N := 149) Tryz.ntmps37 rfl (goB (N := 149) Tryz.ntmps37 300 ?_)
      simp only [go_sem]
      refine pcall1 (hro2) rfl (N := 149) Tryz.ntmps37 rfl (goB (N := 149) Tryz.ntmps37 300 ?_)
      simp only [go_sem]
      refine pcall1 (hhold) rfl (N := 149) Tryz.ntmps37 rfl (goB (N := 149) Tryz.ntmps37 300 ?_)
      simp only [go_sem, mU]
      repeat refine And.intro (by first | omega | rfl | kernel_rfl | (simp; done) | (simp; omega)) ?_
      have hbor := Ct.borrowF (P := Tryz.prog) (f := 96) (args := [.sl 3 0 ws.length ws.length, .fn (.func 97) [.ptr 4 1 0 0]]) 1 [.mp (scMF 0 x.scenes), .mp (slM ((l.take (i + 1)).map keyT)), .mp [(.str r.name, .sl 3 0 ws.length ws.length)], .arr 2 (ws.map wnA), .arr 9 [.agg [.str t.scene, .str [], .int .i64 t.number, .str r.name, .str [], .int .i64 t.inn, .int .i64 t.out, .bool t.good, .fz 4 (t.covers.map cvA)]], .arr 3 [.agg [.str t.scene, .str [], .int .i64 t.number]], .arr 5 [.agg [.str r.name, .int .i64 r.rate, .int .i64 r.start, .int .i64 r.long, .int .i64 r.drift]], .arr 5 [.agg [.str [], .int .i64 0, .int .i64 0, .int .i64 0, .int .i64 0]]] (post := (· = .bool false)) (by
        simp only [List.map_cons, List.map_nil]
        rw [bor_wn 1 _ 3 ws rfl]
        exact hwin) (by rintro r rfl; rfl)
      refine acall (hbor) (N := 149) Tryz.ntmps37 rfl ?_
      rintro _ _ ⟨rfl, rfl⟩
      refine goB (N := 149) Tryz.ntmps37 300 ?_
      simp only [go_sem]
      repeat refine And.intro (by first | omega | rfl | kernel_rfl | (simp; done) | (simp; omega)) ?_
      refine adrawA (3) [] mixed (by decide) (N := 149) Tryz.ntmps37 (by decide) 100 ?_
      simp only [go_sem, mU, List.length_map, cka, isApp, appOk]
      repeat refine And.intro (by first | omega | rfl | kernel_rfl | exact .inl rfl | exact .inl trivial | (simp; done) | (simp; omega)) ?_
      refine goB (N := 149) Tryz.ntmps37 300 ?_
      simp only [go_sem]
      refine adraw [.int .i64 0] mixed (by decide) (N := 149) Tryz.ntmps37 (by decide) 100 ?_
      simp only [go_sem, hgs, List.length_map]
      repeat refine And.intro (by first | omega | rfl | kernel_rfl | exact hcov.at | (simp; done) | (simp; omega)) ?_
      refine goB (N := 149) Tryz.ntmps37 300 ?_
      simp only [go_sem]
      repeat refine And.intro (by first | omega | rfl | kernel_rfl | (simp; done) | (simp; omega)) ?_
      rw [show (i : Int) + 1 = ((i + 1 : Nat) : Int) by omega]
      refine ainv hfin (Shift.low 4 (by simp) (by simp) ?_ ?_)
      · simp only [List.take_succ_cons, List.take_zero, List.all_cons, List.all_nil, ↓low_scM, ↓low_slM, lowV, lowB, flat, cellsOf, lowC, Av.frozen, decide_true, List.append_nil, List.cons_append, List.nil_append, flat_append, List.all_append, low_all (wn_frz _), Nat.reduceLT, Bool.and_self]
      · simp only [wkl, lowV, lowC, Av.get, go_sem]
  · have di : decide ((i : Int) < (l.length : Int)) = false := by simp; omega
    refine goB (N := 149) Tryz.ntmps37 300 ?_
    simp only [go_sem, di]
    exact aret [6] rfl ⟨rfl, rfl⟩
end Go.Proofs.YtkfpiadgjbhcpaaGreatDoor
