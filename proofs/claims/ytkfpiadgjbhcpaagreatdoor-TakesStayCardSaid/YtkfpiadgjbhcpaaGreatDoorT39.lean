/- A film: a story, rolls and takes without an error. Own work of this seat. -/
import Derived.Test.YtkfpiadgjbhcpaaGreatDoorT38
import Derived.Test.YtkfpiadgjbhcpaaGreatDoorT21
import Derived.Test.YtkfpiadgjbhcpaaGreatDoorT23
set_option maxRecDepth 100000
set_option linter.unusedSimpArgs false
set_option linter.unusedVariables false
namespace Go.Proofs.YtkfpiadgjbhcpaaGreatDoor
open Go Go.Av Go.RowKit

/-- a film -/
structure FilmOk (x : Sr) (r : Rl) (rs : List Rl) (l : List Tk) : Prop where
  story : StoryOk x
  rolls : RollsOk (r :: rs)
  names : ∀ y ∈ r :: rs, y.name ∈ RnL
  many : rs.length = 2
  takes : ∀ t ∈ l, TkB r t
  len : l.length ≤ 15
  ok : TakesOk x r l
theorem takes_nil (x : Sr) (r : Rl) : TakesOk x r [] := ⟨by simp, by simp⟩
theorem rn_ne {s : List UInt8} (h : rnR s = true) : (s == []) = false := by
  cases s with
  | nil => simp [rnR, longR] at h
  | cons a s => rfl
set_option maxHeartbeats 4000000 in
theorem filmX {S : Std} (hS : LibR S) (L : List Int) (k : Int) (h3 : 0 ≤ k) (h4 : k ≤ 400000) : ∃ (x : Sr) (r : Rl) (rs : List Rl) (l : List Tk) (k' : Int), FilmOk x r rs l ∧ k ≤ k' ∧ k' ≤ k + 50000 ∧
    McH Tryz.prog S 7 2 (str L k) [] (fun v s => v = .tup [srA x, .fz 5 ((r :: rs).map rlA), .fz 9 (l.map tkA)] ∧ s = str L k') := by
  have hst := storyX_mch hS.ok L k h3 (by omega)
  obtain ⟨hd, k1, k2⟩ := storyF_ok L k
  have hso := story_ok hd
  generalize storyF L k = z at *
  obtain ⟨x0, kk⟩ := z
  simp only at hst hd k1 k2 hso
  generalize numR x0 = x at *
  have hro := rightRX_mc L kk (by omega) (by omega)
  obtain ⟨r1, r2, r3⟩ := rightF_ok L kk
  obtain ⟨_, _, k3, k4⟩ := rollsF_ok L kk
  generalize rightF L kk = rl at *
  generalize (rollsF L kk).2 = kr at *
  obtain ⟨r, rs, rfl⟩ : ∃ r rs, rl = r :: rs := by
    cases rl with
    | nil => simp at r2
    | cons r rs => exact ⟨r, rs, rfl⟩
  obtain ⟨hro0, _⟩ := r1.at' 0 r rfl
  have hne := rn_ne hro0.name
  have hrs := hro0.start
  have hrg := hro0.long
  have hdb : 0 ≤ dayR r.rate ∧ dayR r.rate ≤ 2592000 := by
    have := hro0.rate
    obtain h | h | h | h : r.rate = 1 ∨ r.rate = 2 ∨ r.rate = 3 ∨ r.rate = 4 := by omega
    all_goals rw [h]; decide
  have hfu := fullX_mc L kr x hso r rs (by omega) (by omega) ⟨by omega, by omega⟩ (by omega)
  obtain ⟨f1, f2, f3, f4⟩ := fullF_ok L kr x hso r
  generalize fullF L kr x.scenes r = w at *
  obtain ⟨l, kf⟩ := w
  simp only at hfu f1 f2 f3 f4
  have htf := takesR_pch hS x hso r rs r1 (fun y hy => rnL_bd _ (r3 y hy)) hne l f1 (by omega)
  have hf : FilmOk x r rs [] := ⟨hso, r1, r3, by simpa using r2, by simp, by simp, takes_nil x r⟩
  simp only [srA, List.map_cons, rlA] at hst hro hfu htf ⊢
  by_cases hok : scriptR x = 0 ∧ TakesOk x r l
  · refine ⟨x, r, rs, l, kf, ⟨hso, r1, r3, by simpa using r2, f1, f2, hok.2⟩, by omega, by omega, ?_⟩
    refine cth_intro Tryz.func7 rfl Tryz.ntmps7 hB7 (by simp) fun h ρ w hg => goB (N := 24) Tryz.ntmps7 300 ?_
    simp only [go_sem]
    refine mcallH hg (hst) rfl rfl (id := 0) rfl (N := 24) Tryz.ntmps7 rfl ?_
    rintro _ _ ⟨rfl, rfl⟩
    refine goB (N := 24) Tryz.ntmps7 300 ?_
    simp only [go_sem]
    refine mcall (hro) rfl rfl (id := 0) rfl (N := 24) Tryz.ntmps7 rfl ?_
    rintro _ _ ⟨rfl, rfl⟩
    refine goB (N := 24) Tryz.ntmps7 300 ?_
    simp only [go_sem]
    refine mcall (hfu) rfl rfl (id := 0) rfl (N := 24) Tryz.ntmps7 rfl ?_
    rintro _ _ ⟨rfl, rfl⟩
    refine goB (N := 24) Tryz.ntmps7 300 ?_
    simp only [go_sem]
    refine pcallH hg (htf) rfl (N := 24) Tryz.ntmps7 rfl ?_
    rintro _ ⟨n, rfl, hn⟩
    have hn0 := hn.2 hok
    subst hn0
    refine goB (N := 24) Tryz.ntmps7 300 ?_
    simp only [go_sem]
    exact aretc [.cell 2 28, .tmp 3, .tmp 4] rfl [_, _, _] ⟨by simp only [go_sem, sideIs], by simp only [go_sem, sideIs], by simp only [go_sem, sideIs], trivial⟩ ⟨_, _, rfl, rfl, rfl, rfl, rfl⟩
  · refine ⟨x, r, rs, [], kf, hf, by omega, by omega, ?_⟩
    refine cth_intro Tryz.func7 rfl Tryz.ntmps7 hB7 (by simp) fun h ρ w hg => goB (N := 24) Tryz.ntmps7 300 ?_
    simp only [go_sem]
    refine mcallH hg (hst) rfl rfl (id := 0) rfl (N := 24) Tryz.ntmps7 rfl ?_
    rintro _ _ ⟨rfl, rfl⟩
    refine goB (N := 24) Tryz.ntmps7 300 ?_
    simp only [go_sem]
    refine mcall (hro) rfl rfl (id := 0) rfl (N := 24) Tryz.ntmps7 rfl ?_
    rintro _ _ ⟨rfl, rfl⟩
    refine goB (N := 24) Tryz.ntmps7 300 ?_
    simp only [go_sem]
    refine mcall (hfu) rfl rfl (id := 0) rfl (N := 24) Tryz.ntmps7 rfl ?_
    rintro _ _ ⟨rfl, rfl⟩
    refine goB (N := 24) Tryz.ntmps7 300 ?_
    simp only [go_sem]
    refine pcallH hg (htf) rfl (N := 24) Tryz.ntmps7 rfl ?_
    rintro _ ⟨n, rfl, hn⟩
    have hn0 : (n != 0) = true := by
      cases h : n != 0 with
      | true => rfl
      | false => exact absurd (hn.1 (by simpa using h)) hok
    refine goB (N := 24) Tryz.ntmps7 300 ?_
    simp only [go_sem, hn0]
    refine ARet.shift (Shift.nilfz 4 9 rfl) ?_
    exact aretc [.cell 2 28, .tmp 3, .tmp 4] rfl [_, _, _] ⟨by simp only [go_sem, sideIs], by simp only [go_sem, sideIs], by simp only [go_sem, sideIs, List.map_nil], trivial⟩ ⟨_, _, rfl, rfl, rfl, rfl, rfl⟩
theorem story_script {x : Sr} (h : StoryOk x) : ScriptOk x := by
  have hl := h.len
  have hs := story_sum h
  have ht := List.all_eq_true.1 title_all x.title h.title
  simp only [Bool.and_eq_true, decide_eq_true_eq] at ht
  refine ⟨ht.2, ht.1, by omega, by omega, ?_⟩
  have key : ∀ (l : List Sc) (i : Nat), i + l.length ≤ 5 → (∀ j, (hj : j < l.length) → l[j].no = lastL (i + j + 1) ∧ DrawnS ⟨[], l[j].place, l[j].set, l[j].time, l[j].paras⟩) → (i = 0 → ∀ y, l.head? = some y → y.time ≠ 5) → okFrom (accN i) (decide (i = 0)) l := by
    intro l
    induction l with
    | nil => intros; trivial
    | cons y r ih =>
      intro i hi hall h5
      simp only [List.length_cons] at hi
      obtain ⟨h1, h2⟩ := hall 0 (by simp)
      simp only [List.getElem_cons_zero, Nat.add_zero] at h1 h2
      have ha := acc_new i (by omega)
      have hd : dd (accN i) y.no = accN (i + 1) := by
        rw [h1, dd, if_neg ha.1]
        simp [accN, List.range_succ]
      refine ⟨.inr ?_, h2.place, h2.time, fun hf => h5 (by simpa using hf) y rfl, ?_, ?_⟩
      · rw [h1]; exact ⟨ha.2.1, ha.2.2, ha.1⟩
      · have := drawn_scene h2
        exact ⟨this.set, this.len, this.many, this.run⟩
      · rw [hd]
        have := ih (i + 1) (by omega) (fun j hj => by
          have := hall (j + 1) (by simpa using hj)
          simp only [List.getElem_cons_succ] at this
          rw [show i + 1 + j + 1 = i + (j + 1) + 1 by omega]
          exact this) (by simp)
        simpa using this
  have := key x.scenes 0 (by omega) (fun j hj => ⟨by rw [Nat.zero_add]; exact h.no j hj, h.all j hj⟩) (fun _ => h.first)
  simpa [accN] using this
theorem noNoT_pc (x : Sc) : Pc Tryz.prog 106 [scA x] (· = .bool (x.no == [])) := by
  simp only [scA]
  refine pc_intro (ct_intro Tryz.func106 rfl Tryz.ntmps106 hB106 (by simp) fun h ρ w => goB (N := 6) Tryz.ntmps106 300 ?_)
  simp only [go_sem]
  exact aret [2] rfl ⟨rfl, rfl⟩
theorem scriptFault_pch {S : Std} (hS : LibR S) (x : Sr) (hx : StoryOk x) : PcH Tryz.prog S 48 [srA x] (· = .int .i64 0) := by
  have h1 := check_pch hS.ok x (story_script hx)
  have h2 := anySc_pc 106 [] rfl (fun y => y.no == []) x.scenes (by have := hx.len; omega) (fun y _ => noNoT_pc y)
  rw [story_nos hx] at h2
  simp only [srA] at h1 ⊢
  refine pch_intro (cth_intro Tryz.func48 rfl Tryz.ntmps48 hB48 (by simp) fun h ρ w hg => goB (N := 12) Tryz.ntmps48 300 ?_)
  simp only [go_sem]
  refine pcallH1 hg (h1) rfl (N := 12) Tryz.ntmps48 rfl (goB (N := 12) Tryz.ntmps48 300 ?_)
  simp only [go_sem]
  refine pcall1 (h2) rfl (N := 12) Tryz.ntmps48 rfl (goB (N := 12) Tryz.ntmps48 300 ?_)
  simp only [go_sem]
  exact aret [2] rfl ⟨rfl, rfl⟩
theorem isSetup_pc : Pc Tryz.prog 94 [.str []] (· = .bool true) := by
  refine pc_intro (ct_intro Tryz.func94 rfl Tryz.ntmps94 hB94 (by simp) fun h ρ w => go (N := 35) Tryz.ntmps94 300 ?_)
  simp only [go_sem]
  refine aenter (around (go (N := 35) Tryz.ntmps94 300 ?_))
  simp only [go_sem]
  exact aret [2] rfl ⟨rfl, rfl⟩
set_option maxHeartbeats 4000000 in
theorem coversFault_pc (t : Tk) (np : Nat) (hb : t.covers.length ≤ 60) (hn : np ≤ 60) (hok : ∀ j c, t.covers[j]? = some c → CvAt t np j c) : Pc Tryz.prog 98 [tkA t, .int .i64 np] (· = .int .i64 0) := by
  simp only [tkA]
  refine pc_intro (ct_intro Tryz.func98 rfl Tryz.ntmps98 hB98 (by simp) fun h ρ w => goB (N := 73) Tryz.ntmps98 300 ?_)
  simp only [go_sem, List.length_map]
  refine aloop (ι := Nat) (fun y => t.covers.length - y)
    (fun y => [(10, .int .i64 y), (9, .int .i64 t.covers.length), (8, .fz 4 (t.covers.map cvA)), (2, .pin 9 [.agg [.str t.scene, .str t.setup, .int .i64 t.number, .str t.roll, .str t.sound, .int .i64 t.inn, .int .i64 t.out, .bool t.good, .fz 4 (t.covers.map cvA)]] 0 0), (1, .int .i64 np)])
    (fun _ => []) (fun y => y ≤ t.covers.length) 0 (by simp) ?_ ?_
  · refine Shift.weakS ?_ rfl
    simp only [wk, go_sem, List.length_map]
  intro j g1 J hJ
  by_cases gj : j < t.covers.length
  · have dj : decide ((j : Int) < (t.covers.length : Int)) = true := by simp; omega
    have hcj : t.covers[j]? = some t.covers[j] := List.getElem?_eq_getElem gj
    have hgc := cvA_get t.covers j gj
    obtain ⟨⟨c1, c2⟩, c3, c4, c5, c6⟩ := hok j _ hcj
    have hgp : 0 < j → ∃ q, t.covers[j - 1]? = some q ∧ List.getD (List.map cvA t.covers) (j - 1) .any = .agg [.int .i64 q.para, .int .i64 q.inn, .int .i64 q.out, .bool q.on] := fun h0 => ⟨t.covers[j - 1], List.getElem?_eq_getElem (by omega), cvA_get t.covers (j - 1) (by omega)⟩
    generalize t.covers[j] = c at *
    have hfin := hJ (j + 1) (by omega) (by omega)
    have hj1 : ((j : Int) - 1).toNat = j - 1 := by omega
    have f1 : decide (c.para < 0) = false := by simp; omega
    have f2 : decide (c.para ≥ (np : Int)) = false := by simp; omega
    have f5 : decide (t.inn > c.inn) = false := by simp; omega
    have f6 : decide (c.inn ≥ c.out) = false := by simp; omega
    have f7 : decide (c.out > t.out) = false := by simp; omega
    have hq : (decide ((j : Int) > 0) = false ∧ True ∧ True ∧ True ∧ True) ∨ (∃ q : Cv, decide ((j : Int) > 0) = true ∧ 0 < j ∧ List.getD (List.map cvA t.covers) (j - 1) .any = .agg [.int .i64 q.para, .int .i64 q.inn, .int .i64 q.out, .bool q.on] ∧ decide (c.para ≤ q.para) = false ∧ decide (c.inn < q.out) = false) := by
      by_cases h0 : 0 < j
      · obtain ⟨q, hq, hgq⟩ := hgp h0
        have := c3 h0 q hq
        exact .inr ⟨q, by simp; omega, h0, hgq, by simp; omega, by simp; omega⟩
      · exact .inl ⟨by simp; omega, trivial, trivial, trivial, trivial⟩
    rcases hq with ⟨q0, qj, q1, q2, q3⟩ | ⟨q, q0, qj, q1, q2, q3⟩ <;>
    · refine goB (N := 73) Tryz.ntmps98 300 ?_
      simp only [go_sem, dj, hgc, f1, f2, List.length_map]
      repeat refine And.intro (by first | omega | rfl | (simp; done) | (simp; omega)) ?_
      refine adraw [] mixed (by decide) (N := 73) Tryz.ntmps98 (by decide) 100 ?_
      simp only [go_sem, q0, hj1, q1, q2, q3, List.length_map]
      repeat refine And.intro (by first | omega | rfl | (simp; done) | (simp; omega)) ?_
      refine goB (N := 73) Tryz.ntmps98 300 ?_
      simp only [go_sem, f5, f6, f7]
      repeat refine And.intro (by first | omega | rfl | (simp; done) | (simp; omega)) ?_
      rw [show (j : Int) + 1 = ((j + 1 : Nat) : Int) by omega]
      refine ainv hfin (Shift.low 0 (by simp) (by simp) ?_ ?_)
      · simp only [List.take_zero, List.all_nil]
      · simp only [wkl, lowV, lowC, Av.get, go_sem]
  · have dj : decide ((j : Int) < (t.covers.length : Int)) = false := by simp; omega
    refine goB (N := 73) Tryz.ntmps98 300 ?_
    simp only [go_sem, dj]
    exact aret [4] rfl ⟨rfl, rfl⟩

/-- the scenes of a script by their numbers -/
def scMF : Nat → List Sc → List (AV × AV)
  | _, [] => []
  | n, y :: r => (.str y.no, .int .i64 n) :: scMF (n + 1) r
theorem scMF_app : ∀ (a b : List Sc) (n : Nat), scMF n (a ++ b) = scMF n a ++ scMF (n + a.length) b
  | [], b, n => rfl
  | y :: a, b, n => by simp only [List.cons_append, scMF, scMF_app a b (n + 1), List.length_cons]; rw [show n + 1 + a.length = n + (a.length + 1) by omega]
theorem scMF_none {k : List UInt8} : ∀ (l : List Sc) (n m : Nat), (∀ y ∈ l, y.no ≠ k) → mfind .string (.str k) (scMF n l) m = some none
  | [], n, m, _ => rfl
  | y :: r, n, m, h => by
    have : (k == y.no) = false := by have := h y (by simp); simpa using Ne.symm this
    simp only [scMF, mfind, keyEq, this]
    exact scMF_none r (n + 1) (m + 1) (fun z hz => h z (by simp [hz]))
theorem scMF_find {k : List UInt8} : ∀ (l : List Sc) (n m i : Nat) (hi : i < l.length), l[i].no = k → (∀ j, (hj : j < i) → (l[j]'(by omega)).no ≠ k) → mfind .string (.str k) (scMF n l) m = some (some (m + i, .int .i64 ((n + i : Nat) : Int)))
  | [], n, m, i, hi, _, _ => by simp at hi
  | y :: r, n, m, 0, hi, h, _ => by
    simp at h
    simp [scMF, mfind, keyEq, h]
  | y :: r, n, m, i + 1, hi, h, hn => by
    have h0 := hn 0 (by omega)
    simp only [List.getElem_cons_zero] at h0
    have : (k == y.no) = false := by simpa using Ne.symm h0
    simp only [scMF, mfind, keyEq, this]
    rw [scMF_find r (n + 1) (m + 1) i (by simpa using hi) (by simpa using h) (fun j hj => by simpa using hn (j + 1) (by omega)), show m + 1 + i = m + (i + 1) by omega, show n + 1 + i = n + (i + 1) by omega]
theorem low_scM (n m : Nat) (l : List Sc) : lowB n (.mp (scMF m l)) = true := by
  show (scMF m l).all _ = true
  rw [List.all_eq_true]
  intro x hx
  have key : ∀ (l : List Sc) (m : Nat), x ∈ scMF m l → ∃ s i, x = (.str s, .int .i64 i) := by
    intro l
    induction l with
    | nil => intro m h; simp [scMF] at h
    | cons y r ih =>
      intro m h
      simp only [scMF, List.mem_cons] at h
      rcases h with rfl | h
      · exact ⟨_, _, rfl⟩
      · exact ih _ h
  obtain ⟨s, i, rfl⟩ := key l m hx
  rfl
theorem scenesOf_ct0 (x : Sr) (hx : StoryOk x) : Ct Tryz.prog 38 [srA x] [] (fun r s => r = .mp 0 ∧ s = [.mp (scMF 0 x.scenes)]) := by
  have hlen := hx.len
  simp only [srA]
  refine ct_intro Tryz.func38 rfl Tryz.ntmps38 hB38 (by simp) fun h ρ w => goB (N := 21) Tryz.ntmps38 300 ?_
  simp only [go_sem, List.length_map]
  refine aloop (ι := Nat) (fun y => x.scenes.length - y)
    (fun y => [(10, .int .i64 y), (9, .int .i64 x.scenes.length), (8, .fz 5 (x.scenes.map scA)), (3, .mp 0)])
    (fun y => [.mp (scMF 0 (x.scenes.take y))]) (fun y => y ≤ x.scenes.length) 0 (by simp) ?_ ?_
  · refine Shift.weakS ?_ rfl
    simp only [wk, go_sem, List.length_map]
  intro i g1 J hJ
  by_cases gi : i < x.scenes.length
  · have di : decide ((i : Int) < (x.scenes.length : Int)) = true := by simp; omega
    have hget := scA_get x.scenes i gi
    have m1 := scMF_none (k := x.scenes[i].no) (x.scenes.take i) 0 0 (fun y hy => by
      obtain ⟨j, hj, rfl⟩ := List.getElem_of_mem hy
      rw [List.length_take] at hj
      rw [List.getElem_take]
      intro e
      exact absurd (hx.inj (by omega) gi e) (by omega))
    have m2 : scMF 0 (x.scenes.take i) ++ [(.str x.scenes[i].no, .int .i64 (i : Int))] = scMF 0 (x.scenes.take (i + 1)) := by
      rw [List.take_add_one, List.getElem?_eq_getElem gi, scMF_app]
      simp only [Option.toList, scMF, List.length_take]
      rw [show min i x.scenes.length = i by omega, Nat.zero_add]
    have hfin := hJ (i + 1) (by omega) (by omega)
    generalize x.scenes[i] = y at *
    refine goB (N := 21) Tryz.ntmps38 300 ?_
    simp only [go_sem, di, hget, m1, m2, List.length_map]
    repeat refine And.intro (by first | omega | rfl | kernel_rfl | (simp; done) | (simp; omega)) ?_
    rw [show (i : Int) + 1 = ((i + 1 : Nat) : Int) by omega]
    refine ainv hfin (Shift.low 1 (by simp) (by simp) ?_ ?_)
    · simp only [List.take_succ_cons, List.take_zero, List.all_cons, List.all_nil, ↓low_scM, Bool.and_self]
    · simp only [wkl, lowV, lowC, Av.get, go_sem]
  · have di : decide ((i : Int) < (x.scenes.length : Int)) = false := by simp; omega
    rw [show x.scenes.take i = x.scenes from List.take_of_length_le (by omega)]
    refine goB (N := 21) Tryz.ntmps38 300 ?_
    simp only [go_sem, di]
    exact aret [2] rfl ⟨rfl, rfl⟩
theorem scenes_at {x : Sr} (hx : StoryOk x) {no : List UInt8} {i : Nat} (hi : i < x.scenes.length) (hs : sceneIx x no = i) : x.scenes[i].no = no ∧ ∀ j, (hj : j < i) → (x.scenes[j]'(by omega)).no ≠ no := by
  unfold sceneIx idxP at hs
  cases hq : x.scenes.findIdx? (fun y => y.no == no && no != []) with
  | none => rw [hq] at hs; simp at hs
  | some j =>
    rw [hq] at hs
    have hij : j = i := by
      simp only at hs
      omega
    subst hij
    obtain ⟨h1, h2, h3⟩ := List.findIdx?_eq_some_iff_getElem.1 hq
    simp only [Bool.and_eq_true, beq_iff_eq] at h2
    refine ⟨h2.1, fun k hk e => ?_⟩
    have := hx.inj (show k < x.scenes.length by omega) hi (by rw [e, h2.1])
    omega
theorem winFn_pc (u : Wn) (t : Tk) : Pc Tryz.prog 97 [wnA u, .pin 9 [tkA t] 0 0] (· = .bool (decide (u.frm < t.out) && decide (t.inn < u.to'))) := by
  simp only [tkA, wnA]
  refine pc_intro (ct_intro Tryz.func97 rfl Tryz.ntmps97 hB97 (by simp) fun h ρ w => goB (N := 16) Tryz.ntmps97 300 ?_)
  cases e1 : decide (u.frm < t.out) with
  | false =>
    simp only [go_sem, e1]
    exact aret [3] rfl ⟨by simp [resV, Av.get, Av.put], rfl⟩
  | true =>
    simp only [go_sem, e1]
    exact aret [3] rfl ⟨by simp [resV, Av.get, Av.put], rfl⟩
end Go.Proofs.YtkfpiadgjbhcpaaGreatDoor
