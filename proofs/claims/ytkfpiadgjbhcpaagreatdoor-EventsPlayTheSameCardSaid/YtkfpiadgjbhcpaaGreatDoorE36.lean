/- The reference's faults of a drawn story. Own work of this seat. -/
import Derived.Test.YtkfpiadgjbhcpaaGreatDoorE29
import Derived.Test.YtkfpiadgjbhcpaaGreatDoorE34
import Derived.Test.YtkfpiadgjbhcpaaGreatDoorE35
import Derived.Test.YtkfpiadgjbhcpaaGreatDoorE22
set_option maxRecDepth 100000
set_option linter.unusedSimpArgs false
set_option linter.unusedVariables false
namespace Go.Proofs.YtkfpiadgjbhcpaaGreatDoor
open Go Go.Av Go.RowKit

/-- a story: numbers from 1 on, all else drawn -/
structure StoryOk (x : Sr) : Prop where
  title : x.title ∈ TitleL
  len : x.scenes.length ≤ 5
  no : ∀ i, (h : i < x.scenes.length) → x.scenes[i].no = lastL (i + 1)
  all : ∀ i, (h : i < x.scenes.length) → DrawnS ⟨[], x.scenes[i].place, x.scenes[i].set, x.scenes[i].time, x.scenes[i].paras⟩
  first : ∀ y, x.scenes.head? = some y → y.time ≠ 5
theorem story_ok {x : Sr} (h : DrawnR x) : StoryOk (numR x) := by
  have hg : ∀ i, (hi : i < (numR x).scenes.length) → ∃ (h2 : i < x.scenes.length), (numR x).scenes[i] = nm i x.scenes[i] := fun i hi => by
    simp only [numR, numL_len] at hi
    refine ⟨hi, ?_⟩
    have := numL_get x.scenes 0 i hi
    simp only [Nat.zero_add] at this
    exact (List.getElem?_eq_some_iff.1 this).2
  refine ⟨h.title, by simp only [numR, numL_len]; exact h.len, fun i hi => ?_, fun i hi => ?_, fun y hy => ?_⟩
  · obtain ⟨h2, e⟩ := hg i hi
    rw [e]
    exact num_last i (by have := h.len; omega)
  · obtain ⟨h2, e⟩ := hg i hi
    rw [e]
    have hd := h.all _ (List.getElem_mem h2)
    exact ⟨rfl, hd.place, hd.set, hd.time, hd.run, hd.len, hd.all⟩
  · have := h.first
    obtain ⟨ti, xs⟩ := x
    cases xs with
    | nil => simp [numR, numL] at hy
    | cons a r =>
      simp only [numR, numL, List.head?_cons, Option.some.injEq] at hy
      rw [← hy]
      exact this a rfl
theorem no_facts (i : Nat) (hi : i < 5) : Lib.trimLeftS (lastL (i + 1)) DIG = [] ∧ 1 ≤ (lastL (i + 1)).length ∧ (lastL (i + 1)).length ≤ 3 ∧ (lastL (i + 1)).getD 0 0 ≠ 48 ∧ (lastL (i + 1) == []) = false := by
  have h : ∀ i : Fin 5, Lib.trimLeftS (lastL (i.1 + 1)) DIG = [] ∧ 1 ≤ (lastL (i.1 + 1)).length ∧ (lastL (i.1 + 1)).length ≤ 3 ∧ (lastL (i.1 + 1)).getD 0 0 ≠ 48 ∧ (lastL (i.1 + 1) == []) = false := by decide +kernel
  exact h ⟨i, hi⟩
theorem no_ne (i j : Nat) (hi : i < 5) (hj : j < 5) (h : i ≠ j) : lastL (i + 1) ≠ lastL (j + 1) := by
  have h' : ∀ i j : Fin 5, i.1 ≠ j.1 → lastL (i.1 + 1) ≠ lastL (j.1 + 1) := by decide +kernel
  exact h' ⟨i, hi⟩ ⟨j, hj⟩ h
theorem set_bd : ∀ s ∈ SetL, s.length < 1000 := by decide
theorem title_bd : ∀ s ∈ TitleL, 1 ≤ s.length ∧ s.length ≤ 60 := by decide
theorem StoryOk.inj {x : Sr} (h : StoryOk x) {i j : Nat} (hi : i < x.scenes.length) (hj : j < x.scenes.length) (e : x.scenes[i].no = x.scenes[j].no) : i = j := by
  rw [h.no i hi, h.no j hj] at e
  have := h.len
  exact Classical.byContradiction fun hn => no_ne i j (by omega) (by omega) hn e

theorem headR_pch {S : Std} (hS : LibR S) (x : Sc) (i : Nat) (hi : i < 5) (hno : x.no = lastL (i + 1)) (hp : 1 ≤ x.place ∧ x.place ≤ 3) (ht : 1 ≤ x.time ∧ x.time ≤ 5) (hs : x.set.length < 1000) :
    PcH Tryz.prog S 189 [scA x] (· = .int .i64 (if setR x.set then 0 else 3)) := by
  obtain ⟨a1, a2, a3, a4, a5⟩ := no_facts i hi
  rw [← hno] at a1 a2 a3 a4 a5
  have e0 : (x.no != []) = true := by rw [bne, a5]; rfl
  have hn := numberOf_pc x.no a1 a2 a3 a4
  have e1 : decide (x.place < 1) = false := by simp; omega
  have e2 : decide (x.place > 3) = false := by simp; omega
  have e3 : decide (x.time < 1) = false := by simp; omega
  have e4 : decide (x.time > 5) = false := by simp; omega
  have hset := setR_pch hS x.set (by omega)
  simp only [scA]
  refine pch_intro (cth_intro Tryz.func189 rfl Tryz.ntmps189 hB189 (by simp) fun h ρ w hg => goB (N := 37) Tryz.ntmps189 300 ?_)
  simp only [go_sem, e0]
  refine pcall1 (hn) rfl (N := 37) Tryz.ntmps189 rfl (goB (N := 37) Tryz.ntmps189 300 ?_)
  simp only [go_sem, e1, e2, e3, e4]
  refine pcallH1 hg (hset) rfl (N := 37) Tryz.ntmps189 rfl (goB (N := 37) Tryz.ntmps189 300 ?_)
  cases e5 : setR x.set with
  | false =>
    simp only [go_sem]
    exact aret [2] rfl ⟨rfl, rfl⟩
  | true =>
    simp only [go_sem]
    exact aret [2] rfl ⟨rfl, rfl⟩
theorem sameNo_pc (x y : Sc) : Pc Tryz.prog 190 [scA x, .pin 5 [scA y] 0 0] (· = .bool (x.no == y.no)) := by
  simp only [scA]
  refine pc_intro (ct_intro Tryz.func190 rfl Tryz.ntmps190 hB190 (by simp) fun h ρ w => goB (N := 9) Tryz.ntmps190 300 ?_)
  simp only [go_sem]
  exact aret [3] rfl ⟨rfl, rfl⟩

def parasR : List Pa → Int
  | [] => 0
  | p :: r => if paraR p != 0 then paraR p else parasR r
def sceneR (x : Sc) : Int := if setR x.set then parasR x.paras else 3
set_option maxHeartbeats 2000000 in
theorem sceneR_pch {S : Std} (hS : LibR S) (x : Sr) (hx : StoryOk x) (k : Nat) (hk : k < x.scenes.length) : PcH Tryz.prog S 126 [.fz 5 (x.scenes.map scA), .int .i64 k] (· = .int .i64 (sceneR x.scenes[k])) := by
  have hlen := hx.len
  have hd := hx.all k hk
  have hno := hx.no k hk
  obtain ⟨a1, a2, a3, a4, a5⟩ := no_facts k (by omega)
  rw [← hno] at a1 a2 a3 a4 a5
  have e0 : (x.scenes[k].no != []) = true := by rw [bne, a5]; rfl
  have hh := headR_pch hS x.scenes[k] k (by omega) hno hd.place hd.time (set_bd _ hd.set)
  have hnew : (x.scenes.take k).any (fun y => y.no == x.scenes[k].no) = false := by
    rw [List.any_eq_false]
    intro y hy
    obtain ⟨j, hj, rfl⟩ := List.getElem_of_mem hy
    rw [List.length_take] at hj
    rw [List.getElem_take]
    simp only [beq_iff_eq]
    exact fun e => absurd (hx.inj (by omega) hk e) (by omega)
  have hany := anySc_pc 190 [.pin 5 [scA x.scenes[k]] 0 0] rfl (fun y => y.no == x.scenes[k].no) (x.scenes.take k) (by rw [List.length_take]; omega) (fun y _ => sameNo_pc y x.scenes[k])
  rw [hnew, List.map_take] at hany
  have hft : ((k : Int) == 0) = false ∨ (x.scenes[k].time == 5) = false := by
    by_cases h0 : k = 0
    · subst h0
      right
      have := hx.first x.scenes[0] (by rw [List.head?_eq_getElem?, List.getElem?_eq_getElem hk])
      simpa using this
    · left; simp; omega
  obtain ⟨e, hr, h2, h3⟩ := hd.run
  simp only at hr
  have hget := scA_get x.scenes k hk
  have hres : (if setR x.scenes[k].set then parasR x.scenes[k].paras else 3) = sceneR x.scenes[k] := rfl
  have hm := hd.len
  simp only at hm
  generalize hsc : x.scenes[k] = sc at *
  rw [← hres]
  have hbor := Ct.borrowF (P := Tryz.prog) (f := 80) (args := [.fz 5 (List.take k (x.scenes.map scA)), .fn (.func 190) [.ptr 0 1 0 0]]) 1 [.arr 5 [scA sc]] (post := (· = .bool false)) hany (by rintro r rfl; rfl)
  simp only [scA] at hbor hh
  have hk2 : decide ((k : Int) ≤ (x.scenes.length : Int)) = true := by simp; omega
  refine pch_intro (cth_intro Tryz.func126 rfl Tryz.ntmps126 hB126 (by simp) fun h ρ w hg => goB (N := 65) Tryz.ntmps126 300 ?_)
  simp only [go_sem, hget, List.length_map]
  repeat refine And.intro (by first | omega | rfl | (simp; done) | (simp; omega)) ?_
  refine pcallH1 hg (hh) rfl (N := 65) Tryz.ntmps126 rfl (goB (N := 65) Tryz.ntmps126 300 ?_)
  have hq : (((k : Int) == 0) = true ∧ (sc.time == 5) = false) ∨ (((k : Int) == 0) = false ∧ True) := by
    cases h0 : ((k : Int) == 0) with
    | true =>
      rw [h0] at hft
      exact .inl ⟨rfl, hft.resolve_left (by simp)⟩
    | false => exact .inr ⟨rfl, trivial⟩
  rcases hq with ⟨q1, q2⟩ | ⟨q1, q2⟩ <;>
  · cases e5 : setR sc.set with
    | false =>
      simp only [Bool.false_eq_true, if_false]
      simp only [go_sem, e0, hk2]
      repeat refine And.intro (by first | omega | rfl | (simp; done) | (simp; omega)) ?_
      refine acall (hbor) (N := 65) Tryz.ntmps126 rfl ?_
      rintro _ _ ⟨rfl, rfl⟩
      refine goB (N := 65) Tryz.ntmps126 300 ?_
      simp only [go_sem, q1, q2]
      exact aret [4] rfl ⟨rfl, rfl⟩
    | true =>
      simp only [if_true]
      simp only [go_sem, e0, hk2]
      repeat refine And.intro (by first | omega | rfl | (simp; done) | (simp; omega)) ?_
      refine acall (hbor) (N := 65) Tryz.ntmps126 rfl ?_
      rintro _ _ ⟨rfl, rfl⟩
      refine goB (N := 65) Tryz.ntmps126 300 ?_
      simp only [go_sem, q1, q2]
      refine aloop (ι := Nat × Int) (fun y => sc.paras.length - y.1)
        (fun y => [(46, .int .i64 y.1), (45, .int .i64 sc.paras.length), (44, .fz 2 (sc.paras.map paA)), (7, .int .i64 y.2)])
        (fun _ => [.arr 5 [.agg [.str sc.no, .int .i64 sc.place, .str sc.set, .int .i64 sc.time, .fz 2 (sc.paras.map paA)]]])
        (fun y => y.1 ≤ sc.paras.length ∧ runL y.2 (sc.paras.drop y.1) = some e ∧ parasR (sc.paras.drop y.1) = parasR sc.paras) (0, 0) ⟨by simp, hr, by simp⟩ ?_ ?_
      · refine Shift.weakS ?_ rfl
        simp only [wk, go_sem, List.length_map]
      · rintro ⟨i, l⟩ ⟨g1, g2, g3⟩ J hJ
        simp only at g1 g2 g3 hJ ⊢
        by_cases gi : i < sc.paras.length
        · have di : decide ((i : Int) < (sc.paras.length : Int)) = true := by simp; omega
          have hdr : sc.paras.drop i = sc.paras[i] :: sc.paras.drop (i + 1) := List.drop_eq_getElem_cons gi
          rw [hdr] at g2 g3
          simp only [runL] at g2
          split at g2
          rotate_left
          · cases g2
          rename_i hp
          simp only [Bool.and_eq_true] at hp
          have hpf := paraR_pch hS sc.paras[i] l hp.1 hp.2
          simp only [paA] at hpf
          simp only [parasR] at g3
          refine goB (N := 65) Tryz.ntmps126 300 ?_
          simp only [go_sem, di, paA_get sc.paras i gi, List.length_map]
          repeat refine And.intro (by first | omega | rfl | (simp; done) | (simp; omega)) ?_
          refine pcallH1 hg (hpf) rfl (N := 65) Tryz.ntmps126 rfl (goB (N := 65) Tryz.ntmps126 300 ?_)
          cases e6 : paraR sc.paras[i] != 0 with
          | true =>
            rw [e6] at g3
            simp only [go_sem, e6]
            exact aret [4] rfl ⟨by rw [← g3]; rfl, rfl⟩
          | false =>
            rw [e6] at g3
            simp only [go_sem, e6]
            repeat refine And.intro (by first | omega | rfl | (simp; done) | (simp; omega)) ?_
            rw [show (i : Int) + 1 = ((i + 1 : Nat) : Int) by omega]
            refine ainv (hJ (i + 1, sc.paras[i].kind) ⟨by simp only; omega, g2, g3⟩ (by simp only; omega)) (Shift.low 1 (by simp) (by simp) ?_ ?_)
            · simp only [List.take_succ_cons, List.take_zero, List.all_cons, List.all_nil, lowB, flat, cellsOf, lowC, Av.frozen, List.append_nil, Bool.and_self]
            · simp only [wkl, lowV, lowC, Av.get, go_sem]
        · have di : decide ((i : Int) < (sc.paras.length : Int)) = false := by simp; omega
          have : i = sc.paras.length := by omega
          subst this
          rw [List.drop_length] at g2 g3
          simp only [runL, Option.some.injEq] at g2
          subst g2
          have q2 : (l == 2) = false := by simpa using h2
          have q3 : (l == 3) = false := by simpa using h3
          refine goB (N := 65) Tryz.ntmps126 300 ?_
          simp only [go_sem, di, q2, q3]
          exact aret [4] rfl ⟨by rw [← g3]; rfl, rfl⟩

def scenesR : List Sc → Int
  | [] => 0
  | x :: r => if sceneR x != 0 then sceneR x else scenesR r
def scriptR (x : Sr) : Int := if plainR x.title then scenesR x.scenes else 3
theorem story_sum {x : Sr} (h : StoryOk x) : paraSum x.scenes ≤ 300 := by
  have h1 := sum_le x.scenes (fun z hz => by
    obtain ⟨i, hi, rfl⟩ := List.getElem_of_mem hz
    exact (h.all i hi).len)
  have := h.len
  omega
set_option maxHeartbeats 2000000 in
theorem scriptR_pch {S : Std} (hS : LibR S) (x : Sr) (hx : StoryOk x) : PcH Tryz.prog S 72 [srA x] (· = .int .i64 (scriptR x)) := by
  have htb := title_bd _ hx.title
  have hlen := hx.len
  have hsum := story_sum hx
  have h1 := longR_pc x.title 1 60
  have hl : longR x.title 1 60 = true := by simp [longR]; omega
  rw [hl] at h1
  have h2 := plainR_pch hS x.title (by omega)
  have hsf := fun k hk => sceneR_pch hS x hx k hk
  have hres : (if plainR x.title then scenesR x.scenes else 3) = scriptR x := rfl
  rw [← hres]
  obtain ⟨ti, xs⟩ := x
  simp only at htb hlen hsum h1 h2 hsf ⊢
  simp only [srA]
  refine pch_intro (cth_intro Tryz.func72 rfl Tryz.ntmps72 hB72 (by simp) fun h ρ w hg => goB (N := 53) Tryz.ntmps72 300 ?_)
  simp only [go_sem]
  refine pcall1 (h1) rfl (N := 53) Tryz.ntmps72 rfl (goB (N := 53) Tryz.ntmps72 300 ?_)
  simp only [go_sem]
  refine pcallH1 hg (h2) rfl (N := 53) Tryz.ntmps72 rfl (goB (N := 53) Tryz.ntmps72 300 ?_)
  cases e1 : plainR ti with
  | false =>
    simp only [go_sem]
    exact aret [2] rfl ⟨rfl, rfl⟩
  | true =>
    simp only [if_true]
    simp only [go_sem]
    refine aloop (ι := Nat) (fun i => xs.length - i)
      (fun i => [(21, .int .i64 i), (20, .int .i64 xs.length), (19, .fz 5 (xs.map scA)), (3, .int .i64 (paraSum (xs.take i))), (1, .pin 2 [.agg [.str ti, .fz 5 (xs.map scA)]] 0 0)])
      (fun _ => []) (fun i => i ≤ xs.length) 0 (by simp) ?_ ?_
    · refine Shift.weakS ?_ rfl
      simp only [wk, go_sem, List.length_map]
      simp [paraSum]
    · intro i g1 J hJ
      by_cases gi : i < xs.length
      · have di : decide ((i : Int) < (xs.length : Int)) = true := by simp; omega
        have hs := paraSum_take xs i gi
        have hle := paraSum_take_le xs (i + 1)
        refine goB (N := 53) Tryz.ntmps72 300 ?_
        simp only [go_sem, di, scA_get xs i gi, List.length_map]
        repeat refine And.intro (by first | omega | rfl | (simp; done) | (simp; omega)) ?_
        rw [show (paraSum (xs.take i) : Int) + (xs[i].paras.length : Int) = (paraSum (xs.take (i + 1)) : Int) by omega, show (i : Int) + 1 = ((i + 1 : Nat) : Int) by omega]
        refine ainv (hJ (i + 1) (by omega) (by omega)) (Shift.low 0 (by simp) (by simp) ?_ ?_)
        · simp only [List.take_zero, List.all_nil]
        · simp only [wkl, lowV, lowC, Av.get, go_sem]
      · have di : decide ((i : Int) < (xs.length : Int)) = false := by simp; omega
        have : i = xs.length := by omega
        subst this
        rw [List.take_length]
        have d3 : decide ((xs.length : Int) > 300) = false := by simp; omega
        have d4 : decide ((paraSum xs : Int) > 4000) = false := by simp; omega
        refine goB (N := 53) Tryz.ntmps72 300 ?_
        simp only [go_sem, di, d3, d4, List.length_map]
        refine aloop (ι := Nat) (fun y => xs.length - y)
          (fun y => [(42, .int .i64 y), (41, .int .i64 xs.length), (1, .pin 2 [.agg [.str ti, .fz 5 (xs.map scA)]] 0 0)])
          (fun y => []) (fun y => y ≤ xs.length ∧ scenesR (xs.drop y) = scenesR xs) 0 ⟨by simp, by simp⟩ ?_ ?_
        · refine Shift.weakS ?_ rfl
          simp only [wk, go_sem]
        · clear hJ J
          rintro i ⟨g1, g2⟩ J hJ
          by_cases gi : i < xs.length
          · have di : decide ((i : Int) < (xs.length : Int)) = true := by simp; omega
            have hd : xs.drop i = xs[i] :: xs.drop (i + 1) := List.drop_eq_getElem_cons gi
            rw [hd] at g2
            simp only [scenesR] at g2
            refine goB (N := 53) Tryz.ntmps72 300 ?_
            simp only [go_sem, di]
            refine pcallH1 hg (hsf i gi) rfl (N := 53) Tryz.ntmps72 rfl (goB (N := 53) Tryz.ntmps72 300 ?_)
            cases e6 : sceneR xs[i] != 0 with
            | true =>
              rw [e6] at g2
              simp only [go_sem, e6]
              exact aret [2] rfl ⟨by rw [← g2]; rfl, rfl⟩
            | false =>
              rw [e6] at g2
              simp only [go_sem, e6]
              repeat refine And.intro (by first | omega | rfl | (simp; done) | (simp; omega)) ?_
              rw [show (i : Int) + 1 = ((i + 1 : Nat) : Int) by omega]
              refine ainv (hJ (i + 1) ⟨by omega, g2⟩ (by omega)) (Shift.weakS ?_ rfl)
              simp only [wk, go_sem]
          · have di : decide ((i : Int) < (xs.length : Int)) = false := by simp; omega
            have : i = xs.length := by omega
            subst this
            rw [List.drop_length] at g2
            refine goB (N := 53) Tryz.ntmps72 300 ?_
            simp only [go_sem, di]
            exact aret [2] rfl ⟨by rw [← g2]; rfl, rfl⟩
theorem noNo_pc (x : Sc) : Pc Tryz.prog 150 [scA x] (· = .bool (x.no == [])) := by
  simp only [scA]
  refine pc_intro (ct_intro Tryz.func150 rfl Tryz.ntmps150 hB150 (by simp) fun h ρ w => goB (N := 6) Tryz.ntmps150 300 ?_)
  simp only [go_sem]
  exact aret [2] rfl ⟨rfl, rfl⟩
theorem story_nos {x : Sr} (hx : StoryOk x) : (x.scenes.any fun y => y.no == []) = false := by
  rw [List.any_eq_false]
  intro y hy
  obtain ⟨i, hi, rfl⟩ := List.getElem_of_mem hy
  rw [hx.no i hi]
  have := hx.len
  have := (no_facts i (by omega)).2.2.2.2
  simp [this]
theorem storyR_pch {S : Std} (hS : LibR S) (x : Sr) (hx : StoryOk x) : PcH Tryz.prog S 91 [srA x] (· = .int .i64 (scriptR x)) := by
  have h1 := scriptR_pch hS x hx
  have h2 := anySc_pc 150 [] rfl (fun y => y.no == []) x.scenes (by have := hx.len; omega) (fun y _ => noNo_pc y)
  rw [story_nos hx] at h2
  simp only [srA] at h1 ⊢
  refine pch_intro (cth_intro Tryz.func91 rfl Tryz.ntmps91 hB91 (by simp) fun h ρ w hg => goB (N := 12) Tryz.ntmps91 300 ?_)
  simp only [go_sem]
  refine pcallH1 hg (h1) rfl (N := 12) Tryz.ntmps91 rfl (goB (N := 12) Tryz.ntmps91 300 ?_)
  cases e1 : scriptR x != 0 with
  | true =>
    simp only [go_sem, e1]
    exact aret [2] rfl ⟨rfl, rfl⟩
  | false =>
    simp only [go_sem, e1]
    refine pcall1 (h2) rfl (N := 12) Tryz.ntmps91 rfl (goB (N := 12) Tryz.ntmps91 300 ?_)
    simp only [go_sem]
    exact aret [2] rfl ⟨by have : scriptR x = 0 := by simpa using e1
                           rw [this]; rfl, rfl⟩
def RnL : List (List UInt8) := [[65, 49], [65, 50], [83, 49], [], [97, 49], [65, 66, 67, 68, 69, 70, 71, 72, 73]]
def rollSet : List UInt8 := [65, 66, 67, 68, 69, 70, 71, 72, 73, 74, 75, 76, 77, 78, 79, 80, 81, 82, 83, 84, 85, 86, 87, 88, 89, 90, 48, 49, 50, 51, 52, 53, 54, 55, 56, 57]
def rnR (s : List UInt8) : Bool := longR s 1 8 && madeR s rollSet
def dayR (r : Int) : Int := if r = 1 then 2073600 else if r = 2 then 2160000 else if r = 3 then 2592000 else if r = 4 then 2589408 else 0
/-- a right roll after others -/
structure RlOk (x : Rl) : Prop where
  name : rnR x.name = true
  rate : 1 ≤ x.rate ∧ x.rate ≤ 4
  start : 0 ≤ x.start ∧ x.start < dayR x.rate
  long : 1 ≤ x.long ∧ x.long ≤ dayR x.rate - x.start
  drift : -1000 ≤ x.drift ∧ x.drift ≤ 1000
def RlAt (l : List Rl) (i : Nat) (x : Rl) : Prop := RlOk x ∧ ((l.take i).any fun y => y.name == x.name) = false
structure RollsOk (l : List Rl) : Prop where
  len : l.length ≤ 200
  at' : ∀ i x, l[i]? = some x → RlAt l i x
theorem RollsOk.no {l : List Rl} {i : Nat} {x : Rl} (hi : l[i]? = some x) (h : ¬ RlAt l i x) : ¬ RollsOk l := fun c => h (c.at' i x hi)
theorem rnL_bd : ∀ s ∈ RnL, s.length < 100 := by decide

theorem rateR_pc (r : Int) : Pc Tryz.prog 151 [.int .i64 r] (fun v => ∃ a b c : Int, v = .tup [.int .i64 a, .int .i64 (dayR r), .int .i64 b, .int .i64 c, .bool (decide (1 ≤ r ∧ r ≤ 4))]) := by
  refine pc_intro (ct_intro Tryz.func151 rfl Tryz.ntmps151 hB151 (by simp) fun h ρ w => goB (N := 16) Tryz.ntmps151 300 ?_)
  by_cases h : 1 ≤ r ∧ r ≤ 4
  · obtain rfl | rfl | rfl | rfl : r = 1 ∨ r = 2 ∨ r = 3 ∨ r = 4 := by omega
    all_goals
      simp only [go_sem]
      exact aret [2, 3, 4, 5, 6] rfl ⟨⟨_, _, _, rfl⟩, rfl⟩
  · have e1 : (r == 1) = false := by simp; omega
    have e2 : (r == 2) = false := by simp; omega
    have e3 : (r == 3) = false := by simp; omega
    have e4 : (r == 4) = false := by simp; omega
    have hd : dayR r = 0 := by unfold dayR; rw [if_neg (by omega), if_neg (by omega), if_neg (by omega), if_neg (by omega)]
    simp only [go_sem, e1, e2, e3, e4]
    exact aret [2, 3, 4, 5, 6] rfl ⟨⟨0, 0, 0, by rw [hd]; simp [resV, Av.get, Av.put, h]⟩, rfl⟩
theorem rightFrame_pc (r f : Int) (h : 1 ≤ r ∧ r ≤ 4) : Pc Tryz.prog 155 [.int .i64 r, .int .i64 f] (· = .bool (decide (0 ≤ f) && decide (f < dayR r))) := by
  have hr := rateR_pc r
  have hd : decide (1 ≤ r ∧ r ≤ 4) = true := by simpa using h
  refine pc_intro (ct_intro Tryz.func155 rfl Tryz.ntmps155 hB155 (by simp) fun h ρ w => goB (N := 28) Tryz.ntmps155 300 ?_)
  simp only [go_sem]
  refine pcall (hr) rfl (N := 28) Tryz.ntmps155 rfl ?_
  rintro _ ⟨a, b, c, rfl⟩
  refine goB (N := 28) Tryz.ntmps155 300 ?_
  cases e1 : decide (f ≥ 0) with
  | true =>
    have e1' : decide (0 ≤ f) = true := by simpa using e1
    simp only [go_sem, hd, e1]
    exact aret [4] rfl ⟨by simp [resV, Av.get, Av.put, e1'], rfl⟩
  | false =>
    have e1' : decide (0 ≤ f) = false := by simpa using e1
    simp only [go_sem, hd, e1]
    exact aret [4] rfl ⟨by simp [resV, Av.get, Av.put, e1'], rfl⟩
theorem rollName_pc (s : List UInt8) (hs : s.length < 100) : Pc Tryz.prog 152 [.str s] (· = .bool (rnR s)) := by
  have h1 := longR_pc s 1 8
  have h3 := madeR_pc s rollSet (by omega) (by decide) (ascii_set (by decide))
  simp only [rollSet] at h3
  refine pc_intro (ct_intro Tryz.func152 rfl Tryz.ntmps152 hB152 (by simp) fun h ρ w => goB (N := 9) Tryz.ntmps152 300 ?_)
  simp only [go_sem]
  refine pcall1 (h1) rfl (N := 9) Tryz.ntmps152 rfl (goB (N := 9) Tryz.ntmps152 300 ?_)
  cases e1 : longR s 1 8 with
  | false =>
    simp only [go_sem]
    exact aret [2] rfl ⟨by simp [resV, Av.get, Av.put, rnR, e1], rfl⟩
  | true =>
    simp only [go_sem]
    refine pcall1 (h3) rfl (N := 9) Tryz.ntmps152 rfl (goB (N := 9) Tryz.ntmps152 300 ?_)
    simp only [go_sem]
    exact aret [2] rfl ⟨by simp [resV, Av.get, Av.put, rnR, e1, rollSet], rfl⟩
theorem sameRoll_pc (x y : Rl) : Pc Tryz.prog 154 [rlA x, .pin 5 [rlA y] 0 0] (· = .bool (x.name == y.name)) := by
  simp only [rlA]
  refine pc_intro (ct_intro Tryz.func154 rfl Tryz.ntmps154 hB154 (by simp) fun h ρ w => goB (N := 9) Tryz.ntmps154 300 ?_)
  simp only [go_sem]
  exact aret [3] rfl ⟨rfl, rfl⟩
set_option maxHeartbeats 4000000 in
theorem rollsR_pc (l : List Rl) (hl : l.length ≤ 200) (hn : ∀ x ∈ l, x.name.length < 100) : Pc Tryz.prog 92 [.fz 5 (l.map rlA)] (fun r => ∃ n : Int, r = .int .i64 n ∧ (n = 0 ↔ RollsOk l)) := by
  have d1 : decide ((l.length : Int) > 200) = false := by simp; omega
  refine pc_intro (ct_intro Tryz.func92 rfl Tryz.ntmps92 hB92 (by simp) fun h ρ w => goB (N := 75) Tryz.ntmps92 300 ?_)
  simp only [go_sem, d1, List.length_map]
  refine aloop (ι := Nat) (fun y => l.length - y)
    (fun y => [(15, .int .i64 y), (14, .int .i64 l.length), (13, .fz 5 (l.map rlA)), (0, .fz 5 (l.map rlA))])
    (fun y => []) (fun y => y ≤ l.length ∧ ∀ j x, j < y → l[j]? = some x → RlAt l j x) 0 ⟨by simp, fun j _ h => absurd h (by omega)⟩ ?_ ?_
  · refine Shift.weakS ?_ rfl
    simp only [wk, go_sem, List.length_map]
  · rintro i ⟨g1, g2⟩ J hJ
    by_cases gi : i < l.length
    · have di : decide ((i : Int) < (l.length : Int)) = true := by simp; omega
      obtain ⟨x, hx⟩ : ∃ x, x = l[i] := ⟨_, rfl⟩
      have hxi : l[i]? = some x := by rw [hx]; exact List.getElem?_eq_getElem gi
      have hnx := hn x (by rw [hx]; exact List.getElem_mem gi)
      have hget := rlA_get l i gi
      rw [← hx] at hget
      have hret : ∀ (n : Int), n ≠ 0 → ¬ RlAt l i x → ∃ m : Int, AV.int .i64 n = .int .i64 m ∧ (m = 0 ↔ RollsOk l) := fun n hn hc => ⟨n, rfl, ⟨fun h => absurd h hn, fun h => absurd h (RollsOk.no hxi hc)⟩⟩
      have hfin : RlAt l i x → ∀ a w, Sim _ _ _ a w → J a w := fun hc => hJ (i + 1) ⟨by omega, fun j y hj hy => by
        rcases Nat.lt_or_ge j i with h2 | h2
        · exact g2 j y h2 hy
        · have : j = i := by omega
          subst this
          rw [hxi] at hy
          cases hy
          exact hc⟩ (by omega)
      have hany := anyRl_pc 154 [.pin 5 [rlA x] 0 0] rfl (fun y => y.name == x.name) (l.take i) (by rw [List.length_take]; omega) (fun y _ => sameRoll_pc y x)
      rw [List.map_take] at hany
      have hbor := Ct.borrowF (P := Tryz.prog) (f := 153) (args := [.fz 5 (List.take i (l.map rlA)), .fn (.func 154) [.ptr 0 1 0 0]]) 1 [.arr 5 [rlA x]] hany (by rintro r rfl; rfl)
      simp only [rlA] at hbor
      have hk2 : decide ((i : Int) ≤ (l.length : Int)) = true := by simp; omega
      have hrn := rollName_pc x.name hnx
      refine goB (N := 75) Tryz.ntmps92 300 ?_
      simp only [go_sem, di, hget, List.length_map]
      repeat refine And.intro (by first | omega | rfl | (simp; done) | (simp; omega)) ?_
      refine pcall (rateR_pc x.rate) rfl (N := 75) Tryz.ntmps92 rfl ?_
      rintro _ ⟨a, b, c, rfl⟩
      refine goB (N := 75) Tryz.ntmps92 300 ?_
      simp only [go_sem]
      refine pcall1 (hrn) rfl (N := 75) Tryz.ntmps92 rfl (goB (N := 75) Tryz.ntmps92 300 ?_)
      cases e1 : rnR x.name with
      | false =>
        simp only [go_sem]
        exact aret [2] rfl ⟨hret 5 (by decide) (fun h => by rw [h.1.name] at e1; cases e1), rfl⟩
      | true =>
        simp only [go_sem, hk2, List.length_map]
        repeat refine And.intro (by first | omega | rfl | (simp; done) | (simp; omega)) ?_
        refine acall (hbor) (N := 75) Tryz.ntmps92 rfl ?_
        rintro _ _ ⟨rfl, rfl⟩
        refine goB (N := 75) Tryz.ntmps92 300 ?_
        cases e2 : ((l.take i).any fun y => y.name == x.name) with
        | true =>
          simp only [go_sem]
          exact aret [2] rfl ⟨hret 6 (by decide) (fun h => by rw [h.2] at e2; cases e2), rfl⟩
        | false =>
          cases e3 : decide (1 ≤ x.rate ∧ x.rate ≤ 4) with
          | false =>
            simp only [go_sem, e3]
            exact aret [2] rfl ⟨hret 4 (by decide) (fun h => by have := h.1.rate; simp at e3; omega), rfl⟩
          | true =>
            have hr : 1 ≤ x.rate ∧ x.rate ≤ 4 := by simpa using e3
            have hdb : 0 ≤ dayR x.rate ∧ dayR x.rate ≤ 2592000 := by
              obtain h | h | h | h : x.rate = 1 ∨ x.rate = 2 ∨ x.rate = 3 ∨ x.rate = 4 := by omega
              all_goals rw [h]; decide
            simp only [go_sem, e3]
            refine pcall1 (rightFrame_pc x.rate x.start hr) rfl (N := 75) Tryz.ntmps92 rfl (goB (N := 75) Tryz.ntmps92 300 ?_)
            cases e4 : (decide (0 ≤ x.start) && decide (x.start < dayR x.rate)) with
            | false =>
              simp only [go_sem]
              exact aret [2] rfl ⟨hret 1 (by decide) (fun h => by have := h.1.start; simp at e4; omega), rfl⟩
            | true =>
              have hst : 0 ≤ x.start ∧ x.start < dayR x.rate := by simpa using e4
              cases e5 : decide (x.long < 1) with
              | true =>
                simp only [go_sem, e5]
                exact aret [2] rfl ⟨hret 1 (by decide) (fun h => by have := h.1.long; simp at e5; omega), rfl⟩
              | false =>
                cases e6 : decide (x.long > dayR x.rate - x.start) with
                | true =>
                  simp only [go_sem, e5, e6]
                  repeat refine And.intro (by first | omega | rfl | (simp; done) | (simp; omega)) ?_
                  exact aret [2] rfl ⟨hret 1 (by decide) (fun h => by have := h.1.long; simp at e6; omega), rfl⟩
                | false =>
                  cases e7 : decide (x.drift < -1000) with
                  | true =>
                    simp only [go_sem, e5, e6, e7]
                    repeat refine And.intro (by first | omega | rfl | (simp; done) | (simp; omega)) ?_
                    exact aret [2] rfl ⟨hret 1 (by decide) (fun h => by have := h.1.drift; simp at e7; omega), rfl⟩
                  | false =>
                    cases e8 : decide (x.drift > 1000) with
                    | true =>
                      simp only [go_sem, e5, e6, e7, e8]
                      repeat refine And.intro (by first | omega | rfl | (simp; done) | (simp; omega)) ?_
                      exact aret [2] rfl ⟨hret 1 (by decide) (fun h => by have := h.1.drift; simp at e8; omega), rfl⟩
                    | false =>
                      simp only [go_sem, e5, e6, e7, e8]
                      repeat refine And.intro (by first | omega | rfl | (simp; done) | (simp; omega)) ?_
                      rw [show (i : Int) + 1 = ((i + 1 : Nat) : Int) by omega]
                      refine ainv (hfin ⟨⟨e1, hr, hst, by simp at e5 e6; omega, by simp at e7 e8; omega⟩, e2⟩) (Shift.low 0 (by simp) (by simp) ?_ ?_)
                      · simp only [List.take_zero, List.all_nil]
                      · simp only [wkl, lowV, lowC, Av.get, go_sem]
    · have di : decide ((i : Int) < (l.length : Int)) = false := by simp; omega
      refine goB (N := 75) Tryz.ntmps92 300 ?_
      simp only [go_sem, di]
      exact aret [2] rfl ⟨⟨0, rfl, ⟨fun _ => ⟨hl, fun j x hj => g2 j x (by have := (List.getElem?_eq_some_iff.1 hj).1; omega) hj⟩, fun _ => rfl⟩⟩, rfl⟩

def updR (L : List Int) (k u : Int) (x : Rl) : Rl :=
  if u = 0 then ⟨oneF L k [[], [97, 49], [65, 49], [65, 66, 67, 68, 69, 70, 71, 72, 73]], x.rate, x.start, x.long, x.drift⟩
  else if u = 1 then ⟨x.name, pickF L k [0, 5], x.start, x.long, x.drift⟩
  else if u = 2 then ⟨x.name, x.rate, pickF L k [-1, 2592000, 2073599], x.long, x.drift⟩
  else if u = 3 then ⟨x.name, x.rate, x.start, pickF L k [0, -1, 2592000], x.drift⟩
  else ⟨x.name, x.rate, x.start, x.long, pickF L k [1001, -1001]⟩
def rolls0 (L : List Int) (k : Int) : List Rl :=
  [⟨[65, 49], pickF L k [1, 1, 2, 3, 4], pickF L (k + 1) [0, 1000, 86000], 3000, 0⟩, ⟨[65, 50], pickF L k [1, 1, 2, 3, 4], pickF L (k + 1 + 1) [0, 5000], pickF L (k + 1 + 1 + 1) [500, 3000], 0⟩,
   ⟨[83, 49], pickF L (k + 1 + 1 + 1 + 1) [pickF L k [1, 1, 2, 3, 4], pickF L k [1, 1, 2, 3, 4], 1, 4], 0, 100000, pickF L (k + 1 + 1 + 1 + 1 + 1) [0, 1000, -1000, 7]⟩]
def rollsF (L : List Int) (k : Int) : List Rl × Int :=
  if flipF L (k + 6) 10 then
    ((rolls0 L k).set (nx L (k + 7) 3).toNat (updR L (k + 9) (nx L (k + 8) 5) ((rolls0 L k).getD (nx L (k + 7) 3).toNat ⟨[], 0, 0, 0, 0⟩)), k + 10)
  else (rolls0 L k, k + 7)
theorem updR_name (L : List Int) (k u : Int) (x : Rl) (h : x.name ∈ RnL) : (updR L k u x).name ∈ RnL := by
  unfold updR
  split
  · have := oneF_mem (L := L) (k := k) (ls := [[], [97, 49], [65, 49], [65, 66, 67, 68, 69, 70, 71, 72, 73]]) (by decide)
    revert this
    generalize oneF L k [[], [97, 49], [65, 49], [65, 66, 67, 68, 69, 70, 71, 72, 73]] = z
    simp only [RnL, List.mem_cons, List.not_mem_nil, or_false]
    rintro (rfl | rfl | rfl | rfl) <;> simp
  · repeat (first | exact h | split)
theorem rollsF_ok (L : List Int) (k : Int) : (rollsF L k).1.length = 3 ∧ (∀ x ∈ (rollsF L k).1, x.name ∈ RnL) ∧ k ≤ (rollsF L k).2 ∧ (rollsF L k).2 ≤ k + 10 := by
  have h0 : ∀ x ∈ rolls0 L k, x.name ∈ RnL := by
    intro x hx
    simp only [rolls0, List.mem_cons, List.not_mem_nil, or_false] at hx
    rcases hx with rfl | rfl | rfl <;> simp [RnL]
  unfold rollsF
  split
  · have hb := nx_bd L (k + 7) 3 (by decide)
    have hlt : (nx L (k + 7) 3).toNat < (rolls0 L k).length := by simp [rolls0]; omega
    refine ⟨by simp [rolls0], fun x hx => ?_, by simp only; omega, by simp only; omega⟩
    rcases List.mem_or_eq_of_mem_set hx with hx | rfl
    · exact h0 x hx
    · refine updR_name L _ _ _ (h0 _ ?_)
      rw [List.getD_eq_getElem?_getD, List.getElem?_eq_getElem hlt]
      exact List.getElem_mem hlt
  · exact ⟨by simp [rolls0], h0, by simp only; omega, by simp only; omega⟩
end Go.Proofs.YtkfpiadgjbhcpaaGreatDoor
