/- Scripts with numbers from 1 on. Own work of this seat. -/
import Derived.Test.YtkfpiadgjbhcpaaGreatDoorE26
import Derived.Test.YtkfpiadgjbhcpaaGreatDoorE24
import Derived.Test.YtkfpiadgjbhcpaaGreatDoorE15
import Derived.Test.YtkfpiadgjbhcpaaGreatDoorE22
import Derived.Test.YtkfpiadgjbhcpaaGreatDoorE23
set_option maxRecDepth 100000
set_option linter.unusedSimpArgs false
set_option linter.unusedVariables false
namespace Go.Proofs.YtkfpiadgjbhcpaaGreatDoor
open Go Go.Av Go.RowKit

theorem clone0_pc : Pc Tryz.prog 119 [.fz 5 []] (· = .fz 5 []) := by
  refine pc_intro (ct_intro Tryz.func119 rfl Tryz.ntmps119 hB119 (by simp) fun h ρ w => go (N := 8) Tryz.ntmps119 300 ?_)
  simp only [go_sem]
  intro b
  refine go (N := 8) Tryz.ntmps119 300 ?_
  cases b with
  | true =>
    simp only [go_sem]
    exact ARet.shift (Shift.nilfz 2 5 rfl) (aret [2] rfl ⟨rfl, rfl⟩)
  | false =>
    simp only [go_sem]
    refine ⟨.inl trivial, ?_⟩
    exact ARet.shift (Shift.freeze 2 (id := 0) rfl rfl rfl (Nat.le_refl _) rfl) (aret [2] rfl ⟨rfl, rfl⟩)
theorem clone_ct (x : Sc) (xs : List Sc) (hl : xs.length ≤ 100000) :
    Ct Tryz.prog 119 [.fz 5 ((x :: xs).map scA)] [] (fun r s => r = .sl 0 0 (x :: xs).length (x :: xs).length ∧ s = [.arr 5 ((x :: xs).map scA)]) := by
  refine ct_intro Tryz.func119 rfl Tryz.ntmps119 hB119 (by simp) fun h ρ w => go (N := 8) Tryz.ntmps119 300 ?_
  simp only [go_sem, scA]
  refine ⟨by simp, by simp; omega, by simp; omega, aret [2] rfl ⟨by simp [resV, Av.get, scA], rfl⟩⟩

def nm (i : Nat) (x : Sc) : Sc := { x with no := Lib.itoa ((i : Int) + 1) }
def numL : Nat → List Sc → List Sc
  | _, [] => []
  | i, x :: r => nm i x :: numL (i + 1) r
def numR (x : Sr) : Sr := ⟨x.title, numL 0 x.scenes⟩

set_option maxHeartbeats 2000000 in
theorem numbered_pch {S : Std} (hS : LibOk S) (x : Sr) (hl : x.scenes.length ≤ 1000) : PcH Tryz.prog S 67 [srA x] (· = srA (numR x)) := by
  obtain ⟨ti, xs⟩ := x
  cases xs with
  | nil =>
    simp only [srA, List.map_nil, numR, numL]
    refine pch_intro (cth_intro Tryz.func67 rfl Tryz.ntmps67 hB67 (by simp) fun h ρ w hg => go (N := 27) Tryz.ntmps67 300 ?_)
    simp only [go_sem]
    refine adrawI [] 99 [.fz 5 []] mixed (by decide) (N := 27) Tryz.ntmps67 (by decide) 100 ?_
    simp only [go_sem]
    refine ⟨clone0_pc.at, rfl, ?_⟩
    refine go (N := 27) Tryz.ntmps67 300 ?_
    simp only [go_sem]
    refine aenter (around (go (N := 27) Tryz.ntmps67 300 ?_))
    simp only [go_sem]
    exact aretc [.cell 2 28] rfl [_] ⟨by simp only [go_sem, sideIs], trivial⟩ ⟨rfl, rfl⟩
  | cons x xs =>
    simp only [srA]
    refine pch_intro (cth_intro Tryz.func67 rfl Tryz.ntmps67 hB67 (by simp) fun h ρ w hg => go (N := 27) Tryz.ntmps67 300 ?_)
    simp only [go_sem]
    refine AWp.shift (Shift.reserve 5) ?_
    refine adrawI [4] 2 [] mixed (by decide) (N := 27) Tryz.ntmps67 (by decide) 100 ?_
    simp only [go_sem]
    have hfro : (flat ((x :: xs).map scA)).all Av.frozen = true := frozen_scenes (x :: xs)
    refine icall_new (clone_ct x xs (by simp at hl ⊢; omega)) (by simp) (by simp) rfl hfro rfl ?_
    simp only [go_sem]
    refine go (N := 27) Tryz.ntmps67 300 ?_
    simp only [go_sem]
    refine ⟨by simp, ?_⟩
    have hys : AV.fz 5 (List.map scA (numR ⟨ti, x :: xs⟩).scenes) = .fz 5 (List.map scA (numL 0 (x :: xs))) := rfl
    rw [hys]
    clear hys
    have hl' : xs.length + 1 ≤ 1000 := by simpa using hl
    have hnum : ∃ out, numL 0 (x :: xs) = out := ⟨_, rfl⟩
    obtain ⟨out, hout⟩ := hnum
    rw [hout]
    refine aloop (ι := List Sc × List Sc) (fun y => y.2.length)
      (fun y => [(14, .int .i64 y.1.length), (13, .int .i64 ↑(xs.length + 1)), (3, .ptr 3 1 0 0), (2, .ptr 1 1 0 0)])
      (fun y => [.arr 2 [.agg [.str ti, .fz 5 (scA x :: List.map scA xs)]], .arr 2 [.agg [.str [], .raw (.slice none 0 0)]], .arr 5 (List.map scA (y.1 ++ y.2)), .arr 2 [.agg [.str ti, .sl 2 0 (xs.length + 1) (xs.length + 1)]]])
      (fun y => y.1.length + y.2.length = xs.length + 1 ∧ y.1 ++ numL y.1.length y.2 = out) ([], x :: xs) ⟨by simp, hout⟩ ?_ ?_
    · refine Shift.weak ?_
      simp only [wk, go_sem]
    · rintro ⟨dn, rest⟩ ⟨g1, g2⟩ J hJ
      simp only at g1 g2 hJ ⊢
      cases rest with
      | cons y r =>
        have di : decide ((dn.length : Int) < ((xs.length + 1 : Nat) : Int)) = true := by simp at g1 ⊢; omega
        refine go (N := 27) Tryz.ntmps67 300 ?_
        simp only [go_sem, di]
        refine adraw [.str (Lib.itoa ((dn.length : Int) + 1))] mixed (by decide) (N := 27) Tryz.ntmps67 (by decide) 100 ?_
        have hx : List.getD (List.map scA (dn ++ y :: r)) dn.length .any = .agg [.str y.no, .int .i64 y.place, .str y.set, .int .i64 y.time, .fz 2 (y.paras.map paA)] := by simp [List.getD, scA]
        simp only [go_sem, hx]
        refine ⟨by omega, by omega, (itoa_pch hS _ (by omega) (by omega)).at hg, rfl, by simp at g1 ⊢; omega, by omega, by simp at g1 ⊢; omega, by omega, by simp, ?_⟩
        have hset : (List.map scA (dn ++ y :: r)).set dn.length (.agg [.str (Lib.itoa ((dn.length : Int) + 1)), .int .i64 y.place, .str y.set, .int .i64 y.time, .fz 2 (y.paras.map paA)]) = List.map scA ((dn ++ [nm dn.length y]) ++ r) := by
          simp [nm, scA]
        rw [hset]
        refine go (N := 27) Tryz.ntmps67 300 ?_
        simp only [go_sem]
        refine ⟨by omega, by omega, ?_⟩
        rw [show (dn.length : Int) + 1 = ((dn ++ [nm dn.length y]).length : Int) by simp]
        refine ainv (hJ (dn ++ [nm dn.length y], r) ⟨by simp at g1 ⊢; omega, by rw [← g2]; simp [numL]⟩ (by simp)) (Shift.weak ?_)
        simp only [wk, go_sem]
      | nil =>
        have di : decide (((xs.length + 1 : Nat) : Int) < ((xs.length + 1 : Nat) : Int)) = false := by simp
        simp only [List.append_nil, numL] at g2 ⊢
        subst g2
        have hn : dn.length = xs.length + 1 := by simpa using g1
        refine AWp.shift (Shift.frz 2 rfl (frozen_scenes dn)) ?_
        simp only [frzE, frz, frz1, frzC, frzB, List.map_cons, List.map_nil, List.set_cons_succ, List.set_cons_zero, Nat.reduceBEq, cond_true, cond_false, Bool.false_and, Bool.true_and, List.length_map, Nat.zero_add, hn, decide_true, Nat.le_refl, List.drop_zero]
        have : List.take (xs.length + 1) (List.map scA dn) = List.map scA dn := List.take_of_length_le (by simp; omega)
        simp only [this]
        refine go (N := 27) Tryz.ntmps67 300 ?_
        simp only [go_sem, di]
        exact aretc [.cell 2 28] rfl [_] ⟨by simp only [go_sem, sideIs, numR], trivial⟩ ⟨rfl, rfl⟩
def DIG : List UInt8 := [48, 49, 50, 51, 52, 53, 54, 55, 56, 57]
def CAPS : List UInt8 := [65, 66, 67, 68, 69, 70, 71, 72, 73, 74, 75, 76, 77, 78, 79, 80, 81, 82, 83, 84, 85, 86, 87, 88, 89, 90]

theorem atoi0_pch {S : Std} (hS : LibOk S) : PcH Tryz.prog S 121 [.str []] (· = .tup [.int .i64 0, .any]) := by
  refine ⟨hB121, fun h w vs' hg hm hv => ?_⟩
  have := one_str [] h vs' hv
  subst this
  obtain ⟨te, pe, t, z, hs⟩ := hS.syn
  have hcell : w.cell? ⟨Tryz.laysC172_ren.g 15, 0, none⟩ = some (.iface te pe) := (Lib.cell_of_heap (hg _ _ hs) 0).trans rfl
  refine (Any.strconv_Atoi_err Tryz.laysC172 ⟨#[]⟩ (by decide) rfl (.iface te pe) w hcell (.inr ⟨te, pe, rfl⟩)).mono ?_
  rintro e w' ⟨N, rfl, _, _, hb⟩
  have hs : Same w w' := same_below hb
  exact ⟨_, _, h, rfl, rfl, fun b o v e => ⟨hs.cell (hm b o v e).1, (hm b o v e).2⟩, fun _ _ _ x => x, fun b o e n => (n e).elim, hs, .tup [_, _] [_, _] (.cons (.int _ _) (.cons (.any _) .nil))⟩

theorem halved_pc (s : List UInt8) (hs : s.length < 1000000) (h0 : Lib.trimLeftS s DIG = []) : Pc Tryz.prog 120 [.str s] (· = .tup [.str s, .str []]) := by
  refine pc_intro (ct_intro Tryz.func120 rfl Tryz.ntmps120 hB120 (by simp) fun h ρ w => go (N := 15) Tryz.ntmps120 300 ?_)
  simp only [go_sem]
  refine pcall1 (trimLeft_pc s DIG (by decide) (ascii_set (by decide))) rfl (N := 15) Tryz.ntmps120 rfl (go (N := 15) Tryz.ntmps120 300 ?_)
  rw [h0]
  have : List.take s.length s = s := List.take_length
  simp only [go_sem, this]
  refine ⟨by omega, by omega, by omega, by omega, ?_⟩
  refine aret [2, 3] rfl ⟨?_, rfl⟩
  simp [resV, Av.get]

theorem long_pc (s : List UInt8) (a b : Int) (h1 : a ≤ s.length) (h2 : s.length ≤ b) : Pc Tryz.prog 124 [.str s, .int .i64 a, .int .i64 b] (· = .bool true) := by
  have d1 : decide ((s.length : Int) ≥ a) = true := by simpa using h1
  have d2 : decide ((s.length : Int) ≤ b) = true := by simpa using h2
  refine pc_intro (ct_intro Tryz.func124 rfl Tryz.ntmps124 hB124 (by simp) fun h ρ w => go (N := 17) Tryz.ntmps124 300 ?_)
  simp only [go_sem, d1, d2]
  exact aret [6] rfl ⟨rfl, rfl⟩

theorem made_nil : Pc Tryz.prog 186 [.str [], .str CAPS] (· = .bool true) := by
  refine pc_intro (ct_intro Tryz.func186 rfl Tryz.ntmps186 hB186 (by simp) fun h ρ w => go (N := 9) Tryz.ntmps186 300 ?_)
  simp only [go_sem]
  refine pcall1 (trim_pc [] CAPS (by decide) (by decide) (ascii_set (by decide))) rfl (N := 9) Tryz.ntmps186 rfl (go (N := 9) Tryz.ntmps186 300 ?_)
  rw [show Lib.trimS [] CAPS = [] from rfl]
  simp only [go_sem]
  exact aret [4] rfl ⟨rfl, rfl⟩

theorem numberOf_pc (s : List UInt8) (h0 : Lib.trimLeftS s DIG = []) (h1 : 1 ≤ s.length) (h2 : s.length ≤ 3) (h3 : s.getD 0 0 ≠ 48) : Pc Tryz.prog 123 [.str s] (· = .bool true) := by
  have d3 : (((s.getD 0 0).toNat : Int) != 48) = true := by
    simp only [bne_iff_ne, ne_eq]
    intro e
    exact h3 (UInt8.toNat_inj.1 (by simpa using (show (s.getD 0 0).toNat = 48 by omega)))
  refine pc_intro (ct_intro Tryz.func123 rfl Tryz.ntmps123 hB123 (by simp) fun h ρ w => go (N := 38) Tryz.ntmps123 300 ?_)
  simp only [go_sem]
  refine pcall1 (halved_pc s (by omega) h0) rfl (N := 38) Tryz.ntmps123 rfl (go (N := 38) Tryz.ntmps123 300 ?_)
  simp only [go_sem]
  refine pcall1 (long_pc s 1 3 (by omega) (by omega)) rfl (N := 38) Tryz.ntmps123 rfl (go (N := 38) Tryz.ntmps123 300 ?_)
  simp only [go_sem]
  refine pcall1 (made_nil) rfl (N := 38) Tryz.ntmps123 rfl (go (N := 38) Tryz.ntmps123 300 ?_)
  simp only [go_sem]
  refine pcall1 (hasSuffix_pc [] [65] (by simp)) rfl (N := 38) Tryz.ntmps123 rfl (go (N := 38) Tryz.ntmps123 300 ?_)
  rw [show Lib.hasSuffix [] [65] = false from rfl]
  simp only [go_sem, d3]
  refine ⟨by omega, ?_⟩
  exact aret [2] rfl ⟨rfl, rfl⟩

theorem order9_pc (s : List UInt8) (m : Int) (h0 : Lib.trimLeftS s DIG = []) (h1 : s.length ≤ 18) (h2 : Lib.atoi s = some m) : Pc Tryz.prog 85 [.str s, .str [57]] (· = .int .i64 (orI (cmpI m 9) 0)) := by
  refine pc_intro (ct_intro Tryz.func85 rfl Tryz.ntmps85 hB85 (by simp) fun h ρ w => goF (N := 41) Tryz.ntmps85 300 ?_)
  simp only [go_sem]
  refine pcall1 (halved_pc s (by omega) h0) rfl (N := 41) Tryz.ntmps85 rfl (goF (N := 41) Tryz.ntmps85 300 ?_)
  simp only [go_sem]
  refine pcall1 (halved_pc [57] (by simp) rfl) rfl (N := 41) Tryz.ntmps85 rfl (goF (N := 41) Tryz.ntmps85 300 ?_)
  simp only [go_sem]
  refine pcall1 (atoi_pc s m h1 h2) rfl (N := 41) Tryz.ntmps85 rfl (goF (N := 41) Tryz.ntmps85 300 ?_)
  simp only [go_sem]
  refine pcall1 (atoi_pc [57] 9 (by simp) rfl) rfl (N := 41) Tryz.ntmps85 rfl (goF (N := 41) Tryz.ntmps85 300 ?_)
  simp only [go_sem]
  refine pcall1 (cmp_int_pc m 9) rfl (N := 41) Tryz.ntmps85 rfl (goF (N := 41) Tryz.ntmps85 300 ?_)
  simp only [go_sem]
  refine pcall1 (compare_str_pc [] []) rfl (N := 41) Tryz.ntmps85 rfl (goF (N := 41) Tryz.ntmps85 300 ?_)
  rw [show Lib.compareBytes [] [] = 0 from rfl]
  simp only [go_sem]
  refine pcall1 (or_pc (cmpI m 9) 0) rfl (N := 41) Tryz.ntmps85 rfl (goF (N := 41) Tryz.ntmps85 300 ?_)
  simp only [go_sem]
  exact aret [4] rfl ⟨rfl, rfl⟩

def lastL (n : Nat) : List UInt8 := if n = 0 then [] else dig3 n
theorem last_facts (j : Nat) (hj : j < 5) : Lib.trimLeftS (lastL j) DIG = [] ∧ (lastL j).length ≤ 3 ∧ (j ≠ 0 → Lib.atoi (lastL j) = some (j : Int)) ∧
    Lib.trimLeftS (dig3 ((j : Int) + 1)) DIG = [] ∧ (dig3 ((j : Int) + 1)).length = 1 ∧ (dig3 ((j : Int) + 1)).getD 0 0 ≠ 48 ∧ Lib.atoi (dig3 ((j : Int) + 1)) = some ((j : Int) + 1) ∧ (dig3 ((j : Int) + 1) == []) = false ∧ lastL (j + 1) = dig3 ((j : Int) + 1) := by
  have : j = 0 ∨ j = 1 ∨ j = 2 ∨ j = 3 ∨ j = 4 := by omega
  rcases this with rfl | rfl | rfl | rfl | rfl <;> exact ⟨by decide, by decide, by decide, by decide, by decide, by decide, by decide, by decide, by decide⟩

set_option maxHeartbeats 1000000 in
theorem betweenOf_pch {S : Std} (hS : LibOk S) (j : Nat) (hj : j < 5) (b : List UInt8) (hb : b = [] ∨ b = [57]) : PcH Tryz.prog S 70 [.str (lastL j), .str b] (· = .tup [.str (lastL (j + 1)), .bool true]) := by
  obtain ⟨f1, f2, f3, f4, f5, f6, f7, f8, f9⟩ := last_facts j hj
  rw [f9]
  have hit := itoa_pch hS ((j : Int) + 1) (by omega) (by omega)
  rw [itoa_dig3 (by omega) (by omega)] at hit
  have ho := order9_pc (dig3 ((j : Int) + 1)) ((j : Int) + 1) f4 (by omega) f7
  have hc : orI (cmpI ((j : Int) + 1) 9) 0 = -1 := by
    have : cmpI ((j : Int) + 1) 9 = -1 := by unfold cmpI; rw [if_pos (by omega)]
    rw [this]; rfl
  rw [hc] at ho
  have hn := numberOf_pc (dig3 ((j : Int) + 1)) f4 (by omega) (by omega) f6
  generalize dig3 ((j : Int) + 1) = x at *
  refine pch_intro (cth_intro Tryz.func70 rfl Tryz.ntmps70 hB70 (by simp) fun h ρ w hg => go (N := 88) Tryz.ntmps70 300 ?_)
  simp only [go_sem]
  refine pcall1 (halved_pc (lastL j) (by omega) f1) rfl (N := 88) Tryz.ntmps70 rfl (go (N := 88) Tryz.ntmps70 300 ?_)
  simp only [go_sem]
  by_cases h0 : j = 0
  · subst h0
    refine pcallH1 hg (atoi0_pch hS) rfl (N := 88) Tryz.ntmps70 rfl (go (N := 88) Tryz.ntmps70 300 ?_)
    simp only [go_sem]
    refine aenter (around (go (N := 88) Tryz.ntmps70 300 ?_))
    simp only [go_sem]
    refine pcallH1 hg (hit) rfl (N := 88) Tryz.ntmps70 rfl (go (N := 88) Tryz.ntmps70 300 ?_)
    simp only [go_sem]
    refine ⟨.inl trivial, ?_⟩
    refine aenter (around (go (N := 88) Tryz.ntmps70 300 ?_))
    simp only [go_sem]
    refine pcall1 (hn) rfl (N := 88) Tryz.ntmps70 rfl (go (N := 88) Tryz.ntmps70 300 ?_)
    simp only [go_sem]
    rcases hb with rfl | rfl
    · simp only [go_sem]
      exact aret [4, 5] rfl ⟨rfl, rfl⟩
    · simp only [go_sem]
      refine pcall1 (ho) rfl (N := 88) Tryz.ntmps70 rfl (go (N := 88) Tryz.ntmps70 300 ?_)
      simp only [go_sem]
      exact aret [4, 5] rfl ⟨rfl, rfl⟩
  · refine pcall1 (atoi_pc (lastL j) j (by omega) (f3 h0)) rfl (N := 88) Tryz.ntmps70 rfl (go (N := 88) Tryz.ntmps70 300 ?_)
    simp only [go_sem]
    refine aenter (around (go (N := 88) Tryz.ntmps70 300 ?_))
    simp only [go_sem]
    refine ⟨by omega, by omega, ?_⟩
    refine pcallH1 hg (hit) rfl (N := 88) Tryz.ntmps70 rfl (go (N := 88) Tryz.ntmps70 300 ?_)
    simp only [go_sem]
    refine ⟨.inl trivial, ?_⟩
    refine aenter (around (go (N := 88) Tryz.ntmps70 300 ?_))
    simp only [go_sem]
    refine pcall1 (hn) rfl (N := 88) Tryz.ntmps70 rfl (go (N := 88) Tryz.ntmps70 300 ?_)
    simp only [go_sem]
    rcases hb with rfl | rfl
    · simp only [go_sem]
      exact aret [4, 5] rfl ⟨rfl, rfl⟩
    · simp only [go_sem]
      refine pcall1 (ho) rfl (N := 88) Tryz.ntmps70 rfl (go (N := 88) Tryz.ntmps70 300 ?_)
      simp only [go_sem]
      exact aret [4, 5] rfl ⟨rfl, rfl⟩
structure SceneOk (x : Sc) : Prop where
  set : isSetL x.set = true
  len : x.set.length < 1000000
  many : x.paras.length < 1000000
  run : ∃ e, runL 0 x.paras = some e ∧ e ≠ 2 ∧ e ≠ 3

set_option maxHeartbeats 1000000 in
theorem sceneFault_pch {S : Std} (hS : LibOk S) (x : Sc) (hx : SceneOk x) : PcH Tryz.prog S 172 [scA x] (· = .int .i64 0) := by
  obtain ⟨e, hr, h2, h3⟩ := hx.run
  have h4 := hx.many
  simp only [scA]
  refine pch_intro (cth_intro Tryz.func172 rfl Tryz.ntmps172 hB172 (by simp) fun h ρ w hg => go (N := 37) Tryz.ntmps172 300 ?_)
  simp only [go_sem]
  refine pcallH1 hg (isSet_pch hS x.set hx.len) rfl (N := 37) Tryz.ntmps172 rfl (go (N := 37) Tryz.ntmps172 300 ?_)
  rw [hx.set]
  simp only [go_sem]
  refine aloop (ι := Nat × Int) (fun y => x.paras.length - y.1)
    (fun y => [(14, .int .i64 y.1), (13, .int .i64 x.paras.length), (12, .fz 2 (x.paras.map paA)), (3, .int .i64 y.2)])
    (fun _ => [.arr 5 [.agg [.str x.no, .int .i64 x.place, .str x.set, .int .i64 x.time, .fz 2 (x.paras.map paA)]]])
    (fun y => y.1 ≤ x.paras.length ∧ runL y.2 (x.paras.drop y.1) = some e) (0, 0) ⟨by simp, hr⟩ ?_ ?_
  · refine Shift.weak ?_
    simp only [wk, go_sem, List.length_map]
  · rintro ⟨i, l⟩ ⟨g1, g2⟩ J hJ
    simp only at g1 g2 hJ ⊢
    by_cases gi : i < x.paras.length
    · have di : decide ((i : Int) < (x.paras.length : Int)) = true := by simp; omega
      have hd : x.paras.drop i = x.paras[i] :: x.paras.drop (i + 1) := List.drop_eq_getElem_cons gi
      rw [hd] at g2
      simp only [runL] at g2
      split at g2
      rotate_left
      · cases g2
      rename_i hp
      simp only [Bool.and_eq_true] at hp
      have hg' : List.getD (List.map paA x.paras) i .any = .agg [.int .i64 x.paras[i].kind, .str x.paras[i].text] := by simp [List.getD, gi, paA]
      have hpf := paraFault_pch hS x.paras[i] hp.1
      simp only [paA] at hpf
      refine go (N := 37) Tryz.ntmps172 300 ?_
      simp only [go_sem, di, hg']
      refine ⟨by omega, by simpa using gi, by simpa using gi, ?_⟩
      refine pcallH1 hg (hpf) rfl (N := 37) Tryz.ntmps172 rfl (go (N := 37) Tryz.ntmps172 300 ?_)
      simp only [go_sem]
      refine pcall1 (follows_pc x.paras[i].kind l) rfl (N := 37) Tryz.ntmps172 rfl (go (N := 37) Tryz.ntmps172 300 ?_)
      rw [hp.2]
      simp only [go_sem]
      refine ⟨by omega, by omega, ?_⟩
      rw [show (i : Int) + 1 = ((i + 1 : Nat) : Int) by omega]
      refine ainv (hJ (i + 1, x.paras[i].kind) ⟨by simp only; omega, g2⟩ (by simp only; omega)) (Shift.low 1 (by simp) (by simp) ?_ ?_)
      · simp only [List.take_succ_cons, List.take_zero, List.all_cons, List.all_nil, lowB, flat, cellsOf, lowC, Av.frozen, List.append_nil, Bool.and_self]
      · simp only [wkl, lowV, lowC, Av.get, go_sem]
    · have di : decide ((i : Int) < (x.paras.length : Int)) = false := by simp; omega
      have : i = x.paras.length := by omega
      subst this
      rw [List.drop_length] at g2
      simp only [runL, Option.some.injEq] at g2
      subst g2
      have q2 : (l == 2) = false := by simpa using h2
      have q3 : (l == 3) = false := by simpa using h3
      refine go (N := 37) Tryz.ntmps172 300 ?_
      simp only [go_sem, di, q2, q3]
      exact aret [2] rfl ⟨rfl, rfl⟩
end Go.Proofs.YtkfpiadgjbhcpaaGreatDoor
