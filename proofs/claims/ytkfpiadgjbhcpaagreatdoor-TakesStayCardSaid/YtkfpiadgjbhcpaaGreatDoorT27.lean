/- Draws: numbers of scenes in a story; any right script. Own work of this seat. -/
import Derived.Test.YtkfpiadgjbhcpaaGreatDoorT26
import Derived.Test.YtkfpiadgjbhcpaaGreatDoorT21
import Derived.Test.YtkfpiadgjbhcpaaGreatDoorT23
import Derived.Shelf.Strings.OnBuilder
import Derived.Shelf.Strings.Fields
import Derived.Test.YtkfpiadgjbhcpaaGreatDoorProg
set_option maxRecDepth 100000
set_option linter.unusedSimpArgs false
set_option linter.unusedVariables false
namespace Go.Proofs.YtkfpiadgjbhcpaaGreatDoor
open Go Go.Av Go.RowKit

def DIG : List UInt8 := [48, 49, 50, 51, 52, 53, 54, 55, 56, 57]
def CAPS : List UInt8 := [65, 66, 67, 68, 69, 70, 71, 72, 73, 74, 75, 76, 77, 78, 79, 80, 81, 82, 83, 84, 85, 86, 87, 88, 89, 90]

theorem atoi0_pch {S : Std} (hS : LibOk S) : PcH Tryz.prog S 121 [.str []] (· = .tup [.int .i64 0, .any]) := by
  refine ⟨hB121, fun h w vs' hg hm hv => ?_⟩
  have := one_str [] h vs' hv
  subst this
  obtain ⟨te, pe, t, z, hs⟩ := hS.syn
  have hcell : w.cell? ⟨Tryz.laysC172_ren.g 15, 0, none⟩ = some (.iface te pe) := (Lib.cell_of_heap (hg _ _ hs) 0).trans rfl
  refine (Any.strconv_Atoi_err Tryz.laysC172 ⟨#[]⟩ (by decide) rfl (.iface te pe) w hcell (.inr ⟨te, pe, rfl⟩)).mono ?_
  rintro e w' ⟨N, rfl, _, _, hb⟩
  have hs : Same w w' := same_below hb
  exact ⟨_, _, h, rfl, rfl, fun b o v e => ⟨hs.cell (hm b o v e).1, (hm b o v e).2⟩, fun _ _ _ x => x, fun b o e n => (n e).elim, hs, .tup [_, _] [_, _] (.cons (.int _ _) (.cons (.any _) .nil))⟩

theorem halved_pc (s : List UInt8) (hs : s.length < 1000000) (h0 : Lib.trimLeftS s DIG = []) : Pc Tryz.prog 120 [.str s] (· = .tup [.str s, .str []]) := by
  refine pc_intro (ct_intro Tryz.func120 rfl Tryz.ntmps120 hB120 (by simp) fun h ρ w => go (N := 15) Tryz.ntmps120 300 ?_)
  simp only [go_sem]
  refine pcall1 (trimLeft_pc s DIG (by decide) (ascii_set (by decide))) rfl (N := 15) Tryz.ntmps120 rfl (go (N := 15) Tryz.ntmps120 300 ?_)
  rw [h0]
  have : List.take s.length s = s := List.take_length
  simp only [go_sem, this]
  refine ⟨by omega, by omega, by omega, by omega, ?_⟩
  refine aret [2, 3] rfl ⟨?_, rfl⟩
  simp [resV, Av.get]

theorem long_pc (s : List UInt8) (a b : Int) (h1 : a ≤ s.length) (h2 : s.length ≤ b) : Pc Tryz.prog 124 [.str s, .int .i64 a, .int .i64 b] (· = .bool true) := by
  have d1 : decide ((s.length : Int) ≥ a) = true := by simpa using h1
  have d2 : decide ((s.length : Int) ≤ b) = true := by simpa using h2
  refine pc_intro (ct_intro Tryz.func124 rfl Tryz.ntmps124 hB124 (by simp) fun h ρ w => go (N := 17) Tryz.ntmps124 300 ?_)
  simp only [go_sem, d1, d2]
  exact aret [6] rfl ⟨rfl, rfl⟩

theorem made_nil : Pc Tryz.prog 186 [.str [], .str CAPS] (· = .bool true) := by
  refine pc_intro (ct_intro Tryz.func186 rfl Tryz.ntmps186 hB186 (by simp) fun h ρ w => go (N := 9) Tryz.ntmps186 300 ?_)
  simp only [go_sem]
  refine pcall1 (trim_pc [] CAPS (by decide) (by decide) (ascii_set (by decide))) rfl (N := 9) Tryz.ntmps186 rfl (go (N := 9) Tryz.ntmps186 300 ?_)
  rw [show Lib.trimS [] CAPS = [] from rfl]
  simp only [go_sem]
  exact aret [4] rfl ⟨rfl, rfl⟩

theorem numberOf_pc (s : List UInt8) (h0 : Lib.trimLeftS s DIG = []) (h1 : 1 ≤ s.length) (h2 : s.length ≤ 3) (h3 : s.getD 0 0 ≠ 48) : Pc Tryz.prog 123 [.str s] (· = .bool true) := by
  have d3 : (((s.getD 0 0).toNat : Int) != 48) = true := by
    simp only [bne_iff_ne, ne_eq]
    intro e
    exact h3 (UInt8.toNat_inj.1 (by simpa using (show (s.getD 0 0).toNat = 48 by omega)))
  refine pc_intro (ct_intro Tryz.func123 rfl Tryz.ntmps123 hB123 (by simp) fun h ρ w => go (N := 38) Tryz.ntmps123 300 ?_)
  simp only [go_sem]
  refine pcall1 (halved_pc s (by omega) h0) rfl (N := 38) Tryz.ntmps123 rfl (go (N := 38) Tryz.ntmps123 300 ?_)
  simp only [go_sem]
  refine pcall1 (long_pc s 1 3 (by omega) (by omega)) rfl (N := 38) Tryz.ntmps123 rfl (go (N := 38) Tryz.ntmps123 300 ?_)
  simp only [go_sem]
  refine pcall1 (made_nil) rfl (N := 38) Tryz.ntmps123 rfl (go (N := 38) Tryz.ntmps123 300 ?_)
  simp only [go_sem]
  refine pcall1 (hasSuffix_pc [] [65] (by simp)) rfl (N := 38) Tryz.ntmps123 rfl (go (N := 38) Tryz.ntmps123 300 ?_)
  rw [show Lib.hasSuffix [] [65] = false from rfl]
  simp only [go_sem, d3]
  refine ⟨by omega, ?_⟩
  exact aret [2] rfl ⟨rfl, rfl⟩

theorem order9_pc (s : List UInt8) (m : Int) (h0 : Lib.trimLeftS s DIG = []) (h1 : s.length ≤ 18) (h2 : Lib.atoi s = some m) : Pc Tryz.prog 85 [.str s, .str [57]] (· = .int .i64 (orI (cmpI m 9) 0)) := by
  refine pc_intro (ct_intro Tryz.func85 rfl Tryz.ntmps85 hB85 (by simp) fun h ρ w => goF (N := 41) Tryz.ntmps85 300 ?_)
  simp only [go_sem]
  refine pcall1 (halved_pc s (by omega) h0) rfl (N := 41) Tryz.ntmps85 rfl (goF (N := 41) Tryz.ntmps85 300 ?_)
  simp only [go_sem]
  refine pcall1 (halved_pc [57] (by simp) rfl) rfl (N := 41) Tryz.ntmps85 rfl (goF (N := 41) Tryz.ntmps85 300 ?_)
  simp only [go_sem]
  refine pcall1 (atoi_pc s m h1 h2) rfl (N := 41) Tryz.ntmps85 rfl (goF (N := 41) Tryz.ntmps85 300 ?_)
  simp only [go_sem]
  refine pcall1 (atoi_pc [57] 9 (by simp) rfl) rfl (N := 41) Tryz.ntmps85 rfl (goF (N := 41) Tryz.ntmps85 300 ?_)
  simp only [go_sem]
  refine pcall1 (cmp_int_pc m 9) rfl (N := 41) Tryz.ntmps85 rfl (goF (N := 41) Tryz.ntmps85 300 ?_)
  simp only [go_sem]
  refine pcall1 (compare_str_pc [] []) rfl (N := 41) Tryz.ntmps85 rfl (goF (N := 41) Tryz.ntmps85 300 ?_)
  rw [show Lib.compareBytes [] [] = 0 from rfl]
  simp only [go_sem]
  refine pcall1 (or_pc (cmpI m 9) 0) rfl (N := 41) Tryz.ntmps85 rfl (goF (N := 41) Tryz.ntmps85 300 ?_)
  simp only [go_sem]
  exact aret [4] rfl ⟨rfl, rfl⟩

def lastL (n : Nat) : List UInt8 := if n = 0 then [] else dig3 n
theorem last_facts (j : Nat) (hj : j < 5) : Lib.trimLeftS (lastL j) DIG = [] ∧ (lastL j).length ≤ 3 ∧ (j ≠ 0 → Lib.atoi (lastL j) = some (j : Int)) ∧
    Lib.trimLeftS (dig3 ((j : Int) + 1)) DIG = [] ∧ (dig3 ((j : Int) + 1)).length = 1 ∧ (dig3 ((j : Int) + 1)).getD 0 0 ≠ 48 ∧ Lib.atoi (dig3 ((j : Int) + 1)) = some ((j : Int) + 1) ∧ (dig3 ((j : Int) + 1) == []) = false ∧ lastL (j + 1) = dig3 ((j : Int) + 1) := by
  have : j = 0 ∨ j = 1 ∨ j = 2 ∨ j = 3 ∨ j = 4 := by omega
  rcases this with rfl | rfl | rfl | rfl | rfl <;> exact ⟨by decide, by decide, by decide, by decide, by decide, by decide, by decide, by decide, by decide⟩

set_option maxHeartbeats 1000000 in
theorem betweenOf_pch {S : Std} (hS : LibOk S) (j : Nat) (hj : j < 5) (b : List UInt8) (hb : b = [] ∨ b = [57]) : PcH Tryz.prog S 70 [.str (lastL j), .str b] (· = .tup [.str (lastL (j + 1)), .bool true]) := by
  obtain ⟨f1, f2, f3, f4, f5, f6, f7, f8, f9⟩ := last_facts j hj
  rw [f9]
  have hit := itoa_pch hS ((j : Int) + 1) (by omega) (by omega)
  rw [itoa_dig3 (by omega) (by omega)] at hit
  have ho := order9_pc (dig3 ((j : Int) + 1)) ((j : Int) + 1) f4 (by omega) f7
  have hc : orI (cmpI ((j : Int) + 1) 9) 0 = -1 := by
    have : cmpI ((j : Int) + 1) 9 = -1 := by unfold cmpI; rw [if_pos (by omega)]
    rw [this]; rfl
  rw [hc] at ho
  have hn := numberOf_pc (dig3 ((j : Int) + 1)) f4 (by omega) (by omega) f6
  generalize dig3 ((j : Int) + 1) = x at *
  refine pch_intro (cth_intro Tryz.func70 rfl Tryz.ntmps70 hB70 (by simp) fun h ρ w hg => go (N := 88) Tryz.ntmps70 300 ?_)
  simp only [go_sem]
  refine pcall1 (halved_pc (lastL j) (by omega) f1) rfl (N := 88) Tryz.ntmps70 rfl (go (N := 88) Tryz.ntmps70 300 ?_)
  simp only [go_sem]
  by_cases h0 : j = 0
  · subst h0
    refine pcallH1 hg (atoi0_pch hS) rfl (N := 88) Tryz.ntmps70 rfl (go (N := 88) Tryz.ntmps70 300 ?_)
    simp only [go_sem]
    refine aenter (around (go (N := 88) Tryz.ntmps70 300 ?_))
    simp only [go_sem]
    refine pcallH1 hg (hit) rfl (N := 88) Tryz.ntmps70 rfl (go (N := 88) Tryz.ntmps70 300 ?_)
    simp only [go_sem]
    refine ⟨.inl trivial, ?_⟩
    refine aenter (around (go (N := 88) Tryz.ntmps70 300 ?_))
    simp only [go_sem]
    refine pcall1 (hn) rfl (N := 88) Tryz.ntmps70 rfl (go (N := 88) Tryz.ntmps70 300 ?_)
    simp only [go_sem]
    rcases hb with rfl | rfl
    · simp only [go_sem]
      exact aret [4, 5] rfl ⟨rfl, rfl⟩
    · simp only [go_sem]
      refine pcall1 (ho) rfl (N := 88) Tryz.ntmps70 rfl (go (N := 88) Tryz.ntmps70 300 ?_)
      simp only [go_sem]
      exact aret [4, 5] rfl ⟨rfl, rfl⟩
  · refine pcall1 (atoi_pc (lastL j) j (by omega) (f3 h0)) rfl (N := 88) Tryz.ntmps70 rfl (go (N := 88) Tryz.ntmps70 300 ?_)
    simp only [go_sem]
    refine aenter (around (go (N := 88) Tryz.ntmps70 300 ?_))
    simp only [go_sem]
    refine ⟨by omega, by omega, ?_⟩
    refine pcallH1 hg (hit) rfl (N := 88) Tryz.ntmps70 rfl (go (N := 88) Tryz.ntmps70 300 ?_)
    simp only [go_sem]
    refine ⟨.inl trivial, ?_⟩
    refine aenter (around (go (N := 88) Tryz.ntmps70 300 ?_))
    simp only [go_sem]
    refine pcall1 (hn) rfl (N := 88) Tryz.ntmps70 rfl (go (N := 88) Tryz.ntmps70 300 ?_)
    simp only [go_sem]
    rcases hb with rfl | rfl
    · simp only [go_sem]
      exact aret [4, 5] rfl ⟨rfl, rfl⟩
    · simp only [go_sem]
      refine pcall1 (ho) rfl (N := 88) Tryz.ntmps70 rfl (go (N := 88) Tryz.ntmps70 300 ?_)
      simp only [go_sem]
      exact aret [4, 5] rfl ⟨rfl, rfl⟩
structure SceneOk (x : Sc) : Prop where
  set : isSetL x.set = true
  len : x.set.length < 1000000
  many : x.paras.length < 1000000
  run : ∃ e, runL 0 x.paras = some e ∧ e ≠ 2 ∧ e ≠ 3

set_option maxHeartbeats 1000000 in
theorem sceneFault_pch {S : Std} (hS : LibOk S) (x : Sc) (hx : SceneOk x) : PcH Tryz.prog S 172 [scA x] (· = .int .i64 0) := by
  obtain ⟨e, hr, h2, h3⟩ := hx.run
  have h4 := hx.many
  simp only [scA]
  refine pch_intro (cth_intro Tryz.func172 rfl Tryz.ntmps172 hB172 (by simp) fun h ρ w hg => go (N := 37) Tryz.ntmps172 300 ?_)
  simp only [go_sem]
  refine pcallH1 hg (isSet_pch hS x.set hx.len) rfl (N := 37) Tryz.ntmps172 rfl (go (N := 37) Tryz.ntmps172 300 ?_)
  rw [hx.set]
  simp only [go_sem]
  refine aloop (ι := Nat × Int) (fun y => x.paras.length - y.1)
    (fun y => [(14, .int .i64 y.1), (13, .int .i64 x.paras.length), (12, .fz 2 (x.paras.map paA)), (3, .int .i64 y.2)])
    (fun _ => [.arr 5 [.agg [.str x.no, .int .i64 x.place, .str x.set, .int .i64 x.time, .fz 2 (x.paras.map paA)]]])
    (fun y => y.1 ≤ x.paras.length ∧ runL y.2 (x.paras.drop y.1) = some e) (0, 0) ⟨by simp, hr⟩ ?_ ?_
  · refine Shift.weak ?_
    simp only [wk, go_sem, List.length_map]
  · rintro ⟨i, l⟩ ⟨g1, g2⟩ J hJ
    simp only at g1 g2 hJ ⊢
    by_cases gi : i < x.paras.length
    · have di : decide ((i : Int) < (x.paras.length : Int)) = true := by simp; omega
      have hd : x.paras.drop i = x.paras[i] :: x.paras.drop (i + 1) := List.drop_eq_getElem_cons gi
      rw [hd] at g2
      simp only [runL] at g2
      split at g2
      rotate_left
      · cases g2
      rename_i hp
      simp only [Bool.and_eq_true] at hp
      have hg' : List.getD (List.map paA x.paras) i .any = .agg [.int .i64 x.paras[i].kind, .str x.paras[i].text] := by simp [List.getD, gi, paA]
      have hpf := paraFault_pch hS x.paras[i] hp.1
      simp only [paA] at hpf
      refine go (N := 37) Tryz.ntmps172 300 ?_
      simp only [go_sem, di, hg']
      refine ⟨by omega, by simpa using gi, by simpa using gi, ?_⟩
      refine pcallH1 hg (hpf) rfl (N := 37) Tryz.ntmps172 rfl (go (N := 37) Tryz.ntmps172 300 ?_)
      simp only [go_sem]
      refine pcall1 (follows_pc x.paras[i].kind l) rfl (N := 37) Tryz.ntmps172 rfl (go (N := 37) Tryz.ntmps172 300 ?_)
      rw [hp.2]
      simp only [go_sem]
      refine ⟨by omega, by omega, ?_⟩
      rw [show (i : Int) + 1 = ((i + 1 : Nat) : Int) by omega]
      refine ainv (hJ (i + 1, x.paras[i].kind) ⟨by simp only; omega, g2⟩ (by simp only; omega)) (Shift.low 1 (by simp) (by simp) ?_ ?_)
      · simp only [List.take_succ_cons, List.take_zero, List.all_cons, List.all_nil, lowB, flat, cellsOf, lowC, Av.frozen, List.append_nil, Bool.and_self]
      · simp only [wkl, lowV, lowC, Av.get, go_sem]
    · have di : decide ((i : Int) < (x.paras.length : Int)) = false := by simp; omega
      have : i = x.paras.length := by omega
      subst this
      rw [List.drop_length] at g2
      simp only [runL, Option.some.injEq] at g2
      subst g2
      have q2 : (l == 2) = false := by simpa using h2
      have q3 : (l == 3) = false := by simpa using h3
      refine go (N := 37) Tryz.ntmps172 300 ?_
      simp only [go_sem, di, q2, q3]
      exact aret [2] rfl ⟨rfl, rfl⟩
def seenM (ks : List (List UInt8)) : List (AV × AV) := ks.map fun k => (.str k, .bool true)
theorem mfind_out {k : List UInt8} : ∀ {ks : List (List UInt8)} {n : Nat}, k ∉ ks → mfind .string (.str k) (seenM ks) n = some none
  | [], n, _ => rfl
  | a :: r, n, h => by
    simp only [List.mem_cons, not_or] at h
    have : (k == a) = false := by simpa using h.1
    simp only [seenM, List.map_cons, mfind, keyEq, this]
    exact mfind_out h.2
theorem mfind_in {k : List UInt8} : ∀ {ks : List (List UInt8)} {n : Nat}, k ∈ ks → ∃ i, mfind .string (.str k) (seenM ks) n = some (some (n + i, .bool true)) ∧ ks[i]? = some k
  | [], n, h => by simp at h
  | a :: r, n, h => by
    by_cases e : k = a
    · subst e
      exact ⟨0, by simp [seenM, mfind, keyEq], rfl⟩
    · have : (k == a) = false := by simpa using e
      obtain ⟨i, h1, h2⟩ := mfind_in (n := n + 1) ((List.mem_cons.1 h).resolve_left e)
      refine ⟨i + 1, ?_, by simpa using h2⟩
      simp only [seenM, List.map_cons, mfind, keyEq, this]
      rw [show n + (i + 1) = n + 1 + i by omega]
      exact h1
def dd (acc : List (List UInt8)) (k : List UInt8) : List (List UInt8) := if k ∈ acc then acc else acc ++ [k]

/-- right scenes, where the numbers 'acc' have come before -/
def okFrom : List (List UInt8) → Bool → List Sc → Prop
  | _, _, [] => True
  | acc, first, x :: r => (x.no = [] ∨ (numberL x.no = true ∧ x.no.length < 1000000 ∧ x.no ∉ acc)) ∧ (1 ≤ x.place ∧ x.place ≤ 3) ∧ (1 ≤ x.time ∧ x.time ≤ 5) ∧ (first = true → x.time ≠ 5) ∧ SceneOk x ∧ okFrom (dd acc x.no) false r

def paraSum (l : List Sc) : Nat := (l.map fun x => x.paras.length).sum
structure ScriptOk (x : Sr) : Prop where
  title : 1 ≤ x.title.length ∧ x.title.length ≤ 60
  plain : plainL x.title = true
  len : x.scenes.length ≤ 300
  many : paraSum x.scenes ≤ 4000
  ok : okFrom [] true x.scenes
theorem paraSum_take (l : List Sc) (i : Nat) (h : i < l.length) : paraSum (l.take (i + 1)) = paraSum (l.take i) + l[i].paras.length := by
  simp only [paraSum, List.take_add_one, List.map_append, List.sum_append]
  simp [h]
theorem paraSum_take_le (l : List Sc) (i : Nat) : paraSum (l.take i) ≤ paraSum l := by
  have : paraSum l = paraSum (l.take i) + paraSum (l.drop i) := by
    simp only [paraSum]
    rw [← List.sum_append, ← List.map_append, List.take_append_drop]
  omega

theorem low_seen (n : Nat) (ks : List (List UInt8)) : lowB n (.mp (seenM ks)) = true := by
  show (seenM ks).all _ = true
  rw [List.all_eq_true]
  intro x hx
  simp only [seenM, List.mem_map] at hx
  obtain ⟨y, _, rfl⟩ := hx
  rfl
theorem seen_dd {k : List UInt8} {ks : List (List UInt8)} : (∃ i v, mfind .string (.str k) (seenM ks) 0 = some (some (i, v)) ∧ (seenM ks).set i (.str k, .bool true) = seenM (dd ks k)) ∨
    (mfind .string (.str k) (seenM ks) 0 = some none ∧ seenM ks ++ [(.str k, .bool true)] = seenM (dd ks k)) := by
  by_cases h : k ∈ ks
  · left
    obtain ⟨i, h1, h2⟩ := mfind_in (n := 0) h
    refine ⟨0 + i, _, h1, ?_⟩
    have : (seenM ks)[i]? = some (.str k, .bool true) := by simp [seenM, h2]
    rw [Nat.zero_add]
    have hs : (seenM ks).set i (.str k, .bool true) = seenM ks := by
      apply List.ext_getElem?
      intro j
      rw [List.getElem?_set]
      split
      · rename_i hj
        subst hj
        split
        · exact this.symm
        · rename_i hn
          rw [List.getElem?_eq_none (by omega)] at this
          cases this
      · rfl
    rw [hs]
    simp [dd, h]
  · right
    exact ⟨mfind_out h, by simp [dd, h, seenM]⟩

set_option maxHeartbeats 4000000 in
theorem check_pch {S : Std} (hS : LibOk S) (x : Sr) (hx : ScriptOk x) : PcH Tryz.prog S 105 [srA x] (· = .int .i64 0) := by
  obtain ⟨ti, xs⟩ := x
  have t1 := hx.title
  have t2 := hx.plain
  have t3 := hx.len
  have t4 := hx.many
  have t5 := hx.ok
  simp only at t1 t2 t3 t4 t5
  have d1 : decide ((ti.length : Int) < 1) = false := by simp; omega
  have d2 : decide ((ti.length : Int) > 60) = false := by simp; omega
  simp only [srA]
  refine pch_intro (cth_intro Tryz.func105 rfl Tryz.ntmps105 hB105 (by simp) fun h ρ w hg => go (N := 112) Tryz.ntmps105 300 ?_)
  simp only [go_sem, d1, d2]
  refine pcallH1 hg (plain_pch hS ti (by omega)) rfl (N := 112) Tryz.ntmps105 rfl (go (N := 112) Tryz.ntmps105 300 ?_)
  rw [t2]
  simp only [go_sem]
  refine aloop (ι := Nat) (fun i => xs.length - i)
    (fun i => [(29, .int .i64 i), (28, .int .i64 xs.length), (27, .fz 5 (xs.map scA)), (3, .int .i64 (paraSum (xs.take i))), (1, .ptr 0 1 0 0)])
    (fun _ => [.arr 2 [.agg [.str ti, .fz 5 (xs.map scA)]]]) (fun i => i ≤ xs.length) 0 (by simp) ?_ ?_
  · refine Shift.weak ?_
    simp only [wk, go_sem, List.length_map]
    simp [paraSum]
  · intro i g1 J hJ
    by_cases gi : i < xs.length
    · have di : decide ((i : Int) < (xs.length : Int)) = true := by simp; omega
      have hg' : List.getD (List.map scA xs) i .any = .agg [.str xs[i].no, .int .i64 xs[i].place, .str xs[i].set, .int .i64 xs[i].time, .fz 2 (xs[i].paras.map paA)] := by simp [List.getD, gi, scA]
      have hs := paraSum_take xs i gi
      have hle := paraSum_take_le xs (i + 1)
      refine go (N := 112) Tryz.ntmps105 300 ?_
      simp only [go_sem, di, hg', List.length_map]
      repeat refine And.intro (by first | omega | simpa using gi) ?_
      rw [show (paraSum (xs.take i) : Int) + (xs[i].paras.length : Int) = (paraSum (xs.take (i + 1)) : Int) by omega, show (i : Int) + 1 = ((i + 1 : Nat) : Int) by omega]
      refine ainv (hJ (i + 1) (by omega) (by omega)) (Shift.low 1 (by simp) (by simp) ?_ ?_)
      · simp only [List.take_succ_cons, List.take_zero, List.all_cons, List.all_nil, lowB, flat, cellsOf, lowC, Av.frozen, List.append_nil, Bool.and_self]
      · simp only [wkl, lowV, lowC, Av.get, go_sem]
    · have di : decide ((i : Int) < (xs.length : Int)) = false := by simp; omega
      have : i = xs.length := by omega
      subst this
      rw [List.take_length]
      have d3 : decide ((xs.length : Int) > 300) = false := by simp; omega
      have d4 : decide ((paraSum xs : Int) > 4000) = false := by simp; omega
      refine go (N := 112) Tryz.ntmps105 300 ?_
      simp only [go_sem, di, d3, d4, List.length_map]
      refine aloop (ι := Nat × List (List UInt8)) (fun y => xs.length - y.1)
        (fun y => [(51, .int .i64 y.1), (50, .int .i64 xs.length), (49, .fz 5 (xs.map scA)), (6, .mp 1), (1, .ptr 0 1 0 0)])
        (fun y => [.arr 2 [.agg [.str ti, .fz 5 (xs.map scA)]], .mp (seenM y.2)]) (fun y => y.1 ≤ xs.length ∧ okFrom y.2 (decide (y.1 = 0)) (xs.drop y.1)) (0, []) ⟨by simp, t5⟩ ?_ ?_
      · refine Shift.weak ?_
        simp only [wk, go_sem]
      · clear hJ J
        rintro ⟨i, acc⟩ ⟨g1, g2⟩ J hJ
        simp only at g1 g2 hJ ⊢
        by_cases gi : i < xs.length
        · have di : decide ((i : Int) < (xs.length : Int)) = true := by simp; omega
          have hg' : List.getD (List.map scA xs) i .any = .agg [.str xs[i].no, .int .i64 xs[i].place, .str xs[i].set, .int .i64 xs[i].time, .fz 2 (xs[i].paras.map paA)] := by simp [List.getD, gi, scA]
          have hd : xs.drop i = xs[i] :: xs.drop (i + 1) := List.drop_eq_getElem_cons gi
          rw [hd] at g2
          obtain ⟨c1, c2, c3, c4, c5, c6⟩ := g2
          have e1 : decide (xs[i].place < 1) = false := by simp; omega
          have e2 : decide (xs[i].place > 3) = false := by simp; omega
          have e3 : decide (xs[i].time < 1) = false := by simp; omega
          have e4 : decide (xs[i].time > 5) = false := by simp; omega
          have e5 : ((i : Int) == 0) = false ∨ ((i : Int) == 0) = true ∧ (xs[i].time == 5) = false := by
            by_cases h0 : i = 0
            · exact .inr ⟨by simp [h0], by simpa using c4 (by simp [h0])⟩
            · exact .inl (by simp; omega)
          have hsf := sceneFault_pch hS xs[i] c5
          simp only [scA] at hsf
          have nx : decide (i + 1 = 0) = false := by simp
          generalize hsc : xs[i] = sc at *
          have fin : _ := fun h => hJ (i + 1, dd acc sc.no) ⟨by simp only; omega, by simp only; rw [nx]; exact c6⟩ h
          rcases c1 with h0 | ⟨n1, n2, n3⟩
          · have q0 : (sc.no != []) = false := by simp [h0]
            rcases e5 with e5 | ⟨e5, e6⟩
            · rcases @seen_dd sc.no acc with ⟨j, v, m1, m2⟩ | ⟨m1, m2⟩
              · refine go (N := 112) Tryz.ntmps105 300 ?_
                simp only [go_sem, di, hg', q0, e1, e2, e3, e4, e5, m1, m2]
                repeat refine And.intro (by first | omega | simpa using gi) ?_
                refine pcallH1 hg (hsf) rfl (N := 112) Tryz.ntmps105 rfl (go (N := 112) Tryz.ntmps105 300 ?_)
                simp only [go_sem]
                refine ⟨by omega, by omega, ?_⟩
                rw [show (i : Int) + 1 = ((i + 1 : Nat) : Int) by omega]
                refine ainv (fin (by simp only; omega)) (Shift.low 2 (by simp) (by simp) ?_ ?_)
                · simp only [List.take_succ_cons, List.take_zero, List.all_cons, List.all_nil, lowB, flat, cellsOf, lowC, Av.frozen, List.append_nil, Bool.and_self, ↓low_seen]
                · simp only [wkl, lowV, lowC, Av.get, go_sem]
              · refine go (N := 112) Tryz.ntmps105 300 ?_
                simp only [go_sem, di, hg', q0, e1, e2, e3, e4, e5, m1, m2]
                repeat refine And.intro (by first | omega | simpa using gi) ?_
                refine pcallH1 hg (hsf) rfl (N := 112) Tryz.ntmps105 rfl (go (N := 112) Tryz.ntmps105 300 ?_)
                simp only [go_sem]
                refine ⟨by omega, by omega, ?_⟩
                rw [show (i : Int) + 1 = ((i + 1 : Nat) : Int) by omega]
                refine ainv (fin (by simp only; omega)) (Shift.low 2 (by simp) (by simp) ?_ ?_)
                · simp only [List.take_succ_cons, List.take_zero, List.all_cons, List.all_nil, lowB, flat, cellsOf, lowC, Av.frozen, List.append_nil, Bool.and_self, ↓low_seen]
                · simp only [wkl, lowV, lowC, Av.get, go_sem]
            · rcases @seen_dd sc.no acc with ⟨j, v, m1, m2⟩ | ⟨m1, m2⟩
              · refine go (N := 112) Tryz.ntmps105 300 ?_
                simp only [go_sem, di, hg', q0, e1, e2, e3, e4, e5, e6, m1, m2]
                repeat refine And.intro (by first | omega | simpa using gi) ?_
                refine pcallH1 hg (hsf) rfl (N := 112) Tryz.ntmps105 rfl (go (N := 112) Tryz.ntmps105 300 ?_)
                simp only [go_sem]
                refine ⟨by omega, by omega, ?_⟩
                rw [show (i : Int) + 1 = ((i + 1 : Nat) : Int) by omega]
                refine ainv (fin (by simp only; omega)) (Shift.low 2 (by simp) (by simp) ?_ ?_)
                · simp only [List.take_succ_cons, List.take_zero, List.all_cons, List.all_nil, lowB, flat, cellsOf, lowC, Av.frozen, List.append_nil, Bool.and_self, ↓low_seen]
                · simp only [wkl, lowV, lowC, Av.get, go_sem]
              · refine go (N := 112) Tryz.ntmps105 300 ?_
                simp only [go_sem, di, hg', q0, e1, e2, e3, e4, e5, e6, m1, m2]
                repeat refine And.intro (by first | omega | simpa using gi) ?_
                refine pcallH1 hg (hsf) rfl (N := 112) Tryz.ntmps105 rfl (go (N := 112) Tryz.ntmps105 300 ?_)
                simp only [go_sem]
                refine ⟨by omega, by omega, ?_⟩
                rw [show (i : Int) + 1 = ((i + 1 : Nat) : Int) by omega]
                refine ainv (fin (by simp only; omega)) (Shift.low 2 (by simp) (by simp) ?_ ?_)
                · simp only [List.take_succ_cons, List.take_zero, List.all_cons, List.all_nil, lowB, flat, cellsOf, lowC, Av.frozen, List.append_nil, Bool.and_self, ↓low_seen]
                · simp only [wkl, lowV, lowC, Av.get, go_sem]
          · by_cases h0 : sc.no = []
            · rw [h0] at n1
              exact absurd n1 (by decide)
            have q0 : (sc.no != []) = true := by simp [h0]
            have m1 := @mfind_out sc.no acc 0 n3
            have m2 : seenM acc ++ [(.str sc.no, .bool true)] = seenM (dd acc sc.no) := by simp [dd, n3, seenM]
            rcases e5 with e5 | ⟨e5, e6⟩
            · refine go (N := 112) Tryz.ntmps105 300 ?_
              simp only [go_sem, di, hg', q0, e1, e2, e3, e4, e5, m1, m2]
              repeat refine And.intro (by first | omega | simpa using gi) ?_
              refine pcall1 (isNumber_pc' sc.no n2) rfl (N := 112) Tryz.ntmps105 rfl (go (N := 112) Tryz.ntmps105 300 ?_)
              rw [n1]
              simp only [go_sem, di, hg', q0, e1, e2, e3, e4, e5, m1, m2]
              repeat refine And.intro (by first | omega | simpa using gi) ?_
              refine pcallH1 hg (hsf) rfl (N := 112) Tryz.ntmps105 rfl (go (N := 112) Tryz.ntmps105 300 ?_)
              simp only [go_sem]
              refine ⟨by omega, by omega, ?_⟩
              rw [show (i : Int) + 1 = ((i + 1 : Nat) : Int) by omega]
              refine ainv (fin (by simp only; omega)) (Shift.low 2 (by simp) (by simp) ?_ ?_)
              · simp only [List.take_succ_cons, List.take_zero, List.all_cons, List.all_nil, lowB, flat, cellsOf, lowC, Av.frozen, List.append_nil, Bool.and_self, ↓low_seen]
              · simp only [wkl, lowV, lowC, Av.get, go_sem]
            · refine go (N := 112) Tryz.ntmps105 300 ?_
              simp only [go_sem, di, hg', q0, e1, e2, e3, e4, e5, e6, m1, m2]
              repeat refine And.intro (by first | omega | simpa using gi) ?_
              refine pcall1 (isNumber_pc' sc.no n2) rfl (N := 112) Tryz.ntmps105 rfl (go (N := 112) Tryz.ntmps105 300 ?_)
              rw [n1]
              simp only [go_sem, di, hg', q0, e1, e2, e3, e4, e5, e6, m1, m2]
              repeat refine And.intro (by first | omega | simpa using gi) ?_
              refine pcallH1 hg (hsf) rfl (N := 112) Tryz.ntmps105 rfl (go (N := 112) Tryz.ntmps105 300 ?_)
              simp only [go_sem]
              refine ⟨by omega, by omega, ?_⟩
              rw [show (i : Int) + 1 = ((i + 1 : Nat) : Int) by omega]
              refine ainv (fin (by simp only; omega)) (Shift.low 2 (by simp) (by simp) ?_ ?_)
              · simp only [List.take_succ_cons, List.take_zero, List.all_cons, List.all_nil, lowB, flat, cellsOf, lowC, Av.frozen, List.append_nil, Bool.and_self, ↓low_seen]
              · simp only [wkl, lowV, lowC, Av.get, go_sem]
        · have di : decide ((i : Int) < (xs.length : Int)) = false := by simp; omega
          refine go (N := 112) Tryz.ntmps105 300 ?_
          simp only [go_sem, di]
          exact aret [2] rfl ⟨rfl, rfl⟩
end Go.Proofs.YtkfpiadgjbhcpaaGreatDoor
namespace Go.Proofs
open Go.Shelf
def Tryz.lays156_ren : Go.Shelf.Ren := ⟨fun | 156 => 61 | 165 => 113 | 166 => 60 | 169 => 64 | 240 => 112 | 241 => 176 | 276 => 175 | 277 => 224 | n => n, fun | 31 => 54 | 9 => 9 | 3 => 3 | 4 => 4 | 0 => 0 | 20 => 20 | 72 => 132 | 76 => 135 | 70 => 129 | 37 => 130 | 75 => 134 | 127 => 203 | 164 => 258 | 5 => 5 | 80 => 140 | n => n, fun | n => n⟩
theorem Tryz.lays156 : Go.Proofs.Lays.n156 Tryz.prog Tryz.lays156_ren := {
  mixed := by kernel_rfl
  f156 := Tryz.func61.trans (congrArg some (by kernel_rfl))
  f165 := Tryz.func113.trans (congrArg some (by kernel_rfl))
  f166 := Tryz.func60.trans (congrArg some (by kernel_rfl))
  f169 := Tryz.func64.trans (congrArg some (by kernel_rfl))
  f240 := Tryz.func112.trans (congrArg some (by kernel_rfl))
  f241 := Tryz.func176.trans (congrArg some (by kernel_rfl))
  f276 := Tryz.func175.trans (congrArg some (by kernel_rfl))
  f277 := Tryz.func224.trans (congrArg some (by kernel_rfl))
  t0 := Tryz.underlying0
  a0 := Tryz.isAgg0
  z0 := Tryz.sizeOf0
  v0 := Tryz.zeroValue0
  t3 := Tryz.underlying3
  a3 := Tryz.isAgg3
  z3 := Tryz.sizeOf3
  v3 := Tryz.zeroValue3
  t4 := Tryz.underlying4
  a4 := Tryz.isAgg4
  z4 := Tryz.sizeOf4
  v4 := Tryz.zeroValue4
  t9 := Tryz.underlying9
  a9 := Tryz.isAgg9
  z9 := Tryz.sizeOf9
  v9 := Tryz.zeroValue9
  t20 := Tryz.underlying20
  a20 := Tryz.isAgg20
  z20 := Tryz.sizeOf20
  v20 := Tryz.zeroValue20
  t31 := Tryz.underlying54
  a31 := Tryz.isAgg54
  z31 := Tryz.sizeOf54
  v31 := Tryz.zeroValue54
  t37 := Tryz.underlying130
  a37 := Tryz.isAgg130
  z37 := Tryz.sizeOf130
  v37 := Tryz.zeroValue130
  t70 := Tryz.underlying129
  a70 := Tryz.isAgg129
  z70 := Tryz.sizeOf129
  v70 := Tryz.zeroValue129
  t72 := Tryz.underlying132
  a72 := Tryz.isAgg132
  z72 := Tryz.sizeOf132
  v72 := Tryz.zeroValue132
  t75 := Tryz.underlying134
  a75 := Tryz.isAgg134
  z75 := Tryz.sizeOf134
  v75 := Tryz.zeroValue134
  t76 := Tryz.underlying135
  a76 := Tryz.isAgg135
  z76 := Tryz.sizeOf135
  v76 := Tryz.zeroValue135
  t127 := Tryz.underlying203
  a127 := Tryz.isAgg203
  z127 := Tryz.sizeOf203
  v127 := Tryz.zeroValue203
  t164 := Tryz.underlying258
  a164 := Tryz.isAgg258
  z164 := Tryz.sizeOf258
  v164 := Tryz.zeroValue258 }
def Tryz.lays157_ren : Go.Shelf.Ren := ⟨fun | 157 => 188 | 229 => 243 | 199 => 244 | 261 => 288 | 311 => 306 | 312 => 307 | n => n, fun | 9 => 9 | 31 => 54 | 3 => 3 | 5 => 5 | 4 => 4 | 119 => 318 | 0 => 0 | 40 => 320 | 152 => 346 | 21 => 21 | 154 => 348 | 51 => 295 | 141 => 350 | 196 => 372 | 193 => 369 | 198 => 374 | 49 => 293 | 194 => 370 | 201 => 377 | 226 => 382 | 46 => 260 | 227 => 383 | n => n, fun | 0 => 0 | 6 => 4 | n => n⟩
theorem Tryz.lays157 : Go.Proofs.Lays.n157 Tryz.prog Tryz.lays157_ren := {
  mixed := by kernel_rfl
  f157 := Tryz.func188.trans (congrArg some (by kernel_rfl))
  f199 := Tryz.func244.trans (congrArg some (by kernel_rfl))
  f229 := Tryz.func243.trans (congrArg some (by kernel_rfl))
  f261 := Tryz.func288.trans (congrArg some (by kernel_rfl))
  f311 := Tryz.func306.trans (congrArg some (by kernel_rfl))
  f312 := Tryz.func307.trans (congrArg some (by kernel_rfl))
  t0 := Tryz.underlying0
  a0 := Tryz.isAgg0
  z0 := Tryz.sizeOf0
  v0 := Tryz.zeroValue0
  t3 := Tryz.underlying3
  a3 := Tryz.isAgg3
  z3 := Tryz.sizeOf3
  v3 := Tryz.zeroValue3
  t4 := Tryz.underlying4
  a4 := Tryz.isAgg4
  z4 := Tryz.sizeOf4
  v4 := Tryz.zeroValue4
  t5 := Tryz.underlying5
  a5 := Tryz.isAgg5
  z5 := Tryz.sizeOf5
  v5 := Tryz.zeroValue5
  t9 := Tryz.underlying9
  a9 := Tryz.isAgg9
  z9 := Tryz.sizeOf9
  v9 := Tryz.zeroValue9
  t21 := Tryz.underlying21
  a21 := Tryz.isAgg21
  z21 := Tryz.sizeOf21
  v21 := Tryz.zeroValue21
  t31 := Tryz.underlying54
  a31 := Tryz.isAgg54
  z31 := Tryz.sizeOf54
  v31 := Tryz.zeroValue54
  t40 := Tryz.underlying320
  a40 := Tryz.isAgg320
  z40 := Tryz.sizeOf320
  v40 := Tryz.zeroValue320
  t46 := Tryz.underlying260
  a46 := Tryz.isAgg260
  z46 := Tryz.sizeOf260
  v46 := Tryz.zeroValue260
  t49 := Tryz.underlying293
  a49 := Tryz.isAgg293
  z49 := Tryz.sizeOf293
  v49 := Tryz.zeroValue293
  t51 := Tryz.underlying295
  a51 := Tryz.isAgg295
  z51 := Tryz.sizeOf295
  v51 := Tryz.zeroValue295
  t119 := Tryz.underlying318
  a119 := Tryz.isAgg318
  z119 := Tryz.sizeOf318
  t141 := Tryz.underlying350
  a141 := Tryz.isAgg350
  z141 := Tryz.sizeOf350
  v141 := Tryz.zeroValue350
  t152 := Tryz.underlying346
  a152 := Tryz.isAgg346
  z152 := Tryz.sizeOf346
  v152 := Tryz.zeroValue346
  t154 := Tryz.underlying348
  a154 := Tryz.isAgg348
  z154 := Tryz.sizeOf348
  v154 := Tryz.zeroValue348
  t193 := Tryz.underlying369
  a193 := Tryz.isAgg369
  z193 := Tryz.sizeOf369
  v193 := Tryz.zeroValue369
  t194 := Tryz.underlying370
  a194 := Tryz.isAgg370
  z194 := Tryz.sizeOf370
  v194 := Tryz.zeroValue370
  t196 := Tryz.underlying372
  a196 := Tryz.isAgg372
  z196 := Tryz.sizeOf372
  v196 := Tryz.zeroValue372
  t198 := Tryz.underlying374
  a198 := Tryz.isAgg374
  z198 := Tryz.sizeOf374
  v198 := Tryz.zeroValue374
  t201 := Tryz.underlying377
  a201 := Tryz.isAgg377
  z201 := Tryz.sizeOf377
  v201 := Tryz.zeroValue377
  t226 := Tryz.underlying382
  a226 := Tryz.isAgg382
  z226 := Tryz.sizeOf382
  v226 := Tryz.zeroValue382
  t227 := Tryz.underlying383
  a227 := Tryz.isAgg383
  z227 := Tryz.sizeOf383
  v227 := Tryz.zeroValue383
  g0 := by kernel_rfl
  g6 := by kernel_rfl }
end Go.Proofs
