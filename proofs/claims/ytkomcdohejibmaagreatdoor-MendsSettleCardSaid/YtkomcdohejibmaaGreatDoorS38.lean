/- The stream's small draws; texts. Own work of this seat. -/
import Derived.Test.YtkomcdohejibmaaGreatDoorS37
import Derived.Test.YtkomcdohejibmaaGreatDoorS22
import Derived.Test.YtkomcdohejibmaaGreatDoorS23
import Derived.Test.YtkomcdohejibmaaGreatDoorS21
set_option maxRecDepth 100000
set_option linter.unusedSimpArgs false
set_option linter.unusedVariables false
namespace Go.Proofs.YtkomcdohejibmaaGreatDoor
open Go Go.Av Go.RowKit

theorem flip_mc (L : List Int) (k n : Int) (h1 : 1 ≤ n) (h2 : n ≤ 1000) (h3 : 0 ≤ k) (h4 : k ≤ 1000000) :
    Mc Tryz.prog 51 2 (str L k) [.int .i64 n] (fun r s => (∃ b, r = .bool b) ∧ s = str L (k + 1)) := by
  refine ct_intro Tryz.func51 rfl Tryz.ntmps51 hB51 (by simp) fun h ρ w => go (N := 9) Tryz.ntmps51 300 ?_
  simp only [go_sem]
  refine mcall (next_mc L k _ (by omega) (by omega) h3 h4) rfl rfl (id := 0) rfl (N := 9) Tryz.ntmps51 rfl ?_
  rintro _ _ ⟨⟨v, rfl, hv0, hv1⟩, rfl⟩
  refine go (N := 9) Tryz.ntmps51 300 ?_
  simp only [go_sem]
  exact aret [4] rfl ⟨_, _, rfl, ⟨_, rfl⟩, rfl, rfl, rfl⟩
theorem range_mc (L : List Int) (k a b : Int) (h1 : 0 ≤ a) (h2 : a ≤ b) (hb : b ≤ 1000) (h3 : 0 ≤ k) (h4 : k ≤ 1000000) :
    Mc Tryz.prog 110 2 (str L k) [.int .i64 a, .int .i64 b] (fun r s => (∃ v, r = .int .i64 v ∧ a ≤ v ∧ v ≤ b) ∧ s = str L (k + 1)) := by
  have d : decide (b < a) = false := by simp; omega
  refine ct_intro Tryz.func110 rfl Tryz.ntmps110 hB110 (by simp) fun h ρ w => go (N := 19) Tryz.ntmps110 300 ?_
  simp only [go_sem, d]
  refine ⟨by omega, by omega, by omega, by omega, ?_⟩
  refine mcall (next_mc L k _ (by omega) (by omega) h3 h4) rfl rfl (id := 0) rfl (N := 19) Tryz.ntmps110 rfl ?_
  rintro _ _ ⟨⟨v, rfl, hv0, hv1⟩, rfl⟩
  refine go (N := 19) Tryz.ntmps110 300 ?_
  simp only [go_sem]
  refine ⟨by omega, by omega, ?_⟩
  exact aret [6] rfl ⟨_, _, rfl, ⟨_, rfl, by omega, by omega⟩, rfl, rfl, rfl⟩
theorem pick_mc (L : List Int) (k : Int) (ls : List Int) (h1 : 1 ≤ ls.length) (h2 : ls.length ≤ 1000) (h3 : 0 ≤ k) (h4 : k ≤ 1000000) :
    Mc Tryz.prog 66 2 (str L k) [.fz 1 (ls.map (.int .i64))] (fun r s => (∃ x ∈ ls, r = .int .i64 x) ∧ s = str L (k + 1)) := by
  have hlen : ((List.map (AV.int .i64) ls).length : Int) = ls.length := by simp
  refine ct_intro Tryz.func66 rfl Tryz.ntmps66 hB66 (by simp) fun h ρ w => go (N := 12) Tryz.ntmps66 300 ?_
  simp only [go_sem]
  refine mcall (next_mc L k _ (by omega) (by omega) h3 h4) rfl rfl (id := 0) rfl (N := 12) Tryz.ntmps66 rfl ?_
  rintro _ _ ⟨⟨v, rfl, hv0, hv1⟩, rfl⟩
  have hv : v.toNat < ls.length := by omega
  have hx : (List.map (AV.int .i64) ls).getD v.toNat .any = .int .i64 ls[v.toNat] := by simp [List.getD, hv]
  refine go (N := 12) Tryz.ntmps66 300 ?_
  simp only [go_sem, hx]
  refine ⟨by omega, by omega, by simpa using hv, ?_⟩
  exact aret [4] rfl ⟨_, _, rfl, ⟨_, List.getElem_mem hv, rfl⟩, rfl, rfl, rfl⟩
def deptL : List (List UInt8) := [[97, 114, 116], [99, 97, 109, 101, 114, 97], [115, 111, 117, 110, 100]]
def folkL : List (List UInt8) := [[101, 118, 101], [98, 111, 98]]
theorem depts_pc : Pc Tryz.prog 20 [] (· = .fz 1 (deptL.map .str)) := by
  refine pc_intro (ct_intro Tryz.func20 rfl Tryz.ntmps20 hB20 (by simp) fun h ρ w => goB (N := 2) Tryz.ntmps20 300 ?_)
  simp only [go_sem]
  exact aret [0] rfl ⟨rfl, rfl⟩
theorem folk_pc : Pc Tryz.prog 109 [] (· = .fz 1 (folkL.map .str)) := by
  refine pc_intro (ct_intro Tryz.func109 rfl Tryz.ntmps109 hB109 (by simp) fun h ρ w => goB (N := 2) Tryz.ntmps109 300 ?_)
  simp only [go_sem]
  exact aret [0] rfl ⟨rfl, rfl⟩
def lineL : List (List UInt8) := [[97], [98], [99], [97], []]
theorem strs_frz : ∀ l : List (List UInt8), (flat (l.map AV.str)).all Av.frozen = true
  | [] => rfl
  | x :: l => by
    simp only [List.map_cons, flat, cellsOf, List.all_append, strs_frz l, Bool.and_true]; rfl
theorem lines_mc (L : List Int) (k m : Int) (h1 : 0 ≤ m) (h2 : m ≤ 1000) (h3 : 0 ≤ k) (h4 : k ≤ 900000) :
    Mc Tryz.prog 162 2 (str L k) [.int .i64 m] (fun r s => ∃ (ls : List (List UInt8)) (k' : Int), r = .fz 1 (ls.map .str) ∧ (ls.length : Int) ≤ m ∧ (∀ x ∈ ls, x ∈ lineL) ∧ s = str L k' ∧ k + 1 ≤ k' ∧ k' ≤ k + 1 + m) := by
  refine ct_intro Tryz.func162 rfl Tryz.ntmps162 hB162 (by simp) fun h ρ w => goB (N := 20) Tryz.ntmps162 300 ?_
  simp only [go_sem]
  refine ⟨by omega, by omega, ?_⟩
  refine mcall (next_mc L k _ (by omega) (by omega) h3 (by omega)) rfl rfl (id := 0) rfl (N := 20) Tryz.ntmps162 rfl ?_
  rintro _ _ ⟨⟨v, rfl, hv0, hv1⟩, rfl⟩
  refine goB (N := 20) Tryz.ntmps162 300 ?_
  simp only [go_sem]
  refine aloop (ι := Nat × List (List UInt8)) (fun y => v.toNat - y.1) (fun y => [(10, .int .i64 y.1), (9, .int .i64 v), (5, .sl 1 0 y.2.length y.2.length), (0, .ptr 0 1 0 0)]) (fun y => [.arr 2 [str L (k + 1 + y.1)], .arr 1 (y.2.map .str)])
    (fun y => (y.1 : Int) ≤ v ∧ y.2.length = y.1 ∧ ∀ x ∈ y.2, x ∈ lineL) (0, []) ⟨by simp; omega, by simp, by simp⟩ ?_ ?_
  · refine Shift.trans (Shift.nilsl 5 1 rfl) (Shift.weakS ?_ ?_)
    · simp only [wk, go_sem]
    · simp
  rintro ⟨i, o⟩ ⟨g1, g2, g3⟩ J hJ
  simp only at g1 g2 g3 hJ ⊢
  by_cases gi : (i : Int) < v
  · have di : decide ((i : Int) < v) = true := by simpa using gi
    have ho := one_mc L (k + 1 + i) lineL (by decide) (by decide) (by omega) (by omega)
    simp only [lineL, List.map_cons, List.map_nil] at ho
    refine goB (N := 20) Tryz.ntmps162 300 ?_
    simp only [go_sem, di]
    refine mcall (ho) rfl rfl (id := 0) rfl (N := 20) Tryz.ntmps162 rfl ?_
    rintro _ _ ⟨⟨x, hx, rfl⟩, rfl⟩
    have hfin := hJ (i + 1, o ++ [x]) ⟨by simp only; omega, by simp; omega, fun y hy => by
      rcases List.mem_append.1 hy with hy | hy
      · exact g3 y hy
      · rw [List.mem_singleton.1 hy]; exact hx⟩ (by simp only; omega)
    simp only [List.length_append, List.length_cons, List.length_nil, List.map_append, List.map_cons, List.map_nil, Nat.zero_add, show k + 1 + ((i + 1 : Nat) : Int) = k + 1 + (i : Int) + 1 by omega] at hfin
    refine goB (N := 20) Tryz.ntmps162 300 ?_
    simp only [go_sem, List.length_map]
    repeat refine And.intro (by first | omega | rfl | exact .inl rfl | exact .inl trivial | (simp; done) | (simp; omega)) ?_
    rw [show (i : Int) + 1 = ((i + 1 : Nat) : Int) by omega]
    refine ainv hfin (Shift.weakS ?_ rfl)
    simp only [wk, go_sem]
  · have di : decide ((i : Int) < v) = false := by simp; omega
    clear hJ
    refine AWp.shift (Shift.freeze 5 (id := 1) (l := o.map .str) rfl rfl (by simp) (Nat.le_refl _) (strs_frz _)) ?_
    rw [List.drop_zero, take_map]
    refine goB (N := 20) Tryz.ntmps162 300 ?_
    simp only [go_sem, di]
    exact aret [4] rfl ⟨str L (k + 1 + i), [.dead], rfl, ⟨o, k + 1 + i, rfl, by omega, g3, rfl, by omega, by omega⟩, rfl, rfl⟩

/-- lines with a line feed each -/
def jL (ls : List (List UInt8)) : List UInt8 := (ls.map fun x => x ++ [10]).flatten
theorem jL_step (ls : List (List UInt8)) (i : Nat) (h : i < ls.length) : jL (ls.take (i + 1)) = jL (ls.take i) ++ (ls[i] ++ [10]) := by
  rw [jL, jL, List.take_succ_eq_append_getElem h, List.map_append, List.flatten_append]
  simp only [List.map_cons, List.map_nil, List.flatten_cons, List.flatten_nil, List.append_nil]
theorem dbzero : ∃ i, Tryz.prog.info? 146 = some i ∧ i.zero = some (.agg #[.pointer none, .slice none 0 0]) := Option.map_eq_some_iff.1 (show (Tryz.prog.info? 146).map (·.zero) = some (some (.agg #[.pointer none, .slice none 0 0])) by kernel_rfl)
set_option maxHeartbeats 2000000 in
theorem joined_pch {S : Std} (ls : List (List UInt8)) (h1 : ls.length ≤ 1000) (h2 : ∀ x ∈ ls, x.length ≤ 1000) : PcH Tryz.prog S 161 [.fz 1 (ls.map .str)] (· = .str (jL ls)) := by
  obtain ⟨i, hi, hz⟩ := dbzero
  refine pch_intro (cthm_intro Tryz.func161 rfl Tryz.ntmps161 hB161 (by simp) fun h ρ w hg hm => go (N := 21) Tryz.ntmps161 12 ?_)
  simp only [go_sem]
  refine bstart (T := 146) (t := 4) rfl rfl rfl (N := 21) Tryz.ntmps161 (by decide) hi hz 5 ?_
  intro b hb
  refine go (N := 21) Tryz.ntmps161 300 ?_
  simp only [go_sem, List.length_map]
  refine bloop (ι := Nat) (fun y => ls.length - y)
    (fun y => [(9, .int .i64 y), (8, .int .i64 ls.length), (7, .fz 1 (ls.map .str)), (4, .raw (.pointer (some ⟨b, 0, none⟩))), (3, .str [])])
    (fun _ => []) (fun y => jL (ls.take y)) (fun y => y ≤ ls.length ∧ (jL (ls.take y)).length ≤ y * 1001) 0 rfl ⟨by simp, by simp [jL]⟩ ?_ ?_
  · refine Shift.weak ?_
    simp only [wk, go_sem]
  · rintro i ⟨g1, g2⟩ hJ
    by_cases gi : i < ls.length
    · have di : decide ((i : Int) < (ls.length : Int)) = true := by simp; omega
      have hx : (ls.map AV.str).getD i .any = .str ls[i] := by simp [List.getD, gi]
      have hs := jL_step ls i gi
      have hl := h2 _ (List.getElem_mem gi)
      refine go (N := 21) Tryz.ntmps161 300 ?_
      simp only [go_sem, di, hx, List.length_map]
      repeat refine And.intro (by first | omega | exact .inl trivial | rfl | (simp; done) | (simp; omega)) ?_
      refine bwrite write_c rfl rfl (N := 21) Tryz.ntmps161 rfl (by simp; omega) (go (N := 21) Tryz.ntmps161 300 ?_)
      simp only [go_sem]
      repeat refine And.intro (by first | omega | exact .inl trivial | rfl | (simp; done) | (simp; omega)) ?_
      rw [show (i : Int) + 1 = ((i + 1 : Nat) : Int) by omega]
      refine hJ (i + 1) ⟨by omega, by rw [hs]; simp; omega⟩ (by omega) _ hs.symm _ _ (Shift.weak ?_)
      simp only [wk, go_sem]
    · have di : decide ((i : Int) < (ls.length : Int)) = false := by simp; omega
      have hl : jL (ls.take i) = jL ls := by rw [List.take_of_length_le (by omega)]
      refine go (N := 21) Tryz.ntmps161 300 ?_
      simp only [go_sem, di]
      refine bstring1 17 [] string_c rfl rfl rfl hm (N := 21) Tryz.ntmps161 rfl rfl (go (N := 21) Tryz.ntmps161 300 ?_)
      simp only [go_sem]
      repeat refine And.intro (by first | omega | exact .inl trivial | rfl | (simp; done) | (simp; omega)) ?_
      exact aret [2] rfl ⟨by simp [resV, Av.get, Av.put, hl], rfl⟩
end Go.Proofs.YtkomcdohejibmaaGreatDoor
/- Texts and deeds that are drawn. Own work of this seat. -/
set_option maxRecDepth 100000
set_option linter.unusedSimpArgs false
set_option linter.unusedVariables false
namespace Go.Proofs.YtkomcdohejibmaaGreatDoor
open Go Go.Av Go.RowKit

theorem o_strInt (s : List UInt8) (k : IntKind) (n : Int) : ∀ h vs', RL h Lf0 true vs' [.str s, .int k n] → vs' = [.string ⟨s.toArray⟩, .int k n] := by
  intro h vs' r
  cases r with | cons r1 r => cases r with | cons r2 r => cases r; rw [o_str r1]; cases r2 with | int => rfl
theorem drepeat_pc (s : List UInt8) (c : Nat) (hlen : s.length * c ≤ 1000000) (hc : c ≤ 1000000) : Pc Tryz.prog 163 [.str s, .int .i64 c] (· = .str (Lib.repeatL s c)) :=
  l_pc [_, .int .i64 c] (.string ⟨(Lib.repeatL s c).toArray⟩) hB163 (o_strInt s .i64 c) (fun h => .str _)
    fun w => Any.strings_Repeat Tryz.lays105 Tryz.Builder_Extra_105 ⟨s.toArray⟩ c w (by omega) (show s.length * c ≤ _ by omega)
theorem jL_len {n : Nat} : ∀ ls : List (List UInt8), (∀ x ∈ ls, x.length ≤ n) → (jL ls).length ≤ ls.length * (n + 1)
  | [], _ => by simp [jL]
  | x :: ls, h => by
    have h1 := jL_len ls (fun y hy => h y (by simp [hy]))
    have h2 := h x (by simp)
    have h3 : jL (x :: ls) = x ++ [10] ++ jL ls := by simp [jL]
    rw [h3, List.length_append, List.length_append, List.length_cons, List.length_cons, List.length_nil, Nat.succ_mul]
    omega
theorem line_len {x : List UInt8} (h : x ∈ lineL) : x.length ≤ 1 := by
  simp only [lineL, List.mem_cons, List.not_mem_nil, or_false] at h
  rcases h with rfl | rfl | rfl | rfl | rfl <;> decide

set_option maxHeartbeats 2000000 in
theorem text_mch {S : Std} (L : List Int) (k : Int) (h3 : 0 ≤ k) (h4 : k ≤ 900000) :
    McH Tryz.prog S 108 2 (str L k) [] (fun r s => ∃ (t : List UInt8) (k' : Int), r = .str t ∧ t.length < 100000 ∧ s = str L k' ∧ k ≤ k' ∧ k' ≤ k + 10) := by
  have hr1 := drepeat_pc [121] 19999 (by decide) (by decide)
  have hr2 := drepeat_pc [121] 20000 (by decide) (by decide)
  have e1 : (Lib.repeatL [121] 19999).length = 19999 := by rw [Lib.repeatL_length]; rfl
  have e2 : (Lib.repeatL [121] 20000).length = 20000 := by rw [Lib.repeatL_length]; rfl
  generalize Lib.repeatL [121] 19999 = y1 at *
  generalize Lib.repeatL [121] 20000 = y2 at *
  refine cth_intro Tryz.func108 rfl Tryz.ntmps108 hB108 (by simp) fun h ρ w hg => goB (N := 19) Tryz.ntmps108 300 ?_
  simp only [go_sem]
  refine mcall (lines_mc L k 4 (by decide) (by decide) h3 (by omega)) rfl rfl (id := 0) rfl (N := 19) Tryz.ntmps108 rfl ?_
  rintro _ _ ⟨ls, k1, rfl, g1, g2, rfl, g3, g4⟩
  have hjl := jL_len (n := 1) ls (fun x hx => line_len (g2 x hx))
  refine goB (N := 19) Tryz.ntmps108 300 ?_
  simp only [go_sem]
  refine pcallH1 hg (joined_pch (S := S) ls (by omega) (fun x hx => Nat.le_trans (line_len (g2 x hx)) (by decide))) rfl (N := 19) Tryz.ntmps108 rfl (goB (N := 19) Tryz.ntmps108 300 ?_)
  simp only [go_sem]
  refine mcall (flip_mc L k1 20 (by decide) (by decide) (by omega) (by omega)) rfl rfl (id := 0) rfl (N := 19) Tryz.ntmps108 rfl ?_
  rintro _ _ ⟨⟨b, rfl⟩, rfl⟩
  cases b with
  | false =>
    refine goB (N := 19) Tryz.ntmps108 300 ?_
    simp only [go_sem]
    exact aret [2] rfl ⟨_, _, rfl, ⟨jL ls, k1 + 1, rfl, by omega, rfl, by omega, by omega⟩, rfl, rfl⟩
  | true =>
    have ho := one_mc L (k1 + 1) [[120], [9, 10], y1 ++ [10], y2 ++ [10]] (by simp) (by simp) (by omega) (by omega)
    simp only [List.map_cons, List.map_nil] at ho
    refine goB (N := 19) Tryz.ntmps108 300 ?_
    simp only [go_sem]
    refine pcall1 (hr1) rfl (N := 19) Tryz.ntmps108 rfl (goB (N := 19) Tryz.ntmps108 300 ?_)
    simp only [go_sem, e1]
    repeat refine And.intro (by first | omega | rfl | (simp; done) | (simp; omega)) ?_
    refine pcall1 (hr2) rfl (N := 19) Tryz.ntmps108 rfl (goB (N := 19) Tryz.ntmps108 300 ?_)
    simp only [go_sem, e2]
    repeat refine And.intro (by first | omega | rfl | (simp; done) | (simp; omega)) ?_
    refine mcall (ho) rfl rfl (id := 0) rfl (N := 19) Tryz.ntmps108 rfl ?_
    rintro _ _ ⟨⟨x, hx, rfl⟩, rfl⟩
    have hxl : x.length ≤ 20001 := by
      simp only [List.mem_cons, List.not_mem_nil, or_false] at hx
      rcases hx with rfl | rfl | rfl | rfl <;> simp <;> omega
    refine goB (N := 19) Tryz.ntmps108 300 ?_
    simp only [go_sem]
    repeat refine And.intro (by first | omega | rfl | (simp; done) | (simp; omega)) ?_
    exact aret [2] rfl ⟨_, _, rfl, ⟨jL ls ++ x, k1 + 1 + 1, rfl, by rw [List.length_append]; omega, rfl, by omega, by omega⟩, rfl, rfl⟩
end Go.Proofs.YtkomcdohejibmaaGreatDoor
/- Deeds that are drawn. Own work of this seat. -/
set_option maxRecDepth 100000
set_option linter.unusedSimpArgs false
set_option linter.unusedVariables false
namespace Go.Proofs.YtkomcdohejibmaaGreatDoor
open Go Go.Av Go.RowKit

def kindL : List Int := [1, 1, 1, 2, 3, 3, 4, 5, 5]
def papL : List (List UInt8) := [[112, 108, 97, 110], [112, 108, 97, 110], [108, 105, 115, 116]]
def badD : List (List UInt8) := [[], [65], [49, 97]]
/-- a deed whose Seen is nil -/
def deZ (dept : List UInt8) (kind : Int) (paper text person : List UInt8) : AV := .agg [.str dept, .int .i64 0, .raw (.slice none 0 0), .int .i64 kind, .str paper, .str text, .str person]
theorem short_mem {x : List UInt8} {l : List (List UInt8)} (hl : l.all (fun y => decide (y.length ≤ 10)) = true) (h : x ∈ l) : x.length ≤ 10 := of_decide_eq_true (List.all_eq_true.1 hl x h)
set_option maxHeartbeats 4000000 in
theorem deed_mch {S : Std} (L : List Int) (k : Int) (dept : List UInt8) (hdl : dept.length ≤ 10) (h3 : 0 ≤ k) (h4 : k ≤ 800000) :
    McH Tryz.prog S 53 2 (str L k) [.str dept] (fun r s => ∃ (d : De) (k' : Int), r = deA d ∧ SzD d ∧ d.seen = [] ∧ (d.st.dept = dept ∨ d.st.dept ∈ badD) ∧ s = str L k' ∧ k ≤ k' ∧ k' ≤ k + 30) := by
  have hp := pick_mc L k kindL (by decide) (by decide) h3 (by omega)
  have ho := one_mc L (k + 1) papL (by decide) (by decide) (by omega) (by omega)
  simp only [kindL, papL, List.map_cons, List.map_nil] at ho hp
  refine cth_intro Tryz.func53 rfl Tryz.ntmps53 hB53 (by simp) fun h ρ w hg => goB (N := 59) Tryz.ntmps53 300 ?_
  simp only [go_sem]
  refine mcall (hp) rfl rfl (id := 0) rfl (N := 59) Tryz.ntmps53 rfl ?_
  rintro _ _ ⟨⟨v, hv, rfl⟩, rfl⟩
  refine goB (N := 59) Tryz.ntmps53 300 ?_
  simp only [go_sem]
  refine mcall (ho) rfl rfl (id := 0) rfl (N := 59) Tryz.ntmps53 rfl ?_
  rintro _ _ ⟨⟨x, hx, rfl⟩, rfl⟩
  have hxl := short_mem (by decide) hx
  refine goB (N := 59) Tryz.ntmps53 15 ?_
  simp only [go_sem]
  refine acut (ι := List UInt8 × List UInt8 × Int) (fun y => [(5, .ptr 2 1 0 0), (4, .ptr 1 1 0 0), (0, .ptr 0 1 0 0)])
    (fun y => [.arr 2 [str L y.2.2], .arr 7 [deZ [] 0 [] [] []], .arr 7 [deZ dept v x y.1 y.2.1]]) (fun y => y.1.length < 100000 ∧ y.2.1.length ≤ 10 ∧ k + 2 ≤ y.2.2 ∧ y.2.2 ≤ k + 12) ?_ ?_
  · intro J hJ
    by_cases k1 : v = 1
    · have d1 : (v == 1) = true := by simpa using k1
      refine goB (N := 59) Tryz.ntmps53 300 ?_
      simp only [go_sem, d1]
      refine mcallH hg (text_mch (S := S) L (k + 1 + 1) (by omega) (by omega)) rfl rfl (id := 0) rfl (N := 59) Tryz.ntmps53 rfl ?_
      rintro _ _ ⟨t, k', rfl, ht, rfl, hk1, hk2⟩
      have hfin := hJ (t, [], k') ⟨ht, by simp, by simp only; omega, by simp only; omega⟩
      simp only [deZ] at hfin
      refine goB (N := 59) Tryz.ntmps53 300 ?_
      simp only [go_sem]
      repeat refine And.intro (by first | omega | rfl | exact .inl rfl | (simp; done) | (simp; omega)) ?_
      refine ainv hfin (Shift.weakS ?_ rfl)
      simp only [wk, go_sem]
    have d1 : (v == 1) = false := by simpa using k1
    have hfold := one_mc L (k + 1 + 1) folkL (by decide) (by decide) (by omega) (by omega)
    simp only [folkL, List.map_cons, List.map_nil] at hfold
    have hfk := folk_pc
    simp only [folkL, List.map_cons, List.map_nil] at hfk
    by_cases k3 : v = 3
    · have d3 : (v == 3) = true := by simpa using k3
      refine goB (N := 59) Tryz.ntmps53 300 ?_
      simp only [go_sem, d1, d3]
      refine pcall1 (hfk) rfl (N := 59) Tryz.ntmps53 rfl (goB (N := 59) Tryz.ntmps53 300 ?_)
      simp only [go_sem]
      refine mcall (hfold) rfl rfl (id := 0) rfl (N := 59) Tryz.ntmps53 rfl ?_
      rintro _ _ ⟨⟨z, hz, rfl⟩, rfl⟩
      have hfin := hJ ([], z, k + 1 + 1 + 1) ⟨by simp, short_mem (by decide) hz, by simp only; omega, by simp only; omega⟩
      simp only [deZ] at hfin
      refine goB (N := 59) Tryz.ntmps53 300 ?_
      simp only [go_sem]
      repeat refine And.intro (by first | omega | rfl | exact .inl rfl | (simp; done) | (simp; omega)) ?_
      refine ainv hfin (Shift.weakS ?_ rfl)
      simp only [wk, go_sem]
    have d3 : (v == 3) = false := by simpa using k3
    by_cases k4 : v = 4
    · have d4 : (v == 4) = true := by simpa using k4
      refine goB (N := 59) Tryz.ntmps53 300 ?_
      simp only [go_sem, d1, d3, d4]
      refine pcall1 (hfk) rfl (N := 59) Tryz.ntmps53 rfl (goB (N := 59) Tryz.ntmps53 300 ?_)
      simp only [go_sem]
      refine mcall (hfold) rfl rfl (id := 0) rfl (N := 59) Tryz.ntmps53 rfl ?_
      rintro _ _ ⟨⟨z, hz, rfl⟩, rfl⟩
      have hfin := hJ ([], z, k + 1 + 1 + 1) ⟨by simp, short_mem (by decide) hz, by simp only; omega, by simp only; omega⟩
      simp only [deZ] at hfin
      refine goB (N := 59) Tryz.ntmps53 300 ?_
      simp only [go_sem]
      repeat refine And.intro (by first | omega | rfl | exact .inl rfl | (simp; done) | (simp; omega)) ?_
      refine ainv hfin (Shift.weakS ?_ rfl)
      simp only [wk, go_sem]
    have d4 : (v == 4) = false := by simpa using k4
    have hfin := hJ ([], [], k + 1 + 1) ⟨by simp, by simp, by simp only; omega, by simp only; omega⟩
    simp only [deZ] at hfin
    refine goB (N := 59) Tryz.ntmps53 300 ?_
    simp only [go_sem, d1, d3, d4]
    refine ainv hfin (Shift.weakS ?_ rfl)
    simp only [wk, go_sem]
  rintro ⟨t, p, k1⟩ ⟨ht, hpl, hk1, hk2⟩
  simp only at ht hpl hk1 hk2 ⊢
  simp only [deZ]
  refine goB (N := 59) Tryz.ntmps53 1 ?_
  simp only [go_sem]
  refine acut (ι := List UInt8 × Int × List UInt8 × List UInt8 × List UInt8 × Int) (fun y => [(5, .ptr 2 1 0 0), (4, .ptr 1 1 0 0), (0, .ptr 0 1 0 0)])
    (fun y => [.arr 2 [str L y.2.2.2.2.2], .arr 7 [deZ [] 0 [] [] []], .arr 7 [deZ y.1 y.2.1 y.2.2.1 y.2.2.2.1 y.2.2.2.2.1]])
    (fun y => (y.1 = dept ∨ y.1 ∈ badD) ∧ y.2.2.1.length ≤ 10 ∧ y.2.2.2.1.length < 100000 ∧ y.2.2.2.2.1.length ≤ 10 ∧ k + 2 ≤ y.2.2.2.2.2 ∧ y.2.2.2.2.2 ≤ k + 15) ?_ ?_
  · intro J hJ
    refine goB (N := 59) Tryz.ntmps53 300 ?_
    simp only [go_sem]
    refine mcall (flip_mc L k1 15 (by decide) (by decide) (by omega) (by omega)) rfl rfl (id := 0) rfl (N := 59) Tryz.ntmps53 rfl ?_
    rintro _ _ ⟨⟨b, rfl⟩, rfl⟩
    cases b with
    | false =>
      have hfin := hJ (dept, v, x, t, p, k1 + 1) ⟨.inl rfl, hxl, ht, hpl, by simp only; omega, by simp only; omega⟩
      simp only [deZ] at hfin
      refine goB (N := 59) Tryz.ntmps53 300 ?_
      simp only [go_sem]
      refine ainv hfin (Shift.weakS ?_ rfl)
      simp only [wk, go_sem]
    | true =>
      refine goB (N := 59) Tryz.ntmps53 300 ?_
      simp only [go_sem]
      refine mcall (next_mc L (k1 + 1) 5 (by decide) (by decide) (by omega) (by omega)) rfl rfl (id := 0) rfl (N := 59) Tryz.ntmps53 rfl ?_
      rintro _ _ ⟨⟨u, rfl, hu0, hu1⟩, rfl⟩
      have hu : u = 0 ∨ u = 1 ∨ u = 2 ∨ u = 3 ∨ u = 4 := by omega
      rcases hu with rfl | rfl | rfl | rfl | rfl
      · refine goB (N := 59) Tryz.ntmps53 300 ?_
        simp only [go_sem]
        refine mcall (range_mc L (k1 + 1 + 1) 0 6 (by decide) (by decide) (by decide) (by omega) (by omega)) rfl rfl (id := 0) rfl (N := 59) Tryz.ntmps53 rfl ?_
        rintro _ _ ⟨⟨z, rfl, hz0, hz1⟩, rfl⟩
        have hfin := hJ (dept, z, x, t, p, k1 + 1 + 1 + 1) ⟨.inl rfl, hxl, ht, hpl, by simp only; omega, by simp only; omega⟩
        simp only [deZ] at hfin
        refine goB (N := 59) Tryz.ntmps53 300 ?_
        simp only [go_sem]
        repeat refine And.intro (by first | omega | rfl | exact .inl rfl | (simp; done) | (simp; omega)) ?_
        refine ainv hfin (Shift.weakS ?_ rfl)
        simp only [wk, go_sem]
      · have hoo := one_mc L (k1 + 1 + 1) [[], [80, 108, 97, 110], [122, 122]] (by decide) (by decide) (by omega) (by omega)
        simp only [List.map_cons, List.map_nil] at hoo
        refine goB (N := 59) Tryz.ntmps53 300 ?_
        simp only [go_sem]
        refine mcall (hoo) rfl rfl (id := 0) rfl (N := 59) Tryz.ntmps53 rfl ?_
        rintro _ _ ⟨⟨z, hz, rfl⟩, rfl⟩
        have hfin := hJ (dept, v, z, t, p, k1 + 1 + 1 + 1) ⟨.inl rfl, short_mem (by decide) hz, ht, hpl, by simp only; omega, by simp only; omega⟩
        simp only [deZ] at hfin
        refine goB (N := 59) Tryz.ntmps53 300 ?_
        simp only [go_sem]
        repeat refine And.intro (by first | omega | rfl | exact .inl rfl | (simp; done) | (simp; omega)) ?_
        refine ainv hfin (Shift.weakS ?_ rfl)
        simp only [wk, go_sem]
      · have hoo := one_mc L (k1 + 1 + 1) [[], [101, 118, 101], [69, 118, 101]] (by decide) (by decide) (by omega) (by omega)
        simp only [List.map_cons, List.map_nil] at hoo
        refine goB (N := 59) Tryz.ntmps53 300 ?_
        simp only [go_sem]
        refine mcall (hoo) rfl rfl (id := 0) rfl (N := 59) Tryz.ntmps53 rfl ?_
        rintro _ _ ⟨⟨z, hz, rfl⟩, rfl⟩
        have hfin := hJ (dept, v, x, t, z, k1 + 1 + 1 + 1) ⟨.inl rfl, hxl, ht, short_mem (by decide) hz, by simp only; omega, by simp only; omega⟩
        simp only [deZ] at hfin
        refine goB (N := 59) Tryz.ntmps53 300 ?_
        simp only [go_sem]
        repeat refine And.intro (by first | omega | rfl | exact .inl rfl | (simp; done) | (simp; omega)) ?_
        refine ainv hfin (Shift.weakS ?_ rfl)
        simp only [wk, go_sem]
      · have hfin := hJ (dept, v, x, [120, 10], p, k1 + 1 + 1) ⟨.inl rfl, hxl, by simp, hpl, by simp only; omega, by simp only; omega⟩
        simp only [deZ] at hfin
        refine goB (N := 59) Tryz.ntmps53 300 ?_
        simp only [go_sem]
        repeat refine And.intro (by first | omega | rfl | exact .inl rfl | (simp; done) | (simp; omega)) ?_
        refine ainv hfin (Shift.weakS ?_ rfl)
        simp only [wk, go_sem]
      · have hoo := one_mc L (k1 + 1 + 1) badD (by decide) (by decide) (by omega) (by omega)
        simp only [badD, List.map_cons, List.map_nil] at hoo
        refine goB (N := 59) Tryz.ntmps53 300 ?_
        simp only [go_sem]
        refine mcall (hoo) rfl rfl (id := 0) rfl (N := 59) Tryz.ntmps53 rfl ?_
        rintro _ _ ⟨⟨z, hz, rfl⟩, rfl⟩
        have hfin := hJ (z, v, x, t, p, k1 + 1 + 1 + 1) ⟨.inr hz, hxl, ht, hpl, by simp only; omega, by simp only; omega⟩
        simp only [deZ] at hfin
        refine goB (N := 59) Tryz.ntmps53 300 ?_
        simp only [go_sem]
        repeat refine And.intro (by first | omega | rfl | exact .inl rfl | (simp; done) | (simp; omega)) ?_
        refine ainv hfin (Shift.weakS ?_ rfl)
        simp only [wk, go_sem]
  rintro ⟨dp, kd, pp, tx, ps, k2⟩ ⟨q1, q2, q3, q4, q5, q6⟩
  simp only at q1 q2 q3 q4 q5 q6 ⊢
  have hdp : dp.length ≤ 10 := by
    rcases q1 with rfl | q1
    · exact hdl
    · exact short_mem (l := badD) (by decide) q1
  simp only [deZ]
  refine goB (N := 59) Tryz.ntmps53 300 ?_
  simp only [go_sem]
  repeat refine And.intro (by first | omega | rfl | exact .inl rfl | (simp; done) | (simp; omega)) ?_
  exact ARet.shift (Shift.cells 1 7 [.agg [.str dp, .int .i64 0, .fz 2 [], .int .i64 kd, .str pp, .str tx, .str ps]] rfl rfl (by simp [cellsOf]) ⟨.refl, .refl, .fz, .refl, .refl, .refl, .refl, trivial⟩)
    (aretc [.cell 4 41] rfl [_] ⟨by simp only [go_sem, sideIs], trivial⟩ ⟨str L k2, _, rfl, ⟨⟨⟨dp, 0⟩, [], kd, pp, tx, ps⟩, k2, rfl, ⟨by simp, by simp only; omega, by simp only; omega, by simp only; omega, by simp only; omega, by simp⟩, rfl, q1, rfl, by omega, by omega⟩, rfl, rfl⟩)
end Go.Proofs.YtkomcdohejibmaaGreatDoor
/- Stamps and orders that are drawn. Own work of this seat. -/
set_option maxRecDepth 100000
set_option linter.unusedSimpArgs false
set_option linter.unusedVariables false
namespace Go.Proofs.YtkomcdohejibmaaGreatDoor
open Go Go.Av Go.RowKit

/-- stamps of a size that a machine bears -/
def SzS (l : List St) : Prop := l.length < 1000 ∧ ∀ s ∈ l, s.dept.length ≤ 10
theorem SzS.push {o : List St} {s : St} {n : Nat} (h : o.length ≤ n ∧ ∀ s ∈ o, s.dept.length ≤ 10) (hs : s.dept.length ≤ 10) : (o ++ [s]).length ≤ n + 1 ∧ ∀ x ∈ o ++ [s], x.dept.length ≤ 10 := by
  refine ⟨by simp; omega, fun x hx => ?_⟩
  rcases List.mem_append.1 hx with hx | hx
  · exact h.2 x hx
  · rw [List.mem_singleton.1 hx]; exact hs
end Go.Proofs.YtkomcdohejibmaaGreatDoor
