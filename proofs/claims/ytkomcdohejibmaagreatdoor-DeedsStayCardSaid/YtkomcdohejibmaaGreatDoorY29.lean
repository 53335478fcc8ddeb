/- The reference's DeedsFault: no error, then the deeds are right. Own work of this seat. -/
import Derived.Test.YtkomcdohejibmaaGreatDoorY27
import Derived.Test.YtkomcdohejibmaaGreatDoorY28
import Derived.Test.YtkomcdohejibmaaGreatDoorY22
import Derived.Test.YtkomcdohejibmaaGreatDoorY19
import Derived.Test.YtkomcdohejibmaaGreatDoorY21
set_option maxRecDepth 100000
set_option linter.unusedSimpArgs false
set_option linter.unusedVariables false
namespace Go.Proofs.YtkomcdohejibmaaGreatDoor
open Go Go.Av Go.RowKit

theorem orE_pc (a b : Int) : Pc Tryz.prog 131 [.fz 1 [.int .i64 a, .int .i64 b]] (· = .int .i64 (if a ≠ 0 then a else b)) := by
  refine pc_intro (ct_intro Tryz.func131 rfl Tryz.ntmps131 hB131 (by simp) fun h ρ w => goB (N := 18) Tryz.ntmps131 300 ?_)
  simp only [go_sem]
  refine aenter (around ?_)
  by_cases h1 : a = 0
  · have d1 : (a != 0) = false := by simpa using h1
    refine goB (N := 18) Tryz.ntmps131 300 ?_
    simp only [go_sem, d1]
    refine aagain (around ?_)
    by_cases h2 : b = 0
    · have d2 : (b != 0) = false := by simpa using h2
      refine goB (N := 18) Tryz.ntmps131 300 ?_
      simp only [go_sem, d2]
      refine aagain (around ?_)
      refine goB (N := 18) Tryz.ntmps131 300 ?_
      simp only [go_sem]
      exact aret [2] rfl ⟨by simp [resV, Av.get, Av.put, h1, h2], rfl⟩
    · have d2 : (b != 0) = true := by simpa using h2
      refine goB (N := 18) Tryz.ntmps131 300 ?_
      simp only [go_sem, d2]
      exact aret [2] rfl ⟨by simp [resV, Av.get, Av.put, h1], rfl⟩
  · have d1 : (a != 0) = true := by simpa using h1
    refine goB (N := 18) Tryz.ntmps131 300 ?_
    simp only [go_sem, d1]
    exact aret [2] rfl ⟨by simp [resV, Av.get, Av.put, h1], rfl⟩

/-- strictly sorted by stamps -/
def Srt (l : List De) : Prop := l.Pairwise fun x y => stLt x.st y.st
theorem srt_of {l : List De} (h : ∀ j, (hj : j + 1 < l.length) → stLt l[j].st l[j + 1].st) : Srt l := by
  unfold Srt
  rw [List.pairwise_iff_getElem]
  intro i j hi hj hij
  obtain ⟨k, rfl⟩ : ∃ k, j = i + 1 + k := ⟨j - i - 1, by omega⟩
  clear hij
  induction k with
  | zero => exact h i hj
  | succ k ih => exact stLt_trans (ih (by omega)) (h (i + 1 + k) hj)

/-- what the reference lets pass is right -/
theorem seenO_ok {l : List De} {seen : List St} {own : List UInt8} (h : seenO l seen own = 0) : SeenOk (l.map (·.st)) own seen := by
  have hall : ∀ i < seen.length, seenAt l seen own i = 0 := by
    unfold seenO at h
    cases hf : ((List.range seen.length).map (seenAt l seen own)).find? (fun n => n != 0) with
    | some a =>
      have h1 := List.find?_some hf
      rw [hf] at h
      simp only [Option.getD_some] at h
      rw [h] at h1
      simp at h1
    | none =>
      intro i hi
      rw [List.find?_eq_none] at hf
      have := hf (seenAt l seen own i) (List.mem_map.2 ⟨i, List.mem_range.2 hi, rfl⟩)
      simpa using this
  intro i hi
  have h1 := hall i hi
  unfold seenAt at h1
  unfold seenB
  split at h1
  · cases h1
  rename_i a1
  split at h1
  · cases h1
  rename_i a2
  split at h1
  · cases h1
  rename_i a3
  split at h1
  · cases h1
  rename_i a4
  have b1 : keyL (seen.getD i ⟨[], 0⟩).dept = true := keyO_keyL (by simpa using a1)
  have b2 : ((seen.getD i ⟨[], 0⟩).dept == own) = false := by simpa using a2
  have b4 : seen.getD i ⟨[], 0⟩ ∈ l.map (·.st) := by
    cases hd : deedOfL l (seen.getD i ⟨[], 0⟩) with
    | none => rw [hd] at a4; simp at a4
    | some d =>
      unfold deedOfL at hd
      have h2 := List.find?_some hd
      rw [stB_iff] at h2
      exact List.mem_map.2 ⟨d, List.mem_of_find?_eq_some hd, h2⟩
  rw [b1, b2, decide_eq_true b4]
  by_cases hi0 : i = 0
  · subst hi0; rfl
  · have b3 : (bytesLess (seen.getD i ⟨[], 0⟩).dept (seen.getD (i - 1) ⟨[], 0⟩).dept || (seen.getD i ⟨[], 0⟩).dept == (seen.getD (i - 1) ⟨[], 0⟩).dept) = false := by
      cases hq : (bytesLess (seen.getD i ⟨[], 0⟩).dept (seen.getD (i - 1) ⟨[], 0⟩).dept || (seen.getD i ⟨[], 0⟩).dept == (seen.getD (i - 1) ⟨[], 0⟩).dept) with
      | false => rfl
      | true => exact absurd ⟨by omega, hq⟩ a3
    rw [b3]
    simp
theorem SeenOk.own {ks : List St} {own : List UInt8} {l : List St} (h : SeenOk ks own l) : ∀ s ∈ l, s.dept ≠ own ∧ s ∈ ks ∧ keyL s.dept = true := by
  intro s hs
  obtain ⟨i, hi, rfl⟩ := List.getElem_of_mem hs
  have h1 := h i hi
  have hg : l.getD i ⟨[], 0⟩ = l[i] := by simp [List.getD, hi]
  unfold seenB at h1
  rw [hg] at h1
  simp only [Bool.and_eq_true, Bool.not_eq_true', decide_eq_true_eq, beq_eq_false_iff_ne, ne_eq] at h1
  exact ⟨h1.1.2, h1.2.2, h1.1.1⟩
/-- with a right Seen the two ways to know are one -/
theorem rk_eq {ks : List St} {d : De} (h : SeenOk ks d.st.dept d.seen) (s : St) : rknowsL d s = knowsL d s := by
  unfold rknowsL knowsL
  by_cases e : d.st.dept = s.dept
  · rw [if_pos e]
    have : coversL d.seen s = false := by
      unfold coversL
      rw [List.any_eq_false]
      intro x hx
      have := (h.own x hx).1
      unfold covP
      rw [e] at this
      simp [this]
    rw [this, Bool.or_false]
    simp [e]
  · rw [if_neg e]
    have : (d.st.dept == s.dept) = false := by simpa using e
    rw [this, Bool.false_and, Bool.false_or]

theorem or_seen {a b : Int} (h : (if a ≠ 0 then a else b) = 0) : a = 0 := by split at h <;> omega
theorem or_body {a b : Int} (h : (if a ≠ 0 then a else b) = 0) : b = 0 := by split at h <;> omega
theorem srt_at {l : List De} (h : ∀ j, (hj : j < l.length) → CkAt l j l[j]) : Srt l := srt_of fun j hj => (h (j + 1) hj).order (by omega) _ (by simp)
theorem CkOk.srt {l : List De} (h : CkOk l) : Srt l := srt_at fun j hj => h.at' j _ (List.getElem?_eq_getElem hj)
end Go.Proofs.YtkomcdohejibmaaGreatDoor
/- Comparing deeds. Own work of this seat. -/
set_option maxRecDepth 100000
set_option linter.unusedSimpArgs false
set_option linter.unusedVariables false
namespace Go.Proofs.YtkomcdohejibmaaGreatDoor
open Go Go.Av Go.RowKit

theorem eqSts_pc (a b : List St) (ha : a.length < 1000000) (hb : b.length < 1000000) : Pc Tryz.prog 56 [.fz 2 (a.map stA), .fz 2 (b.map stA)] (· = .bool (decide (a = b))) := by
  by_cases hl : a.length = b.length
  · have d0 : ((a.length : Int) != (b.length : Int)) = false := by simp [hl]
    refine pc_intro (ct_intro Tryz.func56 rfl Tryz.ntmps56 hB56 (by simp) fun h ρ w => goB (N := 26) Tryz.ntmps56 300 ?_)
    simp only [go_sem, d0, List.length_map]
    refine aloop (ι := Nat) (fun i => a.length - i) (fun i => [(13, .int .i64 i), (12, .int .i64 a.length), (1, .fz 2 (b.map stA)), (0, .fz 2 (a.map stA))]) (fun _ => []) (fun i => i ≤ a.length ∧ a.take i = b.take i) 0 (by simp) ?_ ?_
    · refine Shift.weak ?_
      simp only [wk, go_sem]
    · rintro i ⟨g1, g2⟩ J hJ
      by_cases gi : i < a.length
      · have di : decide ((i : Int) < (a.length : Int)) = true := by simp; omega
        have gb : i < b.length := by omega
        have h1 := stA_get a i gi
        have h2 := stA_get b i gb
        cases he : stB a[i] b[i] with
        | true =>
          have he2 := stB_iff.1 he
          have hfin := hJ (i + 1) ⟨by omega, by rw [List.take_succ_eq_append_getElem gi, List.take_succ_eq_append_getElem gb, g2, he2]⟩ (by omega)
          simp only [stB] at he
          refine goB (N := 26) Tryz.ntmps56 300 ?_
          simp only [go_sem, di]
          refine adraw [] mixed (by decide) (N := 26) Tryz.ntmps56 (by decide) 100 ?_
          simp only [go_sem, h1, h2, he, List.length_map]
          repeat refine And.intro (by first | omega | rfl | kernel_rfl | (simp; omega)) ?_
          refine goB (N := 26) Tryz.ntmps56 300 ?_
          simp only [go_sem]
          repeat refine And.intro (by first | omega | (simp; omega)) ?_
          rw [show (i : Int) + 1 = ((i + 1 : Nat) : Int) by omega]
          refine ainv hfin (Shift.weak ?_)
          simp only [wk, go_sem]
        | false =>
          have hab : ¬ a = b := by
            rintro rfl
            rw [stB_iff.2 rfl] at he
            cases he
          simp only [stB] at he
          refine goB (N := 26) Tryz.ntmps56 300 ?_
          simp only [go_sem, di]
          refine adraw [] mixed (by decide) (N := 26) Tryz.ntmps56 (by decide) 100 ?_
          simp only [go_sem, h1, h2, he, List.length_map]
          repeat refine And.intro (by first | omega | rfl | kernel_rfl | (simp; omega)) ?_
          refine goB (N := 26) Tryz.ntmps56 300 ?_
          simp only [go_sem]
          exact aret [4] rfl ⟨by simp [resV, Av.get, Av.put, hab], rfl⟩
      · have di : decide ((i : Int) < (a.length : Int)) = false := by simp; omega
        have : a = b := by
          rw [List.take_of_length_le (by omega), List.take_of_length_le (by omega)] at g2
          exact g2
        subst this
        refine goB (N := 26) Tryz.ntmps56 300 ?_
        simp only [go_sem, di]
        exact aret [4] rfl ⟨by simp [resV, Av.get], rfl⟩
  · have d0 : ((a.length : Int) != (b.length : Int)) = true := by simp; omega
    have hab : ¬ a = b := by
      rintro rfl
      exact hl rfl
    refine pc_intro (ct_intro Tryz.func56 rfl Tryz.ntmps56 hB56 (by simp) fun h ρ w => goB (N := 26) Tryz.ntmps56 300 ?_)
    simp only [go_sem, d0, List.length_map]
    exact aret [4] rfl ⟨by simp [resV, Av.get, Av.put, hab], rfl⟩

def sameP (a b : De) : Bool := stB a.st b.st && (decide (a.seen = b.seen) && (a.kind == b.kind && (a.paper == b.paper && (a.text == b.text && a.person == b.person))))
theorem sameP_iff {a b : De} : sameP a b = true ↔ a = b := by
  obtain ⟨s1, n1, k1, p1, t1, q1⟩ := a
  obtain ⟨s2, n2, k2, p2, t2, q2⟩ := b
  simp [sameP, stB_iff]
set_option maxHeartbeats 4000000 in
theorem sameDeed_pc (a b : De) (ha : a.seen.length < 1000000) (hb : b.seen.length < 1000000) : Pc Tryz.prog 49 [deA a, deA b] (· = .bool (sameP a b)) := by
  have hs := eqSts_pc a.seen b.seen ha hb
  simp only [deA]
  refine pc_intro (ct_intro Tryz.func49 rfl Tryz.ntmps49 hB49 (by simp) fun h ρ w => goB (N := 45) Tryz.ntmps49 300 ?_)
  cases h1 : stB a.st b.st with
  | false =>
    have h1' := h1
    simp only [stB] at h1'
    simp only [go_sem, h1']
    repeat refine And.intro (by first | rfl | kernel_rfl) ?_
    exact aret [4] rfl ⟨by simp [resV, Av.get, Av.put, sameP, h1], rfl⟩
  | true =>
    have h1' := h1
    simp only [stB] at h1'
    simp only [go_sem, h1']
    repeat refine And.intro (by first | rfl | kernel_rfl) ?_
    refine pcall1 (hs) rfl (N := 45) Tryz.ntmps49 rfl (goB (N := 45) Tryz.ntmps49 300 ?_)
    cases h2 : decide (a.seen = b.seen) with
    | false =>
      simp only [go_sem]
      exact aret [4] rfl ⟨by simp [resV, Av.get, Av.put, sameP, h1, h2], rfl⟩
    | true =>
      cases h3 : a.kind == b.kind with
      | false =>
        simp only [go_sem, h3]
        exact aret [4] rfl ⟨by simp [resV, Av.get, Av.put, sameP, h1, h2, h3], rfl⟩
      | true =>
        cases h4 : a.paper == b.paper with
        | false =>
          simp only [go_sem, h3, h4]
          exact aret [4] rfl ⟨by simp [resV, Av.get, Av.put, sameP, h1, h2, h3, h4], rfl⟩
        | true =>
          cases h5 : a.text == b.text with
          | false =>
            simp only [go_sem, h3, h4, h5]
            exact aret [4] rfl ⟨by simp [resV, Av.get, Av.put, sameP, h1, h2, h3, h4, h5], rfl⟩
          | true =>
            cases h6 : a.person == b.person with
            | false =>
              simp only [go_sem, h3, h4, h5, h6]
              exact aret [4] rfl ⟨by simp [resV, Av.get, Av.put, sameP, h1, h2, h3, h4, h5, h6], rfl⟩
            | true =>
              simp only [go_sem, h3, h4, h5, h6]
              exact aret [4] rfl ⟨by simp [resV, Av.get, Av.put, sameP, h1, h2, h3, h4, h5, h6], rfl⟩
set_option maxHeartbeats 4000000 in
theorem same_pc (a b : De) (ha : a.seen.length < 1000000) (hb : b.seen.length < 1000000) : Pc Tryz.prog 44 [deA a, deA b] (· = .bool (sameP a b)) := by
  have hs := eqSts_pc a.seen b.seen ha hb
  simp only [deA]
  refine pc_intro (ct_intro Tryz.func44 rfl Tryz.ntmps44 hB44 (by simp) fun h ρ w => goB (N := 45) Tryz.ntmps44 300 ?_)
  cases h1 : stB a.st b.st with
  | false =>
    have h1' := h1
    simp only [stB] at h1'
    simp only [go_sem, h1']
    repeat refine And.intro (by first | rfl | kernel_rfl) ?_
    exact aret [4] rfl ⟨by simp [resV, Av.get, Av.put, sameP, h1], rfl⟩
  | true =>
    have h1' := h1
    simp only [stB] at h1'
    simp only [go_sem, h1']
    repeat refine And.intro (by first | rfl | kernel_rfl) ?_
    refine pcall1 (hs) rfl (N := 45) Tryz.ntmps44 rfl (goB (N := 45) Tryz.ntmps44 300 ?_)
    cases h2 : decide (a.seen = b.seen) with
    | false =>
      simp only [go_sem]
      exact aret [4] rfl ⟨by simp [resV, Av.get, Av.put, sameP, h1, h2], rfl⟩
    | true =>
      cases h3 : a.kind == b.kind with
      | false =>
        simp only [go_sem, h3]
        exact aret [4] rfl ⟨by simp [resV, Av.get, Av.put, sameP, h1, h2, h3], rfl⟩
      | true =>
        cases h4 : a.paper == b.paper with
        | false =>
          simp only [go_sem, h3, h4]
          exact aret [4] rfl ⟨by simp [resV, Av.get, Av.put, sameP, h1, h2, h3, h4], rfl⟩
        | true =>
          cases h5 : a.text == b.text with
          | false =>
            simp only [go_sem, h3, h4, h5]
            exact aret [4] rfl ⟨by simp [resV, Av.get, Av.put, sameP, h1, h2, h3, h4, h5], rfl⟩
          | true =>
            cases h6 : a.person == b.person with
            | false =>
              simp only [go_sem, h3, h4, h5, h6]
              exact aret [4] rfl ⟨by simp [resV, Av.get, Av.put, sameP, h1, h2, h3, h4, h5, h6], rfl⟩
            | true =>
              simp only [go_sem, h3, h4, h5, h6]
              exact aret [4] rfl ⟨by simp [resV, Av.get, Av.put, sameP, h1, h2, h3, h4, h5, h6], rfl⟩
theorem joinFn_pc (x y : De) : Pc Tryz.prog 77 [deA x, deA y] (· = .int .i64 (stCmp x.st y.st)) := by
  have hs := stampOrder_pc x.st y.st
  simp only [deA, stA] at hs ⊢
  refine pc_intro (ct_intro Tryz.func77 rfl Tryz.ntmps77 hB77 (by simp) fun h ρ w => goB (N := 10) Tryz.ntmps77 300 ?_)
  simp only [go_sem]
  refine pcall1 (hs) rfl (N := 10) Tryz.ntmps77 rfl (goB (N := 10) Tryz.ntmps77 300 ?_)
  simp only [go_sem]
  exact aret [4] rfl ⟨rfl, rfl⟩
theorem eqFuncDe_pc (f : FuncId) (p : De → De → Bool) (hp : ∀ x y, p x y = true ↔ x = y) (a b : List De) (ha : a.length < 1000000) (hb : b.length < 1000000) (hf : ∀ x ∈ a, ∀ y ∈ b, Pc Tryz.prog f [deA x, deA y] (· = .bool (p x y))) :
    Pc Tryz.prog 48 [.fz 7 (a.map deA), .fz 7 (b.map deA), .fn (.func f) []] (· = .bool (decide (a = b))) := by
  by_cases hl : a.length = b.length
  · have d0 : ((a.length : Int) != (b.length : Int)) = false := by simp [hl]
    refine pc_intro (ct_intro Tryz.func48 rfl Tryz.ntmps48 hB48 (by simp) fun h ρ w => goB (N := 32) Tryz.ntmps48 300 ?_)
    simp only [go_sem, d0, List.length_map]
    refine aloop (ι := Nat) (fun i => a.length - i) (fun i => [(17, .int .i64 i), (16, .int .i64 a.length), (15, .fz 7 (a.map deA)), (2, .fn (.func f) []), (1, .fz 7 (b.map deA))]) (fun _ => []) (fun i => i ≤ a.length ∧ a.take i = b.take i) 0 (by simp) ?_ ?_
    · refine Shift.weakS ?_ rfl
      simp only [wk, go_sem]
    · rintro i ⟨g1, g2⟩ J hJ
      by_cases gi : i < a.length
      · have di : decide ((i : Int) < (a.length : Int)) = true := by simp; omega
        have gb : i < b.length := by omega
        have h1 := deA_get a i gi
        have h2 := deA_get b i gb
        have hfx := hf a[i] (List.getElem_mem gi) b[i] (List.getElem_mem gb)
        simp only [deA] at hfx
        refine goB (N := 32) Tryz.ntmps48 300 ?_
        simp only [go_sem, di, h1, h2, List.length_map]
        repeat refine And.intro (by first | omega | rfl | kernel_rfl | (simp; omega)) ?_
        refine pcall1 (hfx) rfl (N := 32) Tryz.ntmps48 rfl (goB (N := 32) Tryz.ntmps48 300 ?_)
        cases he : p a[i] b[i] with
        | true =>
          have he2 := (hp _ _).1 he
          have hfin := hJ (i + 1) ⟨by omega, by rw [List.take_succ_eq_append_getElem gi, List.take_succ_eq_append_getElem gb, g2, he2]⟩ (by omega)
          simp only [go_sem]
          repeat refine And.intro (by first | omega | (simp; omega)) ?_
          rw [show (i : Int) + 1 = ((i + 1 : Nat) : Int) by omega]
          refine ainv hfin (Shift.low 0 (by simp) (by simp) rfl ?_)
          simp only [wkl, lowV, lowC, Av.get, go_sem]
        | false =>
          have hab : ¬ a = b := by
            rintro rfl
            rw [(hp _ _).2 rfl] at he
            cases he
          simp only [go_sem]
          refine ARet.shift (Shift.low 0 (e' := [(6, .bool false)]) (by simp) (by simp) rfl ?_) (aret [6] rfl ⟨by simp [resV, Av.get, Av.put, hab], rfl⟩)
          simp only [wkl, lowV, lowC, Av.get, go_sem]
      · have di : decide ((i : Int) < (a.length : Int)) = false := by simp; omega
        have : a = b := by
          rw [List.take_of_length_le (by omega), List.take_of_length_le (by omega)] at g2
          exact g2
        subst this
        refine goB (N := 32) Tryz.ntmps48 300 ?_
        simp only [go_sem, di]
        exact aret [6] rfl ⟨by simp [resV, Av.get], rfl⟩
  · have d0 : ((a.length : Int) != (b.length : Int)) = true := by simp; omega
    have hab : ¬ a = b := by
      rintro rfl
      exact hl rfl
    refine pc_intro (ct_intro Tryz.func48 rfl Tryz.ntmps48 hB48 (by simp) fun h ρ w => goB (N := 32) Tryz.ntmps48 300 ?_)
    simp only [go_sem, d0, List.length_map]
    exact aret [6] rfl ⟨by simp [resV, Av.get, Av.put, hab], rfl⟩
theorem sameDeeds_pc (a b : List De) (ha : Sz a) (hb : Sz b) : Pc Tryz.prog 12 [.fz 7 (a.map deA), .fz 7 (b.map deA)] (· = .bool (decide (a = b))) := by
  have hf := eqFuncDe_pc 49 sameP (fun x y => sameP_iff) a b ha.1 hb.1 fun x hx y hy => sameDeed_pc x y (ha.2 x hx) (hb.2 y hy)
  refine pc_intro (ct_intro Tryz.func12 rfl Tryz.ntmps12 hB12 (by simp) fun h ρ w => goB (N := 8) Tryz.ntmps12 300 ?_)
  simp only [go_sem]
  refine pcall1 (hf) rfl (N := 8) Tryz.ntmps12 rfl (goB (N := 8) Tryz.ntmps12 300 ?_)
  simp only [go_sem]
  exact aret [4] rfl ⟨rfl, rfl⟩
end Go.Proofs.YtkomcdohejibmaaGreatDoor
/- Statements whose order is open, in which an address may be found before or after a store. Own work of this seat. -/
set_option linter.unusedSimpArgs false
set_option linter.unusedVariables false
set_option linter.unusedSectionVars false
namespace Go.Av
open Go Go.RowKit
variable [Tr]

/-- the same sizes -/
def likeB : Blk → Blk → Prop
  | .arr e l, .arr e' l' => e = e' ∧ l.length = l'.length
  | .arr _ _, _ => False
  | _, .arr _ _ => False
  | _, _ => True
def Like (s s' : List Blk) : Prop := ∀ id, likeB (s.getD id .dead) (s'.getD id .dead)
theorem likeB_refl : ∀ b, likeB b b
  | .arr _ _ => ⟨rfl, rfl⟩
  | .mp _ => trivial
  | .it .. => trivial
  | .dead => trivial
theorem likeB_symm : ∀ {a b}, likeB a b → likeB b a := by
  intro a b h
  cases a <;> cases b <;> first | exact ⟨h.1.symm, h.2.symm⟩ | exact trivial | exact h.elim
theorem Like.symm {s s' : List Blk} (h : Like s s') : Like s' s := fun id => likeB_symm (h id)

/-- operations that look at sizes alone -/
def lenOp : Op → Bool
  | .indexAddr .. | .fieldAddr .. => true
  | .binOp .add .. | .binOp .sub .. => true
  | _ => false
def isSto : Op → Bool
  | .store .. => true
  | _ => false
theorem lenOp_calm {op : Op} (h : lenOp op = true) : calm op = true := by
  cases op <;> first | rfl | (exfalso; revert h; simp [lenOp]; done)

theorem xptrAddIf_like {p : Prop} {s s' : List Blk} (h : Like s s') (x : AV) (k : Nat) : xptrAddIf p s x k = xptrAddIf p s' x k := by
  unfold xptrAddIf
  split <;> try rfl
  rename_i id n j off
  have := h id
  cases h1 : s.getD id .dead <;> cases h2 : s'.getD id .dead <;> rw [h1, h2] at this <;> first | rfl | exact this.elim | skip
  obtain ⟨rfl, e⟩ := this
  simp only [e]
theorem xop_like {P : Program} {e : Env} {s s' : List Blk} (h : Like s s') {op : Op} (ho : lenOp op = true) : xop false true P e s op = xop false true P e s' op := by
  cases op <;> try (exfalso; revert ho; simp [lenOp]; done)
  · rename_i b t x y t2
    cases b <;> try (exfalso; revert ho; simp [lenOp]; done)
    all_goals
      simp only [xop, xbin3]
      split
      · rfl
      · unfold xbin2
        split <;> rfl
  · rename_i t x f
    simp only [xop, xfieldAddr]
    split
    · exact xptrAddIf_like h _ _
    · rfl
  · rename_i t x i
    simp only [xop]
    generalize ev e x = xv
    generalize ev e i = iv
    generalize P.underlying t = td
    unfold xindexAddr
    split
    · exact xptrAddIf_like h _ _
    · cases xv <;> try rfl
      rename_i id off len cap
      have := h id
      simp only
      cases h1 : s.getD id .dead <;> cases h2 : s'.getD id .dead <;> rw [h1, h2] at this <;> first | rfl | exact this.elim | skip
      obtain ⟨rfl, he⟩ := this
      simp only [he]
    · rfl
theorem like_set {s : List Blk} {id e : Nat} {l l' : List AV} (h : s.getD id .dead = .arr e l) (hl : l.length = l'.length) : Like s (s.set id (.arr e l')) := by
  intro k
  by_cases hk : k = id
  · subst hk
    have : k < s.length := by
      rcases Nat.lt_or_ge k s.length with h3 | h3
      · exact h3
      · simp [List.getD, List.getElem?_eq_none h3] at h
    have e2 : (s.set k (.arr e l')).getD k .dead = .arr e l' := by simp [List.getD, this]
    rw [h, e2]
    exact ⟨rfl, hl⟩
  · have e2 : (s.set id (.arr e l')).getD k .dead = s.getD k .dead := by
      simp only [List.getD, List.getElem?_set_ne (Ne.symm hk)]
    rw [e2]
    exact likeB_refl _
theorem store_like {c : Cx} {ops : Array Oper} {s s1 : List Blk} {o : Oper} {cv v : AV} {e : Env} (ho : isSto o.op = true) (h : Does c ops s o cv e v s1) : Like s s1 := by
  have hd : DoesOp c s o cv e v s1 → Like s s1 := by
    intro h
    unfold DoesOp at h
    cases hop : o.op <;> rw [hop] at ho h <;> try (exfalso; revert ho; simp [isSto]; done)
    rename_i t x u
    simp only [xop] at h
    generalize ev e x = xv at h
    generalize cellsOf (ev e u) = vs at h
    have hx : ∀ q, xstore (tsize c.P t) s xv (ev e u) = q → (∃ p w s3, q = .sto p w s3 ∧ Like s s3) ∨ q = .stuck := by
      intro q hq
      subst hq
      cases xv <;> try exact .inr rfl
      rename_i id n j off
      simp only [xstore]
      cases hb : s.getD id .dead with
      | arr e' l => exact .inl ⟨_, _, _, rfl, like_set hb (by simp)⟩
      | mp es => exact .inr rfl
      | it a b c => exact .inr rfl
      | dead => exact .inr rfl
    rcases hx _ rfl with ⟨p, w, s3, e1, e2⟩ | e1
    · rw [e1] at h
      simp only at h
      rw [h.2.2.2]
      exact e2
    · rw [e1] at h
      exact h.elim
  unfold Does at h
  split at h
  · exact hd h
  · split at h
    · rcases h with ⟨_, h⟩ | ⟨_, _, rfl⟩
      · exact hd h
      · exact fun _ => likeB_refl _
    · exact h.elim
theorem DoesOp.like {c : Cx} {s s' s2 : List Blk} {o : Oper} {cv v : AV} {e : Env} (hc : lenOp o.op = true) (hl : Like s s2) (h : DoesOp c s o cv e v s') : DoesOp c s2 o cv e v s2 := by
  have hcc := lenOp_calm hc
  unfold DoesOp at h ⊢
  rw [xop_like hl hc] at h
  split at h <;> rename_i hq
  · exact ⟨h.1, rfl⟩
  · exact ⟨h.1, h.2.1, rfl⟩
  · rw [hcc] at h; cases h.1
  · exact ⟨h.1, rfl⟩
  · exact ⟨h.1, h.2.1, h.2.2.1, rfl⟩
  · exact h.elim
theorem Does.like {c : Cx} {ops : Array Oper} {s s' s2 : List Blk} {o : Oper} {cv v : AV} {e : Env} (hc : lenOp o.op = true) (hl : Like s s2) (h : Does c ops s o cv e v s') : Does c ops s2 o cv e v s2 := by
  unfold Does at h ⊢
  split at h
  · exact h.like hc hl
  · split at h
    · rcases h with ⟨h1, h⟩ | ⟨h1, h2, h⟩
      · exact .inl ⟨h1, h.like hc hl⟩
      · exact .inr ⟨h1, h2, rfl⟩
    · exact h.elim

/-- may i pass the earlier j? -/
def swp (x y : Oper) : Bool := lenOp x.op && isSto y.op || isSto x.op && lenOp y.op
def okSw (ops : List Oper) (j i : Nat) : Bool := match ops[j]?, ops[i]? with
  | some oj, some oi => oj.apart ops.toArray oi && (together oj oi || swp oj oi)
  | _, _ => false

section
variable {cx : Cx} {ops : Array Oper} {s : List Blk} {K : Env → List Blk → Prop}
theorem Chain.swapS {opl : List Oper} (hops : ops = opl.toArray) (hK : ∀ e e' s, Eqv e e' → K e s → K e' s) {i j : Nat} {r : List Nat} (hok : okSw opl j i = true) {e : Env} {s : List Blk} (c : Chain cx ops K (j :: i :: r) e s) :
    Chain cx ops K (i :: j :: r) e s := by
  unfold okSw at hok
  split at hok
  rotate_left
  · cases hok
  rename_i oj oi hj' hi'
  have hj : ops[j]? = some oj := by rw [hops]; simpa using hj'
  have hi : ops[i]? = some oi := by rw [hops]; simpa using hi'
  simp only [Bool.and_eq_true, Bool.or_eq_true] at hok
  obtain ⟨ha, hok⟩ := hok
  rw [← hops] at ha
  rcases hok with hok | hok
  · exact Chain.swap hK hj hi ha hok c
  obtain ⟨a1, a2, a3⟩ := Oper.apart_spec ha
  simp only [Chain, hj, hi] at c ⊢
  obtain ⟨cv, v, s1, h1, cu, u, s2, h2, h3⟩ := c
  have h2' : Does cx ops s1 oi cu e u s2 := h2.agree fun t ht => by
    rw [get_put, if_neg]; intro h; exact a1 t h ht
  have h1' : ∀ {z z'}, Does cx ops z oj cv e v z' → Does cx ops z oj cv (put e oi.dst u) v z' := fun hd => hd.agree fun t ht => by
    rw [get_put, if_neg]; intro h; exact a3 t h ht
  have h3' := Chain.congr hK (put_swap a2) h3
  simp only [swp, Bool.or_eq_true, Bool.and_eq_true] at hok
  rcases hok with ⟨c1, c2⟩ | ⟨c1, c2⟩
  · have e1 := h1.calm (lenOp_calm c1)
    subst e1
    exact ⟨cu, u, _, h2', cv, v, _, h1' (h1.like c1 (store_like c2 h2')), h3'⟩
  · have e2 := h2.calm (lenOp_calm c2)
    subst e2
    exact ⟨cu, u, _, h2'.like c2 (store_like c1 h1).symm, cv, v, _, h1' h1, h3'⟩
theorem Chain.frontS {opl : List Oper} (hops : ops = opl.toArray) (hK : ∀ e e' s, Eqv e e' → K e s → K e' s) {i : Nat} {r : List Nat} : ∀ {l : List Nat} {e : Env} {s : List Blk}, (∀ j ∈ l, okSw opl j i = true) →
    Chain cx ops K (l ++ i :: r) e s → Chain cx ops K (i :: (l ++ r)) e s
  | [], _, _, _, c => c
  | j :: l, e, s, h, c => by
    refine Chain.swapS hops hK (h j (by simp)) ?_
    simp only [List.cons_append, Chain] at c ⊢
    split at c
    · rename_i o ho
      obtain ⟨cv, v, s', h1, h2⟩ := c
      exact ⟨cv, v, s', h1, Chain.frontS hops hK (fun k hk => h k (by simp [hk])) h2⟩
    · exact c.elim
end

section
variable {c : Cx} {k : List It} {e : Env} {s : List Blk}
/-- A STATEMENT WHOSE ORDER IS OPEN, addresses and stores among it: 'cs' are the results of its calls, in the text's order. -/
theorem adrawS (cs : List AV) {id : Nat} {ops : List Oper} (hm : c.P.follows .mixedOrders = true) (hok : drawOkG (okSw ops) ops = true) {N : Nat} (hN : c.fn.ntmps = N) (hdst : ops.all (fun o => dOk N o.dst) = true) (n : Nat)
    (h : dx c ops k n ops cs e s) : AWp c (.code (.region id ops.toArray true) :: k) e s := by
  intro a w hsim
  have hch := chain_of_dx (m := 0) (by intro j; simp) h
  rw [← List.range_eq_range'] at hch
  refine wp_region_any hm ?_
  have hsim' : Sim c e s a { w with drawn := w.drawn + 1 } := by
    obtain ⟨hh, ρ, hmm, hl, he, hdf, hsz, hX⟩ := hsim
    have sm : Same w { w with drawn := w.drawn + 1 } := Same.drew w
    exact ⟨hh, ρ, hmm.same sm, hl.trans (Later.same sm), he, hdf, hsz, c.hx.later hmm (Later.same sm) hX⟩
  have hd : ∀ o ∈ ops, dOk c.fn.ntmps o.dst = true := fun o ho => by rw [hN]; exact (List.all_eq_true.1 hdst) o ho
  refine any_of_gen (okp := okSw ops) (Chain c ops.toArray (fun e s => AWp c k e s)) hok (fun e s x => x) (fun l i r e s hj x => Chain.frontS rfl AWp.K hj x)
    (fun i o r e s a w Kc ho x hs hK => ?_)
    ops.length (Array.replicate ops.length false) (List.range ops.length) e s a _ (by simp) ?_ (by simp) ?_ hch hsim'
  · have ho' : ops.toArray[i]? = some o := by simpa using ho
    simp only [Chain, ho'] at x
    obtain ⟨cv, v, s', h1, h2⟩ := x
    exact does_wp hs (hd o (List.mem_of_getElem? ho)) h1 fun a w hs' => hK _ _ a w h2 hs'
  · symm
    rw [List.filter_eq_self]
    intro i hi
    simp at hi
    simp [hi]
  · intro i hi j hj
    exfalso
    by_cases h1 : i < ops.length
    · simp [h1] at hi
    · unfold waits at hj
      have : ops[i]? = none := by simp; omega
      simp [this] at hj
end
end Go.Av
/- Parts of SortStableFunc at deeds: only that what is there is put in another order. Own work of this seat. -/
set_option maxRecDepth 100000
set_option linter.unusedSimpArgs false
set_option linter.unusedVariables false
namespace Go.Proofs.YtkomcdohejibmaaGreatDoor
open Go Go.Av Go.RowKit

theorem set_deA (l : List De) (i : Nat) (x : De) : (l.map deA).set i (.agg [.str x.st.dept, .int .i64 x.st.no, .fz 2 (x.seen.map stA), .int .i64 x.kind, .str x.paper, .str x.text, .str x.person]) = (l.set i x).map deA := by
  rw [List.map_set]; rfl
theorem swap_perm {q l : List De} (hq : q.Perm l) {i j : Nat} (h1 : i < q.length) (h2 : j < q.length) : ((q.set i q[j]).set j q[i]).Perm l := (List.set_set_perm h1 h2).trans hq

end Go.Proofs.YtkomcdohejibmaaGreatDoor
/- symMerge at deeds: only that what is there is put in another order. Own work of this seat. -/
set_option maxRecDepth 100000
set_option linter.unusedSimpArgs false
set_option linter.unusedVariables false
namespace Go.Proofs.YtkomcdohejibmaaGreatDoor
open Go Go.Av Go.RowKit

theorem wrap64 {n : Int} (h0 : 0 ≤ n) (h1 : n < 9223372036854775808) : IntKind.u64.wrap n = n := by
  simp [IntKind.wrap, IntKind.bits, IntKind.signed]; omega
end Go.Proofs.YtkomcdohejibmaaGreatDoor
/- symMerge at deeds, whole; SortStableFunc. Own work of this seat. -/
set_option maxRecDepth 100000
set_option linter.unusedSimpArgs false
set_option linter.unusedVariables false
namespace Go.Proofs.YtkomcdohejibmaaGreatDoor
open Go Go.Av Go.RowKit

end Go.Proofs.YtkomcdohejibmaaGreatDoor
/- SortStableFunc at deeds: what is there is put in another order. Own work of this seat. -/
set_option maxRecDepth 100000
set_option linter.unusedSimpArgs false
set_option linter.unusedVariables false
namespace Go.Proofs.YtkomcdohejibmaaGreatDoor
open Go Go.Av Go.RowKit

end Go.Proofs.YtkomcdohejibmaaGreatDoor
