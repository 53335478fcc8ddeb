/- The reference's DeedsFault: no error, then the deeds are right. Own work of this seat. -/
import Derived.Test.YtkomcdohejibmaaGreatDoorS28
import Derived.Test.YtkomcdohejibmaaGreatDoorS29
import Derived.Test.YtkomcdohejibmaaGreatDoorS23
set_option maxRecDepth 100000
set_option linter.unusedSimpArgs false
set_option linter.unusedVariables false
namespace Go.Proofs.YtkomcdohejibmaaGreatDoor
open Go Go.Av Go.RowKit

theorem orE_pc (a b : Int) : Pc Tryz.prog 131 [.fz 1 [.int .i64 a, .int .i64 b]] (· = .int .i64 (if a ≠ 0 then a else b)) := by
  refine pc_intro (ct_intro Tryz.func131 rfl Tryz.ntmps131 hB131 (by simp) fun h ρ w => goB (N := 18) Tryz.ntmps131 300 ?_)
  simp only [go_sem]
  refine aenter (around ?_)
  by_cases h1 : a = 0
  · have d1 : (a != 0) = false := by simpa using h1
    refine goB (N := 18) Tryz.ntmps131 300 ?_
    simp only [go_sem, d1]
    refine aagain (around ?_)
    by_cases h2 : b = 0
    · have d2 : (b != 0) = false := by simpa using h2
      refine goB (N := 18) Tryz.ntmps131 300 ?_
      simp only [go_sem, d2]
      refine aagain (around ?_)
      refine goB (N := 18) Tryz.ntmps131 300 ?_
      simp only [go_sem]
      exact aret [2] rfl ⟨by simp [resV, Av.get, Av.put, h1, h2], rfl⟩
    · have d2 : (b != 0) = true := by simpa using h2
      refine goB (N := 18) Tryz.ntmps131 300 ?_
      simp only [go_sem, d2]
      exact aret [2] rfl ⟨by simp [resV, Av.get, Av.put, h1], rfl⟩
  · have d1 : (a != 0) = true := by simpa using h1
    refine goB (N := 18) Tryz.ntmps131 300 ?_
    simp only [go_sem, d1]
    exact aret [2] rfl ⟨by simp [resV, Av.get, Av.put, h1], rfl⟩

/-- strictly sorted by stamps -/
def Srt (l : List De) : Prop := l.Pairwise fun x y => stLt x.st y.st
theorem srt_of {l : List De} (h : ∀ j, (hj : j + 1 < l.length) → stLt l[j].st l[j + 1].st) : Srt l := by
  unfold Srt
  rw [List.pairwise_iff_getElem]
  intro i j hi hj hij
  obtain ⟨k, rfl⟩ : ∃ k, j = i + 1 + k := ⟨j - i - 1, by omega⟩
  clear hij
  induction k with
  | zero => exact h i hj
  | succ k ih => exact stLt_trans (ih (by omega)) (h (i + 1 + k) hj)

/-- what the reference lets pass is right -/
theorem seenO_ok {l : List De} {seen : List St} {own : List UInt8} (h : seenO l seen own = 0) : SeenOk (l.map (·.st)) own seen := by
  have hall : ∀ i < seen.length, seenAt l seen own i = 0 := by
    unfold seenO at h
    cases hf : ((List.range seen.length).map (seenAt l seen own)).find? (fun n => n != 0) with
    | some a =>
      have h1 := List.find?_some hf
      rw [hf] at h
      simp only [Option.getD_some] at h
      rw [h] at h1
      simp at h1
    | none =>
      intro i hi
      rw [List.find?_eq_none] at hf
      have := hf (seenAt l seen own i) (List.mem_map.2 ⟨i, List.mem_range.2 hi, rfl⟩)
      simpa using this
  intro i hi
  have h1 := hall i hi
  unfold seenAt at h1
  unfold seenB
  split at h1
  · cases h1
  rename_i a1
  split at h1
  · cases h1
  rename_i a2
  split at h1
  · cases h1
  rename_i a3
  split at h1
  · cases h1
  rename_i a4
  have b1 : keyL (seen.getD i ⟨[], 0⟩).dept = true := keyO_keyL (by simpa using a1)
  have b2 : ((seen.getD i ⟨[], 0⟩).dept == own) = false := by simpa using a2
  have b4 : seen.getD i ⟨[], 0⟩ ∈ l.map (·.st) := by
    cases hd : deedOfL l (seen.getD i ⟨[], 0⟩) with
    | none => rw [hd] at a4; simp at a4
    | some d =>
      unfold deedOfL at hd
      have h2 := List.find?_some hd
      rw [stB_iff] at h2
      exact List.mem_map.2 ⟨d, List.mem_of_find?_eq_some hd, h2⟩
  rw [b1, b2, decide_eq_true b4]
  by_cases hi0 : i = 0
  · subst hi0; rfl
  · have b3 : (bytesLess (seen.getD i ⟨[], 0⟩).dept (seen.getD (i - 1) ⟨[], 0⟩).dept || (seen.getD i ⟨[], 0⟩).dept == (seen.getD (i - 1) ⟨[], 0⟩).dept) = false := by
      cases hq : (bytesLess (seen.getD i ⟨[], 0⟩).dept (seen.getD (i - 1) ⟨[], 0⟩).dept || (seen.getD i ⟨[], 0⟩).dept == (seen.getD (i - 1) ⟨[], 0⟩).dept) with
      | false => rfl
      | true => exact absurd ⟨by omega, hq⟩ a3
    rw [b3]
    simp
theorem SeenOk.own {ks : List St} {own : List UInt8} {l : List St} (h : SeenOk ks own l) : ∀ s ∈ l, s.dept ≠ own ∧ s ∈ ks ∧ keyL s.dept = true := by
  intro s hs
  obtain ⟨i, hi, rfl⟩ := List.getElem_of_mem hs
  have h1 := h i hi
  have hg : l.getD i ⟨[], 0⟩ = l[i] := by simp [List.getD, hi]
  unfold seenB at h1
  rw [hg] at h1
  simp only [Bool.and_eq_true, Bool.not_eq_true', decide_eq_true_eq, beq_eq_false_iff_ne, ne_eq] at h1
  exact ⟨h1.1.2, h1.2.2, h1.1.1⟩
/-- with a right Seen the two ways to know are one -/
theorem rk_eq {ks : List St} {d : De} (h : SeenOk ks d.st.dept d.seen) (s : St) : rknowsL d s = knowsL d s := by
  unfold rknowsL knowsL
  by_cases e : d.st.dept = s.dept
  · rw [if_pos e]
    have : coversL d.seen s = false := by
      unfold coversL
      rw [List.any_eq_false]
      intro x hx
      have := (h.own x hx).1
      unfold covP
      rw [e] at this
      simp [this]
    rw [this, Bool.or_false]
    simp [e]
  · rw [if_neg e]
    have : (d.st.dept == s.dept) = false := by simpa using e
    rw [this, Bool.false_and, Bool.false_or]

theorem or_seen {a b : Int} (h : (if a ≠ 0 then a else b) = 0) : a = 0 := by split at h <;> omega
theorem or_body {a b : Int} (h : (if a ≠ 0 then a else b) = 0) : b = 0 := by split at h <;> omega
theorem srt_at {l : List De} (h : ∀ j, (hj : j < l.length) → CkAt l j l[j]) : Srt l := srt_of fun j hj => (h (j + 1) hj).order (by omega) _ (by simp)
theorem CkOk.srt {l : List De} (h : CkOk l) : Srt l := srt_at fun j hj => h.at' j _ (List.getElem?_eq_getElem hj)
set_option maxHeartbeats 8000000 in
theorem fault_pch {S : Std} (hS : LibD S) (l : List De) (hl : SzL l) : PcH Tryz.prog S 75 [.fz 7 (l.map deA)] (fun r => ∃ n : Int, r = .int .i64 n ∧ (n = 0 → CkOk l)) := by
  have hsz := hl.sz
  have hlen := hl.len
  by_cases hbig : l.length > 500
  · have d1 : decide ((l.length : Int) > 500) = true := by simp; omega
    refine pch_intro (cth_intro Tryz.func75 rfl Tryz.ntmps75 hB75 (by simp) fun h ρ w hg => goB (N := 117) Tryz.ntmps75 300 ?_)
    simp only [go_sem, d1, List.length_map]
    exact aret [2] rfl ⟨⟨2, rfl, fun h => absurd h (by decide)⟩, rfl⟩
  have d1 : decide ((l.length : Int) > 500) = false := by simp; omega
  refine pch_intro (cth_intro Tryz.func75 rfl Tryz.ntmps75 hB75 (by simp) fun h ρ w hg => goB (N := 117) Tryz.ntmps75 300 ?_)
  simp only [go_sem, d1, List.length_map]
  refine aloop (ι := Nat) (fun y => l.length - y)
    (fun y => [(20, .int .i64 y), (19, .int .i64 l.length), (18, .fz 7 (l.map deA)), (0, .fz 7 (l.map deA))])
    (fun y => []) (fun y => y ≤ l.length ∧ ∀ j, (hj : j < l.length) → j < y → CkAt l j l[j]) 0 ⟨by simp, fun j _ h => absurd h (by omega)⟩ ?_ ?_
  · refine Shift.weakS ?_ rfl
    simp only [wk, go_sem, List.length_map]
  · rintro i ⟨g1, ga⟩ J hJ
    by_cases gi : i < l.length
    · have di : decide ((i : Int) < (l.length : Int)) = true := by simp; omega
      have hszd : SzD l[i] := hl.all _ (List.getElem_mem gi)
      have hfin : CkAt l i l[i] → ∀ a w, Sim _ _ _ a w → J a w := fun hc => hJ (i + 1) ⟨by omega, fun j hj h => by
        rcases Nat.lt_or_ge j i with h2 | h2
        · exact ga j hj h2
        · have : i = j := by omega
          subst this
          exact hc⟩ (by omega)
      have hki := keyOf_pc l[i].st.dept hszd.dept
      have hso := fun h : 0 < i => stampOrder_pc (l[i - 1]'(by omega)).st l[i].st
      have hse := seenFault_pc l l[i].seen l[i].st.dept (by omega) hszd.seen hszd.keys
      have hct := content_pch hS l[i] hszd.paper hszd.text hszd.person
      simp only [stA] at hso
      simp only [deA] at hct
      refine goB (N := 117) Tryz.ntmps75 300 ?_
      simp only [go_sem, di, deA_get l i gi, List.length_map]
      repeat refine And.intro (by first | omega | rfl | (simp; omega)) ?_
      have htl : (List.take i (List.map deA l)).length = i := by simp; omega
      rw [htl, ← List.map_take]
      refine aloop (ι := Nat × Int) (fun y => i - y.1)
        (fun y => [(29, .int .i64 y.1), (28, .int .i64 i), (27, .fz 7 ((l.take i).map deA)), (20, .int .i64 i), (19, .int .i64 l.length), (18, .fz 7 (l.map deA)), (5, .int .i64 y.2), (3, .int .i64 i), (4, .ptr 0 1 0 0), (0, .fz 7 (l.map deA))])
        (fun y => [.arr 7 [.agg [.str l[i].st.dept, .int .i64 l[i].st.no, .fz 2 (l[i].seen.map stA), .int .i64 l[i].kind, .str l[i].paper, .str l[i].text, .str l[i].person]]]) (fun y => y.1 ≤ i ∧ y.2 = (cnt (l.take y.1) l[i].st.dept : Int)) (0, 0) ⟨by simp, by simp [cnt]⟩ ?_ ?_
      · refine Shift.weak ?_
        simp only [wk, go_sem, List.length_map]
      · rintro ⟨j, m⟩ ⟨gj, gm⟩ K hK
        simp only at gj gm hK ⊢
        have gm2 : cnt (l.take j) l[i].st.dept ≤ j := Nat.le_trans List.countP_le_length (by simp; omega)
        by_cases hji : j < i
        · have dj : decide ((j : Int) < (i : Int)) = true := by simp; omega
          have hjl : j < (l.take i).length := by simp; omega
          have htk : (l.take i)[j] = l[j]'(by omega) := by simp
          have hgj := deA_get (l.take i) j hjl
          rw [htk] at hgj
          have hle : (List.map deA (List.take i l)).length = i := by simp; omega
          refine goB (N := 117) Tryz.ntmps75 300 ?_
          cases e1 : (l[j]'(by omega)).st.dept == l[i].st.dept with
          | true =>
            simp only [go_sem, dj, hgj, hle, e1]
            repeat refine And.intro (by first | omega | rfl | exact .inl rfl | exact .inl trivial | (simp; done) | (simp; omega)) ?_
            rw [show (j : Int) + 1 = ((j + 1 : Nat) : Int) by omega]
            have hf := hK (j + 1, m + 1) ⟨by show j + 1 ≤ i; omega, by
              have h1 := cnt_step l j (by omega) l[i].st.dept
              rw [if_pos (by simpa using e1)] at h1
              show m + 1 = _
              simp only [h1]
              omega⟩ (by show i - (j + 1) < i - j; omega)
            refine ainv hf (Shift.low 1 (by simp) (by simp) ?_ ?_)
            · exact (Bool.and_true _).trans (low_de 1 l[i])
            · simp only [wkl, lowV, lowC, Av.get, go_sem]
          | false =>
            simp only [go_sem, dj, hgj, hle, e1]
            repeat refine And.intro (by first | omega | rfl | exact .inl rfl | exact .inl trivial | (simp; done) | (simp; omega)) ?_
            rw [show (j : Int) + 1 = ((j + 1 : Nat) : Int) by omega]
            have hf := hK (j + 1, m) ⟨by show j + 1 ≤ i; omega, by
              have h1 := cnt_step l j (by omega) l[i].st.dept
              rw [if_neg (by simpa using e1)] at h1
              show m = _
              simp only [h1]
              omega⟩ (by show i - (j + 1) < i - j; omega)
            refine ainv hf (Shift.low 1 (by simp) (by simp) ?_ ?_)
            · exact (Bool.and_true _).trans (low_de 1 l[i])
            · simp only [wkl, lowV, lowC, Av.get, go_sem]
        · have dj : decide ((j : Int) < (i : Int)) = false := by simp; omega
          have hji2 : j = i := by omega
          refine goB (N := 117) Tryz.ntmps75 300 ?_
          simp only [go_sem, dj]
          clear hK K
          refine pcall1 (hki) rfl (N := 117) Tryz.ntmps75 rfl (goB (N := 117) Tryz.ntmps75 300 ?_)
          cases hk1 : keyO l[i].st.dept with
          | false =>
            simp only [go_sem]
            refine ARet.shift (Shift.low 0 (e' := [(2, .int .i64 5)]) (by simp) (by simp) rfl ?_) (aret [2] rfl ⟨⟨5, rfl, fun h => absurd h (by decide)⟩, rfl⟩)
            simp only [wkl, lowV, lowC, Av.get, go_sem]
          | true =>
            by_cases hi0 : i = 0
            · have e0 : decide ((i : Int) > 0) = false := by simp; omega
              simp only [go_sem]
              refine adraw [.any] mixed (by decide) (N := 117) Tryz.ntmps75 (by decide) 100 ?_
              simp only [go_sem, e0]
              repeat refine And.intro (by first | omega | rfl | (simp; omega)) ?_
              refine goB (N := 117) Tryz.ntmps75 300 ?_
              cases e3 : l[i].st.no != m + 1 with
              | true =>
                simp only [go_sem, e3]
                repeat refine And.intro (by first | omega | rfl | (simp; done)) ?_
                refine ARet.shift (Shift.low 0 (e' := [(2, .int .i64 1)]) (by simp) (by simp) rfl ?_) (aret [2] rfl ⟨⟨1, rfl, fun h => absurd h (by decide)⟩, rfl⟩)
                simp only [wkl, lowV, lowC, Av.get, go_sem]
              | false =>
                simp only [go_sem, e3]
                repeat refine And.intro (by first | omega | rfl | (simp; done)) ?_
                refine adraw [.int .i64 (seenO l l[i].seen l[i].st.dept), .int .i64 (contentL l[i].kind l[i].paper l[i].text l[i].person), .int .i64 (if seenO l l[i].seen l[i].st.dept ≠ 0 then seenO l l[i].seen l[i].st.dept else contentL l[i].kind l[i].paper l[i].text l[i].person)] mixed (by decide) (N := 117) Tryz.ntmps75 (by decide) 100 ?_
                simp only [go_sem]
                repeat refine And.intro (by first | exact hse.at | exact hct.at hg | exact (orE_pc _ _).at | omega | rfl | (simp; done)) ?_
                generalize hnn : (if seenO l l[i].seen l[i].st.dept ≠ 0 then seenO l l[i].seen l[i].st.dept else contentL l[i].kind l[i].paper l[i].text l[i].person) = n
                cases e4 : n != 0 with
                | true =>
                  refine goB (N := 117) Tryz.ntmps75 300 ?_
                  simp only [go_sem, e4]
                  refine ARet.shift (Shift.low 0 (e' := [(2, .int .i64 n)]) (by simp) (by simp) rfl ?_) (aret [2] rfl ⟨⟨n, rfl, fun h => absurd h (by simpa using e4)⟩, rfl⟩)
                  simp only [wkl, lowV, lowC, Av.get, go_sem]
                | false =>
                  refine goB (N := 117) Tryz.ntmps75 300 ?_
                  simp only [go_sem, e4]
                  repeat refine And.intro (by first | omega | rfl | (simp; done)) ?_
                  rw [show (i : Int) + 1 = ((i + 1 : Nat) : Int) by omega]
                  have hn0 : n = 0 := by simpa using e4
                  rw [hn0] at hnn
                  have hf := hfin ⟨keyO_keyL hk1, fun h => absurd h (by omega), by
                    have : l[i].st.no = m + 1 := by simpa using e3
                    rw [this, gm, hji2], seenO_ok (or_seen hnn), content_body (or_body hnn)⟩
                  refine ainv hf (Shift.low 0 (by simp) (by simp) rfl ?_)
                  simp only [wkl, lowV, lowC, Av.get, go_sem]
            · have e0 : decide ((i : Int) > 0) = true := by simp; omega
              have e00 : 0 < i := by omega
              have hp : ((i : Int) - 1).toNat = i - 1 := by omega
              have hgp := deA_get l (i - 1) (by omega)
              cases e2 : decide (stCmp (l[i - 1]'(by omega)).st l[i].st ≥ 0) with
              | true =>
                simp only [go_sem]
                refine adraw [.int .i64 (stCmp (l[i - 1]'(by omega)).st l[i].st)] mixed (by decide) (N := 117) Tryz.ntmps75 (by decide) 100 ?_
                simp only [go_sem, e0, e2, hp, hgp, List.length_map]
                repeat refine And.intro (by first | exact (hso e00).at | omega | rfl | (simp; omega)) ?_
                refine goB (N := 117) Tryz.ntmps75 300 ?_
                simp only [go_sem]
                refine ARet.shift (Shift.low 0 (e' := [(2, .int .i64 7)]) (by simp) (by simp) rfl ?_) (aret [2] rfl ⟨⟨7, rfl, fun h => absurd h (by decide)⟩, rfl⟩)
                simp only [wkl, lowV, lowC, Av.get, go_sem]
              | false =>
                simp only [go_sem]
                refine adraw [.int .i64 (stCmp (l[i - 1]'(by omega)).st l[i].st)] mixed (by decide) (N := 117) Tryz.ntmps75 (by decide) 100 ?_
                simp only [go_sem, e0, e2, hp, hgp, List.length_map]
                repeat refine And.intro (by first | exact (hso e00).at | omega | rfl | (simp; omega)) ?_
                refine goB (N := 117) Tryz.ntmps75 300 ?_
                cases e3 : l[i].st.no != m + 1 with
                | true =>
                  simp only [go_sem, e3]
                  repeat refine And.intro (by first | omega | rfl | (simp; done)) ?_
                  refine ARet.shift (Shift.low 0 (e' := [(2, .int .i64 1)]) (by simp) (by simp) rfl ?_) (aret [2] rfl ⟨⟨1, rfl, fun h => absurd h (by decide)⟩, rfl⟩)
                  simp only [wkl, lowV, lowC, Av.get, go_sem]
                | false =>
                  simp only [go_sem, e3]
                  repeat refine And.intro (by first | omega | rfl | (simp; done)) ?_
                  refine adraw [.int .i64 (seenO l l[i].seen l[i].st.dept), .int .i64 (contentL l[i].kind l[i].paper l[i].text l[i].person), .int .i64 (if seenO l l[i].seen l[i].st.dept ≠ 0 then seenO l l[i].seen l[i].st.dept else contentL l[i].kind l[i].paper l[i].text l[i].person)] mixed (by decide) (N := 117) Tryz.ntmps75 (by decide) 100 ?_
                  simp only [go_sem]
                  repeat refine And.intro (by first | exact hse.at | exact hct.at hg | exact (orE_pc _ _).at | omega | rfl | (simp; done)) ?_
                  generalize hnn : (if seenO l l[i].seen l[i].st.dept ≠ 0 then seenO l l[i].seen l[i].st.dept else contentL l[i].kind l[i].paper l[i].text l[i].person) = n
                  cases e4 : n != 0 with
                  | true =>
                    refine goB (N := 117) Tryz.ntmps75 300 ?_
                    simp only [go_sem, e4]
                    refine ARet.shift (Shift.low 0 (e' := [(2, .int .i64 n)]) (by simp) (by simp) rfl ?_) (aret [2] rfl ⟨⟨n, rfl, fun h => absurd h (by simpa using e4)⟩, rfl⟩)
                    simp only [wkl, lowV, lowC, Av.get, go_sem]
                  | false =>
                    refine goB (N := 117) Tryz.ntmps75 300 ?_
                    simp only [go_sem, e4]
                    repeat refine And.intro (by first | omega | rfl | (simp; done)) ?_
                    rw [show (i : Int) + 1 = ((i + 1 : Nat) : Int) by omega]
                    have hn0 : n = 0 := by simpa using e4
                    rw [hn0] at hnn
                    have hf := hfin ⟨keyO_keyL hk1, fun _ p hp' => by
                      rw [List.getElem?_eq_getElem (by omega)] at hp'
                      cases hp'
                      exact stCmp_lt.1 (by simp at e2; omega), by
                      have : l[i].st.no = m + 1 := by simpa using e3
                      rw [this, gm, hji2], seenO_ok (or_seen hnn), content_body (or_body hnn)⟩
                    refine ainv hf (Shift.low 0 (by simp) (by simp) rfl ?_)
                    simp only [wkl, lowV, lowC, Av.get, go_sem]
    · have di : decide ((i : Int) < (l.length : Int)) = false := by simp; omega
      have hat : ∀ j, (hj : j < l.length) → CkAt l j l[j] := fun j hj => ga j hj (by omega)
      refine goB (N := 117) Tryz.ntmps75 300 ?_
      simp only [go_sem, di]
      clear hJ J ga gi di g1
      refine aloop (ι := Nat) (fun y => l.length - y)
        (fun y => [(88, .int .i64 y), (87, .int .i64 l.length), (86, .fz 7 (l.map deA)), (0, .fz 7 (l.map deA))])
        (fun y => []) (fun y => y ≤ l.length ∧ ∀ j, (hj : j < l.length) → j < y → closedL l l[j] = true) 0 ⟨by simp, fun j _ h => absurd h (by omega)⟩ ?_ ?_
      · refine Shift.weakS ?_ rfl
        simp only [wk, go_sem, List.length_map]
      · rintro i ⟨g1, gc⟩ J hJ
        by_cases gi : i < l.length
        · have di : decide ((i : Int) < (l.length : Int)) = true := by simp; omega
          have hszi : SzD l[i] := hl.all _ (List.getElem_mem gi)
          have hrk := rk_eq (hat i gi).seen
          have hfin : closedL l l[i] = true → ∀ a w, Sim _ _ _ a w → J a w := fun hc => hJ (i + 1) ⟨by omega, fun j hj h => by
            rcases Nat.lt_or_ge j i with h2 | h2
            · exact gc j hj h2
            · have : i = j := by omega
              subst this
              exact hc⟩ (by omega)
          refine goB (N := 117) Tryz.ntmps75 300 ?_
          simp only [go_sem, di, deA_get l i gi, List.length_map]
          repeat refine And.intro (by first | omega | rfl | (simp; omega)) ?_
          refine aloop (ι := Nat) (fun y => l.length - y)
            (fun y => [(94, .int .i64 y), (93, .int .i64 l.length), (92, .fz 7 (l.map deA)), (88, .int .i64 i), (87, .int .i64 l.length), (86, .fz 7 (l.map deA)), (10, .ptr 0 1 0 0), (0, .fz 7 (l.map deA))])
            (fun y => [.arr 7 [.agg [.str l[i].st.dept, .int .i64 l[i].st.no, .fz 2 (l[i].seen.map stA), .int .i64 l[i].kind, .str l[i].paper, .str l[i].text, .str l[i].person]]]) (fun y => y ≤ l.length ∧ ∀ j, (hj : j < l.length) → j < y → closedAt l[i] l[j] = true) 0 ⟨by simp, fun j _ h => absurd h (by omega)⟩ ?_ ?_
          · refine Shift.weakS ?_ rfl
            simp only [wk, go_sem, List.length_map]
          · rintro j ⟨gj, gk⟩ K hK
            by_cases hji : j < l.length
            · have dj : decide ((j : Int) < (l.length : Int)) = true := by simp; omega
              have hszj : SzD l[j] := hl.all _ (List.getElem_mem hji)
              have hk1 := rknows_pc l[i] l[j].st hszi.seen
              simp only [deA, stA] at hk1
              have hfj0 : closedAt l[i] l[j] = true → ∀ a w, Sim _ _ _ a w → K a w := fun hc => hK (j + 1) ⟨by omega, fun q hq h => by
                rcases Nat.lt_or_ge q j with h2 | h2
                · exact gk q hq h2
                · have : j = q := by omega
                  subst this
                  exact hc⟩ (by omega)
              refine goB (N := 117) Tryz.ntmps75 300 ?_
              simp only [go_sem, dj, deA_get l j hji, List.length_map]
              repeat refine And.intro (by first | omega | rfl | (simp; omega)) ?_
              refine pcall1 (hk1) rfl (N := 117) Tryz.ntmps75 rfl (goB (N := 117) Tryz.ntmps75 300 ?_)
              cases e1 : rknowsL l[i] l[j].st with
              | false =>
                have hfj := hfj0 (by unfold closedAt; rw [← hrk, e1]; rfl)
                simp only [go_sem]
                repeat refine And.intro (by first | omega | rfl | (simp; omega)) ?_
                rw [show (j : Int) + 1 = ((j + 1 : Nat) : Int) by omega]
                refine ainv hfj (Shift.low 1 (by simp) (by simp) ?_ ?_)
                · exact (Bool.and_true _).trans (low_de 1 l[i])
                · simp only [wkl, lowV, lowC, Av.get, go_sem]
              | true =>
                simp only [go_sem, List.length_map]
                repeat refine And.intro (by first | omega | rfl | (simp; omega)) ?_
                refine aloop (ι := Nat) (fun y => l[j].seen.length - y)
                  (fun y => [(106, .int .i64 y), (105, .int .i64 l[j].seen.length), (104, .fz 2 (l[j].seen.map stA)), (94, .int .i64 j), (93, .int .i64 l.length), (92, .fz 7 (l.map deA)), (88, .int .i64 i), (87, .int .i64 l.length), (86, .fz 7 (l.map deA)), (10, .ptr 0 1 0 0), (0, .fz 7 (l.map deA))])
                  (fun y => [.arr 7 [.agg [.str l[i].st.dept, .int .i64 l[i].st.no, .fz 2 (l[i].seen.map stA), .int .i64 l[i].kind, .str l[i].paper, .str l[i].text, .str l[i].person]]]) (fun y => y ≤ l[j].seen.length ∧ ∀ q, (hq : q < l[j].seen.length) → q < y → rknowsL l[i] l[j].seen[q] = true) 0 ⟨by simp, fun j _ h => absurd h (by omega)⟩ ?_ ?_
                · refine Shift.trans (Shift.low 1 (by simp) (by simp) ?_ ?_) (Shift.weakS (e := [(106, .int .i64 0), (105, .int .i64 l[j].seen.length), (104, .fz 2 (l[j].seen.map stA)), (94, .int .i64 j), (93, .int .i64 l.length), (92, .fz 7 (l.map deA)), (88, .int .i64 i), (87, .int .i64 l.length), (86, .fz 7 (l.map deA)), (10, .ptr 0 1 0 0), (0, .fz 7 (l.map deA))]) ?_ rfl)
                  · exact (Bool.and_true _).trans (low_de 1 l[i])
                  · simp only [wkl, lowV, lowC, Av.get, go_sem, List.length_map]
                  · simp only [wk, go_sem, List.length_map]
                · rintro q ⟨gq, gp⟩ Q hQ
                  by_cases hq : q < l[j].seen.length
                  · have dq : decide ((q : Int) < (l[j].seen.length : Int)) = true := by simp; omega
                    have hk2 := rknows_pc l[i] l[j].seen[q] hszi.seen
                    simp only [deA, stA] at hk2
                    have hfq0 : rknowsL l[i] l[j].seen[q] = true → ∀ a w, Sim _ _ _ a w → Q a w := fun hc => hQ (q + 1) ⟨by omega, fun t ht h => by
                      rcases Nat.lt_or_ge t q with h2 | h2
                      · exact gp t ht h2
                      · have : q = t := by omega
                        subst this
                        exact hc⟩ (by omega)
                    have hszq := hszj.seen
                    refine goB (N := 117) Tryz.ntmps75 300 ?_
                    simp only [go_sem, dq, stA_get l[j].seen q hq, List.length_map]
                    repeat refine And.intro (by first | omega | rfl | (simp; omega)) ?_
                    refine pcall1 (hk2) rfl (N := 117) Tryz.ntmps75 rfl (goB (N := 117) Tryz.ntmps75 300 ?_)
                    cases e2 : rknowsL l[i] l[j].seen[q] with
                    | false =>
                      simp only [go_sem]
                      refine ARet.shift (Shift.low 0 (e' := [(2, .int .i64 3)]) (by simp) (by simp) rfl ?_) (aret [2] rfl ⟨⟨3, rfl, fun h => absurd h (by decide)⟩, rfl⟩)
                      simp only [wkl, lowV, lowC, Av.get, go_sem]
                    | true =>
                      have hfq := hfq0 e2
                      simp only [go_sem]
                      repeat refine And.intro (by first | omega | rfl | (simp; omega)) ?_
                      rw [show (q : Int) + 1 = ((q + 1 : Nat) : Int) by omega]
                      refine ainv hfq (Shift.low 1 (by simp) (by simp) ?_ ?_)
                      · exact (Bool.and_true _).trans (low_de 1 l[i])
                      · simp only [wkl, lowV, lowC, Av.get, go_sem]
                  · have dq : decide ((q : Int) < (l[j].seen.length : Int)) = false := by simp; omega
                    have hfj := hfj0 (by
                      unfold closedAt
                      rw [show (l[j].seen.any fun s => !knowsL l[i] s) = false by
                        rw [List.any_eq_false]
                        intro s hs
                        obtain ⟨t, ht, rfl⟩ := List.getElem_of_mem hs
                        have h1 := gp t ht (by omega)
                        rw [hrk] at h1
                        simp [h1]]
                      simp)
                    refine goB (N := 117) Tryz.ntmps75 300 ?_
                    simp only [go_sem, dq]
                    repeat refine And.intro (by first | omega | rfl | (simp; omega)) ?_
                    rw [show (j : Int) + 1 = ((j + 1 : Nat) : Int) by omega]
                    refine ainv hfj (Shift.low 1 (by simp) (by simp) ?_ ?_)
                    · exact (Bool.and_true _).trans (low_de 1 l[i])
                    · simp only [wkl, lowV, lowC, Av.get, go_sem]
            · have dj : decide ((j : Int) < (l.length : Int)) = false := by simp; omega
              have hfin := hfin (by
                unfold closedL
                rw [List.all_eq_true]
                intro x hx
                obtain ⟨t, ht, rfl⟩ := List.getElem_of_mem hx
                exact gk t ht (by omega))
              refine goB (N := 117) Tryz.ntmps75 300 ?_
              simp only [go_sem, dj]
              repeat refine And.intro (by first | omega | rfl | (simp; omega)) ?_
              rw [show (i : Int) + 1 = ((i + 1 : Nat) : Int) by omega]
              refine ainv hfin (Shift.low 0 (by simp) (by simp) rfl ?_)
              simp only [wkl, lowV, lowC, Av.get, go_sem]
        · have di : decide ((i : Int) < (l.length : Int)) = false := by simp; omega
          refine goB (N := 117) Tryz.ntmps75 300 ?_
          simp only [go_sem, di]
          exact aret [2] rfl ⟨⟨0, rfl, fun _ => ⟨by omega, fun j d hj => by
            have hlt := (List.getElem?_eq_some_iff.1 hj).1
            have h1 := hat j hlt
            rw [(List.getElem?_eq_some_iff.1 hj).2] at h1
            exact h1, fun d hd => by
            obtain ⟨t, ht, rfl⟩ := List.getElem_of_mem hd
            exact gc t ht (by omega)⟩⟩, rfl⟩
end Go.Proofs.YtkomcdohejibmaaGreatDoor
