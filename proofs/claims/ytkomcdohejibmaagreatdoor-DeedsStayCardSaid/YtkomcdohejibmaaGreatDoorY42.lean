/- The reference's DeedsFault, told both ways. Own work of this seat. -/
import Derived.Test.YtkomcdohejibmaaGreatDoorY41
import Derived.Test.YtkomcdohejibmaaGreatDoorY22
set_option maxRecDepth 100000
set_option linter.unusedSimpArgs false
set_option linter.unusedVariables false
namespace Go.Proofs.YtkomcdohejibmaaGreatDoor
open Go Go.Av Go.RowKit

def RefAt (l : List De) (j : Nat) (hj : j < l.length) : Prop := keyO l[j].st.dept = true ∧ (if seenO l l[j].seen l[j].st.dept ≠ 0 then seenO l l[j].seen l[j].st.dept else contentL l[j].kind l[j].paper l[j].text l[j].person) = 0
/-- right in the reference's eyes -/
def RefOk (l : List De) : Prop := CkOk l ∧ ∀ j, (hj : j < l.length) → RefAt l j hj
set_option maxHeartbeats 8000000 in
theorem faultX_pch {S : Std} (hS : LibD S) (l : List De) (hl : SzL l) : PcH Tryz.prog S 75 [.fz 7 (l.map deA)] (fun r => ∃ n : Int, r = .int .i64 n ∧ (n = 0 ↔ RefOk l)) := by
  have hsz := hl.sz
  have hlen := hl.len
  by_cases hbig : l.length > 500
  · have d1 : decide ((l.length : Int) > 500) = true := by simp; omega
    refine pch_intro (cth_intro Tryz.func75 rfl Tryz.ntmps75 hB75 (by simp) fun h ρ w hg => goB (N := 117) Tryz.ntmps75 300 ?_)
    simp only [go_sem, d1, List.length_map]
    exact aret [2] rfl ⟨⟨2, rfl, fun h => absurd h (by decide), fun h => absurd h.1.len (by omega)⟩, rfl⟩
  have d1 : decide ((l.length : Int) > 500) = false := by simp; omega
  refine pch_intro (cth_intro Tryz.func75 rfl Tryz.ntmps75 hB75 (by simp) fun h ρ w hg => goB (N := 117) Tryz.ntmps75 300 ?_)
  simp only [go_sem, d1, List.length_map]
  refine aloop (ι := Nat) (fun y => l.length - y)
    (fun y => [(20, .int .i64 y), (19, .int .i64 l.length), (18, .fz 7 (l.map deA)), (0, .fz 7 (l.map deA))])
    (fun y => []) (fun y => y ≤ l.length ∧ ∀ j, (hj : j < l.length) → j < y → CkAt l j l[j] ∧ RefAt l j hj) 0 ⟨by simp, fun j _ h => absurd h (by omega)⟩ ?_ ?_
  · refine Shift.weakS ?_ rfl
    simp only [wk, go_sem, List.length_map]
  · rintro i ⟨g1, ga⟩ J hJ
    by_cases gi : i < l.length
    · have di : decide ((i : Int) < (l.length : Int)) = true := by simp; omega
      have hszd : SzD l[i] := hl.all _ (List.getElem_mem gi)
      have hfin : CkAt l i l[i] ∧ RefAt l i gi → ∀ a w, Sim _ _ _ a w → J a w := fun hc => hJ (i + 1) ⟨by omega, fun j hj h => by
        rcases Nat.lt_or_ge j i with h2 | h2
        · exact ga j hj h2
        · have : i = j := by omega
          subst this
          exact hc⟩ (by omega)
      have hki := keyOf_pc l[i].st.dept hszd.dept
      have hso := fun h : 0 < i => stampOrder_pc (l[i - 1]'(by omega)).st l[i].st
      have hse := seenFault_pc l l[i].seen l[i].st.dept (by omega) hszd.seen hszd.keys
      have hct := content_pch hS l[i] hszd.paper hszd.text hszd.person
      simp only [stA] at hso
      simp only [deA] at hct
      refine goB (N := 117) Tryz.ntmps75 300 ?_
      simp only [go_sem, di, deA_get l i gi, List.length_map]
      repeat refine And.intro (by first | omega | rfl | (simp; omega)) ?_
      have htl : (List.take i (List.map deA l)).length = i := by simp; omega
      rw [htl, ← List.map_take]
      refine aloop (ι := Nat × Int) (fun y => i - y.1)
        (fun y => [(29, .int .i64 y.1), (28, .int .i64 i), (27, .fz 7 ((l.take i).map deA)), (20, .int .i64 i), (19, .int .i64 l.length), (18, .fz 7 (l.map deA)), (5, .int .i64 y.2), (3, .int .i64 i), (4, .ptr 0 1 0 0), (0, .fz 7 (l.map deA))])
        (fun y => [.arr 7 [.agg [.str l[i].st.dept, .int .i64 l[i].st.no, .fz 2 (l[i].seen.map stA), .int .i64 l[i].kind, .str l[i].paper, .str l[i].text, .str l[i].person]]]) (fun y => y.1 ≤ i ∧ y.2 = (cnt (l.take y.1) l[i].st.dept : Int)) (0, 0) ⟨by simp, by simp [cnt]⟩ ?_ ?_
      · refine Shift.weak ?_
        simp only [wk, go_sem, List.length_map]
      · rintro ⟨j, m⟩ ⟨gj, gm⟩ K hK
        simp only at gj gm hK ⊢
        have gm2 : cnt (l.take j) l[i].st.dept ≤ j := Nat.le_trans List.countP_le_length (by simp; omega)
        by_cases hji : j < i
        · have dj : decide ((j : Int) < (i : Int)) = true := by simp; omega
          have hjl : j < (l.take i).length := by simp; omega
          have htk : (l.take i)[j] = l[j]'(by omega) := by simp
          have hgj := deA_get (l.take i) j hjl
          rw [htk] at hgj
          have hle : (List.map deA (List.take i l)).length = i := by simp; omega
          refine goB (N := 117) Tryz.ntmps75 300 ?_
          cases e1 : (l[j]'(by omega)).st.dept == l[i].st.dept with
          | true =>
            simp only [go_sem, dj, hgj, hle, e1]
            repeat refine And.intro (by first | omega | rfl | exact .inl rfl | exact .inl trivial | (simp; done) | (simp; omega)) ?_
            rw [show (j : Int) + 1 = ((j + 1 : Nat) : Int) by omega]
            have hf := hK (j + 1, m + 1) ⟨by show j + 1 ≤ i; omega, by
              have h1 := cnt_step l j (by omega) l[i].st.dept
              rw [if_pos (by simpa using e1)] at h1
              show m + 1 = _
              simp only [h1]
              omega⟩ (by show i - (j + 1) < i - j; omega)
            refine ainv hf (Shift.low 1 (by simp) (by simp) ?_ ?_)
            · exact (Bool.and_true _).trans (low_de 1 l[i])
            · simp only [wkl, lowV, lowC, Av.get, go_sem]
          | false =>
            simp only [go_sem, dj, hgj, hle, e1]
            repeat refine And.intro (by first | omega | rfl | exact .inl rfl | exact .inl trivial | (simp; done) | (simp; omega)) ?_
            rw [show (j : Int) + 1 = ((j + 1 : Nat) : Int) by omega]
            have hf := hK (j + 1, m) ⟨by show j + 1 ≤ i; omega, by
              have h1 := cnt_step l j (by omega) l[i].st.dept
              rw [if_neg (by simpa using e1)] at h1
              show m = _
              simp only [h1]
              omega⟩ (by show i - (j + 1) < i - j; omega)
            refine ainv hf (Shift.low 1 (by simp) (by simp) ?_ ?_)
            · exact (Bool.and_true _).trans (low_de 1 l[i])
            · simp only [wkl, lowV, lowC, Av.get, go_sem]
        · have dj : decide ((j : Int) < (i : Int)) = false := by simp; omega
          have hji2 : j = i := by omega
          refine goB (N := 117) Tryz.ntmps75 300 ?_
          simp only [go_sem, dj]
          clear hK K
          refine pcall1 (hki) rfl (N := 117) Tryz.ntmps75 rfl (goB (N := 117) Tryz.ntmps75 300 ?_)
          cases hk1 : keyO l[i].st.dept with
          | false =>
            simp only [go_sem]
            refine ARet.shift (Shift.low 0 (e' := [(2, .int .i64 5)]) (by simp) (by simp) rfl ?_) (aret [2] rfl ⟨⟨5, rfl, fun h => absurd h (by decide), fun h => by have h2 := (h.2 i gi).1; rw [hk1] at h2; cases h2⟩, rfl⟩)
            simp only [wkl, lowV, lowC, Av.get, go_sem]
          | true =>
            by_cases hi0 : i = 0
            · have e0 : decide ((i : Int) > 0) = false := by simp; omega
              simp only [go_sem]
              refine adraw [.any] mixed (by decide) (N := 117) Tryz.ntmps75 (by decide) 100 ?_
              simp only [go_sem, e0]
              repeat refine And.intro (by first | omega | rfl | (simp; omega)) ?_
              refine goB (N := 117) Tryz.ntmps75 300 ?_
              cases e3 : l[i].st.no != m + 1 with
              | true =>
                simp only [go_sem, e3]
                repeat refine And.intro (by first | omega | rfl | (simp; done)) ?_
                refine ARet.shift (Shift.low 0 (e' := [(2, .int .i64 1)]) (by simp) (by simp) rfl ?_) (aret [2] rfl ⟨⟨1, rfl, fun h => absurd h (by decide), fun h => absurd (show l[i].st.no = m + 1 by rw [(h.1.at' i _ (List.getElem?_eq_getElem gi)).no, gm, hji2]) (by simpa using e3)⟩, rfl⟩)
                simp only [wkl, lowV, lowC, Av.get, go_sem]
              | false =>
                simp only [go_sem, e3]
                repeat refine And.intro (by first | omega | rfl | (simp; done)) ?_
                refine adraw [.int .i64 (seenO l l[i].seen l[i].st.dept), .int .i64 (contentL l[i].kind l[i].paper l[i].text l[i].person), .int .i64 (if seenO l l[i].seen l[i].st.dept ≠ 0 then seenO l l[i].seen l[i].st.dept else contentL l[i].kind l[i].paper l[i].text l[i].person)] mixed (by decide) (N := 117) Tryz.ntmps75 (by decide) 100 ?_
                simp only [go_sem]
                repeat refine And.intro (by first | exact hse.at | exact hct.at hg | exact (orE_pc _ _).at | omega | rfl | (simp; done)) ?_
                generalize hnn : (if seenO l l[i].seen l[i].st.dept ≠ 0 then seenO l l[i].seen l[i].st.dept else contentL l[i].kind l[i].paper l[i].text l[i].person) = n
                cases e4 : n != 0 with
                | true =>
                  refine goB (N := 117) Tryz.ntmps75 300 ?_
                  simp only [go_sem, e4]
                  refine ARet.shift (Shift.low 0 (e' := [(2, .int .i64 n)]) (by simp) (by simp) rfl ?_) (aret [2] rfl ⟨⟨n, rfl, fun h => absurd h (by simpa using e4), fun h => hnn.symm.trans (h.2 i gi).2⟩, rfl⟩)
                  simp only [wkl, lowV, lowC, Av.get, go_sem]
                | false =>
                  refine goB (N := 117) Tryz.ntmps75 300 ?_
                  simp only [go_sem, e4]
                  repeat refine And.intro (by first | omega | rfl | (simp; done)) ?_
                  rw [show (i : Int) + 1 = ((i + 1 : Nat) : Int) by omega]
                  have hn0 : n = 0 := by simpa using e4
                  rw [hn0] at hnn
                  have hf := hfin ⟨⟨keyO_keyL hk1, fun h => absurd h (by omega), by
                    have : l[i].st.no = m + 1 := by simpa using e3
                    rw [this, gm, hji2], seenO_ok (or_seen hnn), content_body (or_body hnn)⟩, hk1, hnn⟩
                  refine ainv hf (Shift.low 0 (by simp) (by simp) rfl ?_)
                  simp only [wkl, lowV, lowC, Av.get, go_sem]
            · have e0 : decide ((i : Int) > 0) = true := by simp; omega
              have e00 : 0 < i := by omega
              have hp : ((i : Int) - 1).toNat = i - 1 := by omega
              have hgp := deA_get l (i - 1) (by omega)
              cases e2 : decide (stCmp (l[i - 1]'(by omega)).st l[i].st ≥ 0) with
              | true =>
                simp only [go_sem]
                refine adraw [.int .i64 (stCmp (l[i - 1]'(by omega)).st l[i].st)] mixed (by decide) (N := 117) Tryz.ntmps75 (by decide) 100 ?_
                simp only [go_sem, e0, e2, hp, hgp, List.length_map]
                repeat refine And.intro (by first | exact (hso e00).at | omega | rfl | (simp; omega)) ?_
                refine goB (N := 117) Tryz.ntmps75 300 ?_
                simp only [go_sem]
                refine ARet.shift (Shift.low 0 (e' := [(2, .int .i64 7)]) (by simp) (by simp) rfl ?_) (aret [2] rfl ⟨⟨7, rfl, fun h => absurd h (by decide), fun h => by
                  have h2 := (h.1.at' i _ (List.getElem?_eq_getElem gi)).order e00 _ (List.getElem?_eq_getElem (by omega))
                  have h3 := stCmp_lt.2 h2
                  have h4 := of_decide_eq_true e2
                  omega⟩, rfl⟩)
                simp only [wkl, lowV, lowC, Av.get, go_sem]
              | false =>
                simp only [go_sem]
                refine adraw [.int .i64 (stCmp (l[i - 1]'(by omega)).st l[i].st)] mixed (by decide) (N := 117) Tryz.ntmps75 (by decide) 100 ?_
                simp only [go_sem, e0, e2, hp, hgp, List.length_map]
                repeat refine And.intro (by first | exact (hso e00).at | omega | rfl | (simp; omega)) ?_
                refine goB (N := 117) Tryz.ntmps75 300 ?_
                cases e3 : l[i].st.no != m + 1 with
                | true =>
                  simp only [go_sem, e3]
                  repeat refine And.intro (by first | omega | rfl | (simp; done)) ?_
                  refine ARet.shift (Shift.low 0 (e' := [(2, .int .i64 1)]) (by simp) (by simp) rfl ?_) (aret [2] rfl ⟨⟨1, rfl, fun h => absurd h (by decide), fun h => absurd (show l[i].st.no = m + 1 by rw [(h.1.at' i _ (List.getElem?_eq_getElem gi)).no, gm, hji2]) (by simpa using e3)⟩, rfl⟩)
                  simp only [wkl, lowV, lowC, Av.get, go_sem]
                | false =>
                  simp only [go_sem, e3]
                  repeat refine And.intro (by first | omega | rfl | (simp; done)) ?_
                  refine adraw [.int .i64 (seenO l l[i].seen l[i].st.dept), .int .i64 (contentL l[i].kind l[i].paper l[i].text l[i].person), .int .i64 (if seenO l l[i].seen l[i].st.dept ≠ 0 then seenO l l[i].seen l[i].st.dept else contentL l[i].kind l[i].paper l[i].text l[i].person)] mixed (by decide) (N := 117) Tryz.ntmps75 (by decide) 100 ?_
                  simp only [go_sem]
                  repeat refine And.intro (by first | exact hse.at | exact hct.at hg | exact (orE_pc _ _).at | omega | rfl | (simp; done)) ?_
                  generalize hnn : (if seenO l l[i].seen l[i].st.dept ≠ 0 then seenO l l[i].seen l[i].st.dept else contentL l[i].kind l[i].paper l[i].text l[i].person) = n
                  cases e4 : n != 0 with
                  | true =>
                    refine goB (N := 117) Tryz.ntmps75 300 ?_
                    simp only [go_sem, e4]
                    refine ARet.shift (Shift.low 0 (e' := [(2, .int .i64 n)]) (by simp) (by simp) rfl ?_) (aret [2] rfl ⟨⟨n, rfl, fun h => absurd h (by simpa using e4), fun h => hnn.symm.trans (h.2 i gi).2⟩, rfl⟩)
                    simp only [wkl, lowV, lowC, Av.get, go_sem]
                  | false =>
                    refine goB (N := 117) Tryz.ntmps75 300 ?_
                    simp only [go_sem, e4]
                    repeat refine And.intro (by first | omega | rfl | (simp; done)) ?_
                    rw [show (i : Int) + 1 = ((i + 1 : Nat) : Int) by omega]
                    have hn0 : n = 0 := by simpa using e4
                    rw [hn0] at hnn
                    have hf := hfin ⟨⟨keyO_keyL hk1, fun _ p hp' => by
                      rw [List.getElem?_eq_getElem (by omega)] at hp'
                      cases hp'
                      exact stCmp_lt.1 (by simp at e2; omega), by
                      have : l[i].st.no = m + 1 := by simpa using e3
                      rw [this, gm, hji2], seenO_ok (or_seen hnn), content_body (or_body hnn)⟩, hk1, hnn⟩
                    refine ainv hf (Shift.low 0 (by simp) (by simp) rfl ?_)
                    simp only [wkl, lowV, lowC, Av.get, go_sem]
    · have di : decide ((i : Int) < (l.length : Int)) = false := by simp; omega
      have hat : ∀ j, (hj : j < l.length) → CkAt l j l[j] := fun j hj => (ga j hj (by omega)).1
      have hra : ∀ j, (hj : j < l.length) → RefAt l j hj := fun j hj => (ga j hj (by omega)).2
      refine goB (N := 117) Tryz.ntmps75 300 ?_
      simp only [go_sem, di]
      clear hJ J ga gi di g1
      refine aloop (ι := Nat) (fun y => l.length - y)
        (fun y => [(88, .int .i64 y), (87, .int .i64 l.length), (86, .fz 7 (l.map deA)), (0, .fz 7 (l.map deA))])
        (fun y => []) (fun y => y ≤ l.length ∧ ∀ j, (hj : j < l.length) → j < y → closedL l l[j] = true) 0 ⟨by simp, fun j _ h => absurd h (by omega)⟩ ?_ ?_
      · refine Shift.weakS ?_ rfl
        simp only [wk, go_sem, List.length_map]
      · rintro i ⟨g1, gc⟩ J hJ
        by_cases gi : i < l.length
        · have di : decide ((i : Int) < (l.length : Int)) = true := by simp; omega
          have hszi : SzD l[i] := hl.all _ (List.getElem_mem gi)
          have hrk := rk_eq (hat i gi).seen
          have hfin : closedL l l[i] = true → ∀ a w, Sim _ _ _ a w → J a w := fun hc => hJ (i + 1) ⟨by omega, fun j hj h => by
            rcases Nat.lt_or_ge j i with h2 | h2
            · exact gc j hj h2
            · have : i = j := by omega
              subst this
              exact hc⟩ (by omega)
          refine goB (N := 117) Tryz.ntmps75 300 ?_
          simp only [go_sem, di, deA_get l i gi, List.length_map]
          repeat refine And.intro (by first | omega | rfl | (simp; omega)) ?_
          refine aloop (ι := Nat) (fun y => l.length - y)
            (fun y => [(94, .int .i64 y), (93, .int .i64 l.length), (92, .fz 7 (l.map deA)), (88, .int .i64 i), (87, .int .i64 l.length), (86, .fz 7 (l.map deA)), (10, .ptr 0 1 0 0), (0, .fz 7 (l.map deA))])
            (fun y => [.arr 7 [.agg [.str l[i].st.dept, .int .i64 l[i].st.no, .fz 2 (l[i].seen.map stA), .int .i64 l[i].kind, .str l[i].paper, .str l[i].text, .str l[i].person]]]) (fun y => y ≤ l.length ∧ ∀ j, (hj : j < l.length) → j < y → closedAt l[i] l[j] = true) 0 ⟨by simp, fun j _ h => absurd h (by omega)⟩ ?_ ?_
          · refine Shift.weakS ?_ rfl
            simp only [wk, go_sem, List.length_map]
          · rintro j ⟨gj, gk⟩ K hK
            by_cases hji : j < l.length
            · have dj : decide ((j : Int) < (l.length : Int)) = true := by simp; omega
              have hszj : SzD l[j] := hl.all _ (List.getElem_mem hji)
              have hk1 := rknows_pc l[i] l[j].st hszi.seen
              simp only [deA, stA] at hk1
              have hfj0 : closedAt l[i] l[j] = true → ∀ a w, Sim _ _ _ a w → K a w := fun hc => hK (j + 1) ⟨by omega, fun q hq h => by
                rcases Nat.lt_or_ge q j with h2 | h2
                · exact gk q hq h2
                · have : j = q := by omega
                  subst this
                  exact hc⟩ (by omega)
              refine goB (N := 117) Tryz.ntmps75 300 ?_
              simp only [go_sem, dj, deA_get l j hji, List.length_map]
              repeat refine And.intro (by first | omega | rfl | (simp; omega)) ?_
              refine pcall1 (hk1) rfl (N := 117) Tryz.ntmps75 rfl (goB (N := 117) Tryz.ntmps75 300 ?_)
              cases e1 : rknowsL l[i] l[j].st with
              | false =>
                have hfj := hfj0 (by unfold closedAt; rw [← hrk, e1]; rfl)
                simp only [go_sem]
                repeat refine And.intro (by first | omega | rfl | (simp; omega)) ?_
                rw [show (j : Int) + 1 = ((j + 1 : Nat) : Int) by omega]
                refine ainv hfj (Shift.low 1 (by simp) (by simp) ?_ ?_)
                · exact (Bool.and_true _).trans (low_de 1 l[i])
                · simp only [wkl, lowV, lowC, Av.get, go_sem]
              | true =>
                simp only [go_sem, List.length_map]
                repeat refine And.intro (by first | omega | rfl | (simp; omega)) ?_
                refine aloop (ι := Nat) (fun y => l[j].seen.length - y)
                  (fun y => [(106, .int .i64 y), (105, .int .i64 l[j].seen.length), (104, .fz 2 (l[j].seen.map stA)), (94, .int .i64 j), (93, .int .i64 l.length), (92, .fz 7 (l.map deA)), (88, .int .i64 i), (87, .int .i64 l.length), (86, .fz 7 (l.map deA)), (10, .ptr 0 1 0 0), (0, .fz 7 (l.map deA))])
                  (fun y => [.arr 7 [.agg [.str l[i].st.dept, .int .i64 l[i].st.no, .fz 2 (l[i].seen.map stA), .int .i64 l[i].kind, .str l[i].paper, .str l[i].text, .str l[i].person]]]) (fun y => y ≤ l[j].seen.length ∧ ∀ q, (hq : q < l[j].seen.length) → q < y → rknowsL l[i] l[j].seen[q] = true) 0 ⟨by simp, fun j _ h => absurd h (by omega)⟩ ?_ ?_
                · refine Shift.trans (Shift.low 1 (by simp) (by simp) ?_ ?_) (Shift.weakS (e := [(106, .int .i64 0), (105, .int .i64 l[j].seen.length), (104, .fz 2 (l[j].seen.map stA)), (94, .int .i64 j), (93, .int .i64 l.length), (92, .fz 7 (l.map deA)), (88, .int .i64 i), (87, .int .i64 l.length), (86, .fz 7 (l.map deA)), (10, .ptr 0 1 0 0), (0, .fz 7 (l.map deA))]) ?_ rfl)
                  · exact (Bool.and_true _).trans (low_de 1 l[i])
                  · simp only [wkl, lowV, lowC, Av.get, go_sem, List.length_map]
                  · simp only [wk, go_sem, List.length_map]
                · rintro q ⟨gq, gp⟩ Q hQ
                  by_cases hq : q < l[j].seen.length
                  · have dq : decide ((q : Int) < (l[j].seen.length : Int)) = true := by simp; omega
                    have hk2 := rknows_pc l[i] l[j].seen[q] hszi.seen
                    simp only [deA, stA] at hk2
                    have hfq0 : rknowsL l[i] l[j].seen[q] = true → ∀ a w, Sim _ _ _ a w → Q a w := fun hc => hQ (q + 1) ⟨by omega, fun t ht h => by
                      rcases Nat.lt_or_ge t q with h2 | h2
                      · exact gp t ht h2
                      · have : q = t := by omega
                        subst this
                        exact hc⟩ (by omega)
                    have hszq := hszj.seen
                    refine goB (N := 117) Tryz.ntmps75 300 ?_
                    simp only [go_sem, dq, stA_get l[j].seen q hq, List.length_map]
                    repeat refine And.intro (by first | omega | rfl | (simp; omega)) ?_
                    refine pcall1 (hk2) rfl (N := 117) Tryz.ntmps75 rfl (goB (N := 117) Tryz.ntmps75 300 ?_)
                    cases e2 : rknowsL l[i] l[j].seen[q] with
                    | false =>
                      simp only [go_sem]
                      refine ARet.shift (Shift.low 0 (e' := [(2, .int .i64 3)]) (by simp) (by simp) rfl ?_) (aret [2] rfl ⟨⟨3, rfl, fun h => absurd h (by decide), fun h => by
                        have h2 := h.1.closed l[i] (List.getElem_mem gi)
                        unfold closedL at h2
                        rw [List.all_eq_true] at h2
                        have h3 := h2 l[j] (List.getElem_mem hji)
                        have h4 : (l[j].seen.any fun s => !knowsL l[i] s) = true := List.any_eq_true.2 ⟨l[j].seen[q], List.getElem_mem hq, by rw [← hrk, e2]; rfl⟩
                        unfold closedAt at h3
                        rw [h4, ← hrk, e1] at h3
                        simp at h3⟩, rfl⟩)
                      simp only [wkl, lowV, lowC, Av.get, go_sem]
                    | true =>
                      have hfq := hfq0 e2
                      simp only [go_sem]
                      repeat refine And.intro (by first | omega | rfl | (simp; omega)) ?_
                      rw [show (q : Int) + 1 = ((q + 1 : Nat) : Int) by omega]
                      refine ainv hfq (Shift.low 1 (by simp) (by simp) ?_ ?_)
                      · exact (Bool.and_true _).trans (low_de 1 l[i])
                      · simp only [wkl, lowV, lowC, Av.get, go_sem]
                  · have dq : decide ((q : Int) < (l[j].seen.length : Int)) = false := by simp; omega
                    have hfj := hfj0 (by
                      unfold closedAt
                      rw [show (l[j].seen.any fun s => !knowsL l[i] s) = false by
                        rw [List.any_eq_false]
                        intro s hs
                        obtain ⟨t, ht, rfl⟩ := List.getElem_of_mem hs
                        have h1 := gp t ht (by omega)
                        rw [hrk] at h1
                        simp [h1]]
                      simp)
                    refine goB (N := 117) Tryz.ntmps75 300 ?_
                    simp only [go_sem, dq]
                    repeat refine And.intro (by first | omega | rfl | (simp; omega)) ?_
                    rw [show (j : Int) + 1 = ((j + 1 : Nat) : Int) by omega]
                    refine ainv hfj (Shift.low 1 (by simp) (by simp) ?_ ?_)
                    · exact (Bool.and_true _).trans (low_de 1 l[i])
                    · simp only [wkl, lowV, lowC, Av.get, go_sem]
            · have dj : decide ((j : Int) < (l.length : Int)) = false := by simp; omega
              have hfin := hfin (by
                unfold closedL
                rw [List.all_eq_true]
                intro x hx
                obtain ⟨t, ht, rfl⟩ := List.getElem_of_mem hx
                exact gk t ht (by omega))
              refine goB (N := 117) Tryz.ntmps75 300 ?_
              simp only [go_sem, dj]
              repeat refine And.intro (by first | omega | rfl | (simp; omega)) ?_
              rw [show (i : Int) + 1 = ((i + 1 : Nat) : Int) by omega]
              refine ainv hfin (Shift.low 0 (by simp) (by simp) rfl ?_)
              simp only [wkl, lowV, lowC, Av.get, go_sem]
        · have di : decide ((i : Int) < (l.length : Int)) = false := by simp; omega
          refine goB (N := 117) Tryz.ntmps75 300 ?_
          simp only [go_sem, di]
          exact aret [2] rfl ⟨⟨0, rfl, fun _ => ⟨⟨by omega, fun j d hj => by
            have hlt := (List.getElem?_eq_some_iff.1 hj).1
            have h1 := hat j hlt
            rw [(List.getElem?_eq_some_iff.1 hj).2] at h1
            exact h1, fun d hd => by
            obtain ⟨t, ht, rfl⟩ := List.getElem_of_mem hd
            exact gc t ht (by omega)⟩, hra⟩, fun _ => rfl⟩, rfl⟩
end Go.Proofs.YtkomcdohejibmaaGreatDoor
