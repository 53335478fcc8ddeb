/- Papers of deeds: the program's words. Own work of this seat. -/
import Derived.Test.YtkomcdohejibmaaGreatDoorS24
import Derived.Test.YtkomcdohejibmaaGreatDoorS23
set_option maxRecDepth 100000
set_option linter.unusedSimpArgs false
set_option linter.unusedVariables false
namespace Go.Proofs.YtkomcdohejibmaaGreatDoor
open Go Go.Av Go.RowKit

theorem lastFn2_pc (d x : De) (hl : x.seen.length < 1000000) : Pc Tryz.prog 140 [deA x, .pin 7 [deA d] 0 0] (· = .bool (knowsL x d.st)) := by
  have hc := knows_pc x d.st hl
  simp only [stA, deA] at hc ⊢
  refine pc_intro (ct_intro Tryz.func140 rfl Tryz.ntmps140 hB140 (by simp) fun h ρ w => goB (N := 8) Tryz.ntmps140 300 ?_)
  simp only [go_sem]
  refine pcall1 (hc) rfl (N := 8) Tryz.ntmps140 rfl (goB (N := 8) Tryz.ntmps140 300 ?_)
  simp only [go_sem]
  exact aret [3] rfl ⟨rfl, rfl⟩
def lastP (l : List De) (d : De) : Bool := !l.any fun x => knowsL x d.st
def lastL (l : List De) : List De := l.filter (lastP l)
theorem lastFn_pc (l : List De) (hl : Sz l) (d : De) : Pc Tryz.prog 139 [deA d, .pin 1 [.fz 7 (l.map deA)] 0 0] (· = .bool (lastP l d)) := by
  have hf := anyDe_pc 140 [.pin 7 [deA d] 0 0] rfl (fun x => knowsL x d.st) l (by have := hl.1; omega) fun x hx => lastFn2_pc d x (hl.2 x hx)
  simp only [deA] at hf ⊢
  refine pc_intro (ct_intro Tryz.func139 rfl Tryz.ntmps139 hB139 (by simp) fun h ρ w => goB (N := 8) Tryz.ntmps139 300 ?_)
  simp only [go_sem]
  refine pcall1 (hf) rfl (N := 8) Tryz.ntmps139 rfl (goB (N := 8) Tryz.ntmps139 300 ?_)
  simp only [go_sem]
  exact aret [3] rfl ⟨rfl, rfl⟩
theorem last_pc (l : List De) (hl : Sz l) : Pc Tryz.prog 88 [.fz 7 (l.map deA)] (· = .fz 7 ((lastL l).map deA)) := by
  have hf := chosen_pc 139 [.pin 1 [.fz 7 (l.map deA)] 0 0] rfl (lastP l) l hl fun x _ => lastFn_pc l hl x
  refine pc_intro (ct_intro Tryz.func88 rfl Tryz.ntmps88 hB88 (by simp) fun h ρ w => goB (N := 6) Tryz.ntmps88 300 ?_)
  simp only [go_sem]
  refine pcall1 (hf) rfl (N := 6) Tryz.ntmps88 rfl (goB (N := 6) Tryz.ntmps88 300 ?_)
  simp only [go_sem]
  exact aret [2] rfl ⟨rfl, rfl⟩
theorem Sz.last {l : List De} (h : Sz l) : Sz (lastL l) := h.filter _
theorem verFn_pc (paper : List UInt8) (d : De) : Pc Tryz.prog 92 [deA d, .pin 1 [.str paper] 0 0] (· = .bool (verP paper d)) := by
  simp only [deA]
  refine pc_intro (ct_intro Tryz.func92 rfl Tryz.ntmps92 hB92 (by simp) fun h ρ w => goB (N := 18) Tryz.ntmps92 300 ?_)
  cases h1 : d.paper == paper with
  | true =>
    cases h2 : d.kind == 1 with
    | true =>
      simp only [go_sem, h1, h2]
      exact aret [3] rfl ⟨by simp [resV, Av.get, Av.put, verP, h1, h2], rfl⟩
    | false =>
      simp only [go_sem, h1, h2]
      exact aret [3] rfl ⟨by simp [resV, Av.get, Av.put, verP, h1, h2], rfl⟩
  | false =>
    simp only [go_sem, h1]
    exact aret [3] rfl ⟨by simp [resV, Av.get, Av.put, verP, h1], rfl⟩
def versL (l : List De) (paper : List UInt8) : List St := (lastL (l.filter (verP paper))).map (·.st)
theorem vers_pc (l : List De) (paper : List UInt8) (hl : Sz l) : Pc Tryz.prog 36 [.fz 7 (l.map deA), .str paper] (· = .fz 2 ((versL l paper).map stA)) := by
  have hf := chosen_pc 92 [.pin 1 [.str paper] 0 0] rfl (verP paper) l hl fun x _ => verFn_pc paper x
  have hs := (hl.filter (verP paper)).last
  have h1 := hs.1
  unfold versL
  refine pc_intro (ct_intro Tryz.func36 rfl Tryz.ntmps36 hB36 (by simp) fun h ρ w => goB (N := 24) Tryz.ntmps36 300 ?_)
  simp only [go_sem]
  refine pcall1 (hf) rfl (N := 24) Tryz.ntmps36 rfl (goB (N := 24) Tryz.ntmps36 300 ?_)
  simp only [go_sem]
  refine pcall1 (last_pc _ (hl.filter _)) rfl (N := 24) Tryz.ntmps36 rfl (goB (N := 24) Tryz.ntmps36 300 ?_)
  generalize lastL (l.filter (verP paper)) = v at *
  simp only [go_sem, List.length_map]
  refine aloop (ι := Nat) (fun i => v.length - i) (fun i => [(13, .int .i64 i), (12, .int .i64 v.length), (11, .fz 7 (v.map deA)), (5, .sl 0 0 i i)])
    (fun i => [.arr 2 (((v.take i).map (·.st)).map stA)]) (fun i => i ≤ v.length) 0 (by simp) ?_ ?_
  · refine Shift.trans (Shift.nilsl 5 2 rfl) (Shift.weak ?_)
    simp only [wk, go_sem, List.length_map]
  · intro i g1 J hJ
    by_cases gi : i < v.length
    · have di : decide ((i : Int) < (v.length : Int)) = true := by simp; omega
      have hst := map_step v i gi
      have hlen : (v.take i).length = i := by simp; omega
      have hfin := hJ (i + 1) (by omega) (by omega)
      simp only [hst] at hfin
      generalize v.take i = o at *
      refine goB (N := 24) Tryz.ntmps36 300 ?_
      simp only [go_sem, di, deA_get v i gi, List.length_map]
      repeat refine And.intro (by first | omega | rfl | exact .inl rfl | exact .inl trivial | (simp; done) | (simp; omega)) ?_
      rw [show (i : Int) + 1 = ((i + 1 : Nat) : Int) by omega]
      simp only [List.map_append, List.map_cons, List.map_nil, stA] at hfin
      refine ainv hfin (Shift.low 1 (by simp) (by simp) ?_ ?_)
      · have := low_sts 1 (o.map (·.st) ++ [v[i].st])
        simp only [List.map_append, List.map_cons, List.map_nil, stA] at this
        simp only [List.take_succ_cons, List.take_zero, List.all_cons, List.all_nil, this, Bool.and_self]
      · simp only [wkl, lowV, lowC, Av.get, go_sem]
    · have di : decide ((i : Int) < (v.length : Int)) = false := by simp; omega
      have : i = v.length := by omega
      subst this
      rw [List.take_length]
      refine goB (N := 24) Tryz.ntmps36 300 ?_
      simp only [go_sem, di]
      exact ARet.shift (Shift.freeze 4 (id := 0) (l := (v.map (·.st)).map stA) rfl rfl (by simp) (Nat.le_refl _) (stA_frz _)) (aret [4] rfl ⟨by simp only [resV, Av.get, Av.put, beq_self_eq_true, cond_true, List.drop_zero]; rw [List.take_of_length_le (by simp)], rfl⟩)

/-! ### the deed with a stamp -/
def stB (a b : St) : Bool := a.dept == b.dept && a.no == b.no
theorem stB_iff {a b : St} : stB a b = true ↔ a = b := by
  cases a; cases b
  simp [stB]
def deedOfL (l : List De) (s : St) : Option De := l.find? fun d => stB d.st s
def optA : Option De → AV
  | some d => deA d
  | none => .agg [.str [], .int .i64 0, .raw (.slice none 0 0), .int .i64 0, .str [], .str [], .str []]
theorem deedFn_pc (s : St) (d : De) : Pc Tryz.prog 122 [deA d, .pin 2 [stA s] 0 0] (· = .bool (stB d.st s)) := by
  simp only [deA, stA, stB]
  refine pc_intro (ct_intro Tryz.func122 rfl Tryz.ntmps122 hB122 (by simp) fun h ρ w => goB (N := 8) Tryz.ntmps122 300 ?_)
  simp only [go_sem]
  repeat refine And.intro (by first | rfl | kernel_rfl) ?_
  exact aret [3] rfl ⟨rfl, rfl⟩
theorem idxP_find {α : Type} {p : α → Bool} {l : List α} : (idxP p l = -1 ∧ l.find? p = none) ∨ ∃ i, ∃ h : i < l.length, idxP p l = (i : Int) ∧ l.find? p = some l[i] := by
  unfold idxP
  cases hq : l.findIdx? p with
  | none =>
    rw [List.findIdx?_eq_none_iff] at hq
    exact .inl ⟨rfl, by rw [List.find?_eq_none]; intro x hx; simp [hq x hx]⟩
  | some i =>
    rw [List.findIdx?_eq_some_iff_getElem] at hq
    obtain ⟨hi, hp, hj⟩ := hq
    refine .inr ⟨i, hi, rfl, ?_⟩
    rw [List.find?_eq_some_iff_getElem]
    exact ⟨hp, i, hi, rfl, fun j hj' => by simpa using hj j hj'⟩
theorem deedOf_pc (l : List De) (s : St) (hl : l.length < 1000000) : Pc Tryz.prog 69 [.fz 7 (l.map deA), stA s] (· = .tup [optA (deedOfL l s), .bool (deedOfL l s).isSome]) := by
  have hf := idxDe_pc 122 [.pin 2 [stA s] 0 0] rfl (fun d => stB d.st s) l (by omega) fun x _ => deedFn_pc s x
  unfold deedOfL
  simp only [stA] at hf ⊢
  refine pc_intro (ct_intro Tryz.func69 rfl Tryz.ntmps69 hB69 (by simp) fun h ρ w => goB (N := 17) Tryz.ntmps69 300 ?_)
  simp only [go_sem]
  refine pcall1 (hf) rfl (N := 17) Tryz.ntmps69 rfl (goB (N := 17) Tryz.ntmps69 300 ?_)
  rcases idxP_find (p := fun d : De => stB d.st s) (l := l) with ⟨h1, h2⟩ | ⟨i, hi, h1, h2⟩
  · rw [h1, h2]
    simp only [go_sem]
    repeat refine And.intro (by first | rfl | omega | (simp; done)) ?_
    exact aretc [.cell 4 41, .tmp 5] rfl [optA none, .bool false] (by simp only [ResOk, sideIs, go_sem, optA]) ⟨by simp [resT], rfl⟩
  · rw [h1, h2]
    have d1 : decide ((i : Int) < 0) = false := by simp
    simp only [go_sem, d1, deA_get l i hi, List.length_map]
    repeat refine And.intro (by first | rfl | omega | (simp; done)) ?_
    exact aretc [.cell 4 41, .tmp 5] rfl [optA (some l[i]), .bool true] (by simp only [ResOk, sideIs, go_sem, optA, deA]) ⟨by simp [resT], rfl⟩
def isPutL (l : List De) (s : St) : Bool := match deedOfL l s with
  | some d => d.kind == 1
  | none => false
theorem isPut_pc (l : List De) (s : St) (hl : l.length < 1000000) : Pc Tryz.prog 68 [.fz 7 (l.map deA), stA s] (· = .bool (isPutL l s)) := by
  have hf := deedOf_pc l s hl
  unfold isPutL
  simp only [stA] at hf ⊢
  refine pc_intro (ct_intro Tryz.func68 rfl Tryz.ntmps68 hB68 (by simp) fun h ρ w => goB (N := 16) Tryz.ntmps68 300 ?_)
  simp only [go_sem]
  refine pcall1 (hf) rfl (N := 16) Tryz.ntmps68 rfl (goB (N := 16) Tryz.ntmps68 300 ?_)
  cases deedOfL l s with
  | none =>
    simp only [go_sem, optA]
    repeat refine And.intro (by first | rfl | omega | (simp; done)) ?_
    exact aret [4] rfl ⟨rfl, rfl⟩
  | some d =>
    simp only [go_sem, optA, deA]
    repeat refine And.intro (by first | rfl | omega | (simp; done)) ?_
    exact aret [4] rfl ⟨rfl, rfl⟩
theorem isThereFn_pc (l : List De) (hl : l.length < 1000000) (s : St) : Pc Tryz.prog 91 [stA s, .pin 1 [.fz 7 (l.map deA)] 0 0] (· = .bool (isPutL l s)) := by
  have hf := isPut_pc l s hl
  simp only [stA] at hf ⊢
  refine pc_intro (ct_intro Tryz.func91 rfl Tryz.ntmps91 hB91 (by simp) fun h ρ w => goB (N := 7) Tryz.ntmps91 300 ?_)
  simp only [go_sem]
  refine pcall1 (hf) rfl (N := 7) Tryz.ntmps91 rfl (goB (N := 7) Tryz.ntmps91 300 ?_)
  simp only [go_sem]
  exact aret [3] rfl ⟨rfl, rfl⟩
theorem isThere_pc (l : List De) (v : List St) (hl : l.length < 1000000) (hv : v.length < 1000000) : Pc Tryz.prog 35 [.fz 7 (l.map deA), .fz 2 (v.map stA)] (· = .bool (v.any (isPutL l))) := by
  have hf := anySt_pc 91 [.pin 1 [.fz 7 (l.map deA)] 0 0] rfl (isPutL l) v (by omega) fun x _ => isThereFn_pc l hl x
  refine pc_intro (ct_intro Tryz.func35 rfl Tryz.ntmps35 hB35 (by simp) fun h ρ w => goB (N := 8) Tryz.ntmps35 300 ?_)
  simp only [go_sem]
  refine pcall1 (hf) rfl (N := 8) Tryz.ntmps35 rfl (goB (N := 8) Tryz.ntmps35 300 ?_)
  simp only [go_sem]
  exact aret [4] rfl ⟨rfl, rfl⟩
theorem closedFn_pc (d : De) (s : St) (hl : d.seen.length < 1000000) : Pc Tryz.prog 135 [stA s, .pin 7 [deA d] 0 0] (· = .bool (!knowsL d s)) := by
  have hc := knows_pc d s hl
  simp only [stA, deA] at hc ⊢
  refine pc_intro (ct_intro Tryz.func135 rfl Tryz.ntmps135 hB135 (by simp) fun h ρ w => goB (N := 8) Tryz.ntmps135 300 ?_)
  simp only [go_sem]
  refine pcall1 (hc) rfl (N := 8) Tryz.ntmps135 rfl (goB (N := 8) Tryz.ntmps135 300 ?_)
  simp only [go_sem]
  exact aret [3] rfl ⟨rfl, rfl⟩
end Go.Proofs.YtkomcdohejibmaaGreatDoor
/- Right deeds: keys, texts, what a deed says. Own work of this seat. -/
set_option maxRecDepth 100000
set_option linter.unusedSimpArgs false
set_option linter.unusedVariables false
namespace Go.Proofs.YtkomcdohejibmaaGreatDoor
open Go Go.Av Go.RowKit

theorem shasSuffix_pc (s p : List UInt8) (hs : s.length ≤ 9223372036854775807) : Pc Tryz.prog 136 [.str s, .str p] (· = .bool (Lib.hasSuffix s p)) :=
  o_pc [_, _] (.bool (Lib.hasSuffix s p)) hB136 (o_two s p) (fun h => .bool _) fun w => (Any.strings_HasSuffix Tryz.lays100 ⟨s.toArray⟩ ⟨p.toArray⟩ w hs).mono fun e w' ⟨h1, h2⟩ => ⟨h1, h2 ▸ .refl w⟩

def keyC (i : Nat) (m : Nat) : Bool := (decide (97 ≤ m) && decide (m ≤ 122)) || (i != 0 && (m == 45 || (decide (48 ≤ m) && decide (m ≤ 57))))
def keyL (s : List UInt8) : Bool := (List.range s.length).all (fun i => keyC i (s.getD i 0).toNat) && (decide (1 ≤ s.length) && decide (s.length ≤ 20))
theorem keyL_false {s : List UInt8} {i : Nat} (hi : i < s.length) (h : keyC i (s.getD i 0).toNat = false) : keyL s = false := by
  unfold keyL
  have : (List.range s.length).all (fun i => keyC i (s.getD i 0).toNat) = false := by
    rw [List.all_eq_false]
    exact ⟨i, List.mem_range.2 hi, by simp only [h]; simp⟩
  rw [this, Bool.false_and]
theorem keyL_true {s : List UInt8} (h : ∀ i < s.length, keyC i (s.getD i 0).toNat = true) : keyL s = (decide (1 ≤ s.length) && decide (s.length ≤ 20)) := by
  unfold keyL
  have : (List.range s.length).all (fun i => keyC i (s.getD i 0).toNat) = true := by
    rw [List.all_eq_true]
    exact fun i hi => h i (List.mem_range.1 hi)
  rw [this, Bool.true_and]

theorem iskey_pc (s : List UInt8) (hl : s.length < 1000000) : Pc Tryz.prog 83 [.str s] (· = .bool (keyL s)) := by
  refine pc_intro (ct_intro Tryz.func83 rfl Tryz.ntmps83 hB83 (by simp) fun h ρ w => goB (N := 53) Tryz.ntmps83 300 ?_)
  simp only [go_sem]
  refine aloop (ι := Nat) (fun i => s.length - i) (fun i => [(7, .int .i64 i), (6, .int .i64 s.length), (0, .str s)]) (fun _ => []) (fun i => i ≤ s.length ∧ ∀ j < i, keyC j (s.getD j 0).toNat = true) 0 ⟨by simp, fun j h => absurd h (by omega)⟩ ?_ ?_
  · refine Shift.weak ?_
    simp only [wk, go_sem]
  · rintro i ⟨g1, g2⟩ J hJ
    by_cases gi : i < s.length
    · have di : decide ((i : Int) < (s.length : Int)) = true := by simp; omega
      have hn : (i : Int).toNat = i := by simp
      have hgo : keyC i (s.getD i 0).toNat = true → ∀ a w, Sim _ _ _ a w → J a w := fun hc => hJ (i + 1) ⟨by omega, fun j hj => by
        rcases Nat.lt_or_ge j i with h2 | h2
        · exact g2 j h2
        · have : j = i := by omega
          subst this; exact hc⟩ (by omega)
      have hno : keyC i (s.getD i 0).toNat = false → keyL s = false := fun hc => keyL_false gi hc
      obtain ⟨m, hm⟩ : ∃ m, (s.getD i 0).toNat = m := ⟨_, rfl⟩
      rw [hm] at hgo hno
      refine goB (N := 53) Tryz.ntmps83 300 ?_
      cases d1 : decide ((m : Int) ≥ 97) with
      | true =>
        cases d2 : decide ((m : Int) ≤ 122) with
        | true =>
          simp only [go_sem, di, hn, hm, d1, d2]
          repeat refine And.intro (by first | omega | rfl) ?_
          rw [show (i : Int) + 1 = ((i + 1 : Nat) : Int) by omega]
          refine ainv (hgo (by simp [keyC] at d1 d2 ⊢; omega)) (Shift.weak ?_)
          simp only [wk, go_sem]
        | false =>
          cases d3 : (i : Int) == 0 with
          | true =>
            simp only [go_sem, di, hn, hm, d1, d2, d3]
            repeat refine And.intro (by first | omega | rfl) ?_
            exact aret [2] rfl ⟨by rw [hno (by simp [keyC] at d1 d2 d3 ⊢; omega)]; rfl, rfl⟩
          | false =>
            cases d4 : (m : Int) != 45 with
            | true =>
              cases d5 : decide ((m : Int) < 48) with
              | true =>
                simp only [go_sem, di, hn, hm, d1, d2, d3, d4, d5]
                repeat refine And.intro (by first | omega | rfl) ?_
                exact aret [2] rfl ⟨by rw [hno (by simp [keyC] at d1 d2 d3 d4 d5 ⊢; omega)]; rfl, rfl⟩
              | false =>
                cases d6 : decide ((m : Int) > 57) with
                | true =>
                  simp only [go_sem, di, hn, hm, d1, d2, d3, d4, d5, d6]
                  repeat refine And.intro (by first | omega | rfl) ?_
                  exact aret [2] rfl ⟨by rw [hno (by simp [keyC] at d1 d2 d3 d4 d5 d6 ⊢; omega)]; rfl, rfl⟩
                | false =>
                  simp only [go_sem, di, hn, hm, d1, d2, d3, d4, d5, d6]
                  repeat refine And.intro (by first | omega | rfl) ?_
                  rw [show (i : Int) + 1 = ((i + 1 : Nat) : Int) by omega]
                  refine ainv (hgo (by simp [keyC] at d1 d2 d3 d4 d5 d6 ⊢; omega)) (Shift.weak ?_)
                  simp only [wk, go_sem]
            | false =>
              simp only [go_sem, di, hn, hm, d1, d2, d3, d4]
              repeat refine And.intro (by first | omega | rfl) ?_
              rw [show (i : Int) + 1 = ((i + 1 : Nat) : Int) by omega]
              refine ainv (hgo (by simp [keyC] at d1 d2 d3 d4 ⊢; omega)) (Shift.weak ?_)
              simp only [wk, go_sem]
      | false =>
        cases d3 : (i : Int) == 0 with
        | true =>
          simp only [go_sem, di, hn, hm, d1, d3]
          repeat refine And.intro (by first | omega | rfl) ?_
          exact aret [2] rfl ⟨by rw [hno (by simp [keyC] at d1 d3 ⊢; omega)]; rfl, rfl⟩
        | false =>
          cases d4 : (m : Int) != 45 with
          | true =>
            cases d5 : decide ((m : Int) < 48) with
            | true =>
              simp only [go_sem, di, hn, hm, d1, d3, d4, d5]
              repeat refine And.intro (by first | omega | rfl) ?_
              exact aret [2] rfl ⟨by rw [hno (by simp [keyC] at d1 d3 d4 d5 ⊢; omega)]; rfl, rfl⟩
            | false =>
              cases d6 : decide ((m : Int) > 57) with
              | true =>
                simp only [go_sem, di, hn, hm, d1, d3, d4, d5, d6]
                repeat refine And.intro (by first | omega | rfl) ?_
                exact aret [2] rfl ⟨by rw [hno (by simp [keyC] at d1 d3 d4 d5 d6 ⊢; omega)]; rfl, rfl⟩
              | false =>
                simp only [go_sem, di, hn, hm, d1, d3, d4, d5, d6]
                repeat refine And.intro (by first | omega | rfl) ?_
                rw [show (i : Int) + 1 = ((i + 1 : Nat) : Int) by omega]
                refine ainv (hgo (by simp [keyC] at d1 d3 d4 d5 d6 ⊢; omega)) (Shift.weak ?_)
                simp only [wk, go_sem]
          | false =>
            simp only [go_sem, di, hn, hm, d1, d3, d4]
            repeat refine And.intro (by first | omega | rfl) ?_
            rw [show (i : Int) + 1 = ((i + 1 : Nat) : Int) by omega]
            refine ainv (hgo (by simp [keyC] at d1 d3 d4 ⊢; omega)) (Shift.weak ?_)
            simp only [wk, go_sem]
    · have di : decide ((i : Int) < (s.length : Int)) = false := by simp; omega
      have hk := keyL_true (s := s) fun j hj => g2 j (by omega)
      refine goB (N := 53) Tryz.ntmps83 300 ?_
      cases e1 : decide ((s.length : Int) ≥ 1) with
      | true =>
        cases e2 : decide ((s.length : Int) ≤ 20) with
        | true =>
          simp only [go_sem, di, e1, e2]
          exact aret [2] rfl ⟨by rw [hk]; simp [resV, Av.get, Av.put] at e1 e2 ⊢; omega, rfl⟩
        | false =>
          simp only [go_sem, di, e1, e2]
          exact aret [2] rfl ⟨by rw [hk]; simp [resV, Av.get, Av.put] at e1 e2 ⊢; omega, rfl⟩
      | false =>
        simp only [go_sem, di, e1]
        exact aret [2] rfl ⟨by rw [hk]; simp [resV, Av.get, Av.put] at e1 ⊢; omega, rfl⟩
theorem isKey_pc (s : List UInt8) (hl : s.length < 1000000) : Pc Tryz.prog 31 [.str s] (· = .bool (keyL s)) := by
  refine pc_intro (ct_intro Tryz.func31 rfl Tryz.ntmps31 hB31 (by simp) fun h ρ w => goB (N := 5) Tryz.ntmps31 300 ?_)
  simp only [go_sem]
  refine pcall1 (iskey_pc s hl) rfl (N := 5) Tryz.ntmps31 rfl (goB (N := 5) Tryz.ntmps31 300 ?_)
  simp only [go_sem]
  exact aret [2] rfl ⟨rfl, rfl⟩
end Go.Proofs.YtkomcdohejibmaaGreatDoor
