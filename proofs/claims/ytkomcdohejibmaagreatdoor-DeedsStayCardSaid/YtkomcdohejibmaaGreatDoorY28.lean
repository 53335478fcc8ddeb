/- Checks of deeds. Own work of this seat. -/
import Derived.Test.YtkomcdohejibmaaGreatDoorY25
import Derived.Test.YtkomcdohejibmaaGreatDoorY22
import Derived.Test.YtkomcdohejibmaaGreatDoorY27
set_option maxRecDepth 100000
set_option linter.unusedSimpArgs false
set_option linter.unusedVariables false
namespace Go.Proofs.YtkomcdohejibmaaGreatDoor
open Go Go.Av Go.RowKit

def closedAt (d x : De) : Bool := !knowsL d x.st || !(x.seen.any fun s => !knowsL d s)
def closedL (l : List De) (d : De) : Bool := l.all (closedAt d)
theorem closed_pc (l : List De) (d : De) (hl : Sz l) (hd : d.seen.length < 1000000) : Pc Tryz.prog 82 [.fz 7 (l.map deA), deA d] (· = .bool (closedL l d)) := by
  have h1 := hl.1
  obtain ⟨dA, hdA⟩ : ∃ dA, dA = deA d := ⟨_, rfl⟩
  have hdA' : deA d = .agg [.str d.st.dept, .int .i64 d.st.no, .fz 2 (d.seen.map stA), .int .i64 d.kind, .str d.paper, .str d.text, .str d.person] := rfl
  simp only [deA]
  refine pc_intro (ct_intro Tryz.func82 rfl Tryz.ntmps82 hB82 (by simp) fun h ρ w => goB (N := 23) Tryz.ntmps82 300 ?_)
  simp only [go_sem]
  refine aloop (ι := Nat) (fun i => l.length - i) (fun i => [(9, .int .i64 i), (8, .int .i64 l.length), (7, .fz 7 (l.map deA)), (3, .pin 7 [deA d] 0 0)])
    (fun i => []) (fun i => i ≤ l.length ∧ ∀ j, (h : j < l.length) → j < i → closedAt d l[j] = true) 0 ⟨by simp, fun j _ h => absurd h (by omega)⟩ ?_ ?_
  · refine Shift.weak ?_
    simp only [wk, go_sem, List.length_map, deA]
  · rintro i ⟨g1, g2⟩ J hJ
    by_cases gi : i < l.length
    · have di : decide ((i : Int) < (l.length : Int)) = true := by simp; omega
      have hk := knows_pc d l[i].st hd
      have hs := anySt_pc 135 [.pin 7 [deA d] 0 0] rfl (fun s => !knowsL d s) l[i].seen (by have := hl.2 _ (List.getElem_mem gi); omega) fun x _ => closedFn_pc d x hd
      have hfin : closedAt d l[i] = true → ∀ a w, Sim _ _ _ a w → J a w := fun hc => hJ (i + 1) ⟨by omega, fun j hj h => by
        rcases Nat.lt_or_ge j i with h2 | h2
        · exact g2 j hj h2
        · have : j = i := by omega
          subst this; exact hc⟩ (by omega)
      rw [hdA'] at hk hs hfin
      simp only [stA] at hk
      rw [hdA']
      have hcl : ∀ b c, knowsL d l[i].st = b → (l[i].seen.any fun s => !knowsL d s) = c → closedAt d l[i] = (!b || !c) := by
        intro b c hb hc
        simp only [closedAt, hb, hc]
      refine goB (N := 23) Tryz.ntmps82 300 ?_
      simp only [go_sem, di, deA_get l i gi, List.length_map]
      repeat refine And.intro (by first | omega | rfl | (simp; omega)) ?_
      refine pcall1 (hk) rfl (N := 23) Tryz.ntmps82 rfl (goB (N := 23) Tryz.ntmps82 300 ?_)
      cases hb : knowsL d l[i].st with
      | false =>
        simp only [go_sem, hb]
        repeat refine And.intro (by first | omega | rfl) ?_
        rw [show (i : Int) + 1 = ((i + 1 : Nat) : Int) by omega]
        refine ainv (hfin (hcl _ _ hb rfl)) (Shift.low 0 (by simp) (by simp) ?_ ?_)
        · rfl
        · simp only [wkl, lowV, lowC, Av.get, go_sem]
      | true =>
        simp only [go_sem, hb]
        refine pcall1 (hs) rfl (N := 23) Tryz.ntmps82 rfl (goB (N := 23) Tryz.ntmps82 300 ?_)
        cases hc : l[i].seen.any fun s => !knowsL d s with
        | true =>
          simp only [go_sem]
          refine ARet.shift (Shift.low 0 (e' := [(4, .bool false)]) (by simp) (by simp) rfl ?_) (aret [4] rfl ⟨?_, rfl⟩)
          · simp only [wkl, lowV, lowC, Av.get, go_sem]
          · have : closedL l d = false := by
              unfold closedL
              rw [List.all_eq_false]
              exact ⟨_, List.getElem_mem gi, by rw [hcl _ _ hb hc]; simp⟩
            rw [this]; rfl
        | false =>
          simp only [go_sem]
          repeat refine And.intro (by first | omega | rfl) ?_
          rw [show (i : Int) + 1 = ((i + 1 : Nat) : Int) by omega]
          refine ainv (hfin (hcl _ _ hb hc)) (Shift.low 0 (by simp) (by simp) ?_ ?_)
          · rfl
          · simp only [wkl, lowV, lowC, Av.get, go_sem]
    · have di : decide ((i : Int) < (l.length : Int)) = false := by simp; omega
      refine goB (N := 23) Tryz.ntmps82 300 ?_
      simp only [go_sem, di]
      refine aret [4] rfl ⟨?_, rfl⟩
      have : closedL l d = true := by
        unfold closedL
        rw [List.all_eq_true]
        intro x hx
        obtain ⟨j, hj, rfl⟩ := List.getElem_of_mem hx
        exact g2 j hj (by omega)
      rw [this]; rfl
theorem checkFn_pc (l : List De) (hl : Sz l) (d : De) (hd : d.seen.length < 1000000) : Pc Tryz.prog 81 [deA d, .pin 1 [.fz 7 (l.map deA)] 0 0] (· = .bool (!closedL l d)) := by
  have hc := closed_pc l d hl hd
  simp only [stA, deA] at hc ⊢
  refine pc_intro (ct_intro Tryz.func81 rfl Tryz.ntmps81 hB81 (by simp) fun h ρ w => goB (N := 8) Tryz.ntmps81 300 ?_)
  simp only [go_sem]
  refine pcall1 (hc) rfl (N := 8) Tryz.ntmps81 rfl (goB (N := 8) Tryz.ntmps81 300 ?_)
  simp only [go_sem]
  exact aret [3] rfl ⟨rfl, rfl⟩

/-! ### maps by stamps -/
abbrev stFs : List Field := [{ name := "Dept", type := 9, offset := 0, embedded := false, tag := "", pkgPath := "", byteOffset := 0 }, { name := "No", type := 3, offset := 1, embedded := false, tag := "", pkgPath := "", byteOffset := 16 }]
theorem keyEqS_st (a b : St) : keyEqS Tryz.prog stFs (stA a) (stA b) = some (stB a b) := by
  simp only [keyEqS, stA, stFs, List.length_cons, List.length_nil, decide_true, Bool.and_self, cond_true, eqFs, Tryz.underlying9, Tryz.underlying3, leafEq, bothB, if_true, stB, Bool.and_true]
/-- a map whose keys are stamps -/
def stM {α : Type} (f : α → AV) (l : List (St × α)) : List (AV × AV) := l.map fun x => (stA x.1, f x.2)
theorem stM_find {α : Type} (f : α → AV) (s : St) : ∀ (l : List (St × α)) (n : Nat), (mfindS Tryz.prog stFs (stA s) (stM f l) n = some none ∧ ∀ x ∈ l, x.1 ≠ s) ∨
    ∃ i v, mfindS Tryz.prog stFs (stA s) (stM f l) n = some (some (n + i, f v)) ∧ l[i]? = some (s, v) ∧ ∀ j < i, ∀ x, l[j]? = some x → x.1 ≠ s
  | [], n => .inl ⟨rfl, by simp⟩
  | a :: r, n => by
    simp only [stM, List.map_cons, mfindS, keyEqS_st]
    cases hb : stB s a.1 with
    | true =>
      have := stB_iff.1 hb
      right
      exact ⟨0, a.2, by simp, by simp [this], by omega⟩
    | false =>
      have hne : a.1 ≠ s := fun e => by rw [← e, stB_iff.2 rfl] at hb; cases hb
      rcases stM_find f s r (n + 1) with ⟨h1, h2⟩ | ⟨i, v, h1, h2, h3⟩
      · left
        refine ⟨h1, fun x hx => ?_⟩
        rcases List.mem_cons.1 hx with rfl | hx
        · exact hne
        · exact h2 x hx
      · right
        refine ⟨i + 1, v, ?_, by simpa using h2, fun j hj x hx => ?_⟩
        · simp only
          rw [show n + (i + 1) = n + 1 + i by omega]
          exact h1
        · cases j with
          | zero => simp at hx; subst hx; exact hne
          | succ j => exact h3 j (by omega) x (by simpa using hx)
def thM (ks : List St) : List (AV × AV) := stM (fun _ : Unit => .bool true) (ks.map fun k => (k, ()))
theorem thM_find (s : St) (ks : List St) : (mfindS Tryz.prog stFs (stA s) (thM ks) 0 = some none ∧ s ∉ ks) ∨ ∃ i, mfindS Tryz.prog stFs (stA s) (thM ks) 0 = some (some (i, .bool true)) ∧ ks[i]? = some s := by
  rcases stM_find (fun _ : Unit => AV.bool true) s (ks.map fun k => (k, ())) 0 with ⟨h1, h2⟩ | ⟨i, v, h1, h2, _⟩
  · exact .inl ⟨h1, fun hm => h2 (s, ()) (List.mem_map.2 ⟨s, hm, rfl⟩) rfl⟩
  · refine .inr ⟨0 + i, h1, ?_⟩
    rw [List.getElem?_map] at h2
    obtain ⟨k, hk, e⟩ := Option.map_eq_some_iff.1 h2
    simp at e
    rw [Nat.zero_add, hk, e]
theorem thM_push (ks : List St) (s : St) : thM ks ++ [(stA s, .bool true)] = thM (ks ++ [s]) := by simp [thM, stM]
theorem thM_set (ks : List St) (s : St) (i : Nat) (h : ks[i]? = some s) : (thM ks).set i (stA s, .bool true) = thM ks := by
  have : (thM ks)[i]? = some (stA s, .bool true) := by simp [thM, stM, h]
  apply List.ext_getElem?
  intro j
  rw [List.getElem?_set]
  split
  · rename_i hj
    subst hj
    split
    · exact this.symm
    · rename_i hn
      rw [List.getElem?_eq_none (by omega)] at this
      cases this
  · rfl
theorem low_thM (n : Nat) (ks : List St) : lowB n (.mp (thM ks)) = true := by
  show (thM ks).all _ = true
  rw [List.all_eq_true]
  intro x hx
  simp only [thM, stM, List.map_map, List.mem_map] at hx
  obtain ⟨k, _, rfl⟩ := hx
  rfl
theorem getD_end {α : Type} (r : List α) (x d : α) : (r ++ [x]).getD r.length d = x := by simp [List.getD]
theorem set_end {α : Type} (r : List α) (x y : α) : (r ++ [x]).set r.length y = r ++ [y] := by simp

def seenB (ks : List St) (own : List UInt8) (l : List St) (i : Nat) : Bool :=
  (keyL (l.getD i ⟨[], 0⟩).dept && !((l.getD i ⟨[], 0⟩).dept == own)) && ((i == 0 || !(bytesLess (l.getD i ⟨[], 0⟩).dept (l.getD (i - 1) ⟨[], 0⟩).dept || (l.getD i ⟨[], 0⟩).dept == (l.getD (i - 1) ⟨[], 0⟩).dept)) && decide (l.getD i ⟨[], 0⟩ ∈ ks))
def SeenOk (ks : List St) (own : List UInt8) (l : List St) : Prop := ∀ i < l.length, seenB ks own l i = true
theorem SeenOk.no {ks : List St} {own : List UInt8} {l : List St} {i : Nat} (hi : i < l.length) (h : seenB ks own l i = false) : ¬ SeenOk ks own l := fun hs => by rw [hs i hi] at h; cases h
set_option maxHeartbeats 4000000 in
theorem checkSeen_ct (d : De) (ks : List St) (r : List Blk) (hr : r.all (lowB (r.length + 1)) = true) (hd : d.seen.length < 1000000) (hk : ∀ s ∈ d.seen, s.dept.length < 1000000) :
    Ct Tryz.prog 79 [deA d, .mp 0] (.mp (thM ks) :: r) (fun v s => (∃ n : Int, v = .int .i64 n ∧ (n = 0 ↔ SeenOk ks d.st.dept d.seen)) ∧ s = .mp (thM ks) :: r) := by
  obtain ⟨seen, hseen⟩ : ∃ x, x = d.seen := ⟨_, rfl⟩
  rw [← hseen] at hd hk ⊢
  obtain ⟨own, hown⟩ : ∃ x, x = d.st.dept := ⟨_, rfl⟩
  rw [← hown]
  have hdA : deA d = .agg [.str own, .int .i64 d.st.no, .fz 2 (seen.map stA), .int .i64 d.kind, .str d.paper, .str d.text, .str d.person] := by rw [hown, hseen]; rfl
  rw [hdA]
  generalize d.st.no = dn
  refine ct_intro Tryz.func79 rfl Tryz.ntmps79 hB79 (by simp) fun h ρ w => goB (N := 49) Tryz.ntmps79 300 ?_
  simp only [go_sem]
  refine aloop (ι := Nat) (fun i => seen.length - i) (fun i => [(10, .int .i64 i), (9, .int .i64 seen.length), (8, .fz 2 (seen.map stA)), (2, .pin 7 [.agg [.str own, .int .i64 dn, .fz 2 (seen.map stA), .int .i64 d.kind, .str d.paper, .str d.text, .str d.person]] 0 0), (1, .mp 0)])
    (fun i => .mp (thM ks) :: r) (fun i => i ≤ seen.length ∧ ∀ j < i, seenB ks own seen j = true) 0 ⟨by simp, fun j h => absurd h (by omega)⟩ ?_ ?_
  · refine Shift.weak ?_
    simp only [wk, go_sem, List.length_map]
  · rintro i ⟨g1, g2⟩ J hJ
    by_cases gi : i < seen.length
    · have di : decide ((i : Int) < (seen.length : Int)) = true := by simp; omega
      have hki := isKey_pc seen[i].dept (hk _ (List.getElem_mem gi))
      have hfin : seenB ks own seen i = true → ∀ a w, Sim _ _ _ a w → J a w := fun hc => hJ (i + 1) ⟨by omega, fun j h => by
        rcases Nat.lt_or_ge j i with h2 | h2
        · exact g2 j h2
        · have : j = i := by omega
          subst this; exact hc⟩ (by omega)
      have hno : seenB ks own seen i = false → ¬ SeenOk ks own seen := SeenOk.no gi
      have hgd : seen.getD i ⟨[], 0⟩ = seen[i] := by simp [List.getD, gi]
      have hsb : seenB ks own seen i = ((keyL seen[i].dept && !(seen[i].dept == own)) && ((i == 0 || !(bytesLess seen[i].dept (seen.getD (i - 1) ⟨[], 0⟩).dept || seen[i].dept == (seen.getD (i - 1) ⟨[], 0⟩).dept)) && decide (seen[i] ∈ ks))) := by
        simp only [seenB, hgd]
      rw [hsb] at hfin hno
      have hret : ∀ (n : Int), n ≠ 0 → ((keyL seen[i].dept && !(seen[i].dept == own)) && ((i == 0 || !(bytesLess seen[i].dept (seen.getD (i - 1) ⟨[], 0⟩).dept || seen[i].dept == (seen.getD (i - 1) ⟨[], 0⟩).dept)) && decide (seen[i] ∈ ks))) = false → (∃ m : Int, AV.int .i64 n = .int .i64 m ∧ (m = 0 ↔ SeenOk ks own seen)) := fun n hn hc => ⟨n, rfl, ⟨fun h => absurd h hn, fun h => absurd h (hno hc)⟩⟩
      have htk : ∀ x : Blk, (Blk.mp (thM ks) :: (r ++ [x])).take (r.length + 1) = Blk.mp (thM ks) :: r := fun x => by simp
      have hall : ∀ x : Blk, ((Blk.mp (thM ks) :: (r ++ [x])).take (r.length + 1)).all (lowB (r.length + 1)) = true := fun x => by
        rw [htk, List.all_cons, low_thM, hr, Bool.true_and]
      refine goB (N := 49) Tryz.ntmps79 300 ?_
      simp only [go_sem, di, stA_get seen i gi, List.length_map, getD_end, set_end]
      repeat refine And.intro (by first | omega | rfl | (simp; omega)) ?_
      refine pcall1 (hki) rfl (N := 49) Tryz.ntmps79 rfl (goB (N := 49) Tryz.ntmps79 300 ?_)
      cases hk1 : keyL seen[i].dept with
      | false =>
        simp only [go_sem, getD_end, set_end]
        refine ARet.shift (Shift.low (r.length + 1) (e' := [(4, .int .i64 5)]) (by simp) (by simp) ?_ ?_) (aret [4] rfl ⟨hret 5 (by decide) (by simp [hk1]), htk _⟩)
        · exact hall _
        · simp only [wkl, lowV, lowC, Av.get, go_sem]
      | true =>
        cases hk2 : seen[i].dept == own with
        | true =>
          simp only [go_sem, hk2, getD_end, set_end]
          repeat refine And.intro (by first | omega | rfl | (simp; omega)) ?_
          refine ARet.shift (Shift.low (r.length + 1) (e' := [(4, .int .i64 5)]) (by simp) (by simp) ?_ ?_) (aret [4] rfl ⟨hret 5 (by decide) (by simp [hk1, hk2]), htk _⟩)
          · exact hall _
          · simp only [wkl, lowV, lowC, Av.get, go_sem]
        | false =>
          by_cases hi0 : i = 0
          · have e0 : decide ((i : Int) > 0) = false := by simp; omega
            have e00 : (i == 0) = true := by simp [hi0]
            simp only [go_sem, hk2, getD_end, set_end]
            repeat refine And.intro (by first | omega | rfl | (simp; omega)) ?_
            refine adraw [] mixed (by decide) (N := 49) Tryz.ntmps79 (by decide) 100 ?_
            simp only [go_sem, e0, getD_end, set_end]
            repeat refine And.intro (by first | omega | rfl | (simp; omega)) ?_
            refine goB (N := 49) Tryz.ntmps79 300 ?_
            rcases thM_find seen[i] ks with ⟨m1, m2⟩ | ⟨q, m1, m2⟩
            · simp only [stA] at m1
              simp only [go_sem, m1, getD_end, set_end]
              repeat refine And.intro (by first | rfl | kernel_rfl | omega) ?_
              refine ARet.shift (Shift.low (r.length + 1) (e' := [(4, .int .i64 8)]) (by simp) (by simp) ?_ ?_) (aret [4] rfl ⟨hret 8 (by decide) (by simp [hk1, hk2, e00, m2]), htk _⟩)
              · exact hall _
              · simp only [wkl, lowV, lowC, Av.get, go_sem]
            · have m3 : seen[i] ∈ ks := List.mem_of_getElem? m2
              simp only [stA] at m1
              simp only [go_sem, m1, getD_end, set_end]
              repeat refine And.intro (by first | rfl | kernel_rfl | omega) ?_
              rw [show (i : Int) + 1 = ((i + 1 : Nat) : Int) by omega]
              refine ainv (hfin (by simp [hk1, hk2, e00, m3])) (Shift.trans (Shift.low (r.length + 1) (e' := [(10, .int .i64 ((i + 1 : Nat) : Int)), (9, .int .i64 seen.length), (8, .fz 2 (seen.map stA)), (2, .pin 7 [.agg [.str own, .int .i64 dn, .fz 2 (seen.map stA), .int .i64 d.kind, .str d.paper, .str d.text, .str d.person]] 0 0), (1, .mp 0)]) (by simp) (by simp) ?_ ?_) (Shift.weakS ?_ (htk _)))
              · exact hall _
              · simp only [wkl, lowV, lowC, Av.get, go_sem, Nat.zero_lt_succ]
              · simp only [wk, Av.get, go_sem]
          · have e0 : decide ((i : Int) > 0) = true := by simp; omega
            have e00 : (i == 0) = false := by simp [hi0]
            have hp : ((i : Int) - 1).toNat = i - 1 := by omega
            have hgp : seen.getD (i - 1) ⟨[], 0⟩ = seen[i - 1] := by simp [List.getD, show i - 1 < seen.length by omega]
            rw [hgp] at hfin hret
            cases e2 : bytesLess seen[i].dept seen[i - 1].dept || seen[i].dept == seen[i - 1].dept with
            | true =>
              simp only [go_sem, hk2, getD_end, set_end]
              repeat refine And.intro (by first | omega | rfl | (simp; omega)) ?_
              refine adraw [] mixed (by decide) (N := 49) Tryz.ntmps79 (by decide) 100 ?_
              simp only [go_sem, e0, e2, hp, stA_get seen (i - 1) (by omega), List.length_map, getD_end, set_end]
              repeat refine And.intro (by first | omega | rfl | (simp; omega)) ?_
              refine goB (N := 49) Tryz.ntmps79 300 ?_
              simp only [go_sem]
              refine ARet.shift (Shift.low (r.length + 1) (e' := [(4, .int .i64 7)]) (by simp) (by simp) ?_ ?_) (aret [4] rfl ⟨hret 7 (by decide) (by simp [hk1, hk2, e00, e2]), htk _⟩)
              · exact hall _
              · simp only [wkl, lowV, lowC, Av.get, go_sem]
            | false =>
              simp only [go_sem, hk2, getD_end, set_end]
              repeat refine And.intro (by first | omega | rfl | (simp; omega)) ?_
              refine adraw [] mixed (by decide) (N := 49) Tryz.ntmps79 (by decide) 100 ?_
              simp only [go_sem, e0, e2, hp, stA_get seen (i - 1) (by omega), List.length_map, getD_end, set_end]
              repeat refine And.intro (by first | omega | rfl | (simp; omega)) ?_
              refine goB (N := 49) Tryz.ntmps79 300 ?_
              rcases thM_find seen[i] ks with ⟨m1, m2⟩ | ⟨q, m1, m2⟩
              · simp only [stA] at m1
                simp only [go_sem, m1, getD_end, set_end]
                repeat refine And.intro (by first | rfl | kernel_rfl | omega) ?_
                refine ARet.shift (Shift.low (r.length + 1) (e' := [(4, .int .i64 8)]) (by simp) (by simp) ?_ ?_) (aret [4] rfl ⟨hret 8 (by decide) (by simp [hk1, hk2, e00, e2, m2]), htk _⟩)
                · exact hall _
                · simp only [wkl, lowV, lowC, Av.get, go_sem]
              · have m3 : seen[i] ∈ ks := List.mem_of_getElem? m2
                simp only [stA] at m1
                simp only [go_sem, m1, getD_end, set_end]
                repeat refine And.intro (by first | rfl | kernel_rfl | omega) ?_
                rw [show (i : Int) + 1 = ((i + 1 : Nat) : Int) by omega]
                refine ainv (hfin (by simp [hk1, hk2, e00, e2, m3])) (Shift.trans (Shift.low (r.length + 1) (e' := [(10, .int .i64 ((i + 1 : Nat) : Int)), (9, .int .i64 seen.length), (8, .fz 2 (seen.map stA)), (2, .pin 7 [.agg [.str own, .int .i64 dn, .fz 2 (seen.map stA), .int .i64 d.kind, .str d.paper, .str d.text, .str d.person]] 0 0), (1, .mp 0)]) (by simp) (by simp) ?_ ?_) (Shift.weakS ?_ (htk _)))
                · exact hall _
                · simp only [wkl, lowV, lowC, Av.get, go_sem, Nat.zero_lt_succ]
                · simp only [wk, Av.get, go_sem]
    · have di : decide ((i : Int) < (seen.length : Int)) = false := by simp; omega
      refine goB (N := 49) Tryz.ntmps79 300 ?_
      simp only [go_sem, di]
      exact aret [4] rfl ⟨⟨0, rfl, ⟨fun _ j hj => g2 j (by omega), fun _ => rfl⟩⟩, rfl⟩
end Go.Proofs.YtkomcdohejibmaaGreatDoor
/- Deeds checked. Own work of this seat. -/
set_option maxRecDepth 100000
set_option linter.unusedSimpArgs false
set_option linter.unusedVariables false
namespace Go.Proofs.YtkomcdohejibmaaGreatDoor
open Go Go.Av Go.RowKit

structure SzD (d : De) : Prop where
  seen : d.seen.length < 1000000
  dept : d.st.dept.length < 1000000
  paper : d.paper.length < 1000000
  text : d.text.length < 1000000
  person : d.person.length < 1000000
  keys : ∀ s ∈ d.seen, s.dept.length < 1000000
structure SzL (l : List De) : Prop where
  len : l.length < 1000000
  all : ∀ d ∈ l, SzD d
theorem SzL.sz {l : List De} (h : SzL l) : Sz l := ⟨h.len, fun d hd => (h.all d hd).seen⟩
theorem SzL.filter {l : List De} (h : SzL l) (p : De → Bool) : SzL (l.filter p) := ⟨Nat.lt_of_le_of_lt (List.length_filter_le _ _) h.len, fun d hd => h.all d (List.mem_filter.1 hd).1⟩

/-! ### counts by department -/
def bM (bs : List (List UInt8 × Int)) : List (AV × AV) := bs.map fun x => (.str x.1, .int .i64 x.2)
theorem bM_find (k : List UInt8) : ∀ (l : List (List UInt8 × Int)) (n : Nat), (mfind .string (.str k) (bM l) n = some none ∧ ∀ x ∈ l, x.1 ≠ k) ∨
    ∃ i v, mfind .string (.str k) (bM l) n = some (some (n + i, .int .i64 v)) ∧ l[i]? = some (k, v)
  | [], n => .inl ⟨rfl, by simp⟩
  | a :: r, n => by
    simp only [bM, List.map_cons, mfind, keyEq]
    cases hb : k == a.1 with
    | true =>
      have : k = a.1 := by simpa using hb
      right
      exact ⟨0, a.2, by simp, by simp [this]⟩
    | false =>
      have hne : a.1 ≠ k := fun e => by simp [e] at hb
      rcases bM_find k r (n + 1) with ⟨h1, h2⟩ | ⟨i, v, h1, h2⟩
      · left
        refine ⟨h1, fun x hx => ?_⟩
        rcases List.mem_cons.1 hx with rfl | hx
        · exact hne
        · exact h2 x hx
      · right
        refine ⟨i + 1, v, ?_, by simpa using h2⟩
        simp only
        rw [show n + (i + 1) = n + 1 + i by omega]
        exact h1
theorem low_bM (n : Nat) (l : List (List UInt8 × Int)) : lowB n (.mp (bM l)) = true := by
  show (bM l).all _ = true
  rw [List.all_eq_true]
  intro x hx
  simp only [bM, List.mem_map] at hx
  obtain ⟨k, _, rfl⟩ := hx
  rfl
def cnt (l : List De) (k : List UInt8) : Nat := l.countP fun d => d.st.dept == k
theorem cnt_step (l : List De) (i : Nat) (h : i < l.length) (k : List UInt8) : cnt (l.take (i + 1)) k = cnt (l.take i) k + if l[i].st.dept = k then 1 else 0 := by
  unfold cnt
  rw [map_step l i h, List.countP_append, List.countP_singleton]
  simp
structure BInv (bs : List (List UInt8 × Int)) (c : List UInt8 → Nat) : Prop where
  nodup : (bs.map (·.1)).Nodup
  val : ∀ x ∈ bs, x.2 = c x.1
  none : ∀ k, (∀ x ∈ bs, x.1 ≠ k) → c k = 0
theorem BInv.push {bs : List (List UInt8 × Int)} {c : List UInt8 → Nat} (h : BInv bs c) {k0 : List UInt8} (hk : ∀ x ∈ bs, x.1 ≠ k0) : BInv (bs ++ [(k0, 1)]) (fun k => c k + if k0 = k then 1 else 0) := by
  refine ⟨?_, ?_, ?_⟩
  · rw [List.map_append, List.nodup_append]
    refine ⟨h.nodup, by simp, fun a ha b hb => ?_⟩
    obtain ⟨x, hx, rfl⟩ := List.mem_map.1 ha
    simp at hb
    subst hb
    exact hk x hx
  · intro x hx
    rcases List.mem_append.1 hx with hx | hx
    · have := hk x hx
      have e := h.val x hx
      simp only [e, if_neg (Ne.symm this)]
      simp
    · simp at hx
      subst hx
      simp [h.none k0 hk]
  · intro k hh
    have h1 := h.none k fun x hx => hh x (List.mem_append_left _ hx)
    have h2 := hh (k0, 1) (by simp)
    simp [h1, show ¬ k0 = k from h2]
theorem BInv.set {bs : List (List UInt8 × Int)} {c : List UInt8 → Nat} (h : BInv bs c) {k0 : List UInt8} {v : Int} {i : Nat} (hi : bs[i]? = some (k0, v)) : BInv (bs.set i (k0, v + 1)) (fun k => c k + if k0 = k then 1 else 0) := by
  have hlt := (List.getElem?_eq_some_iff.1 hi).1
  have hkeys : (bs.set i (k0, v + 1)).map (·.1) = bs.map (·.1) := by
    apply List.ext_getElem?
    intro j
    rw [List.getElem?_map, List.getElem?_map, List.getElem?_set]
    split
    · rename_i hj
      subst hj
      have e5 := (List.getElem?_eq_some_iff.1 hi).2
      simp [hlt, e5]
    · rfl
  refine ⟨by rw [hkeys]; exact h.nodup, ?_, ?_⟩
  · intro x hx
    obtain ⟨j, hj, e⟩ := List.getElem_of_mem hx
    have hj' : j < bs.length := by simpa using hj
    rw [List.getElem_set] at e
    split at e
    · subst e
      have := h.val (k0, v) (List.mem_of_getElem? hi)
      simp only at this
      simp [this]
    · rename_i hne
      have hne2 : k0 ≠ x.1 := by
        intro e2
        have hn := h.nodup
        have e3 : (bs.map (·.1))[i]? = some k0 := by rw [List.getElem?_map, hi]; rfl
        have e4 : (bs.map (·.1))[j]? = some x.1 := by rw [List.getElem?_map, List.getElem?_eq_getElem hj', e]; rfl
        exact hne ((List.getElem?_inj (by simpa using hlt) hn).1 (by rw [e3, e4, e2]))
      have hx2 : x ∈ bs := by rw [← e]; exact List.getElem_mem hj'
      simp [h.val x hx2, hne2]
  · intro k hh
    have hk : k0 ≠ k := by
      have := hh (k0, v + 1) (List.mem_iff_getElem.2 ⟨i, by simpa using hlt, by simp⟩)
      exact this
    have := h.none k fun x hx e => by
      have hm : k ∈ (bs.set i (k0, v + 1)).map (·.1) := by rw [hkeys]; exact List.mem_map.2 ⟨x, hx, e⟩
      obtain ⟨y, hy, e2⟩ := List.mem_map.1 hm
      exact hh y hy e2
    simp [this, hk]
theorem bM_set (bs : List (List UInt8 × Int)) (i : Nat) (k : List UInt8) (v : Int) : (bM bs).set i (.str k, .int .i64 v) = bM (bs.set i (k, v)) := by simp [bM, List.map_set]
theorem bM_push (bs : List (List UInt8 × Int)) (k : List UInt8) (v : Int) : bM bs ++ [(.str k, .int .i64 v)] = bM (bs ++ [(k, v)]) := by simp [bM]

/-- right deeds -/
structure CkAt (l : List De) (i : Nat) (d : De) : Prop where
  key : keyL d.st.dept = true
  order : 0 < i → ∀ p, l[i - 1]? = some p → stLt p.st d.st
  no : d.st.no = cnt (l.take i) d.st.dept + 1
  seen : SeenOk (l.map (·.st)) d.st.dept d.seen
  body : bodyL d.kind d.paper d.text d.person = 0
structure CkOk (l : List De) : Prop where
  len : l.length ≤ 500
  at' : ∀ i d, l[i]? = some d → CkAt l i d
  closed : ∀ d ∈ l, closedL l d = true
theorem SeenOk.congr {ks ks' : List St} {own : List UInt8} {l : List St} (h : ∀ s, s ∈ ks ↔ s ∈ ks') : SeenOk ks own l ↔ SeenOk ks' own l := by
  unfold SeenOk seenB
  simp only [h]
end Go.Proofs.YtkomcdohejibmaaGreatDoor
/- What the reference lets pass the office lets pass. Own work of this seat. -/
set_option maxRecDepth 100000
set_option linter.unusedSimpArgs false
set_option linter.unusedVariables false
namespace Go.Proofs.YtkomcdohejibmaaGreatDoor
open Go Go.Av Go.RowKit

theorem mem_tw {α : Type} {p : α → Bool} : ∀ {l : List α} {b : α}, b ∈ l.takeWhile p → p b = true
  | [], _, h => by simp at h
  | x :: l, b, h => by
    rw [List.takeWhile_cons] at h
    split at h
    · rename_i hx
      rcases List.mem_cons.1 h with rfl | h
      · exact hx
      · exact mem_tw h
    · simp at h
theorem trim_all {s cs : List UInt8} (h : Lib.trimS s cs = []) : ∀ b ∈ s, b ∈ cs := by
  unfold Lib.trimS Lib.trimLeftS Lib.trimRightS at h
  have dw : ∀ {l : List UInt8}, l.dropWhile (fun x => cs.contains x) = [] → ∀ b ∈ l, cs.contains b = true := by
    intro l hl b hb
    rw [← List.takeWhile_append_dropWhile (p := fun x => cs.contains x) (l := l), hl, List.append_nil] at hb
    exact mem_tw (p := fun x => cs.contains x) hb
  have h := dw h
  intro b hb
  have h2 : b ∈ s.reverse := List.mem_reverse.2 hb
  rw [← List.takeWhile_append_dropWhile (p := fun x => cs.contains x) (l := s.reverse), List.mem_append] at h2
  rcases h2 with h2 | h2
  · have := mem_tw h2
    simpa using this
  · have := h b (List.mem_reverse.2 h2)
    simpa using this
theorem keyO_keyL {s : List UInt8} (h : keyO s = true) : keyL s = true := by
  unfold keyO at h
  simp only [Bool.and_eq_true, decide_eq_true_eq, beq_iff_eq] at h
  obtain ⟨⟨⟨h1, h2⟩, h3⟩, h4⟩ := h
  have a1 := trim_all h3
  have a2 := trim_all h4
  rw [keyL_true]
  · simp only [Bool.and_eq_true, decide_eq_true_eq]; omega
  intro i hi
  have hm : s.getD i 0 ∈ s := by
    rw [show s.getD i 0 = s[i] by simp [List.getD, hi]]
    exact List.getElem_mem hi
  have q1 := a1 _ hm
  have key : ∀ b ∈ ([97, 98, 99, 100, 101, 102, 103, 104, 105, 106, 107, 108, 109, 110, 111, 112, 113, 114, 115, 116, 117, 118, 119, 120, 121, 122, 48, 49, 50, 51, 52, 53, 54, 55, 56, 57, 45] : List UInt8), (decide (97 ≤ b.toNat) && decide (b.toNat ≤ 122)) = true ∨ (b.toNat == 45 || (decide (48 ≤ b.toNat) && decide (b.toNat ≤ 57))) = true := by decide
  have key2 : ∀ b ∈ ([97, 98, 99, 100, 101, 102, 103, 104, 105, 106, 107, 108, 109, 110, 111, 112, 113, 114, 115, 116, 117, 118, 119, 120, 121, 122] : List UInt8), (decide (97 ≤ b.toNat) && decide (b.toNat ≤ 122)) = true := by decide
  unfold keyC
  by_cases h0 : i = 0
  · subst h0
    have : s.getD 0 0 ∈ s.take 1 := by
      cases s with
      | nil => simp at hi
      | cons c r => simp
    rw [key2 _ (a2 _ this), Bool.true_or]
  · rcases key _ q1 with hk | hk
    · rw [hk, Bool.true_or]
    · rw [hk, Bool.and_true, show (i != 0) = true by simpa using h0, Bool.or_true]
theorem txO_text {t : List UInt8} (h : txO t = false) (hn : t ≠ []) : isTextL t = true := by
  unfold txO at h
  simp only [Bool.or_eq_false_iff, Bool.not_eq_false', Bool.and_eq_false_iff] at h
  obtain ⟨h1, h2⟩ := h
  have h3 : Lib.hasSuffix t [10] = true := by
    rcases h2 with h2 | h2
    · simp at h2; exact absurd h2 hn
    · simpa using h2
  rw [isTextL_true, h3]
  intro i hi
  have hm : t.getD i 0 ∈ t := by
    rw [show t.getD i 0 = t[i] by simp [List.getD, hi]]
    exact List.getElem_mem hi
  generalize t.getD i 0 = b at *
  unfold txC
  by_cases hb : b = 10
  · subst hb; rfl
  · have := List.all_eq_true.1 h1 _ (noLf_mem hm hb)
    simp only [prC] at this
    rw [this, Bool.or_true]
theorem content_body {k : Int} {pa te pe : List UInt8} (h : contentL k pa te pe = 0) : bodyL k pa te pe = 0 := by
  unfold contentL at h
  unfold bodyL
  split at h
  · cases h
  rename_i h1
  rw [if_neg h1]
  split at h
  · cases h
  rename_i h2
  rw [if_neg (by rw [keyO_keyL (by simpa using h2)]; simp)]
  split at h
  · cases h
  rename_i h3
  rw [if_neg h3]
  split at h
  · cases h
  rename_i h4
  split at h
  · cases h
  rename_i h5
  have h5' : txO te = false := by simpa using h5
  rw [if_neg (fun hh => by
    rcases hh.2 with h6 | h6
    · exact h4 ⟨hh.1, h6⟩
    · rw [txO_text h5' hh.1] at h6; cases h6)]
  split at h
  · cases h
  rename_i h6
  rw [if_neg (fun hh => by
    cases hq : keyO pe with
    | true => rw [keyO_keyL hq] at hh; cases hh.2
    | false => exact h6 ⟨hh.1, hq⟩)]
  exact h
end Go.Proofs.YtkomcdohejibmaaGreatDoor
