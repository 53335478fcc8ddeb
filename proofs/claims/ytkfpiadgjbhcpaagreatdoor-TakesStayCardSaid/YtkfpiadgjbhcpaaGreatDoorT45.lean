/- take.assembled. Own work of this seat. -/
import Derived.Test.YtkfpiadgjbhcpaaGreatDoorT44
import Derived.Test.YtkfpiadgjbhcpaaGreatDoorT21
import Derived.Test.YtkfpiadgjbhcpaaGreatDoorT23
import Derived.Test.YtkfpiadgjbhcpaaGreatDoorT15
set_option maxRecDepth 100000
set_option linter.unusedSimpArgs false
set_option linter.unusedVariables false
namespace Go.Proofs.YtkfpiadgjbhcpaaGreatDoor
open Go Go.Av Go.RowKit

def runStep (rs : List (List Pp')) (p : Pp') : List (List Pp') := match rs.getLast? with
  | some r => match r.getLast? with
    | some q => if fol q p then rs.dropLast ++ [r ++ [p]] else rs ++ [[p]]
    | none => rs ++ [[p]]
  | none => rs ++ [[p]]
/-- a choice in runs -/
def runsF (ps : List Pp') : List (List Pp') := ps.foldl runStep []
theorem last_run {rs : List (List Pp')} {ps : List Pp'} (h : RunsOk rs ps) {q : Pp'} (hq : ps.getLast? = some q) : ∃ ys r a, rs = ys ++ [r] ∧ r.getLast? = some q ∧ r.head? = some a ∧ clipR r = ⟨q.take, a.cv.inn, q.cv.out⟩ ∧ ∀ p, runStep rs p = if fol q p then ys ++ [r ++ [p]] else rs ++ [[p]] := by
  cases hl : rs.getLast? with
  | none =>
    have : rs = [] := by simpa using hl
    subst this
    have := h.flat
    simp only [List.flatten_nil] at this
    subst this
    simp at hq
  | some r =>
    obtain ⟨ys, rfl⟩ := List.getLast?_eq_some_iff.1 hl
    have hr := h.run r (by simp)
    have hrq : r.getLast? = some q := by
      rw [← flat_last hl hr.1, h.flat]; exact hq
    obtain ⟨a, ha⟩ : ∃ a, r.head? = some a := by
      cases r with
      | nil => exact absurd rfl hr.1
      | cons a b => exact ⟨a, rfl⟩
    refine ⟨ys, r, a, rfl, hrq, ha, ?_, fun p => ?_⟩
    · rw [(clip_more ha hrq q).1, fols_take r a q hr.2 ha hrq]
    · simp only [runStep, hl, hrq, List.dropLast_concat]
theorem runStep_ok {rs : List (List Pp')} {ps : List Pp'} (h : RunsOk rs ps) (p : Pp') : RunsOk (runStep rs p) (ps ++ [p]) := by
  cases hq : ps.getLast? with
  | none =>
    have hp : ps = [] := by simpa using hq
    have hrs : rs = [] := by
      cases rs with
      | nil => rfl
      | cons r t =>
        have h1 := h.run r (by simp)
        have h2 := h.flat
        rw [hp] at h2
        simp at h2
        exact absurd h2.1 h1.1
    subst hrs
    have := RunsOk.next (p := p) h (fun q hq' => by rw [hq] at hq'; cases hq')
    simpa [runStep] using this
  | some q =>
    obtain ⟨ys, r, a, e1, e2, e3, e4, e5⟩ := last_run h hq
    rw [e5]
    split
    · rename_i hf
      subst e1
      exact h.more e2 hf
    · rename_i hf
      refine h.next fun q' hq' => ?_
      rw [hq] at hq'
      rw [← Option.some.inj hq']
      simpa using hf
theorem runs_step (ps : List Pp') (i : Nat) (h : i < ps.length) : runsF (ps.take (i + 1)) = runStep (runsF (ps.take i)) ps[i] := by
  rw [List.take_add_one, List.getElem?_eq_getElem h]
  unfold runsF
  rw [List.foldl_append]; rfl
theorem runs_take (ps : List Pp') : ∀ i, i ≤ ps.length → RunsOk (runsF (ps.take i)) (ps.take i)
  | 0, _ => by simpa [runsF] using runs_nil
  | i + 1, h => by
    have ih := runs_take ps i (by omega)
    have := runStep_ok ih ps[i]
    rw [← runs_step ps i (by omega)] at this
    have e : ps.take i ++ [ps[i]] = ps.take (i + 1) := by rw [List.take_add_one, List.getElem?_eq_getElem (by omega : i < ps.length)]; rfl
    rwa [e] at this
theorem runs_ok (ps : List Pp') : RunsOk (runsF ps) ps := by
  have := runs_take ps ps.length (Nat.le_refl _)
  rwa [List.take_length] at this
theorem runs_len {rs : List (List Pp')} {ps : List Pp'} (h : RunsOk rs ps) : rs.length ≤ ps.length := by
  have h1 : ∀ rs : List (List Pp'), (∀ r ∈ rs, r ≠ []) → rs.length ≤ rs.flatten.length := by
    intro rs
    induction rs with
    | nil => simp
    | cons a r ih =>
      intro hh
      have := ih fun x hx => hh x (by simp [hx])
      have h2 : a.length ≠ 0 := fun e => hh a (by simp) (List.eq_nil_of_length_eq_zero e)
      simp only [List.length_cons, List.flatten_cons, List.length_append]
      omega
  have := h1 rs fun r hr => (h.run r hr).1
  rwa [h.flat] at this
def clpA (c : Clp) : AV := .agg [.int .i64 c.take, .int .i64 c.inn, .int .i64 c.out]
def clipsA (rs : List (List Pp')) : List AV := rs.map fun r => clpA (clipR r)
theorem clips_frz : ∀ l : List (List Pp'), (flat (clipsA l)).all Av.frozen = true
  | [] => rfl
  | x :: r => by simpa [flat, cellsOf, clipsA, clpA, Av.frozen] using clips_frz r
theorem clips_len (l : List (List Pp')) : (clipsA l).length = l.length := by simp [clipsA]
theorem clips_snoc (l : List (List Pp')) (r : List Pp') : clipsA (l ++ [r]) = clipsA l ++ [clpA (clipR r)] := by simp [clipsA]
theorem clips_get (l : List (List Pp')) (r : List Pp') {n : Nat} (h : n = l.length) : List.getD (clipsA (l ++ [r])) n .any = clpA (clipR r) := by
  rw [clips_snoc, List.getD_eq_getElem?_getD, List.getElem?_append_right (by rw [clips_len]; omega), clips_len, h, Nat.sub_self]; rfl
theorem clips_set (l : List (List Pp')) (r r' : List Pp') {n : Nat} (h : n = l.length) : (clipsA (l ++ [r])).set n (clpA (clipR r')) = clipsA (l ++ [r']) := by
  rw [clips_snoc, clips_snoc, List.set_append, if_neg (by rw [clips_len]; omega), clips_len, h, Nat.sub_self]; rfl
theorem nat_beq' (a b : Nat) : ((a : Int) == (b : Int)) = (a == b) := by
  rw [Bool.eq_iff_iff]; simp; omega
set_option maxHeartbeats 8000000 in
theorem assembled_ct (y : Sc) (hy : y.paras.length ≤ 60) (l : List Tk) (hg : ∀ t ∈ l, t.good = true) (hll : l.length < 100000) (gs : List Gq) (mid : Nat) (T : List Blk) (hI : GrpI gs l mid T) :
    Ct Tryz.prog 39 [scA y, .mp mid, .fz 9 (l.map tkA)] T (fun r s => s = T ∧ ((∀ x ∈ rowsN y gs, x.2 ≠ []) → r = .tup [.fz 3 (clipsA (runsF (chosenF none (stepsN (rowsN y gs))))), .int .i64 (joinsN none (chosenF none (stepsN (rowsN y gs)))), .bool true]) ∧ (¬ (∀ x ∈ rowsN y gs, x.2 ≠ []) → r = .tup [.fz 3 [], .int .i64 0, .bool false])) := by
  have hst := steps_ct y hy l hg hll gs mid T hI
  have hT := hI.low
  have hch := chosen_pc y hy gs hI.len
  have hrl : (rowsN y gs).length ≤ 60 := by
    rw [rowsN, List.length_map]
    exact Nat.le_trans (needF_len _ _) hy
  simp only [scA] at hst hch ⊢
  refine ct_intro Tryz.func39 rfl Tryz.ntmps39 hB39 (by simp) fun h ρ w => goB (N := 86) Tryz.ntmps39 300 ?_
  simp only [go_sem]
  refine acall (hst) (N := 86) Tryz.ntmps39 rfl ?_
  rintro r s' ⟨rfl, hr1, hr2⟩
  by_cases hne : ∀ x ∈ rowsN y gs, x.2 ≠ []
  · rw [hr1 hne]
    have hch := hch hne
    obtain ⟨R, hR⟩ : ∃ R, R = chosenF none (stepsN (rowsN y gs)) := ⟨_, rfl⟩
    have hRl : R.length ≤ 60 := by
      have := chosen_len _ _ _ (chosenF_ok (stepsN (rowsN y gs)) none (stepsN_ok _ hne))
      rw [hR, this, stepsN_len]; exact hrl
    rw [← hR] at hch ⊢
    have hrk := runs_ok R
    obtain ⟨RC, hRC⟩ : ∃ c, c = clipsA (runsF R) := ⟨_, rfl⟩
    obtain ⟨JN, hJN⟩ : ∃ j, j = joinsN none R := ⟨_, rfl⟩
    rw [← hRC, ← hJN]
    clear hr1 hr2
    refine goB (N := 86) Tryz.ntmps39 300 ?_
    simp only [go_sem]
    refine pcall1 (hch) rfl (N := 86) Tryz.ntmps39 rfl (goB (N := 86) Tryz.ntmps39 300 ?_)
    simp only [go_sem, List.length_map]
    refine aloop (ι := Nat) (fun i => R.length - i)
      (fun i => [(29, .int .i64 i), (28, .int .i64 R.length), (27, .fz 5 (R.map ppA)), (12, .int .i64 (((runsF (R.take i)).length : Int) - (if i = 0 then 0 else 1))), (11, .sl s'.length 0 (runsF (R.take i)).length (runsF (R.take i)).length)])
      (fun i => s' ++ [.arr 3 (clipsA (runsF (R.take i)))]) (fun i => i ≤ R.length) 0 (by simp) ?_ ?_
    · refine Shift.trans (Shift.nilsl 11 3 rfl) (Shift.weakS ?_ ?_)
      · simp only [wk, go_sem, List.length_map, List.take_zero, runsF, List.foldl_nil, List.length_nil]
      · simp [runsF, clipsA]
    intro i g1 J hJ
    by_cases gi : i < R.length
    · have di : decide ((i : Int) < (R.length : Int)) = true := by simp; omega
      have hget := ppA_get R i gi
      have hok := runs_take R i g1
      have hstep := runs_step R i gi
      have hfin := hJ (i + 1) (by omega) (by omega)
      have hlen := runs_len hok
      rw [List.length_take] at hlen
      rw [hstep] at hfin
      rw [if_neg (Nat.succ_ne_zero i)] at hfin
      have hlq : ∀ q, (R.take i).getLast? = some q → q ∈ R := fun q hq => List.mem_of_mem_take (List.mem_of_getLast? hq)
      have hte : R.take i = [] → i = 0 := fun h => by
        have := congrArg List.length h
        rw [List.length_take, List.length_nil] at this
        omega
      have hte' : i = 0 → R.take i = [] := fun h => by rw [h]; rfl
      generalize R[i] = p at *
      generalize R.take i = ps at *
      clear hJ
      cases hq : ps.getLast? with
      | none =>
        have hp : ps = [] := by simpa using hq
        have hi0 : i = 0 := hte hp
        subst hp
        have hru : runsF [] = [] := rfl
        rw [hru] at hfin ⊢
        have hf2 : runStep [] p = [[p]] := rfl
        rw [hf2] at hfin
        rw [if_pos hi0]
        simp only [clipsA, List.map_cons, List.map_nil, clip_one, clpA, List.length_cons, List.length_nil] at hfin ⊢
        have dn : decide ((0 : Int) - 1 ≥ 0) = false := by decide
        have d0 : decide ((i : Int) > 0) = false := by simp; omega
        refine goB (N := 86) Tryz.ntmps39 300 ?_
        simp only [go_sem, di, hget, gt_at, gt_at0, st_at, st_at0, List.append_assoc, List.length_map]
        repeat refine And.intro (by first | omega | (simp; done) | (simp; omega)) ?_
        refine adraw [] mixed (by decide) (N := 86) Tryz.ntmps39 (by decide) 100 ?_
        simp only [go_sem, dn, d0, gt_at, gt_at0, st_at, st_at0, List.append_assoc, List.length_map]
        repeat refine And.intro (by first | omega | rfl | (simp; done) | (simp; omega)) ?_
        refine goB (N := 86) Tryz.ntmps39 300 ?_
        simp only [go_sem, d0, gt_at, gt_at0, st_at, st_at0, List.append_assoc, List.length_map]
        repeat refine And.intro (by first | omega | rfl | exact .inl rfl | exact .inl trivial | (simp; done) | (simp; omega)) ?_
        rw [show (i : Int) + 1 = ((i + 1 : Nat) : Int) by omega]
        refine ainv hfin (shift_lowE s' [_] _ rfl (by simp) hT ?_ ?_)
        · simp only [List.all_cons, List.all_nil, lowB, flat_append, List.all_append, flat, cellsOf, lowC, Av.frozen, List.append_nil, List.cons_append, List.nil_append, Bool.and_self, List.length_cons, List.length_nil]
        · simp only [wkl, lowV, lowC, Av.get, go_sem, List.length_cons, List.length_nil]
          repeat (first | rfl | (simp; done) | (simp; omega) | refine And.intro (by first | rfl | (simp; done) | (simp; omega)) ?_)
      | some q =>
        have hi0 : i ≠ 0 := fun h => by rw [hte' h] at hq; cases hq
        obtain ⟨ys, r, a, e1, e2, e3, e4, e5⟩ := last_run hok hq
        rw [if_neg hi0]
        rw [e5] at hfin
        obtain ⟨n, hn⟩ : ∃ n, n = ys.length := ⟨_, rfl⟩
        have hn60 : n ≤ 60 := by
          rw [e1] at hlen
          simp only [List.length_append, List.length_cons, List.length_nil] at hlen
          omega
        have hn1 : ((n + 1 : Nat) : Int) - 1 = (n : Int) := by omega
        have hnl : (ys ++ [r]).length = n + 1 := by simp [hn]
        have hcl : (clipsA (ys ++ [r])).length = n + 1 := by rw [clips_len, hnl]
        have hcz := clips_frz (ys ++ [r])
        have hcg := clips_get ys r hn
        rw [e4] at hcg
        have hcs := clips_set ys r (r ++ [p]) hn
        rw [(clip_more e3 e2 p).2] at hcs
        have hat : fol q p = true → a.take = p.take := fun h => by
          have := fols_take r a q (hok.run r (by rw [e1]; simp)).2 e3 e2
          simp only [fol, Bool.and_eq_true, beq_iff_eq] at h
          rw [this, h.1]
        have hat2 : a.take = q.take := fols_take r a q (hok.run r (by rw [e1]; simp)).2 e3 e2
        rw [hat2] at hcs
        have hca : clipsA (ys ++ [r]) ++ [.agg [.int .i64 p.take, .int .i64 p.cv.inn, .int .i64 p.cv.out]] = clipsA (ys ++ [r] ++ [[p]]) := by rw [clips_snoc (ys ++ [r])]; rfl
        rw [e1] at hfin ⊢
        simp only [clpA] at hcg hcs
        have hcz2 := clips_frz (ys ++ [r ++ [p]])
        have hcl2 : (clipsA (ys ++ [r ++ [p]])).length = n + 1 := by rw [clips_len]; simp [hn]
        have dn : decide ((n : Int) ≥ 0) = true := by simp
        have d0 : decide ((i : Int) > 0) = true := by simp; omega
        rw [hnl, hn1]
        have hb := nat_beq' q.take p.take
        generalize clipsA (ys ++ [r]) = C at *
        cases hf : fol q p with
        | true =>
          rw [hf, if_pos rfl] at hfin
          have hf' := hf
          simp only [fol, Bool.and_eq_true] at hf'
          have b1 := hf'.1
          have b2 := hf'.2
          rw [← hb] at b1
          rw [show (ys ++ [r ++ [p]]).length = n + 1 by simp [hn], hn1, ← hcs] at hfin
          rw [← hcs] at hcz2
          refine goB (N := 86) Tryz.ntmps39 300 ?_
          simp only [go_sem, di, hget, gt_at, gt_at0, st_at, st_at0, hn1, List.append_assoc, List.length_map]
          repeat refine And.intro (by first | omega | (simp; done) | (simp; omega)) ?_
          refine adraw [] mixed (by decide) (N := 86) Tryz.ntmps39 (by decide) 100 ?_
          simp only [go_sem, dn, d0, hcl, hcg, b1, b2, gt_at, gt_at0, st_at, st_at0, List.append_assoc, List.length_map]
          repeat refine And.intro (by first | omega | rfl | (simp; done) | (simp; omega)) ?_
          refine goB (N := 86) Tryz.ntmps39 300 ?_
          simp only [go_sem, d0, hcl, hcg, gt_at, gt_at0, st_at, st_at0, List.append_assoc, List.length_map]
          repeat refine And.intro (by first | omega | rfl | exact .inl rfl | exact .inl trivial | (simp; done) | (simp; omega)) ?_
          rw [show (i : Int) + 1 = ((i + 1 : Nat) : Int) by omega]
          refine ainv hfin (shift_lowE s' [_] _ rfl (by simp) hT ?_ ?_)
          · simp only [List.all_cons, List.all_nil, lowB, flat_append, List.all_append, low_all hcz2, flat, cellsOf, lowC, Av.frozen, List.append_nil, List.cons_append, List.nil_append, Bool.and_self, List.length_cons, List.length_nil]
          · simp only [wkl, lowV, lowC, Av.get, go_sem, List.length_cons, List.length_nil]
            repeat (first | rfl | (simp; done) | (simp; omega) | refine And.intro (by first | rfl | (simp; done) | (simp; omega)) ?_)
        | false =>
          rw [hf, if_neg Bool.false_ne_true, List.length_append, hnl, ← hca] at hfin
          simp only [List.length_cons, List.length_nil, Nat.zero_add] at hfin
          rw [show ((n + 1 + 1 : Nat) : Int) - 1 = (n : Int) + 1 by omega] at hfin
          have key : ∀ x y, (q.take == p.take) = x → (q.cv.out == p.cv.inn) = y → (x && y) = false := fun x y h1 h2 => by
            rw [← h1, ← h2]; exact hf
          cases b1 : (q.take == p.take) with
          | false =>
            rw [← hb] at b1
            refine goB (N := 86) Tryz.ntmps39 300 ?_
            simp only [go_sem, di, hget, gt_at, gt_at0, st_at, st_at0, hn1, List.append_assoc, List.length_map]
            repeat refine And.intro (by first | omega | (simp; done) | (simp; omega)) ?_
            refine adraw [] mixed (by decide) (N := 86) Tryz.ntmps39 (by decide) 100 ?_
            simp only [go_sem, dn, d0, hcl, hcg, b1, gt_at, gt_at0, st_at, st_at0, List.append_assoc, List.length_map]
            repeat refine And.intro (by first | omega | rfl | (simp; done) | (simp; omega)) ?_
            refine goB (N := 86) Tryz.ntmps39 300 ?_
            simp only [go_sem, d0, hcl, hcg, gt_at, gt_at0, st_at, st_at0, List.append_assoc, List.length_map]
            repeat refine And.intro (by first | omega | rfl | exact .inl rfl | exact .inl trivial | (simp; done) | (simp; omega)) ?_
            rw [show (i : Int) + 1 = ((i + 1 : Nat) : Int) by omega]
            refine ainv hfin (shift_lowE s' [_] _ rfl (by simp) hT ?_ ?_)
            · simp only [List.all_cons, List.all_nil, lowB, flat_append, List.all_append, low_all hcz, flat, cellsOf, lowC, Av.frozen, List.append_nil, List.cons_append, List.nil_append, Bool.and_self, List.length_cons, List.length_nil]
            · simp only [wkl, lowV, lowC, Av.get, go_sem, List.length_cons, List.length_nil]
              repeat (first | rfl | (simp; done) | (simp; omega) | refine And.intro (by first | rfl | (simp; done) | (simp; omega)) ?_)
          | true =>
            have b2 : (q.cv.out == p.cv.inn) = false := by simpa using key true _ b1 rfl
            rw [← hb] at b1
            refine goB (N := 86) Tryz.ntmps39 300 ?_
            simp only [go_sem, di, hget, gt_at, gt_at0, st_at, st_at0, hn1, List.append_assoc, List.length_map]
            repeat refine And.intro (by first | omega | (simp; done) | (simp; omega)) ?_
            refine adraw [] mixed (by decide) (N := 86) Tryz.ntmps39 (by decide) 100 ?_
            simp only [go_sem, dn, d0, hcl, hcg, b1, b2, gt_at, gt_at0, st_at, st_at0, List.append_assoc, List.length_map]
            repeat refine And.intro (by first | omega | rfl | (simp; done) | (simp; omega)) ?_
            refine goB (N := 86) Tryz.ntmps39 300 ?_
            simp only [go_sem, d0, hcl, hcg, gt_at, gt_at0, st_at, st_at0, List.append_assoc, List.length_map]
            repeat refine And.intro (by first | omega | rfl | exact .inl rfl | exact .inl trivial | (simp; done) | (simp; omega)) ?_
            rw [show (i : Int) + 1 = ((i + 1 : Nat) : Int) by omega]
            refine ainv hfin (shift_lowE s' [_] _ rfl (by simp) hT ?_ ?_)
            · simp only [List.all_cons, List.all_nil, lowB, flat_append, List.all_append, low_all hcz, flat, cellsOf, lowC, Av.frozen, List.append_nil, List.cons_append, List.nil_append, Bool.and_self, List.length_cons, List.length_nil]
            · simp only [wkl, lowV, lowC, Av.get, go_sem, List.length_cons, List.length_nil]
              repeat (first | rfl | (simp; done) | (simp; omega) | refine And.intro (by first | rfl | (simp; done) | (simp; omega)) ?_)
    · have hi : i = R.length := by omega
      have di : decide ((i : Int) < (R.length : Int)) = false := by simp; omega
      have htl : R.take i = R := List.take_of_length_le (by omega)
      have hjo := hrk.joins
      have hje : (((runsF R).length : Nat) : Int) - (if i = 0 then 0 else 1) = JN := by
        rw [hJN]
        by_cases h0 : i = 0
        · have : R = [] := List.eq_nil_of_length_eq_zero (by omega)
          rw [if_pos this] at hjo
          rw [if_pos h0]; omega
        · have : R ≠ [] := fun h => by rw [h] at hi; exact h0 (by simpa using hi)
          rw [if_neg this] at hjo
          rw [if_neg h0]; omega
      rw [htl, hje]
      clear hJ
      refine AWp.shift (Shift.freeze 11 (id := s'.length) (l := clipsA (runsF R)) rfl (by rw [gt_at0]; rfl) (by rw [clips_len]; omega) (Nat.le_refl _) (clips_frz _)) ?_
      have htk : List.take (runsF R).length (List.drop 0 (clipsA (runsF R))) = RC := by rw [List.drop_zero, List.take_of_length_le (by rw [clips_len]; omega), hRC]
      rw [htk, st_at0]
      refine goB (N := 86) Tryz.ntmps39 300 ?_
      simp only [go_sem, di]
      repeat refine And.intro (by first | omega | rfl | (simp; done) | (simp; omega)) ?_
      refine ARet.shift (shift_lowE s' [] [_] rfl (by simp) hT rfl (e' := [(6, .fz 3 RC), (7, .int .i64 JN), (8, .bool true)]) ?_) ?_
      · simp only [wkl, lowV, lowC, Av.get, go_sem]
      · rw [List.append_nil]
        exact aret [6, 7, 8] rfl ⟨rfl, fun _ => rfl, fun h => absurd hne h⟩
  · rw [hr2 hne]
    refine goB (N := 86) Tryz.ntmps39 300 ?_
    simp only [go_sem]
    refine ARet.shift (Shift.nilfz 6 3 rfl) ?_
    simp only [go_sem]
    exact aret [6, 7, 8] rfl ⟨rfl, fun h => absurd h hne, fun _ => rfl⟩
def partU (no : List UInt8) (p : Int) (j : Nat) (t : Tk) : List Pp' := if t.scene == no then (match t.covers.find? fun x => x.para == p with
  | some c => [⟨j, c⟩]
  | none => []) else []
/-- the parts of a paragraph by the first takes, one each -/
def partsU (l : List Tk) (no : List UInt8) (p : Int) : Nat → List Pp'
  | 0 => []
  | j + 1 => partsU l no p j ++ (match l[j]? with
    | some t => partU no p j t
    | none => [])
theorem partsU_len {l : List Tk} {no : List UInt8} {p : Int} : ∀ j, (partsU l no p j).length ≤ j
  | 0 => by simp [partsU]
  | j + 1 => by
    have ih := partsU_len (l := l) (no := no) (p := p) j
    simp only [partsU, List.length_append]
    have : (match l[j]? with | some t => partU no p j t | none => []).length ≤ 1 := by
      split
      · unfold partU; split
        · split <;> simp
        · simp
      · simp
    omega
theorem find_inc {p : Int} : ∀ {l : List Cv}, l.Pairwise (fun a b => a.para < b.para) → (l.filter fun x => x.para == p) = (l.find? fun x => x.para == p).toList
  | [], _ => rfl
  | c :: r, h => by
    rw [List.pairwise_cons] at h
    have ih := find_inc (p := p) h.2
    simp only [List.filter_cons, List.find?_cons]
    cases hb : c.para == p with
    | false => simpa using ih
    | true =>
      have hp : c.para = p := by simpa using hb
      have : (r.filter fun x => x.para == p) = [] := by
        rw [List.filter_eq_nil_iff]
        intro a ha
        have := h.1 a ha
        simp; omega
      simp [this]
theorem cv_inc {x : Sr} {r : Rl} {l : List Tk} (h : TakesOk x r l) {k : Nat} {t : Tk} (ht : l[k]? = some t) : t.covers.Pairwise (fun a b => a.para < b.para) := by
  have ha := h.at' k t ht
  obtain ⟨i, hi, his⟩ := (sceneIx_bd x t.scene).resolve_left (by have := ha.scene; omega)
  have hc := ha.cov i hi his
  have key : ∀ d a, (hd : a + d + 1 < t.covers.length) → (t.covers[a]'(by omega)).para < t.covers[a + d + 1].para := by
    intro d
    induction d with
    | zero =>
      intro a hd
      have := (hc (a + 1) _ (List.getElem?_eq_getElem hd)).2.1 (by omega) t.covers[a] (by rw [Nat.add_sub_cancel]; exact List.getElem?_eq_getElem (by omega))
      exact this.1
    | succ d ih =>
      intro a hd
      have h1 := ih a (by omega)
      have := (hc (a + (d + 1) + 1) _ (List.getElem?_eq_getElem hd)).2.1 (by omega) (t.covers[a + d + 1]'(by omega)) (by rw [Nat.add_sub_cancel]; exact List.getElem?_eq_getElem (by omega))
      omega
  rw [List.pairwise_iff_getElem]
  intro a b ha hb hab
  have := key (b - a - 1) a (by omega)
  simpa [show a + (b - a - 1) + 1 = b by omega] using this
theorem parts_one {x : Sr} {r : Rl} {l : List Tk} (h : TakesOk x r l) (no : List UInt8) (p : Int) : ∀ j, partsN l no p j = partsU l no p j
  | 0 => rfl
  | j + 1 => by
    simp only [partsN, partsU, parts_one h no p j]
    congr 1
    cases ht : l[j]? with
    | none => rfl
    | some t =>
      simp only [partsT, partU, List.take_length, find_inc (cv_inc h ht)]
      split
      · cases t.covers.find? (fun x => x.para == p) <;> rfl
      · rfl
theorem partsU_mem {l : List Tk} {no : List UInt8} {p : Int} : ∀ {j : Nat} {q : Pp'}, q ∈ partsU l no p j → q.take < j ∧ ∃ t, l[q.take]? = some t ∧ t.scene = no ∧ t.covers.find? (fun x => x.para == p) = some q.cv
  | 0, q, h => by simp [partsU] at h
  | j + 1, q, h => by
    simp only [partsU, List.mem_append] at h
    rcases h with h | h
    · obtain ⟨h1, h2⟩ := partsU_mem h
      exact ⟨by omega, h2⟩
    · cases ht : l[j]? with
      | none => rw [ht] at h; simp at h
      | some t =>
        rw [ht] at h
        simp only [partU] at h
        split at h
        · rename_i hs
          cases hf : t.covers.find? (fun x => x.para == p) with
          | none => rw [hf] at h; simp at h
          | some c =>
            rw [hf] at h
            simp at h
            subst h
            exact ⟨by simp, t, ht, by simpa using hs, hf⟩
        · simp at h
/-- the groups of one scene -/
theorem cov_grp {x : Sr} {r : Rl} {rs : List Rl} {l : List Tk} (hf : FilmOk x r rs l) {G : Nat → List Gq} {T : List Blk} (h : CovI x.scenes G T) (hp : ∀ i (h : i < x.scenes.length) p, partsG (G i) p = partsN l x.scenes[i].no p l.length) {i : Nat} (hi : i < x.scenes.length) : GrpI (G i) l (i + 1 + 1) T := by
  have hgs : ∀ g ∈ G i, g.ps = partsU l x.scenes[i].no g.key l.length := fun g hg => by
    obtain ⟨m, hm, rfl⟩ := List.getElem_of_mem hg
    rw [← partsG_at (h.uniq i hi) (List.getElem?_eq_getElem hm), hp i hi, parts_one hf.ok]
  refine ⟨h.low, h.maps i hi, h.blk i hi, h.uniq i hi, fun g hg p hpg => ?_, fun g hg => ?_⟩
  · rw [hgs g hg] at hpg
    exact (partsU_mem hpg).1
  · rw [hgs g hg]
    have := partsU_len (l := l) (no := x.scenes[i].no) (p := g.key) l.length
    have := hf.len
    omega
/-- the rows of a scene by its takes -/
def rowsU (y : Sc) (l : List Tk) : List (Bool × List Pp') := (needF 0 y.paras).map fun k => (isSp y k, partsU l y.no k l.length)
theorem rows_eq {x : Sr} {r : Rl} {rs : List Rl} {l : List Tk} (hf : FilmOk x r rs l) {G : Nat → List Gq} (hp : ∀ i (h : i < x.scenes.length) p, partsG (G i) p = partsN l x.scenes[i].no p l.length) {i : Nat} (hi : i < x.scenes.length) : rowsN x.scenes[i] (G i) = rowsU x.scenes[i] l := by
  unfold rowsN rowsU
  refine List.map_congr_left fun k _ => ?_
  rw [hp i hi, parts_one hf.ok]
end Go.Proofs.YtkfpiadgjbhcpaaGreatDoor
set_option linter.unusedSectionVars false
namespace Go.Av
open Go Go.RowKit
variable [Tr]
variable {c : Cx} {s : List Blk}

end Go.Av
