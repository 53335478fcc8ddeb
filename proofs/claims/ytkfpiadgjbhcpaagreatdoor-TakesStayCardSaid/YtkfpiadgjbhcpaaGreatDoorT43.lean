/- take.steps. Own work of this seat. -/
import Derived.Test.YtkfpiadgjbhcpaaGreatDoorT42
import Derived.Test.YtkfpiadgjbhcpaaGreatDoorT21
set_option maxRecDepth 100000
set_option linter.unusedSimpArgs false
set_option linter.unusedVariables false
namespace Go.Proofs.YtkfpiadgjbhcpaaGreatDoor
open Go Go.Av Go.RowKit

/-- the paragraphs of a scene that need takes, with the parts there are -/
def isSp (y : Sc) (k : Nat) : Bool := (y.paras.getD k ⟨0, []⟩).kind == 4
def rowsN (y : Sc) (gs : List Gq) : List (Bool × List Pp') := (needF 0 y.paras).map fun k => (isSp y k, partsG gs k)
/-- the groups of a scene in a table -/
structure GrpI (gs : List Gq) (l : List Tk) (mid : Nat) (T : List Blk) : Prop where
  low : T.all (lowB T.length) = true
  map : T[mid]? = some (.mp (mapE gs))
  blk : ∀ g ∈ gs, T[g.at']? = some (.arr 5 (g.ps.map ppA))
  uniq : gs.Pairwise fun a b => a.key ≠ b.key
  take : ∀ g ∈ gs, ∀ p ∈ g.ps, p.take < l.length
  len : ∀ g ∈ gs, g.ps.length < 100000
def zS : AV := .agg [.raw (.slice none 0 0), .raw (.slice none 0 0), .int .i64 0, .int .i64 0]
theorem natA_len (l : List Nat) : (natA l).length = l.length := by simp [natA]
theorem natA_get (l : List Nat) (i : Nat) (h : i < l.length) : List.getD (natA l) i .any = .int .i64 ((l[i] : Nat) : Int) := by simp [natA, List.getD, h]
theorem stp_frz : ∀ l : List Stp, (flat (l.map stpA)).all Av.frozen = true
  | [] => rfl
  | x :: r => by simpa [flat, cellsOf, stpA, Av.frozen] using stp_frz r
theorem zS_frz : ∀ n : Nat, (flat (List.replicate n zS)).all Av.frozen = true
  | 0 => rfl
  | n + 1 => by rw [List.replicate_succ]; simpa [flat, cellsOf, zS, Av.frozen] using zS_frz n
theorem scr_frz : ∀ l : List Scr, (flat (l.map scrA)).all Av.frozen = true
  | [] => rfl
  | x :: r => by simpa [flat, cellsOf, scrA, Av.frozen] using scr_frz r
/-- the steps so far, from the end -/
def outA (n m : Nat) (ss : List Stp) : List AV := List.replicate (n - m) zS ++ ss.map stpA
theorem outA_len {n m : Nat} {ss : List Stp} (h : m ≤ n) (hs : ss.length = m) : (outA n m ss).length = n := by simp [outA, hs]; omega
theorem outA_set {n m : Nat} {ss : List Stp} {s : Stp} (h : m < n) : (outA n m ss).set (n - 1 - m) (stpA s) = outA n (m + 1) (s :: ss) := by
  unfold outA
  rw [show n - m = (n - (m + 1)) + 1 by omega, List.replicate_succ', List.append_assoc, List.set_append, if_neg (by simp; omega), List.length_replicate]
  rw [show n - 1 - m - (n - (m + 1)) = 0 by omega]
  rfl
theorem outA_get {n m : Nat} {s : Stp} {ss : List Stp} (h : m < n) : List.getD (outA n m (s :: ss)) (n - m) .any = stpA s := by
  unfold outA
  rw [List.getD_eq_getElem?_getD, List.getElem?_append_right (by simp), List.length_replicate, Nat.sub_self]
  rfl
theorem best_snoc (l : List Scr) (s : Scr) : (bestL none (l ++ [s])).getD ⟨0, 0⟩ = if l = [] then s else if bet s ((bestL none l).getD ⟨0, 0⟩) then s else (bestL none l).getD ⟨0, 0⟩ := by
  have key : ∀ (l : List Scr) (b : Scr), (bestL (some b) (l ++ [s])) = some (if bet s ((bestL (some b) l).getD ⟨0, 0⟩) then s else (bestL (some b) l).getD ⟨0, 0⟩) := by
    intro l
    induction l with
    | nil => intro b; rfl
    | cons a r ih => intro b; simp only [List.cons_append, bestL]; exact ih _
  cases l with
  | nil => simp [bestL]
  | cons a r =>
    simp only [List.cons_append, bestL]
    rw [key, if_neg (List.cons_ne_nil a r)]
    rfl
theorem rest_step (p : Pp') (scr : Pp' → Scr) (b : Scr) (l : List Pp') (i : Nat) (h : i < l.length) : restL' p scr b (l.take (i + 1)) = if fol p l[i] && bet (scr l[i]) (restL' p scr b (l.take i)) then scr l[i] else restL' p scr b (l.take i) := by
  have key : ∀ (l : List Pp') (b : Scr) (q : Pp'), restL' p scr b (l ++ [q]) = if fol p q && bet (scr q) (restL' p scr b l) then scr q else restL' p scr b l := by
    intro l
    induction l with
    | nil => intro b q; simp [restL']
    | cons a r ih => intro b q; simp only [List.cons_append, restL']; exact ih _ _
  rw [List.take_add_one, List.getElem?_eq_getElem h]
  exact key _ _ _

theorem out_frz (n m : Nat) (ss : List Stp) : (flat (outA n m ss)).all Av.frozen = true := by
  unfold outA
  rw [flat_append, List.all_append, zS_frz, stp_frz]; rfl
theorem outA_zero {n m : Nat} {ss : List Stp} (h : m < n) : List.getD (outA n m ss) (n - 1 - m) .any = zS := by
  unfold outA
  rw [List.getD_eq_getElem?_getD, List.getElem?_append_left (by simp; omega), List.getElem?_replicate, if_pos (by omega)]
  rfl
theorem partsG_len {gs : List Gq} {B : Nat} (h : ∀ g ∈ gs, g.ps.length < B) (hB : 0 < B) (k : Int) : (partsG gs k).length < B := by
  unfold partsG
  split
  · rename_i g hg
    exact h g (List.mem_of_find?_eq_some hg)
  · exact hB
theorem low_ap1 {T : List Blk} {k : Nat} {b : Blk} (h : T[k]? = some b) (U : List Blk) : (T ++ U)[k]? = some b := by
  rw [List.getElem?_append_left (List.getElem?_eq_some_iff.1 h).1]; exact h
theorem scs_get (l : List Pp') (f : Pp' → Scr) (i : Nat) (h : i < l.length) : List.getD (l.map fun p => scrA (f p)) i .any = .agg [.int .i64 (f l[i]).joins, .int .i64 (f l[i]).on] := by simp [List.getD, h, scrA]
set_option maxHeartbeats 8000000 in
theorem steps_ct (y : Sc) (hy : y.paras.length ≤ 60) (l : List Tk) (hg : ∀ t ∈ l, t.good = true) (hll : l.length < 100000) (gs : List Gq) (mid : Nat) (T : List Blk) (hI : GrpI gs l mid T) :
    Ct Tryz.prog 99 [scA y, .mp mid, .fz 9 (l.map tkA)] T (fun r s => s = T ∧ ((∀ x ∈ rowsN y gs, x.2 ≠ []) → r = .tup [.fz 4 ((stepsN (rowsN y gs)).map stpA), .bool true]) ∧ (¬ (∀ x ∈ rowsN y gs, x.2 ≠ []) → r = .tup [.fz 4 [], .bool false])) := by
  have hnd := needing_pc y hy
  obtain ⟨ks, hks⟩ : ∃ ks, ks = needF 0 y.paras := ⟨_, rfl⟩
  obtain ⟨rows, hrows⟩ : ∃ rows, rows = rowsN y gs := ⟨_, rfl⟩
  have hr0 : rows = ks.map fun k => (isSp y k, partsG gs k) := by rw [hrows, hks]; rfl
  have hkl : ks.length ≤ 60 := by rw [hks]; exact Nat.le_trans (needF_len _ _) hy
  have hkm : ∀ k ∈ ks, k < y.paras.length := fun k hk => by
    rw [hks] at hk
    have := needF_mem _ _ k hk
    omega
  rw [← hks] at hnd
  rw [← hrows]
  have hrl : rows.length = ks.length := by rw [hr0]; simp
  have hmid := gt_old hI.map
  have hmil := (List.getElem?_eq_some_iff.1 hI.map).1
  have hT := hI.low
  simp only [scA] at hnd ⊢
  refine ct_intro Tryz.func99 rfl Tryz.ntmps99 hB99 (by simp) fun h ρ w => goB (N := 138) Tryz.ntmps99 300 ?_
  simp only [go_sem]
  refine pcall1 (hnd) rfl (N := 138) Tryz.ntmps99 rfl (goB (N := 138) Tryz.ntmps99 300 ?_)
  simp only [go_sem, natA_len]
  repeat refine And.intro (by first | omega | (simp; done) | (simp; omega) | kernel_rfl | exact .inl rfl | exact .inl trivial) ?_
  refine aloop (ι := Nat) (fun m => ks.length - m)
    (fun m => [(10, .int .i64 ((ks.length : Int) - 1 - m)), (9, .sl T.length 0 ks.length ks.length), (8, .fz 1 (natA ks)), (3, .pin 5 [.agg [.str y.no, .int .i64 y.place, .str y.set, .int .i64 y.time, .fz 2 (y.paras.map paA)]] 0 0), (1, .mp mid), (2, .fz 9 (l.map tkA))])
    (fun m => T ++ [.arr 4 (outA ks.length m (stepsN (rows.drop (ks.length - m))))]) (fun m => m ≤ ks.length ∧ ∀ x ∈ rows.drop (ks.length - m), x.2 ≠ []) 0 ⟨by simp, by rw [Nat.sub_zero, List.drop_eq_nil_of_le (by omega)]; simp⟩ ?_ ?_
  · refine Shift.weakS ?_ ?_
    · simp only [wk, go_sem]
      simp
    · simp [outA, zS, stepsN, ← hrl]
  rintro m ⟨g1, g2⟩ J hJ
  by_cases gm : m < ks.length
  · obtain ⟨i, hi⟩ : ∃ i, i = ks.length - 1 - m := ⟨_, rfl⟩
    have hil : i < ks.length := by omega
    have hic : (ks.length : Int) - 1 - (m : Int) = (i : Int) := by omega
    have di : decide ((i : Int) ≥ 0) = true := by simp
    have hgk := natA_get ks i hil
    have hk := hkm _ (List.getElem_mem hil)
    have hri : rows[i]? = some (isSp y ks[i], partsG gs ks[i]) := by rw [hr0, List.getElem?_map, List.getElem?_eq_getElem hil]; rfl
    have hrd : rows.drop (ks.length - (m + 1)) = (isSp y ks[i], partsG gs ks[i]) :: rows.drop (ks.length - m) := by
      have h1 : i < rows.length := by omega
      rw [show ks.length - (m + 1) = i by omega, List.drop_eq_getElem_cons h1, show i + 1 = ks.length - m by omega]
      rw [List.getElem?_eq_getElem h1] at hri
      rw [Option.some.inj hri]
    have hsl : (stepsN (rows.drop (ks.length - m))).length = m := by rw [stepsN_len, List.length_drop]; omega
    have hol := outA_len g1 hsl
    rw [hic]
    rcases mapE_find ks[i] gs 0 with ⟨m1, m2⟩ | ⟨j, g, m1, m2, m3⟩
    · have hbad : ¬ (∀ x ∈ rows, x.2 ≠ []) := fun h => by
        have := h _ (List.mem_of_getElem? hri)
        simp only [partsG_none m2, ne_eq, not_true_eq_false] at this
      refine goB (N := 138) Tryz.ntmps99 300 ?_
      simp only [go_sem, di, hgk, hmid, m1, natA_len]
      repeat refine And.intro (by first | omega | (simp; done) | (simp; omega) | kernel_rfl | exact .inl rfl | exact .inl trivial) ?_
      refine pcall1 (good_nil l) rfl (N := 138) Tryz.ntmps99 rfl (goB (N := 138) Tryz.ntmps99 300 ?_)
      simp only [go_sem, gt_at, gt_at0, st_at, st_at0, List.append_assoc]
      refine ARet.shift (Shift.nilfz 6 4 rfl) ?_
      refine ARet.shift (shift_lowE T [] _ rfl (by simp) hT rfl (e' := [(6, .fz 4 []), (7, .bool false)]) ?_) ?_
      · simp only [wkl, lowV, lowC, Av.get, go_sem]
      · rw [List.append_nil]
        exact aret [6, 7] rfl ⟨rfl, fun h => absurd h hbad, fun _ => rfl⟩
    · rw [Nat.zero_add] at m1
      have hgm := List.mem_of_getElem? m2
      have hpg : partsG gs ks[i] = g.ps := by rw [← m3]; exact partsG_at hI.uniq m2
      rw [hpg] at hri hrd
      have hA := low_app (U := [.arr 4 (outA ks.length m (stepsN (rows.drop (ks.length - m))))]) hT (by simp only [List.all_cons, List.all_nil, lowB, low_all (out_frz _ _ _), Bool.and_self])
      have hgood := good_ct l hg g.ps (hI.take g hgm) (hI.len g hgm) hll _ hA g.at' (low_ap1 (hI.blk g hgm) _)
      have hgl := hI.len g hgm
      obtain ⟨ps, hps⟩ : ∃ ps, ps = g.ps := ⟨_, rfl⟩
      rw [← hps] at hgood hri hrd hgl m1
      refine goB (N := 138) Tryz.ntmps99 300 ?_
      simp only [go_sem, di, hgk, hmid, m1, natA_len]
      repeat refine And.intro (by first | omega | (simp; done) | (simp; omega) | kernel_rfl | exact .inl rfl | exact .inl trivial) ?_
      refine acall (hgood) (N := 138) Tryz.ntmps99 rfl ?_
      rintro _ _ ⟨rfl, rfl⟩
      refine goB (N := 138) Tryz.ntmps99 300 ?_
      by_cases hp0 : ps = []
      · have hbad : ¬ (∀ x ∈ rows, x.2 ≠ []) := fun h => (h _ (List.mem_of_getElem? hri)) hp0
        have dp : ((ps.length : Int) == 0) = true := by simp [hp0]
        simp only [go_sem, gt_at, gt_at0, st_at, st_at0, List.append_assoc, List.length_map, dp]
        refine ARet.shift (Shift.nilfz 6 4 rfl) ?_
        refine ARet.shift (shift_lowE T [] _ rfl (by simp) hT rfl (e' := [(6, .fz 4 []), (7, .bool false)]) ?_) ?_
        · simp only [wkl, lowV, lowC, Av.get, go_sem]
        · rw [List.append_nil]
          exact aret [6, 7] rfl ⟨rfl, fun h => absurd h hbad, fun _ => rfl⟩
      have dp : ((ps.length : Int) == 0) = false := by simpa using hp0
      obtain ⟨sp, hsp⟩ : ∃ sp, sp = isSp y ks[i] := ⟨_, rfl⟩
      obtain ⟨ss, hss⟩ : ∃ ss, ss = stepsN (rows.drop (ks.length - m)) := ⟨_, rfl⟩
      obtain ⟨scr, hscr⟩ : ∃ f, f = scrN sp ss.head? := ⟨_, rfl⟩
      have hstep : stepsN (rows.drop (ks.length - (m + 1))) = stepN sp ps ss.head? :: ss := by rw [hrd, hss, hsp]; rfl
      have hbd := stepsN_bd (rows.drop (ks.length - (m + 1))) _ _ hstep
      have hbd1 : ∀ p, ScrB 60 (scr p) := fun p => by
        have := hbd.1 p
        rw [hscr]
        exact this.mono (by rw [List.length_drop]; omega)
      have hbd2 : ∀ s', ∀ r', ss = s' :: r' → (∀ p, ScrB 60 (s'.scr p)) ∧ ScrB 60 s'.best := fun s' r' e => by
        rw [hss] at e
        obtain ⟨e1, e2⟩ := stepsN_bd _ _ _ e
        exact ⟨fun p => (e1 p).mono (by rw [List.length_drop]; omega), e2.mono (by rw [List.length_drop]; omega)⟩
      have hbest : (stepN sp ps ss.head?).best = (bestL none (ps.map scr)).getD ⟨0, 0⟩ := by rw [hscr]; rfl
      have hkind : (y.paras[ks[i]].kind == 4) = sp := by rw [hsp, isSp]; simp [List.getD, hk]
      have hgpk := paA_get y.paras ks[i] hk
      have hfin := hJ (m + 1) ⟨by omega, fun x hx => by
        rw [hrd] at hx
        rcases List.mem_cons.1 hx with rfl | hx
        · exact hp0
        · exact g2 x hx⟩ (by omega)
      rw [hstep] at hfin
      rw [← hss] at hsl hol ⊢
      clear hJ hgood
      simp only [go_sem, gt_at, gt_at0, st_at, st_at0, List.append_assoc, List.length_map, dp]
      refine aloop (ι := Nat) (fun q => ps.length - q)
        (fun q => [(47, .int .i64 q), (46, .int .i64 ps.length), (45, .fz 5 (ps.map ppA)), (11, .ptr (T.length + 1) 1 0 0), (10, .int .i64 i), (9, .sl T.length 0 ks.length ks.length), (8, .fz 1 (natA ks)), (3, .pin 5 [.agg [.str y.no, .int .i64 y.place, .str y.set, .int .i64 y.time, .fz 2 (y.paras.map paA)]] 0 0), (1, .mp mid), (2, .fz 9 (l.map tkA))])
        (fun q => T ++ [.arr 4 (outA ks.length m ss), .arr 4 [.agg [.fz 5 (ps.map ppA), .sl (T.length + 2) 0 q q, .int .i64 ((bestL none ((ps.take q).map scr)).getD ⟨0, 0⟩).joins, .int .i64 ((bestL none ((ps.take q).map scr)).getD ⟨0, 0⟩).on]], .arr 2 (((ps.take q).map scr).map scrA)])
        (fun q => q ≤ ps.length) 0 (by simp) ?_ ?_
      · refine Shift.trans (Shift.cells (es := 4) (l := [.agg [.fz 5 (ps.map ppA), .raw (.slice none 0 0), .int .i64 0, .int .i64 0]]) (T.length + 1) 2 [.agg [.fz 5 (ps.map ppA), .sl (T.length + 2) 0 0 0, .int .i64 0, .int .i64 0]] (by rw [gt_at]; rfl) rfl (by simp [cellsOf]) (by simp only [List.length_append, List.length_cons, List.length_nil]; exact ⟨.refl, .sl, .refl, .refl, trivial⟩)) (Shift.weakS ?_ ?_)
        · simp only [wk, go_sem]
        · rw [List.append_assoc, st_at]; rfl
      intro q h1 J2 hJ2
      by_cases gq : q < ps.length
      · have dq : decide ((q : Int) < (ps.length : Int)) = true := by simp; omega
        have hgp := ppA_get ps q gq
        obtain ⟨p, hpq⟩ : ∃ p, p = ps[q] := ⟨_, rfl⟩
        rw [← hpq] at hgp
        have hmap : (ps.take (q + 1)).map scr = (ps.take q).map scr ++ [scr p] := by
          rw [List.take_add_one, List.getElem?_eq_getElem gq, List.map_append, hpq]; rfl
        have hcl : (((ps.take q).map scr).map scrA).length = q := by simp; omega
        have hfin2 := hJ2 (q + 1) (by omega) (by omega)
        obtain ⟨bq, hbq⟩ : ∃ bq, bq = (bestL none ((ps.take q).map scr)).getD ⟨0, 0⟩ := ⟨_, rfl⟩
        have hbqb : ScrB 60 bq := by
          rw [hbq]
          exact bestL_bd _ none (fun x hx => by obtain ⟨z, _, rfl⟩ := List.mem_map.1 hx; exact hbd1 z) (by simp) (by decide)
        have hscl : ((ps.take (q + 1)).map scr).map scrA = ((ps.take q).map scr).map scrA ++ [scrA (scr p)] := by rw [hmap, List.map_append]; rfl
        rw [hscl] at hfin2
        rw [← hbq]
        simp only [scrA] at hfin2
        have hown := own_pc p sp
        have hob := own_bd p sp
        have hsb := hbd1 p
        simp only [ppA, scrA] at hown
        refine goB (N := 138) Tryz.ntmps99 300 ?_
        simp only [go_sem, dq, hgp, gt_at, gt_at0, st_at, st_at0, List.append_assoc, List.length_map]
        repeat refine And.intro (by first | omega | (simp; done) | (simp; omega)) ?_
        refine adrawI [] (T.length + 1000) [.agg [.int .i64 (ownS p sp).joins, .int .i64 (ownS p sp).on]] mixed (by decide) (N := 138) Tryz.ntmps99 (by decide) 100 ?_
        simp only [go_sem, gt_at, gt_at0, st_at, st_at0, List.append_assoc, hgk, hgpk, hkind, natA_len, List.length_map]
        repeat refine And.intro (by first | omega | exact hown.at | rfl | (simp; done) | (simp; omega)) ?_
        by_cases hm0 : m = 0
        · have hss0 : ss = [] := List.eq_nil_of_length_eq_zero (by omega)
          have hsc : scr p = ownS p sp := by rw [hscr, hss0]; rfl
          have dn : decide ((i : Int) + 1 < (ks.length : Int)) = false := by simp; omega
          rw [← hsc]
          by_cases hq0 : q = 0
          · have dq0 : ((q : Int) == 0) = true := by simp [hq0]
            have hbe : bestL none ((ps.take (q + 1)).map scr) = some (scr p) := by rw [hmap, hq0]; rfl
            have hf2 := hfin2
            simp only [hbe, Option.getD_some] at hf2
            refine goB (N := 138) Tryz.ntmps99 300 ?_
            simp only [go_sem, dq0, gt_at, gt_at0, st_at, st_at0, List.append_assoc, hcl, List.length_map, dn, natA_len]
            repeat refine And.intro (by first | omega | (simp; done) | (simp; omega) | exact .inl rfl | exact .inl trivial) ?_
            rw [show (q : Int) + 1 = ((q + 1 : Nat) : Int) by omega]
            refine ainv hf2 (shift_lowE T [_, _, _] _ rfl (by simp) hT ?_ ?_)
            · simp only [List.all_cons, List.all_nil, lowB, flat_append, List.all_append, low_all (out_frz _ _ _), low_all (scr_frz _), flat, cellsOf, lowC, Av.frozen, List.append_nil, List.cons_append, List.nil_append, Bool.and_self, List.length_cons, List.length_nil]
              repeat (first | rfl | (simp; done) | (simp; omega))
            · simp only [wkl, lowV, lowC, Av.get, go_sem, List.length_cons, List.length_nil]
              repeat (first | rfl | (simp; done) | (simp; omega) | refine And.intro (by first | rfl | (simp; done) | (simp; omega)) ?_)
          · have dq0 : ((q : Int) == 0) = false := by simpa using hq0
            have hne : (ps.take q).map scr ≠ [] := by
              intro h
              rw [h] at hcl
              simp at hcl
              omega
            have hbe := best_snoc ((ps.take q).map scr) (scr p)
            rw [if_neg hne, ← hmap, ← hbq] at hbe
            have hbt := better_pc (scr p) bq
            simp only [scrA] at hbt
            cases hbb : bet (scr p) bq with
            | true =>
              rw [hbb] at hbe hbt
              have hf2 := hfin2
              simp only [if_true] at hbe
              simp only [hbe] at hf2
              refine goB (N := 138) Tryz.ntmps99 300 ?_
              simp only [go_sem, dq0, gt_at, gt_at0, st_at, st_at0, List.append_assoc, hcl, List.length_map, dn, natA_len]
              repeat refine And.intro (by first | omega | (simp; done) | (simp; omega) | exact .inl rfl | exact .inl trivial) ?_
              refine pcall1 (hbt) rfl (N := 138) Tryz.ntmps99 rfl (goB (N := 138) Tryz.ntmps99 300 ?_)
              simp only [go_sem, gt_at, gt_at0, st_at, st_at0, List.append_assoc]
              repeat refine And.intro (by first | omega | (simp; done) | (simp; omega) | exact .inl rfl | exact .inl trivial) ?_
              rw [show (q : Int) + 1 = ((q + 1 : Nat) : Int) by omega]
              refine ainv hf2 (shift_lowE T [_, _, _] _ rfl (by simp) hT ?_ ?_)
              · simp only [List.all_cons, List.all_nil, lowB, flat_append, List.all_append, low_all (out_frz _ _ _), low_all (scr_frz _), flat, cellsOf, lowC, Av.frozen, List.append_nil, List.cons_append, List.nil_append, Bool.and_self, List.length_cons, List.length_nil]
                repeat (first | rfl | (simp; done) | (simp; omega))
              · simp only [wkl, lowV, lowC, Av.get, go_sem, List.length_cons, List.length_nil]
                repeat (first | rfl | (simp; done) | (simp; omega) | refine And.intro (by first | rfl | (simp; done) | (simp; omega)) ?_)
            | false =>
              rw [hbb] at hbe hbt
              have hf2 := hfin2
              simp only [Bool.false_eq_true, if_false] at hbe
              simp only [hbe] at hf2
              refine goB (N := 138) Tryz.ntmps99 300 ?_
              simp only [go_sem, dq0, gt_at, gt_at0, st_at, st_at0, List.append_assoc, hcl, List.length_map, dn, natA_len]
              repeat refine And.intro (by first | omega | (simp; done) | (simp; omega) | exact .inl rfl | exact .inl trivial) ?_
              refine pcall1 (hbt) rfl (N := 138) Tryz.ntmps99 rfl (goB (N := 138) Tryz.ntmps99 300 ?_)
              simp only [go_sem, gt_at, gt_at0, st_at, st_at0, List.append_assoc]
              repeat refine And.intro (by first | omega | (simp; done) | (simp; omega) | exact .inl rfl | exact .inl trivial) ?_
              rw [show (q : Int) + 1 = ((q + 1 : Nat) : Int) by omega]
              refine ainv hf2 (shift_lowE T [_, _, _] _ rfl (by simp) hT ?_ ?_)
              · simp only [List.all_cons, List.all_nil, lowB, flat_append, List.all_append, low_all (out_frz _ _ _), low_all (scr_frz _), flat, cellsOf, lowC, Av.frozen, List.append_nil, List.cons_append, List.nil_append, Bool.and_self, List.length_cons, List.length_nil]
                repeat (first | rfl | (simp; done) | (simp; omega))
              · simp only [wkl, lowV, lowC, Av.get, go_sem, List.length_cons, List.length_nil]
                repeat (first | rfl | (simp; done) | (simp; omega) | refine And.intro (by first | rfl | (simp; done) | (simp; omega)) ?_)
        · obtain ⟨s', r', hss1⟩ : ∃ s' r', ss = s' :: r' := by
            cases ss with
            | nil => simp at hsl; omega
            | cons a b => exact ⟨a, b, rfl⟩
          have hsc : scr p = ⟨(restS s' p).joins, (ownS p sp).on + (restS s' p).on⟩ := by rw [hscr, hss1]; rfl
          have dn : decide ((i : Int) + 1 < (ks.length : Int)) = true := by simp; omega
          have hi1 : ((i : Int) + 1).toNat = ks.length - m := by omega
          have hog : List.getD (outA ks.length m ss) (ks.length - m) .any = stpA s' := by rw [hss1]; exact outA_get gm
          obtain ⟨hb1, hb2⟩ := hbd2 s' r' hss1
          have hb2j := hb2.j0
          have hb2j' := hb2.j1
          have hb2o := hb2.o0
          have hb2o' := hb2.o1
          obtain ⟨z1, z2, z3, z4⟩ := restL'_bd p s'.scr hb1 s'.parts ⟨s'.best.joins + 1, s'.best.on⟩ (by simp only; omega) (by simp only; omega) hb2o hb2o'
          have hspl : s'.parts.length < 100000 := by
            rw [hss] at hss1
            cases hrr : rows.drop (ks.length - m) with
            | nil => rw [hrr] at hss1; simp [stepsN] at hss1
            | cons x xs =>
              rw [hrr] at hss1
              obtain ⟨x1, x2⟩ := x
              simp only [stepsN, List.cons.injEq] at hss1
              have hxm : (x1, x2) ∈ rows := List.mem_of_mem_drop (by rw [hrr]; simp)
              rw [hr0] at hxm
              obtain ⟨k', _, hk'⟩ := List.mem_map.1 hxm
              simp only [Prod.mk.injEq] at hk'
              rw [← hss1.1]
              simp only [stepN]
              rw [← hk'.2]
              exact partsG_len hI.len (by decide) _
          simp only [stpA] at hog
          refine goB (N := 138) Tryz.ntmps99 300 ?_
          simp only [go_sem, dn, hi1, hog, natA_len, hol, gt_at, gt_at0, st_at, st_at0, List.append_assoc, List.length_map]
          repeat refine And.intro (by first | omega | (simp; done) | (simp; omega)) ?_
          refine aloop (ι := Nat) (fun u => s'.parts.length - u)
            (fun u => [(85, .int .i64 u), (84, .int .i64 s'.parts.length), (83, .fz 5 (s'.parts.map ppA)), (16, .ptr (T.length + 6) 1 0 0), (15, .ptr (T.length + 5) 1 0 0), (14, .ptr (T.length + 4) 1 0 0), (13, .ptr (T.length + 3) 1 0 0), (12, .int .i64 q), (47, .int .i64 q), (46, .int .i64 ps.length), (45, .fz 5 (ps.map ppA)), (11, .ptr (T.length + 1) 1 0 0), (10, .int .i64 i), (9, .sl T.length 0 ks.length ks.length), (8, .fz 1 (natA ks)), (3, .pin 5 [.agg [.str y.no, .int .i64 y.place, .str y.set, .int .i64 y.time, .fz 2 (y.paras.map paA)]] 0 0), (1, .mp mid), (2, .fz 9 (l.map tkA))])
            (fun u => T ++ [.arr 4 (outA ks.length m ss), .arr 4 [.agg [.fz 5 (ps.map ppA), .sl (T.length + 2) 0 q q, .int .i64 bq.joins, .int .i64 bq.on]], .arr 2 (((ps.take q).map scr).map scrA), .arr 5 [.agg [.int .i64 p.take, .int .i64 p.cv.para, .int .i64 p.cv.inn, .int .i64 p.cv.out, .bool p.cv.on]], .arr 2 [.agg [.int .i64 (ownS p sp).joins, .int .i64 (ownS p sp).on]], .arr 4 [.agg [.fz 5 (s'.parts.map ppA), .fz 2 (s'.parts.map fun p => scrA (s'.scr p)), .int .i64 s'.best.joins, .int .i64 s'.best.on]], .arr 2 [.agg [.int .i64 (restL' p s'.scr ⟨s'.best.joins + 1, s'.best.on⟩ (s'.parts.take u)).joins, .int .i64 (restL' p s'.scr ⟨s'.best.joins + 1, s'.best.on⟩ (s'.parts.take u)).on]]])
            (fun u => u ≤ s'.parts.length) 0 (by simp) ?_ ?_
          · refine Shift.weakS ?_ ?_
            · simp only [wk, go_sem]
            · simp [restL']
          intro u h2 J3 hJ3
          by_cases gu : u < s'.parts.length
          · have du : decide ((u : Int) < (s'.parts.length : Int)) = true := by simp; omega
            have hgu := ppA_get s'.parts u gu
            have hgs := scs_get s'.parts s'.scr u gu
            have hrs := rest_step p s'.scr ⟨s'.best.joins + 1, s'.best.on⟩ s'.parts u gu
            have hfin3 := hJ3 (u + 1) (by omega) (by omega)
            rw [hrs] at hfin3
            obtain ⟨rr, hrr⟩ : ∃ rr, rr = restL' p s'.scr ⟨s'.best.joins + 1, s'.best.on⟩ (s'.parts.take u) := ⟨_, rfl⟩
            rw [← hrr] at hfin3 ⊢
            have hfo := follows2_pc p s'.parts[u]
            have hbt := better_pc (s'.scr s'.parts[u]) rr
            generalize s'.parts[u] = pu at *
            simp only [ppA] at hfo
            simp only [scrA] at hbt
            cases hff : fol p pu with
            | false =>
              rw [hff] at hfo
              simp only [hff, Bool.false_and, Bool.false_eq_true, if_false] at hfin3
              refine goB (N := 138) Tryz.ntmps99 300 ?_
              simp only [go_sem, du, hgu, gt_at, gt_at0, st_at, st_at0, List.append_assoc, List.length_map]
              repeat refine And.intro (by first | omega | (simp; done) | (simp; omega)) ?_
              refine adraw [.bool false] mixed (by decide) (N := 138) Tryz.ntmps99 (by decide) 100 ?_
              simp only [go_sem, gt_at, gt_at0, st_at, st_at0, List.append_assoc, List.length_map]
              repeat refine And.intro (by first | omega | exact hfo.at | rfl | (simp; done) | (simp; omega)) ?_
              refine goB (N := 138) Tryz.ntmps99 300 ?_
              simp only [go_sem, gt_at, gt_at0, st_at, st_at0, List.append_assoc, List.length_map]
              repeat refine And.intro (by first | omega | (simp; done) | (simp; omega)) ?_
              rw [show (u : Int) + 1 = ((u + 1 : Nat) : Int) by omega]
              refine ainv hfin3 (shift_lowE T [_, _, _, _, _, _, _] _ rfl (by simp) hT ?_ ?_)
              · simp only [List.all_cons, List.all_nil, lowB, flat_append, List.all_append, low_all (out_frz _ _ _), low_all (scr_frz _), flat, cellsOf, lowC, Av.frozen, List.append_nil, List.cons_append, List.nil_append, Bool.and_self, List.length_cons, List.length_nil]
                repeat (first | rfl | (simp; done) | (simp; omega))
              · simp only [wkl, lowV, lowC, Av.get, go_sem, List.length_cons, List.length_nil]
                repeat (first | rfl | (simp; done) | (simp; omega) | refine And.intro (by first | rfl | (simp; done) | (simp; omega)) ?_)
            | true =>
              rw [hff] at hfo
              cases hbb : bet (s'.scr pu) rr with
              | false =>
                rw [hbb] at hbt
                simp only [hff, hbb, Bool.true_and, Bool.false_eq_true, if_false] at hfin3
                refine goB (N := 138) Tryz.ntmps99 300 ?_
                simp only [go_sem, du, hgu, gt_at, gt_at0, st_at, st_at0, List.append_assoc, List.length_map]
                repeat refine And.intro (by first | omega | (simp; done) | (simp; omega)) ?_
                refine adraw [.bool true, .bool false] mixed (by decide) (N := 138) Tryz.ntmps99 (by decide) 100 ?_
                simp only [go_sem, hgs, gt_at, gt_at0, st_at, st_at0, List.append_assoc, List.length_map]
                repeat refine And.intro (by first | omega | exact hfo.at | exact hbt.at | rfl | (simp; done) | (simp; omega)) ?_
                refine goB (N := 138) Tryz.ntmps99 300 ?_
                simp only [go_sem, gt_at, gt_at0, st_at, st_at0, List.append_assoc, List.length_map]
                repeat refine And.intro (by first | omega | (simp; done) | (simp; omega)) ?_
                rw [show (u : Int) + 1 = ((u + 1 : Nat) : Int) by omega]
                refine ainv hfin3 (shift_lowE T [_, _, _, _, _, _, _] _ rfl (by simp) hT ?_ ?_)
                · simp only [List.all_cons, List.all_nil, lowB, flat_append, List.all_append, low_all (out_frz _ _ _), low_all (scr_frz _), flat, cellsOf, lowC, Av.frozen, List.append_nil, List.cons_append, List.nil_append, Bool.and_self, List.length_cons, List.length_nil]
                  repeat (first | rfl | (simp; done) | (simp; omega))
                · simp only [wkl, lowV, lowC, Av.get, go_sem, List.length_cons, List.length_nil]
                  repeat (first | rfl | (simp; done) | (simp; omega) | refine And.intro (by first | rfl | (simp; done) | (simp; omega)) ?_)
              | true =>
                rw [hbb] at hbt
                simp only [hff, hbb, Bool.and_self, if_true] at hfin3
                refine goB (N := 138) Tryz.ntmps99 300 ?_
                simp only [go_sem, du, hgu, gt_at, gt_at0, st_at, st_at0, List.append_assoc, List.length_map]
                repeat refine And.intro (by first | omega | (simp; done) | (simp; omega)) ?_
                refine adraw [.bool true, .bool true] mixed (by decide) (N := 138) Tryz.ntmps99 (by decide) 100 ?_
                simp only [go_sem, hgs, gt_at, gt_at0, st_at, st_at0, List.append_assoc, List.length_map]
                repeat refine And.intro (by first | omega | exact hfo.at | exact hbt.at | rfl | (simp; done) | (simp; omega)) ?_
                refine goB (N := 138) Tryz.ntmps99 300 ?_
                simp only [go_sem, hgs, gt_at, gt_at0, st_at, st_at0, List.append_assoc, List.length_map]
                repeat refine And.intro (by first | omega | (simp; done) | (simp; omega)) ?_
                rw [show (u : Int) + 1 = ((u + 1 : Nat) : Int) by omega]
                refine ainv hfin3 (shift_lowE T [_, _, _, _, _, _, _] _ rfl (by simp) hT ?_ ?_)
                · simp only [List.all_cons, List.all_nil, lowB, flat_append, List.all_append, low_all (out_frz _ _ _), low_all (scr_frz _), flat, cellsOf, lowC, Av.frozen, List.append_nil, List.cons_append, List.nil_append, Bool.and_self, List.length_cons, List.length_nil]
                  repeat (first | rfl | (simp; done) | (simp; omega))
                · simp only [wkl, lowV, lowC, Av.get, go_sem, List.length_cons, List.length_nil]
                  repeat (first | rfl | (simp; done) | (simp; omega) | refine And.intro (by first | rfl | (simp; done) | (simp; omega)) ?_)
          · have du : decide ((u : Int) < (s'.parts.length : Int)) = false := by simp; omega
            rw [show s'.parts.take u = s'.parts from List.take_of_length_le (by omega)]
            have hsj : (restL' p s'.scr ⟨s'.best.joins + 1, s'.best.on⟩ s'.parts).joins = (scr p).joins := by rw [hsc]; rfl
            have hso : (ownS p sp).on + (restL' p s'.scr ⟨s'.best.joins + 1, s'.best.on⟩ s'.parts).on = (scr p).on := by rw [hsc]; rfl
            clear hJ3
            by_cases hq0 : q = 0
            · have dq0 : ((q : Int) == 0) = true := by simp [hq0]
              have hbe : bestL none ((ps.take (q + 1)).map scr) = some (scr p) := by rw [hmap, hq0]; rfl
              have hf2 := hfin2
              simp only [hbe, Option.getD_some] at hf2
              refine goB (N := 138) Tryz.ntmps99 300 ?_
              simp only [go_sem, dq0, gt_at, gt_at0, st_at, st_at0, List.append_assoc, hcl, List.length_map, du, hsj, hso]
              repeat refine And.intro (by first | omega | (simp; done) | (simp; omega) | exact .inl rfl | exact .inl trivial) ?_
              rw [show (q : Int) + 1 = ((q + 1 : Nat) : Int) by omega]
              refine ainv hf2 (shift_lowE T [_, _, _] _ rfl (by simp) hT ?_ ?_)
              · simp only [List.all_cons, List.all_nil, lowB, flat_append, List.all_append, low_all (out_frz _ _ _), low_all (scr_frz _), flat, cellsOf, lowC, Av.frozen, List.append_nil, List.cons_append, List.nil_append, Bool.and_self, List.length_cons, List.length_nil]
                repeat (first | rfl | (simp; done) | (simp; omega))
              · simp only [wkl, lowV, lowC, Av.get, go_sem, List.length_cons, List.length_nil]
                repeat (first | rfl | (simp; done) | (simp; omega) | refine And.intro (by first | rfl | (simp; done) | (simp; omega)) ?_)
            · have dq0 : ((q : Int) == 0) = false := by simpa using hq0
              have hne : (ps.take q).map scr ≠ [] := by
                intro h
                rw [h] at hcl
                simp at hcl
                omega
              have hbe := best_snoc ((ps.take q).map scr) (scr p)
              rw [if_neg hne, ← hmap, ← hbq] at hbe
              have hbt := better_pc (scr p) bq
              simp only [scrA] at hbt
              cases hbb : bet (scr p) bq with
              | true =>
                rw [hbb] at hbe hbt
                have hf2 := hfin2
                simp only [if_true] at hbe
                simp only [hbe] at hf2
                refine goB (N := 138) Tryz.ntmps99 300 ?_
                simp only [go_sem, dq0, gt_at, gt_at0, st_at, st_at0, List.append_assoc, hcl, List.length_map, du, hsj, hso]
                repeat refine And.intro (by first | omega | (simp; done) | (simp; omega) | exact .inl rfl | exact .inl trivial) ?_
                refine pcall1 (hbt) rfl (N := 138) Tryz.ntmps99 rfl (goB (N := 138) Tryz.ntmps99 300 ?_)
                simp only [go_sem, gt_at, gt_at0, st_at, st_at0, List.append_assoc]
                repeat refine And.intro (by first | omega | (simp; done) | (simp; omega) | exact .inl rfl | exact .inl trivial) ?_
                rw [show (q : Int) + 1 = ((q + 1 : Nat) : Int) by omega]
                refine ainv hf2 (shift_lowE T [_, _, _] _ rfl (by simp) hT ?_ ?_)
                · simp only [List.all_cons, List.all_nil, lowB, flat_append, List.all_append, low_all (out_frz _ _ _), low_all (scr_frz _), flat, cellsOf, lowC, Av.frozen, List.append_nil, List.cons_append, List.nil_append, Bool.and_self, List.length_cons, List.length_nil]
                  repeat (first | rfl | (simp; done) | (simp; omega))
                · simp only [wkl, lowV, lowC, Av.get, go_sem, List.length_cons, List.length_nil]
                  repeat (first | rfl | (simp; done) | (simp; omega) | refine And.intro (by first | rfl | (simp; done) | (simp; omega)) ?_)
              | false =>
                rw [hbb] at hbe hbt
                have hf2 := hfin2
                simp only [Bool.false_eq_true, if_false] at hbe
                simp only [hbe] at hf2
                refine goB (N := 138) Tryz.ntmps99 300 ?_
                simp only [go_sem, dq0, gt_at, gt_at0, st_at, st_at0, List.append_assoc, hcl, List.length_map, du, hsj, hso]
                repeat refine And.intro (by first | omega | (simp; done) | (simp; omega) | exact .inl rfl | exact .inl trivial) ?_
                refine pcall1 (hbt) rfl (N := 138) Tryz.ntmps99 rfl (goB (N := 138) Tryz.ntmps99 300 ?_)
                simp only [go_sem, gt_at, gt_at0, st_at, st_at0, List.append_assoc]
                repeat refine And.intro (by first | omega | (simp; done) | (simp; omega) | exact .inl rfl | exact .inl trivial) ?_
                rw [show (q : Int) + 1 = ((q + 1 : Nat) : Int) by omega]
                refine ainv hf2 (shift_lowE T [_, _, _] _ rfl (by simp) hT ?_ ?_)
                · simp only [List.all_cons, List.all_nil, lowB, flat_append, List.all_append, low_all (out_frz _ _ _), low_all (scr_frz _), flat, cellsOf, lowC, Av.frozen, List.append_nil, List.cons_append, List.nil_append, Bool.and_self, List.length_cons, List.length_nil]
                  repeat (first | rfl | (simp; done) | (simp; omega))
                · simp only [wkl, lowV, lowC, Av.get, go_sem, List.length_cons, List.length_nil]
                  repeat (first | rfl | (simp; done) | (simp; omega) | refine And.intro (by first | rfl | (simp; done) | (simp; omega)) ?_)
      · have dq : decide ((q : Int) < (ps.length : Int)) = false := by simp; omega
        have hqe : q = ps.length := by omega
        subst hqe
        rw [List.take_length]
        clear hJ2
        have hset := outA_set (ss := ss) (s := stepN sp ps ss.head?) gm
        rw [← hi] at hset
        simp only [stpA] at hset
        have hpt : (stepN sp ps ss.head?).parts = ps := rfl
        have hsf : (stepN sp ps ss.head?).scr = scr := by rw [hscr]; rfl
        rw [hpt, hsf, hbest] at hset
        obtain ⟨bb, hbb⟩ : ∃ bb, bb = (bestL none (ps.map scr)).getD ⟨0, 0⟩ := ⟨_, rfl⟩
        rw [← hbb] at hset ⊢
        refine AWp.shift (Shift.trans (shift_frzT T [.arr 4 (outA ks.length m ss), .arr 4 [.agg [.fz 5 (ps.map ppA), .sl (T.length + 2) 0 ps.length ps.length, .int .i64 bb.joins, .int .i64 bb.on]], .arr 2 ((ps.map scr).map scrA)] 2 hT rfl (scr_frz _))
          (Shift.weakS (e' := [(47, .int .i64 ps.length), (46, .int .i64 ps.length), (11, .ptr (T.length + 1) 1 0 0), (10, .int .i64 i), (9, .sl T.length 0 ks.length ks.length), (8, .fz 1 (natA ks)), (3, .pin 5 [.agg [.str y.no, .int .i64 y.place, .str y.set, .int .i64 y.time, .fz 2 (y.paras.map paA)]] 0 0), (1, .mp mid), (2, .fz 9 (l.map tkA))])
            (s' := T ++ [.arr 4 (outA ks.length m ss), .arr 4 [.agg [.fz 5 (ps.map ppA), .fz 2 (ps.map fun p => scrA (scr p)), .int .i64 bb.joins, .int .i64 bb.on]], .dead]) ?_ ?_)) ?_
        · have e1 : (T.length + 1 == T.length + 2) = false := by simp
          have e2 : (T.length == T.length + 2) = false := by simp
          simp only [frzE, frz, frz1, e1, e2, Bool.false_and, cond_false, wk, go_sem]
        · have e1 : frzB (T.length + 2) 2 ((ps.map scr).map scrA) (.arr 4 (outA ks.length m ss)) = .arr 4 (outA ks.length m ss) := frzB_low (Nat.le_refl _) (low_all (out_frz _ _ _))
          have e2 : (T.length + 2 == T.length + 2) = true := by simp
          have e3 : List.take ps.length ((ps.map scr).map scrA) = ps.map fun p => scrA (scr p) := by rw [List.take_of_length_le (by simp), List.map_map]; rfl
          simp only [List.set_cons_succ, List.set_cons_zero, List.map_cons, List.map_nil, e1]
          simp only [frzB, frzC, frz1, List.map_cons, List.map_nil, e2, List.length_map, Nat.zero_add, decide_true, Nat.le_refl, Bool.and_self, cond_true, List.drop_zero, e3]
        have hz0 := outA_zero (ss := ss) gm
        rw [← hi] at hz0
        simp only [zS] at hz0
        refine goB (N := 138) Tryz.ntmps99 300 ?_
        simp only [go_sem, dq, hz0, hset, hol, gt_at, gt_at0, st_at, st_at0, List.append_assoc, List.length_map]
        repeat refine And.intro (by first | omega | rfl | (simp; done) | (simp; omega)) ?_
        have e9 : (i : Int) - 1 = (ks.length : Int) - 1 - ((m + 1 : Nat) : Int) := by omega
        rw [e9]
        simp only [outA, stpA, List.map_cons, hpt, hsf, hbest, ← hbb] at hfin hset ⊢
        refine ainv hfin (shift_lowE T [_] _ rfl (by simp) hT ?_ ?_)
        · have hz := out_frz ks.length (m + 1) (stepN sp ps ss.head? :: ss)
          simp only [outA, stpA, List.map_cons, hpt, hsf, hbest, ← hbb] at hz
          simp only [List.all_cons, List.all_nil, lowB, low_all hz, Bool.and_self]
        · simp only [wkl, lowV, lowC, Av.get, go_sem, List.length_cons, List.length_nil]
          repeat (first | rfl | (simp; done) | (simp; omega) | refine And.intro (by first | rfl | (simp; done) | (simp; omega)) ?_)
  · have hm : m = ks.length := by omega
    subst hm
    rw [Nat.sub_self, List.drop_zero] at g2 ⊢
    have di : decide ((ks.length : Int) - 1 - (ks.length : Int) ≥ 0) = false := by simp; omega
    have hoe : outA ks.length ks.length (stepsN rows) = (stepsN rows).map stpA := by simp [outA]
    have hsl : (stepsN rows).length = ks.length := by rw [stepsN_len, hrl]
    rw [hoe]
    clear hJ
    refine AWp.shift (Shift.freeze 9 (id := T.length) (l := (stepsN rows).map stpA) rfl (by rw [gt_at0]; rfl) (by simp [hsl]) (Nat.le_refl _) (stp_frz _)) ?_
    have htk : List.take ks.length (List.drop 0 ((stepsN rows).map stpA)) = (stepsN rows).map stpA := by rw [List.drop_zero, List.take_of_length_le (by simp [hsl])]
    rw [htk, st_at0]
    refine goB (N := 138) Tryz.ntmps99 300 ?_
    simp only [go_sem, di]
    repeat refine And.intro (by first | omega | rfl | (simp; done) | (simp; omega)) ?_
    refine ARet.shift (shift_lowE T [] [_] rfl (by simp) hT rfl (e' := [(6, .fz 4 ((stepsN rows).map stpA)), (7, .bool true)]) ?_) ?_
    · simp only [wkl, lowV, lowC, Av.get, go_sem]
    · rw [List.append_nil]
      exact aret [6, 7] rfl ⟨rfl, fun _ => rfl, fun h => absurd g2 h⟩
end Go.Proofs.YtkfpiadgjbhcpaaGreatDoor
