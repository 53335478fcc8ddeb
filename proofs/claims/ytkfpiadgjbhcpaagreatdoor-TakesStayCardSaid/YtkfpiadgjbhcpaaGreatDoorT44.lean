/- take.chosen. Own work of this seat. -/
import Derived.Test.YtkfpiadgjbhcpaaGreatDoorT43
import Derived.Test.YtkfpiadgjbhcpaaGreatDoorT21
set_option maxRecDepth 100000
set_option linter.unusedSimpArgs false
set_option linter.unusedVariables false
namespace Go.Proofs.YtkfpiadgjbhcpaaGreatDoor
open Go Go.Av Go.RowKit

def ppB (a b : Pp') : Bool := ((a.take : Int) == (b.take : Int)) && ((a.cv.para == b.cv.para) && ((a.cv.inn == b.cv.inn) && ((a.cv.out == b.cv.out) && (a.cv.on == b.cv.on))))
theorem ppB_iff {a b : Pp'} : ppB a b = true ↔ a = b := by
  obtain ⟨t, ⟨p, i, o, n⟩⟩ := a
  obtain ⟨t', ⟨p', i', o', n'⟩⟩ := b
  simp only [ppB, Bool.and_eq_true, beq_iff_eq, Pp'.mk.injEq, Cv.mk.injEq]
  constructor
  · rintro ⟨h1, h2⟩; exact ⟨by omega, h2⟩
  · rintro ⟨h1, h2⟩; exact ⟨by omega, h2⟩
theorem indexPp_pc (ps : List Pp') (v : Pp') (hl : ps.length < 1000000) (z : Nat) (hz : z < ps.length) (hze : ps[z] = v) (hzm : ∀ j, (hj : j < ps.length) → j < z → ps[j] ≠ v) : Pc Tryz.prog 169 [.fz 5 (ps.map ppA), ppA v] (· = .int .i64 z) := by
  simp only [ppA]
  refine pc_intro (ct_intro Tryz.func169 rfl Tryz.ntmps169 hB169 (by simp) fun h ρ w => goB (N := 19) Tryz.ntmps169 300 ?_)
  simp only [go_sem, List.length_map]
  refine aloop (ι := Nat) (fun i => ps.length - i) (fun i => [(8, .int .i64 i), (7, .int .i64 ps.length), (3, .pin 5 [.agg [.int .i64 v.take, .int .i64 v.cv.para, .int .i64 v.cv.inn, .int .i64 v.cv.out, .bool v.cv.on]] 0 0), (0, .fz 5 (ps.map ppA))]) (fun _ => []) (fun i => i ≤ ps.length ∧ ∀ j, (hj : j < ps.length) → j < i → ps[j] ≠ v) 0 ⟨by simp, fun j _ h => absurd h (by omega)⟩ ?_ ?_
  · refine Shift.weakS ?_ rfl
    simp only [wk, go_sem, List.length_map]
  · rintro i ⟨g1, g2⟩ J hJ
    by_cases gi : i < ps.length
    · have di : decide ((i : Int) < (ps.length : Int)) = true := by simp; omega
      have hget := ppA_get ps i gi
      cases hp : ppB v ps[i] with
      | true =>
        have he := ppB_iff.1 hp
        have hvi : AV.int .i64 (i : Int) = .int .i64 z := by
          have : i = z := by
            rcases Nat.lt_trichotomy i z with h | h | h
            · exact absurd he.symm (hzm i gi h)
            · exact h
            · exact absurd hze (g2 z hz h)
          rw [this]
        rw [← he] at hget
        clear he hp
        refine goB (N := 19) Tryz.ntmps169 300 ?_
        simp only [go_sem, di, List.length_map]
        repeat refine And.intro (by first | omega | (simp; done) | (simp; omega)) ?_
        refine adraw [] mixed (by decide) (N := 19) Tryz.ntmps169 (by decide) 100 ?_
        simp only [go_sem, hget, List.length_map]
        repeat refine And.intro (by first | omega | rfl | kernel_rfl | (simp; done) | (simp; omega)) ?_
        refine goB (N := 19) Tryz.ntmps169 300 ?_
        simp only [go_sem]
        exact aret [4] rfl ⟨hvi, rfl⟩
      | false =>
        have hne : ps[i] ≠ v := fun e => by rw [ppB_iff.2 e.symm] at hp; cases hp
        unfold ppB at hp
        refine goB (N := 19) Tryz.ntmps169 300 ?_
        simp only [go_sem, di, List.length_map]
        repeat refine And.intro (by first | omega | (simp; done) | (simp; omega)) ?_
        refine adraw [] mixed (by decide) (N := 19) Tryz.ntmps169 (by decide) 100 ?_
        simp only [go_sem, hget, hp, List.length_map]
        repeat refine And.intro (by first | omega | rfl | kernel_rfl | (simp; done) | (simp; omega)) ?_
        refine goB (N := 19) Tryz.ntmps169 300 ?_
        simp only [go_sem]
        repeat refine And.intro (by first | omega | rfl | (simp; done) | (simp; omega)) ?_
        rw [show (i : Int) + 1 = ((i + 1 : Nat) : Int) by omega]
        refine ainv (hJ (i + 1) ⟨by omega, fun j hj h => ?_⟩ (by omega)) (Shift.weakS ?_ rfl)
        · rcases Nat.lt_or_ge j i with h2 | h2
          · exact g2 j hj h2
          · have : j = i := by omega
            subst this; exact hne
        · simp only [wk, go_sem]
    · exact absurd hze (g2 z hz (by omega))
theorem first_at {ps : List Pp'} {v : Pp'} (hv : v ∈ ps) : ∃ z, ∃ (hz : z < ps.length), ps[z] = v ∧ ∀ j, (hj : j < ps.length) → j < z → ps[j] ≠ v := by
  have h : (ps.findIdx? fun x => ppB v x) ≠ none := by
    rw [ne_eq, List.findIdx?_eq_none_iff]
    intro h
    have := h v hv
    rw [ppB_iff.2 rfl] at this
    cases this
  obtain ⟨z, hz⟩ := Option.ne_none_iff_exists'.1 h
  obtain ⟨h1, h2, h3⟩ := List.findIdx?_eq_some_iff_getElem.1 hz
  exact ⟨z, h1, (ppB_iff.1 h2).symm, fun j hj hjz e => by
    have := h3 j hjz
    simp only [e, ppB_iff.2 rfl] at this
    exact absurd trivial this⟩
theorem stp_get (l : List Stp) (i : Nat) (h : i < l.length) : List.getD (l.map stpA) i .any = .agg [.fz 5 (l[i].parts.map ppA), .fz 2 (l[i].parts.map fun p => scrA (l[i].scr p)), .int .i64 l[i].best.joins, .int .i64 l[i].best.on] := by simp [List.getD, h, stpA]
theorem scr_ext {a b : Scr} (h1 : a.joins = b.joins) (h2 : a.on = b.on) : a = b := by cases a; cases b; simp only at h1 h2; rw [h1, h2]
set_option maxHeartbeats 8000000 in
theorem chosen_pc (y : Sc) (hy : y.paras.length ≤ 60) (gs : List Gq) (hgl : ∀ g ∈ gs, g.ps.length < 100000) (hne : ∀ x ∈ rowsN y gs, x.2 ≠ []) : Pc Tryz.prog 100 [scA y, .fz 4 ((stepsN (rowsN y gs)).map stpA)] (· = .fz 5 ((chosenF none (stepsN (rowsN y gs))).map ppA)) := by
  have hnd := needing_pc y hy
  obtain ⟨ks, hks⟩ : ∃ ks, ks = needF 0 y.paras := ⟨_, rfl⟩
  obtain ⟨rows, hrows⟩ : ∃ rows, rows = rowsN y gs := ⟨_, rfl⟩
  have hr0 : rows = ks.map fun k => (isSp y k, partsG gs k) := by rw [hrows, hks]; rfl
  have hkl : ks.length ≤ 60 := by rw [hks]; exact Nat.le_trans (needF_len _ _) hy
  have hkm : ∀ k ∈ ks, k < y.paras.length := fun k hk => by
    rw [hks] at hk
    have := needF_mem _ _ k hk
    omega
  rw [← hks] at hnd
  rw [← hrows] at hne ⊢
  have hrl : rows.length = ks.length := by rw [hr0]; simp
  have hsl : (stepsN rows).length = ks.length := by rw [stepsN_len, hrl]
  have hsok := stepsN_ok rows hne
  have hsa := fun i x h => stepsN_at (l := rows) (i := i) (x := x) h
  have hbd : ∀ i (h : i < (stepsN rows).length), ∀ p, ScrB 60 ((stepsN rows)[i].scr p) := fun i h p => by
    have hd := stepsN_drop rows i
    rw [List.drop_eq_getElem_cons h] at hd
    exact ((stepsN_bd _ _ _ hd.symm).1 p).mono (by rw [List.length_drop]; omega)
  have hpl : ∀ i (h : i < (stepsN rows).length), (stepsN rows)[i].parts.length < 100000 := fun i h => by
    have hi : i < rows.length := by omega
    obtain ⟨s, e1, e2, e3⟩ := hsa i rows[i] (List.getElem?_eq_getElem hi)
    rw [List.getElem?_eq_getElem h] at e1
    rw [Option.some.inj e1, e3]
    have hm : rows[i] ∈ rows := List.getElem_mem hi
    obtain ⟨x, hx⟩ : ∃ x, x = rows[i] := ⟨_, rfl⟩
    rw [← hx] at hm ⊢
    rw [hr0] at hm
    obtain ⟨k, _, hk⟩ := List.mem_map.1 hm
    have h2 := congrArg Prod.snd hk
    simp only at h2
    rw [← h2]
    exact partsG_len hgl (by decide) _
  obtain ⟨ss, hss⟩ : ∃ ss, ss = stepsN rows := ⟨_, rfl⟩
  rw [← hss] at hsl hsok hsa hbd hpl ⊢
  obtain ⟨R, hR⟩ : ∃ R, R = chosenF none ss := ⟨_, rfl⟩
  rw [← hR]
  simp only [scA] at hnd ⊢
  refine pc_intro (ct_intro Tryz.func100 rfl Tryz.ntmps100 hB100 (by simp) fun h ρ w => goB (N := 108) Tryz.ntmps100 300 ?_)
  simp only [go_sem]
  refine pcall1 (hnd) rfl (N := 108) Tryz.ntmps100 rfl (goB (N := 108) Tryz.ntmps100 300 ?_)
  simp only [go_sem, List.length_map]
  refine aloop (ι := Nat × List Pp') (fun x => ss.length - x.1)
    (fun x => [(19, .int .i64 x.1), (18, .int .i64 ss.length), (17, .fz 4 (ss.map stpA)), (6, .sl 0 0 x.1 x.1), (5, .fz 1 (natA ks)), (2, .pin 5 [.agg [.str y.no, .int .i64 y.place, .str y.set, .int .i64 y.time, .fz 2 (y.paras.map paA)]] 0 0), (1, .fz 4 (ss.map stpA))])
    (fun x => [.arr 5 (x.2.map ppA)]) (fun x => x.1 ≤ ss.length ∧ x.2.length = x.1 ∧ x.2 ++ chosenF x.2.getLast? (ss.drop x.1) = R ∧ ∀ q, x.2.getLast? = some q → ∃ s, ss[x.1 - 1]? = some s ∧ q ∈ s.parts) (0, []) ⟨by simp, rfl, by simpa using hR.symm, by simp⟩ ?_ ?_
  · refine Shift.trans (Shift.nilsl 6 5 rfl) (Shift.weakS ?_ rfl)
    simp only [wk, go_sem, List.length_map]
  rintro ⟨i, o⟩ ⟨g1, g2, g3, g4⟩ J hJ
  simp only at g1 g2 g3 g4 hJ ⊢
  by_cases gi : i < ss.length
  · have di : decide ((i : Int) < (ss.length : Int)) = true := by simp; omega
    have hget := stp_get ss i gi
    have hol : (o.map ppA).length = i := by simp [g2]
    have hbs := hbd i gi
    have hps := hpl i gi
    have hok := hsok _ (List.getElem_mem gi)
    have hsi : ss[i]? = some ss[i] := List.getElem?_eq_getElem gi
    obtain ⟨s, hs⟩ : ∃ s, s = ss[i] := ⟨_, rfl⟩
    rw [← hs] at hget hbs hps hok hsi
    obtain ⟨pk, hp1, hp2, hp3⟩ := pick_ok hok o.getLast?
    obtain ⟨want, hwant⟩ : ∃ w, w = wantO o.getLast? s := ⟨_, rfl⟩
    rw [← hwant] at hp3
    have hfin := hJ (i + 1, o ++ [pk]) ⟨by simp only; omega, by simp [g2], by
      simp only
      rw [List.drop_eq_getElem_cons gi, ← hs] at g3
      simp only [chosenF, hp1] at g3
      rw [List.getLast?_append, List.append_assoc]
      simpa using g3, fun q hq => ⟨s, by simpa using hsi, by
      rw [List.getLast?_append] at hq
      simp at hq
      rw [← hq]; exact hp2⟩⟩ (by simp only; omega)
    clear hJ
    by_cases hi0 : i = 0
    · have ho : o = [] := List.eq_nil_of_length_eq_zero (by omega)
      have d0 : decide ((i : Int) > 0) = false := by simp [hi0]
      have hw : want = s.best := by rw [hwant, ho]; rfl
      have hco : ∀ p, costO o.getLast? s p = s.scr p := fun p => by rw [ho]; rfl
      refine goB (N := 108) Tryz.ntmps100 300 ?_
      simp only [go_sem, di, hget, d0, List.length_map]
      repeat refine And.intro (by first | omega | (simp; done) | (simp; omega)) ?_
      refine aloop (ι := Nat) (fun k => s.parts.length - k)
        (fun k => [(72, .int .i64 k), (71, .int .i64 s.parts.length), (70, .fz 5 (s.parts.map ppA)), (8, .ptr 1 1 0 0), (9, .ptr 2 1 0 0), (7, .int .i64 i), (6, .sl 0 0 i i), (19, .int .i64 i), (18, .int .i64 ss.length), (17, .fz 4 (ss.map stpA)), (5, .fz 1 (natA ks)), (2, .pin 5 [.agg [.str y.no, .int .i64 y.place, .str y.set, .int .i64 y.time, .fz 2 (y.paras.map paA)]] 0 0), (1, .fz 4 (ss.map stpA))])
        (fun k => [.arr 5 (o.map ppA), .arr 4 [.agg [.fz 5 (s.parts.map ppA), .fz 2 (s.parts.map fun p => scrA (s.scr p)), .int .i64 s.best.joins, .int .i64 s.best.on]], .arr 2 [.agg [.int .i64 want.joins, .int .i64 want.on]]])
        (fun k => k ≤ s.parts.length ∧ ∀ j, (hj : j < s.parts.length) → j < k → costO o.getLast? s s.parts[j] ≠ want) 0 ⟨by simp, fun j _ h => absurd h (by omega)⟩ ?_ ?_
      · refine Shift.weakS ?_ ?_
        · simp only [wk, go_sem, List.length_map]
        · rw [hw]
      rintro k ⟨h1, h2⟩ J2 hJ2
      by_cases gk : k < s.parts.length
      · have dk : decide ((k : Int) < (s.parts.length : Int)) = true := by simp; omega
        have hgk := ppA_get s.parts k gk
        have hgs := scs_get s.parts s.scr k gk
        have hstop : costO o.getLast? s s.parts[k] = want → s.parts[k] = pk := fun he => by
          obtain ⟨jj, hjj, hje⟩ := List.getElem_of_mem hp2
          have := List.find?_eq_some_iff_getElem.1 hp1
          obtain ⟨_, z, hz, hze, hzm⟩ := this
          rcases Nat.lt_trichotomy k z with hh | hh | hh
          · have := hzm k hh
            rw [← hwant] at this
            simp [he] at this
          · subst hh; exact hze
          · exact absurd (by rw [hze]; exact hp3) (h2 z hz hh)
        have hbk := hbs s.parts[k]
        have hb1 := hbk.j0
        have hb2 := hbk.j1
        have hgo : costO o.getLast? s s.parts[k] ≠ want → ∀ a w, Sim _ _ _ a w → J2 a w := fun he => hJ2 (k + 1) ⟨by omega, fun j hj hjk => by
          rcases Nat.lt_or_ge j k with hh | hh
          · exact h2 j hj hh
          · have : j = k := by omega
            subst this; exact he⟩ (by omega)
        generalize s.parts[k] = p at *
        have hcp := hco p
        cases hcw : costO o.getLast? s p == want with
        | true =>
          have hce : costO o.getLast? s p = want := by simpa using hcw
          have hpe := hstop hce
          have hcw2 : ((costO o.getLast? s p).joins = want.joins) = True := eq_true (by rw [hce])
          have hcw3 : ((costO o.getLast? s p).on = want.on) = True := eq_true (by rw [hce])
          rw [hcp] at hcw2 hcw3
          try simp only at hcw2
          try simp only at hcw3
          refine goB (N := 108) Tryz.ntmps100 300 ?_
          simp only [go_sem, dk, hgk, hgs, List.length_map]
          repeat refine And.intro (by first | omega | (simp; done) | (simp; omega)) ?_
          refine adraw [] mixed (by decide) (N := 108) Tryz.ntmps100 (by decide) 100 ?_
          simp only [go_sem, d0, List.length_map]
          repeat refine And.intro (by first | omega | rfl | (simp; done) | (simp; omega)) ?_
          refine goB (N := 108) Tryz.ntmps100 300 ?_
          simp only [go_sem, d0, hcw2, hcw3, List.length_map]
          repeat refine And.intro (by first | omega | rfl | kernel_rfl | exact .inl rfl | exact .inl trivial | (simp; done) | (simp; omega)) ?_
          rw [show (i : Int) + 1 = ((i + 1 : Nat) : Int) by omega]
          rw [← hpe] at hfin
          simp only [List.map_append, List.map_cons, List.map_nil, ppA] at hfin
          refine ainv hfin ?_
          refine Shift.low 1 (by simp) (by simp) ?_ ?_
          · simp only [List.take_succ_cons, List.take_zero, List.all_cons, List.all_nil, lowB, flat_append, List.all_append, low_all (pp_frz _), flat, cellsOf, lowC, Av.frozen, List.append_nil, List.cons_append, List.nil_append, Bool.and_self]
          · simp only [wkl, lowV, lowC, Av.get, go_sem]
        | false =>
          have hne : costO o.getLast? s p ≠ want := by simpa using hcw
          have hcw2 : ((costO o.getLast? s p).joins = want.joins ∧ (costO o.getLast? s p).on = want.on) = False := eq_false (fun h => hne (scr_ext h.1 h.2))
          have hcw3 : ((costO o.getLast? s p).joins = want.joins → ¬ (costO o.getLast? s p).on = want.on) = True := eq_true (fun h h2 => hne (scr_ext h h2))
          rw [hcp] at hcw2 hcw3
          try simp only at hcw2
          try simp only at hcw3
          refine goB (N := 108) Tryz.ntmps100 300 ?_
          simp only [go_sem, dk, hgk, hgs, List.length_map]
          repeat refine And.intro (by first | omega | (simp; done) | (simp; omega)) ?_
          refine adraw [] mixed (by decide) (N := 108) Tryz.ntmps100 (by decide) 100 ?_
          simp only [go_sem, d0, List.length_map]
          repeat refine And.intro (by first | omega | rfl | (simp; done) | (simp; omega)) ?_
          refine goB (N := 108) Tryz.ntmps100 300 ?_
          simp only [go_sem, d0, hcw2, hcw3, List.length_map]
          repeat refine And.intro (by first | omega | rfl | kernel_rfl | exact .inl rfl | exact .inl trivial | (simp; done) | (simp; omega)) ?_
          rw [show (k : Int) + 1 = ((k + 1 : Nat) : Int) by omega]
          refine ainv (hgo hne) ?_
          refine Shift.low 3 (by simp) (by simp) ?_ ?_
          · simp only [List.take_succ_cons, List.take_zero, List.all_cons, List.all_nil, lowB, low_all (pp_frz _), flat, cellsOf, lowC, Av.frozen, List.append_nil, List.cons_append, List.nil_append, Bool.and_self]
          · simp only [wkl, lowV, lowC, Av.get, go_sem]
      · exfalso
        obtain ⟨j, hj, e⟩ := List.getElem_of_mem hp2
        exact h2 j hj (by omega) (by rw [e]; exact hp3)
    · obtain ⟨q, hq⟩ : ∃ q, o.getLast? = some q := by
        cases hl : o.getLast? with
        | none => simp at hl; subst hl; simp at g2; omega
        | some q => exact ⟨q, rfl⟩
      obtain ⟨s0, hs0, hq0⟩ := g4 q hq
      have d0 : decide ((i : Int) > 0) = true := by simp; omega
      have hi1 : ((i : Int) - 1).toNat = i - 1 := by omega
      have hi1l : i - 1 < ss.length := by omega
      have hlg : List.getD (o.map ppA) (i - 1) .any = .agg [.int .i64 q.take, .int .i64 q.cv.para, .int .i64 q.cv.inn, .int .i64 q.cv.out, .bool q.cv.on] := by
        rw [List.getLast?_eq_getElem?, g2] at hq
        rw [List.getD_eq_getElem?_getD, List.getElem?_map, hq]; rfl
      have hgs0 := stp_get ss (i - 1) hi1l
      have hs0e : ss[i - 1] = s0 := by rw [List.getElem?_eq_getElem hi1l] at hs0; exact Option.some.inj hs0
      rw [hs0e] at hgs0
      have hb0 := hbd (i - 1) hi1l
      rw [hs0e] at hb0
      obtain ⟨z, hz, hze, hzm⟩ := first_at hq0
      have hpl0 := hpl (i - 1) hi1l
      rw [hs0e] at hpl0
      have hidx := indexPp_pc s0.parts q (by omega) z hz hze hzm
      have hgz := scs_get s0.parts s0.scr z hz
      rw [hze] at hgz
      have hkil : i - 1 < ks.length := by omega
      have hgk := natA_get ks (i - 1) hkil
      have hk := hkm _ (List.getElem_mem hkil)
      have hgpk := paA_get y.paras ks[i - 1] hk
      obtain ⟨sp, hsp⟩ : ∃ sp, sp = isSp y ks[i - 1] := ⟨_, rfl⟩
      have hkind : (y.paras[ks[i - 1]].kind == 4) = sp := by rw [hsp, isSp]; simp [List.getD, hk]
      have hri : rows[i - 1]? = some (sp, partsG gs ks[i - 1]) := by rw [hr0, List.getElem?_map, List.getElem?_eq_getElem hkil, hsp]; rfl
      obtain ⟨s0', e1, e2, e3⟩ := hsa (i - 1) _ hri
      rw [hs0] at e1
      have hscr : s0.scr q = ⟨(restS s q).joins, (ownS q sp).on + (restS s q).on⟩ := by
        rw [Option.some.inj e1, e2, show i - 1 + 1 = i by omega, hsi]; rfl
      have hw : want = restS s q := by rw [hwant, hq]; rfl
      have hco : ∀ p, costO o.getLast? s p = cost s.scr q p := fun p => by rw [hq]; rfl
      have hown := own_pc q sp
      have hob := own_bd q sp
      have hq1 := (hb0 q).o0
      have hq2 := (hb0 q).o1
      have hj : (s0.scr q).joins = want.joins := by rw [hscr, hw]
      have hon : (s0.scr q).on - (ownS q sp).on = want.on := by rw [hscr, hw]; simp only; omega
      simp only [ppA, scrA] at hown hidx
      have hidx' := hidx
      refine goB (N := 108) Tryz.ntmps100 300 ?_
      simp only [go_sem, di, hget, d0, hi1, hlg, hol, List.length_map]
      repeat refine And.intro (by first | omega | (simp; done) | (simp; omega)) ?_
      refine adrawI [] 99 [.int .i64 z] mixed (by decide) (N := 108) Tryz.ntmps100 (by decide) 100 ?_
      simp only [go_sem, hi1, hgs0, hgz, List.length_map]
      repeat refine And.intro (by first | omega | exact (show PcAt _ _ _ _ from (indexPp_pc s0.parts q (by omega) z hz hze hzm).at) | rfl | (simp; done) | (simp; omega)) ?_
      refine adraw [.agg [.int .i64 (ownS q sp).joins, .int .i64 (ownS q sp).on]] mixed (by decide) (N := 108) Tryz.ntmps100 (by decide) 100 ?_
      simp only [go_sem, hj, hon, natA_len, hgk, hgpk, hkind, hi1, List.length_map]
      repeat refine And.intro (by first | omega | exact hown.at | rfl | (simp; done) | (simp; omega)) ?_
      refine goB (N := 108) Tryz.ntmps100 300 ?_
      simp only [go_sem, List.length_map]
      refine aloop (ι := Nat) (fun k => s.parts.length - k)
        (fun k => [(72, .int .i64 k), (71, .int .i64 s.parts.length), (70, .fz 5 (s.parts.map ppA)), (8, .ptr 1 1 0 0), (9, .ptr 2 1 0 0), (7, .int .i64 i), (6, .sl 0 0 i i), (19, .int .i64 i), (18, .int .i64 ss.length), (17, .fz 4 (ss.map stpA)), (5, .fz 1 (natA ks)), (2, .pin 5 [.agg [.str y.no, .int .i64 y.place, .str y.set, .int .i64 y.time, .fz 2 (y.paras.map paA)]] 0 0), (1, .fz 4 (ss.map stpA))])
        (fun k => [.arr 5 (o.map ppA), .arr 4 [.agg [.fz 5 (s.parts.map ppA), .fz 2 (s.parts.map fun p => scrA (s.scr p)), .int .i64 s.best.joins, .int .i64 s.best.on]], .arr 2 [.agg [.int .i64 want.joins, .int .i64 want.on]]])
        (fun k => k ≤ s.parts.length ∧ ∀ j, (hj : j < s.parts.length) → j < k → costO o.getLast? s s.parts[j] ≠ want) 0 ⟨by simp, fun j _ h => absurd h (by omega)⟩ ?_ ?_
      · refine Shift.low 3 (by simp) (by simp) ?_ ?_
        · simp only [List.take_succ_cons, List.take_zero, List.all_cons, List.all_nil, lowB, low_all (pp_frz _), flat, cellsOf, lowC, Av.frozen, List.append_nil, List.cons_append, List.nil_append, Bool.and_self]
        · simp only [wkl, lowV, lowC, Av.get, go_sem]
      rintro k ⟨h1, h2⟩ J2 hJ2
      by_cases gk : k < s.parts.length
      · have dk : decide ((k : Int) < (s.parts.length : Int)) = true := by simp; omega
        have hgk := ppA_get s.parts k gk
        have hgs := scs_get s.parts s.scr k gk
        have hstop : costO o.getLast? s s.parts[k] = want → s.parts[k] = pk := fun he => by
          obtain ⟨jj, hjj, hje⟩ := List.getElem_of_mem hp2
          have := List.find?_eq_some_iff_getElem.1 hp1
          obtain ⟨_, z, hz, hze, hzm⟩ := this
          rcases Nat.lt_trichotomy k z with hh | hh | hh
          · have := hzm k hh
            rw [← hwant] at this
            simp [he] at this
          · subst hh; exact hze
          · exact absurd (by rw [hze]; exact hp3) (h2 z hz hh)
        have hbk := hbs s.parts[k]
        have hb1 := hbk.j0
        have hb2 := hbk.j1
        have hgo : costO o.getLast? s s.parts[k] ≠ want → ∀ a w, Sim _ _ _ a w → J2 a w := fun he => hJ2 (k + 1) ⟨by omega, fun j hj hjk => by
          rcases Nat.lt_or_ge j k with hh | hh
          · exact h2 j hj hh
          · have : j = k := by omega
            subst this; exact he⟩ (by omega)
        generalize s.parts[k] = p at *
        have hfo := follows2_pc q p
        simp only [ppA] at hfo
        cases hff : fol q p with
        | true =>
          rw [hff] at hfo
          have hcp : costO o.getLast? s p = s.scr p := by rw [hco, cost, hff]; rfl
          cases hcw : costO o.getLast? s p == want with
          | true =>
            have hce : costO o.getLast? s p = want := by simpa using hcw
            have hpe := hstop hce
            have hcw2 : ((costO o.getLast? s p).joins = want.joins) = True := eq_true (by rw [hce])
            have hcw3 : ((costO o.getLast? s p).on = want.on) = True := eq_true (by rw [hce])
            rw [hcp] at hcw2 hcw3
            try simp only at hcw2
            try simp only at hcw3
            refine goB (N := 108) Tryz.ntmps100 300 ?_
            simp only [go_sem, dk, hgk, hgs, List.length_map]
            repeat refine And.intro (by first | omega | (simp; done) | (simp; omega)) ?_
            refine adraw [.bool true] mixed (by decide) (N := 108) Tryz.ntmps100 (by decide) 100 ?_
            simp only [go_sem, d0, hi1, hlg, hol, List.length_map]
            repeat refine And.intro (by first | omega | rfl | exact hfo.at | (simp; done) | (simp; omega)) ?_
            refine goB (N := 108) Tryz.ntmps100 300 ?_
            simp only [go_sem, d0, hi1, hlg, hol, hcw2, hcw3, List.length_map]
            repeat refine And.intro (by first | omega | rfl | kernel_rfl | exact .inl rfl | exact .inl trivial | (simp; done) | (simp; omega)) ?_
            rw [show (i : Int) + 1 = ((i + 1 : Nat) : Int) by omega]
            rw [← hpe] at hfin
            simp only [List.map_append, List.map_cons, List.map_nil, ppA] at hfin
            refine ainv hfin ?_
            refine Shift.low 1 (by simp) (by simp) ?_ ?_
            · simp only [List.take_succ_cons, List.take_zero, List.all_cons, List.all_nil, lowB, flat_append, List.all_append, low_all (pp_frz _), flat, cellsOf, lowC, Av.frozen, List.append_nil, List.cons_append, List.nil_append, Bool.and_self]
            · simp only [wkl, lowV, lowC, Av.get, go_sem]
          | false =>
            have hne : costO o.getLast? s p ≠ want := by simpa using hcw
            have hcw2 : ((costO o.getLast? s p).joins = want.joins ∧ (costO o.getLast? s p).on = want.on) = False := eq_false (fun h => hne (scr_ext h.1 h.2))
            have hcw3 : ((costO o.getLast? s p).joins = want.joins → ¬ (costO o.getLast? s p).on = want.on) = True := eq_true (fun h h2 => hne (scr_ext h h2))
            rw [hcp] at hcw2 hcw3
            try simp only at hcw2
            try simp only at hcw3
            refine goB (N := 108) Tryz.ntmps100 300 ?_
            simp only [go_sem, dk, hgk, hgs, List.length_map]
            repeat refine And.intro (by first | omega | (simp; done) | (simp; omega)) ?_
            refine adraw [.bool true] mixed (by decide) (N := 108) Tryz.ntmps100 (by decide) 100 ?_
            simp only [go_sem, d0, hi1, hlg, hol, List.length_map]
            repeat refine And.intro (by first | omega | rfl | exact hfo.at | (simp; done) | (simp; omega)) ?_
            refine goB (N := 108) Tryz.ntmps100 300 ?_
            simp only [go_sem, d0, hi1, hlg, hol, hcw2, hcw3, List.length_map]
            repeat refine And.intro (by first | omega | rfl | kernel_rfl | exact .inl rfl | exact .inl trivial | (simp; done) | (simp; omega)) ?_
            rw [show (k : Int) + 1 = ((k + 1 : Nat) : Int) by omega]
            refine ainv (hgo hne) ?_
            refine Shift.low 3 (by simp) (by simp) ?_ ?_
            · simp only [List.take_succ_cons, List.take_zero, List.all_cons, List.all_nil, lowB, low_all (pp_frz _), flat, cellsOf, lowC, Av.frozen, List.append_nil, List.cons_append, List.nil_append, Bool.and_self]
            · simp only [wkl, lowV, lowC, Av.get, go_sem]
        | false =>
          rw [hff] at hfo
          have hcp : costO o.getLast? s p = ⟨(s.scr p).joins + 1, (s.scr p).on⟩ := by rw [hco, cost, hff]; rfl
          cases hcw : costO o.getLast? s p == want with
          | true =>
            have hce : costO o.getLast? s p = want := by simpa using hcw
            have hpe := hstop hce
            have hcw2 : ((costO o.getLast? s p).joins = want.joins) = True := eq_true (by rw [hce])
            have hcw3 : ((costO o.getLast? s p).on = want.on) = True := eq_true (by rw [hce])
            rw [hcp] at hcw2 hcw3
            try simp only at hcw2
            try simp only at hcw3
            refine goB (N := 108) Tryz.ntmps100 300 ?_
            simp only [go_sem, dk, hgk, hgs, List.length_map]
            repeat refine And.intro (by first | omega | (simp; done) | (simp; omega)) ?_
            refine adraw [.bool false] mixed (by decide) (N := 108) Tryz.ntmps100 (by decide) 100 ?_
            simp only [go_sem, d0, hi1, hlg, hol, List.length_map]
            repeat refine And.intro (by first | omega | rfl | exact hfo.at | (simp; done) | (simp; omega)) ?_
            refine goB (N := 108) Tryz.ntmps100 300 ?_
            simp only [go_sem, d0, hi1, hlg, hol, hcw2, hcw3, List.length_map]
            repeat refine And.intro (by first | omega | rfl | kernel_rfl | exact .inl rfl | exact .inl trivial | (simp; done) | (simp; omega)) ?_
            rw [show (i : Int) + 1 = ((i + 1 : Nat) : Int) by omega]
            rw [← hpe] at hfin
            simp only [List.map_append, List.map_cons, List.map_nil, ppA] at hfin
            refine ainv hfin ?_
            refine Shift.low 1 (by simp) (by simp) ?_ ?_
            · simp only [List.take_succ_cons, List.take_zero, List.all_cons, List.all_nil, lowB, flat_append, List.all_append, low_all (pp_frz _), flat, cellsOf, lowC, Av.frozen, List.append_nil, List.cons_append, List.nil_append, Bool.and_self]
            · simp only [wkl, lowV, lowC, Av.get, go_sem]
          | false =>
            have hne : costO o.getLast? s p ≠ want := by simpa using hcw
            have hcw2 : ((costO o.getLast? s p).joins = want.joins ∧ (costO o.getLast? s p).on = want.on) = False := eq_false (fun h => hne (scr_ext h.1 h.2))
            have hcw3 : ((costO o.getLast? s p).joins = want.joins → ¬ (costO o.getLast? s p).on = want.on) = True := eq_true (fun h h2 => hne (scr_ext h h2))
            rw [hcp] at hcw2 hcw3
            try simp only at hcw2
            try simp only at hcw3
            refine goB (N := 108) Tryz.ntmps100 300 ?_
            simp only [go_sem, dk, hgk, hgs, List.length_map]
            repeat refine And.intro (by first | omega | (simp; done) | (simp; omega)) ?_
            refine adraw [.bool false] mixed (by decide) (N := 108) Tryz.ntmps100 (by decide) 100 ?_
            simp only [go_sem, d0, hi1, hlg, hol, List.length_map]
            repeat refine And.intro (by first | omega | rfl | exact hfo.at | (simp; done) | (simp; omega)) ?_
            refine goB (N := 108) Tryz.ntmps100 300 ?_
            simp only [go_sem, d0, hi1, hlg, hol, hcw2, hcw3, List.length_map]
            repeat refine And.intro (by first | omega | rfl | kernel_rfl | exact .inl rfl | exact .inl trivial | (simp; done) | (simp; omega)) ?_
            rw [show (k : Int) + 1 = ((k + 1 : Nat) : Int) by omega]
            refine ainv (hgo hne) ?_
            refine Shift.low 3 (by simp) (by simp) ?_ ?_
            · simp only [List.take_succ_cons, List.take_zero, List.all_cons, List.all_nil, lowB, low_all (pp_frz _), flat, cellsOf, lowC, Av.frozen, List.append_nil, List.cons_append, List.nil_append, Bool.and_self]
            · simp only [wkl, lowV, lowC, Av.get, go_sem]
      · exfalso
        obtain ⟨j, hj, e⟩ := List.getElem_of_mem hp2
        exact h2 j hj (by omega) (by rw [e]; exact hp3)
  · have hi : i = ss.length := by omega
    have di : decide ((i : Int) < (ss.length : Int)) = false := by simp; omega
    have ho : o = R := by
      rw [hi, List.drop_length] at g3
      simpa [chosenF] using g3
    clear hJ
    subst ho
    refine AWp.shift (Shift.freeze 6 (id := 0) (l := o.map ppA) rfl rfl (by simp [g2]) (Nat.le_refl _) (pp_frz _)) ?_
    have htk : List.take i (List.drop 0 (o.map ppA)) = o.map ppA := by rw [List.drop_zero, List.take_of_length_le (by simp; omega)]
    rw [htk]
    refine goB (N := 108) Tryz.ntmps100 300 ?_
    simp only [go_sem, di]
    exact aret [4] rfl ⟨rfl, rfl⟩
end Go.Proofs.YtkfpiadgjbhcpaaGreatDoor
