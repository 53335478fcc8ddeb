/- The law DeedsStay, walked, but for what is drawn. Own work of this seat. -/
import Derived.Test.YtkomcdohejibmaaGreatDoorY52
import Derived.Test.YtkomcdohejibmaaGreatDoorY46
import Derived.Test.YtkomcdohejibmaaGreatDoorY22
import Derived.Test.YtkomcdohejibmaaGreatDoorY47
set_option maxRecDepth 100000
set_option linter.unusedSimpArgs false
set_option linter.unusedVariables false
namespace Go.Proofs.YtkomcdohejibmaaGreatDoor
open Go Go.Av Go.RowKit

/-- what is drawn is told by a function -/
def DrawsX (S : Std) (L : List Int) (D : List De) : Prop := CkOk D ∧ D.length ≤ 15 ∧ SzL D ∧ McH Tryz.prog S 8 2 (str L 0) [] (fun r s => ∃ k' : Int, r = .fz 7 (D.map deA) ∧ s = str L k')
theorem OwnD.app {T t : List Blk} {id : Nat} {rows : List (Nat × De)} (h : OwnD T id rows) : OwnD (T ++ t) id rows := ⟨getD_app h.blk (by simp), fun x hx => getD_app (h.seen x hx) (by simp [blkS]), h.bnd⟩
theorem ap_get (s : List Blk) (b : Blk) (r : List Blk) : (s ++ b :: r).getD s.length .dead = b := by
  rw [List.getD_eq_getElem?_getD, List.getElem?_append_right (Nat.le_refl _), Nat.sub_self]
  rfl
theorem ap_set (s : List Blk) (b c : Blk) (r : List Blk) : (s ++ b :: r).set s.length c = s ++ c :: r := by
  rw [List.set_append_right _ _ (Nat.le_refl _), Nat.sub_self]
  rfl
theorem can_self {x : List De} (h : CkOk x) : CanJoin x x := by
  refine ⟨h, h.len, fun a ha b hb e => ?_, fun l hs hm => ?_⟩
  · exact srt_inj h.srt ((List.mem_append.1 ha).elim id id) ((List.mem_append.1 hb).elim id id) e
  · have : l = x := srt_ext hs h.srt fun d => by rw [hm d]; exact ⟨fun h => h.elim id id, .inl⟩
    rw [this]
    exact h
set_option maxHeartbeats 8000000 in
theorem stay_pch {S : Std} (L : List Int) (D : List De) (hD : DrawsX S L D) : PcH Tryz.prog S 3 [.fz 1 (L.map (.int .i64))] (· = .bool true) := by
  obtain ⟨hok, hlen, hsz, hdr⟩ := hD
  have hdb := deedsB_pc
  have hadd := addS_ct D [97, 114, 116] [112, 108, 97, 110] [120, 10] hsz hok (by omega) (by decide) (by decide) (by simp) (by simp) (by simp)
  have hsame := sameDeeds_pc D D hsz.sz hsz.sz
  have hself : decide (D = D) = true := by simp
  rw [hself] at hsame
  refine pch_intro (cth_intro Tryz.func3 rfl Tryz.ntmps3 hB3 (by simp) fun h ρ w hg => goF (N := 124) Tryz.ntmps3 300 ?_)
  simp only [go_sem]
  refine mcallH hg (agg := str L 0) hdr rfl rfl (id := 0) rfl (N := 124) Tryz.ntmps3 rfl ?_
  rintro _ _ ⟨k1, rfl, rfl⟩
  refine goF (N := 124) Tryz.ntmps3 300 ?_
  simp only [go_sem]
  refine mcallH hg (agg := str L 0) hdr rfl rfl (id := 1) rfl (N := 124) Tryz.ntmps3 rfl ?_
  rintro _ _ ⟨k2, rfl, rfl⟩
  refine AWp.shift (Shift.low 0 (e' := [(29, .fz 7 (D.map deA)), (27, .fz 7 (D.map deA))]) (by simp) (by simp) rfl (by simp only [wkl, lowV, lowC, Av.get, go_sem])) ?_
  simp only [List.take_zero]
  refine goF (N := 124) Tryz.ntmps3 300 ?_
  simp only [go_sem]
  refine acall (hadd) (N := 124) Tryz.ntmps3 rfl ?_
  rintro _ T1 ⟨id1, rows1, rfl, o1, p1, b1⟩
  refine goF (N := 124) Tryz.ntmps3 300 ?_
  simp only [go_sem]
  refine acall ((joinS_ct D D hsz hsz (by omega) (can_self hok)).liftN rfl (by rintro _ _ ⟨id, rows, _, _, h, _⟩; exact h) T1) (N := 124) Tryz.ntmps3 rfl ?_
  rintro _ _ ⟨_, T2, ⟨id2, rows2, rfl, o2, p2, j1, j2, j3⟩, rfl, rfl⟩
  have e2 : rows2.map (·.2) = D := srt_ext j1 hok.srt fun d => by rw [j3 d]; exact ⟨fun h => h.elim id id, .inl⟩
  have o2' := own_lift o2 T1
  have o1' : OwnD (T1 ++ T2.map (shB T1.length)) id1 rows1 := o1.app
  have el : (rows2.map fun x => (x.1 + T1.length, x.2)).length = rows2.length := by simp
  have e2' : (rows2.map fun x => (x.1 + T1.length, x.2)).map (·.2) = D := by rw [List.map_map]; exact e2
  simp only [shV, shC, sh1, List.map_cons, List.map_nil]
  generalize T1 ++ T2.map (shB T1.length) = T at *
  rw [← el]
  generalize (rows2.map fun x => (x.1 + T1.length, x.2)) = rw2 at *
  generalize id2 + T1.length = id2' at *
  refine goF (N := 124) Tryz.ntmps3 300 ?_
  simp only [go_sem]
  refine acall ((papersS_ct D hsz (by omega) hok).liftN rfl (by rintro _ _ ⟨id, rows, _, _, h, _⟩; exact h) T) (N := 124) Tryz.ntmps3 rfl ?_
  rintro _ _ ⟨_, T3, ⟨id3, rows3, rfl, o3, p3, b3⟩, rfl, rfl⟩
  have o3' := ownP_lift o3 T
  have o2'' : OwnD (T ++ T3.map (shB T.length)) id2' rw2 := o2'.app
  have o1'' : OwnD (T ++ T3.map (shB T.length)) id1 rows1 := o1'.app
  have el3 : (rows3.map fun x => (x.1 + T.length, x.2)).length = rows3.length := by simp
  simp only [shV, shC, sh1, List.map_cons, List.map_nil]
  generalize T ++ T3.map (shB T.length) = U at *
  rw [← el3]
  generalize (rows3.map fun x => (x.1 + T.length, x.2)) = rw3 at *
  generalize id3 + T.length = id3' at *
  have hbor := Ct.borrow (P := Tryz.prog) (f := 12) (args := [.sl id2' 0 rw2.length rw2.length, .fz 7 (D.map deA)]) 2 U (post := (· = .bool true)) (by simp only [List.map_cons, List.map_nil]; rw [own_bor o2'', e2']; exact hsame) (by rintro r rfl; rfl)
  have hs1 := sh7_of o1''
  have hs2 := sh7_of o2''
  have hs3 := shP_of o3'
  have b2 : rw2.length ≤ 1000 := by
    have := congrArg List.length e2'
    rw [List.length_map] at this
    omega
  rw [← el3] at b3
  generalize rows1.length = n1 at *
  generalize rw2.length = n2 at *
  generalize rw3.length = n3 at *
  clear o1 o2 o3 o1' o2' o3' o1'' o2'' el el3 e2 e2' j1 j2 j3 p1 p2 p3 hadd
  refine goF (N := 124) Tryz.ntmps3 300 ?_
  simp only [go_sem]
  refine acall (hbor) (N := 124) Tryz.ntmps3 rfl ?_
  rintro _ V ⟨rfl, hV⟩
  subst hV
  refine go (N := 124) Tryz.ntmps3 300 ?_
  simp only [go_sem, ap_get, ap_set]
  have hsp : SpI (V ++ [.arr 1 [.sl id1 0 n1 n1, .sl id2' 0 n2 n2]]) V.length id1 n1 id2' n2 id3' n3 := ⟨hs1.app _, hs2.app _, hs3.app _, ap_get _ _ _⟩
  generalize V ++ [Blk.arr 1 [.sl id1 0 n1 n1, .sl id2' 0 n2 n2]] = W at *
  generalize V.length = z at *
  clear hs1 hs2 hs3 hbor
  refine aloop (ι := Nat × List Blk) (fun y => 2 - y.1) (fun y => [(66, .int .i64 y.1), (65, .int .i64 2), (64, .sl z 0 2 2), (5, .fz 7 (D.map deA)), (6, .fz 7 (D.map deA)), (11, .sl id3' 0 n3 n3)]) (fun y => y.2)
    (fun y => y.1 ≤ 2 ∧ SpI y.2 z id1 n1 id2' n2 id3' n3) (0, W) ⟨by simp, hsp⟩ ?_ ?_
  · refine Shift.weakS ?_ rfl
    simp only [wk, go_sem]
    try rfl
  rintro ⟨q, T⟩ ⟨g1, g2⟩ J hJ
  simp only at g1 g2 hJ ⊢
  by_cases gq : q < 2
  · have dq : decide ((q : Int) < 2) = true := by simp; omega
    obtain ⟨id, n, hrow, hsh, hn⟩ : ∃ id n, ([.sl id1 0 n1 n1, .sl id2' 0 n2 n2] : List AV).getD q .any = .sl id 0 n n ∧ (∀ T, SpI T z id1 n1 id2' n2 id3' n3 → Sh7 T id n) ∧ n ≤ 1000 := by
      have : q = 0 ∨ q = 1 := by omega
      rcases this with rfl | rfl
      · exact ⟨id1, n1, rfl, fun T h => h.s1, b1⟩
      · exact ⟨id2', n2, rfl, fun T h => h.s2, b2⟩
    have hzz := g2.zz
    have hfin : ∀ T', SpI T' z id1 n1 id2' n2 id3' n3 → _ := fun T' h => hJ (q + 1, T') ⟨by simp only; omega, h⟩ (by simp only; omega)
    clear hJ
    obtain ⟨rows0, hr0, hl0, hx0⟩ := hsh T g2
    refine go (N := 124) Tryz.ntmps3 300 ?_
    simp only [go_sem, dq, hzz, hrow, hr0, hl0]
    repeat refine And.intro (by first | omega | rfl | exact .inl rfl | exact .inl trivial | (simp; done) | (simp; omega)) ?_
    clear hr0 hl0 hx0 hzz
    refine aloop (ι := Nat × List Blk) (fun y => n - y.1) (fun y => [(72, .int .i64 y.1), (71, .int .i64 n), (14, .sl id 0 n n), (66, .int .i64 q), (65, .int .i64 2), (64, .sl z 0 2 2), (5, .fz 7 (D.map deA)), (6, .fz 7 (D.map deA)), (11, .sl id3' 0 n3 n3)]) (fun y => y.2)
      (fun y => y.1 ≤ n ∧ SpI y.2 z id1 n1 id2' n2 id3' n3) (0, T) ⟨by simp, g2⟩ ?_ ?_
    · refine Shift.weakS ?_ rfl
      simp only [wk, go_sem]
      try rfl
    rintro ⟨i, T⟩ ⟨g3, g4⟩ J2 hJ2
    simp only at g3 g4 hJ2 ⊢
    by_cases gi : i < n
    · have di : decide ((i : Int) < (n : Int)) = true := by simp; omega
      obtain ⟨rows, hr, hl, hro⟩ := hsh T g4
      obtain ⟨d, no, j, m, kd, pp, tt, pe, l, hmb, ha, hj, hm⟩ := hro rows[i] (List.getElem_mem (by omega))
      have hgi : rows.getD i .any = .agg [.str d, .int .i64 no, .sl j 0 m m, .int .i64 kd, .str pp, .str tt, .str pe] := by
        rw [← ha]
        simp [List.getD, show i < rows.length by omega]
      have hml : (l.map stA).length = m := by simpa using hm
      have hfin2 : ∀ T', SpI T' z id1 n1 id2' n2 id3' n3 → _ := fun T' h => hJ2 (i + 1, T') ⟨by simp only; omega, h⟩ (by simp only; omega)
      clear hJ2
      refine go (N := 124) Tryz.ntmps3 300 ?_
      simp only [go_sem, di, hr, hl, hgi, hj, hml]
      repeat refine And.intro (by first | omega | rfl | exact .inl rfl | exact .inl trivial | (simp; done) | (simp; omega)) ?_
      refine aloop (ι := Nat × List Blk × List St) (fun y => m - y.1) (fun y => [(81, .int .i64 y.1), (80, .int .i64 m), (15, .int .i64 i), (72, .int .i64 i), (71, .int .i64 n), (14, .sl id 0 n n), (66, .int .i64 q), (65, .int .i64 2), (64, .sl z 0 2 2), (5, .fz 7 (D.map deA)), (6, .fz 7 (D.map deA)), (11, .sl id3' 0 n3 n3)]) (fun y => y.2.1)
        (fun y => y.1 ≤ m ∧ SpI y.2.1 z id1 n1 id2' n2 id3' n3 ∧ y.2.1.getD id .dead = .arr 7 rows ∧ y.2.1.getD j .dead = .arr 2 (y.2.2.map stA) ∧ y.2.2.length = m) (0, T, l) ⟨by simp, g4, hr, hj, hm⟩ ?_ ?_
      · refine Shift.weakS ?_ rfl
        simp only [wk, go_sem]
        try rfl
      clear hj hm hml hr g4 l hro ha
      rintro ⟨k, T, l⟩ ⟨g5, g6, hr, hj, hm⟩ J3 hJ3
      simp only at g5 g6 hr hj hm hJ3 ⊢
      have hml : (l.map stA).length = m := by simpa using hm
      by_cases gk : k < m
      · have dk : decide ((k : Int) < (m : Int)) = true := by simp; omega
        have hkl : k < l.length := by omega
        have hgk := stA_get l k hkl
        have hne : l ≠ [] := by intro e; subst e; simp at hkl
        have hw := g6.w2 (l' := l.set k ⟨l[k].dept, 777⟩) hj hne (by simp)
        have hjl := getD_lt hj (by simp)
        have hid : id ≠ j := fun e => by subst e; rw [hr] at hj; simp at hj
        have hfin3 := hJ3 (k + 1, T.set j (.arr 2 ((l.set k ⟨l[k].dept, 777⟩).map stA)), l.set k ⟨l[k].dept, 777⟩) ⟨by simp only; omega, hw, by simp only; rw [getD_set hjl, if_neg hid]; exact hr, by simp only; rw [getD_set hjl, if_pos rfl], by simp [hm]⟩ (by simp only; omega)
        simp only at hfin3
        rw [← stA_set] at hfin3
        clear hJ3
        refine go (N := 124) Tryz.ntmps3 300 ?_
        simp only [go_sem, dk, hr, hl, hgi, hj, hml, hgk]
        repeat refine And.intro (by first | omega | rfl | exact .inl rfl | exact .inl trivial | (simp; done) | (simp; omega)) ?_
        rw [show (k : Int) + 1 = ((k + 1 : Nat) : Int) by omega]
        refine ainv hfin3 (Shift.weakS ?_ rfl)
        simp only [wk, go_sem]
      · have dk : decide ((k : Int) < (m : Int)) = false := by simp; omega
        obtain ⟨rowsb, hrb, hlb, hrob⟩ := hsh T g6
        have eb : rowsb = rows := by rw [hr] at hrb; injection hrb with _ h; exact h.symm
        subst eb
        have hw := g6.w7 (rows' := rowsb.set i (.agg [.str d, .int .i64 no, .sl j 0 m m, .int .i64 kd, .str [115, 112, 111, 105, 108, 116], .str tt, .str pe])) hr (by simp) (fun a hain => by
          rcases List.mem_or_eq_of_mem_set hain with h | h
          · exact hrob a h
          · exact ⟨d, no, j, m, kd, _, tt, pe, l, hmb, h, hj, hm⟩)
        have hfin4 := hfin2 _ hw
        clear hJ3
        refine go (N := 124) Tryz.ntmps3 300 ?_
        simp only [go_sem, dk, hr, hl, hgi, hj, hml]
        repeat refine And.intro (by first | omega | rfl | exact .inl rfl | exact .inl trivial | (simp; done) | (simp; omega)) ?_
        rw [show (i : Int) + 1 = ((i + 1 : Nat) : Int) by omega]
        refine ainv hfin4 (Shift.weakS ?_ rfl)
        simp only [wk, go_sem]
    · have di : decide ((i : Int) < (n : Int)) = false := by simp; omega
      have hfin5 := hfin T g4
      clear hJ2
      refine go (N := 124) Tryz.ntmps3 300 ?_
      simp only [go_sem, di]
      repeat refine And.intro (by first | omega | rfl | exact .inl rfl | exact .inl trivial | (simp; done) | (simp; omega)) ?_
      rw [show (q : Int) + 1 = ((q + 1 : Nat) : Int) by omega]
      refine ainv hfin5 (Shift.weakS ?_ rfl)
      simp only [wk, go_sem]
  · have dq : decide ((q : Int) < 2) = false := by simp; omega
    clear hJ
    obtain ⟨rows0, hr0, hl0, hx0⟩ := g2.s3
    refine go (N := 124) Tryz.ntmps3 300 ?_
    simp only [go_sem, dq, hr0, hl0]
    repeat refine And.intro (by first | omega | rfl | exact .inl rfl | exact .inl trivial | (simp; done) | (simp; omega)) ?_
    clear hr0 hl0 hx0
    refine aloop (ι := Nat × List Blk) (fun y => n3 - y.1) (fun y => [(101, .int .i64 y.1), (100, .int .i64 n3), (99, .sl id3' 0 n3 n3), (5, .fz 7 (D.map deA)), (6, .fz 7 (D.map deA))]) (fun y => y.2)
      (fun y => y.1 ≤ n3 ∧ SpI y.2 z id1 n1 id2' n2 id3' n3) (0, T) ⟨by simp, g2⟩ ?_ ?_
    · refine Shift.weakS ?_ rfl
      simp only [wk, go_sem]
      try rfl
    clear g2 T
    rintro ⟨i, T⟩ ⟨g3, g4⟩ J2 hJ2
    simp only at g3 g4 hJ2 ⊢
    by_cases gi : i < n3
    · have di : decide ((i : Int) < (n3 : Int)) = true := by simp; omega
      obtain ⟨rows, hr, hl, hro⟩ := g4.s3
      obtain ⟨nm, j, m, l, hmb, ha, hj, hm⟩ := hro rows[i] (List.getElem_mem (by omega))
      have hgi : rows.getD i .any = .agg [.str nm, .sl j 0 m m] := by
        rw [← ha]
        simp [List.getD, show i < rows.length by omega]
      have hml : (l.map stA).length = m := by simpa using hm
      have hja : ∀ r, (T ++ r).getD j .dead = .arr 2 (l.map stA) := fun r => getD_app hj (by simp)
      have hfin2 : ∀ T', SpI T' z id1 n1 id2' n2 id3' n3 → _ := fun T' h => hJ2 (i + 1, T') ⟨by simp only; omega, h⟩ (by simp only; omega)
      clear hJ2
      refine go (N := 124) Tryz.ntmps3 300 ?_
      simp only [go_sem, di, hr, hl, hgi, hj, hml, ap_get, ap_set, hja]
      repeat refine And.intro (by first | omega | rfl | exact .inl rfl | exact .inl trivial | (simp; done) | (simp; omega)) ?_
      have g5 := g4.app [.arr 2 [.agg [.str nm, .sl j 0 m m]]]
      have hb := ap_get T (.arr 2 [.agg [.str nm, .sl j 0 m m]]) []
      have hj2 := hja [.arr 2 [.agg [.str nm, .sl j 0 m m]]]
      generalize T ++ [Blk.arr 2 [.agg [.str nm, .sl j 0 m m]]] = U at *
      generalize T.length = tl at *
      refine aloop (ι := Nat × List Blk × List St) (fun y => m - y.1) (fun y => [(108, .int .i64 y.1), (107, .int .i64 m), (18, .ptr tl 1 0 0), (101, .int .i64 i), (100, .int .i64 n3), (99, .sl id3' 0 n3 n3), (5, .fz 7 (D.map deA)), (6, .fz 7 (D.map deA))]) (fun y => y.2.1)
        (fun y => y.1 ≤ m ∧ SpI y.2.1 z id1 n1 id2' n2 id3' n3 ∧ y.2.1.getD tl .dead = .arr 2 [.agg [.str nm, .sl j 0 m m]] ∧ y.2.1.getD j .dead = .arr 2 (y.2.2.map stA) ∧ y.2.2.length = m) (0, U, l) ⟨by simp, g5, hb, hj2, hm⟩ ?_ ?_
      · refine Shift.weakS ?_ rfl
        simp only [wk, go_sem]
        try rfl
      clear hj hm hml hr g4 g5 hb hj2 hja l hro ha U
      rintro ⟨k, U, l⟩ ⟨g5, g6, hr, hj, hm⟩ J3 hJ3
      simp only at g5 g6 hr hj hm hJ3 ⊢
      have hml : (l.map stA).length = m := by simpa using hm
      by_cases gk : k < m
      · have dk : decide ((k : Int) < (m : Int)) = true := by simp; omega
        have hkl : k < l.length := by omega
        have hgk := stA_get l k hkl
        have hne : l ≠ [] := by intro e; subst e; simp at hkl
        have hw := g6.w2 (l' := l.set k ⟨l[k].dept, 777⟩) hj hne (by simp)
        have hjl := getD_lt hj (by simp)
        have hid : tl ≠ j := fun e => by
          subst e
          rw [hr] at hj
          injection hj with _ h
          cases l with
          | nil => exact hne rfl
          | cons s l => simp [stA] at h
        have hfin3 := hJ3 (k + 1, U.set j (.arr 2 ((l.set k ⟨l[k].dept, 777⟩).map stA)), l.set k ⟨l[k].dept, 777⟩) ⟨by simp only; omega, hw, by simp only; rw [getD_set hjl, if_neg hid]; exact hr, by simp only; rw [getD_set hjl, if_pos rfl], by simp [hm]⟩ (by simp only; omega)
        simp only at hfin3
        rw [← stA_set] at hfin3
        clear hJ3
        refine go (N := 124) Tryz.ntmps3 300 ?_
        simp only [go_sem, dk, hr, hj, hml, hgk]
        repeat refine And.intro (by first | omega | rfl | exact .inl rfl | exact .inl trivial | (simp; done) | (simp; omega)) ?_
        rw [show (k : Int) + 1 = ((k + 1 : Nat) : Int) by omega]
        refine ainv hfin3 (Shift.weakS ?_ rfl)
        simp only [wk, go_sem]
      · have dk : decide ((k : Int) < (m : Int)) = false := by simp; omega
        have hfin4 := hfin2 _ g6
        clear hJ3
        refine go (N := 124) Tryz.ntmps3 300 ?_
        simp only [go_sem, dk]
        repeat refine And.intro (by first | omega | rfl | exact .inl rfl | exact .inl trivial | (simp; done) | (simp; omega)) ?_
        rw [show (i : Int) + 1 = ((i + 1 : Nat) : Int) by omega]
        refine ainv hfin4 (Shift.weakS ?_ rfl)
        simp only [wk, go_sem]
    · have di : decide ((i : Int) < (n3 : Int)) = false := by simp; omega
      clear hJ2
      refine goF (N := 124) Tryz.ntmps3 300 ?_
      simp only [go_sem, di]
      refine pcall1 (hdb) rfl (N := 124) Tryz.ntmps3 rfl (goF (N := 124) Tryz.ntmps3 300 ?_)
      simp only [go_sem]
      refine pcall1 (hsame) rfl (N := 124) Tryz.ntmps3 rfl (goF (N := 124) Tryz.ntmps3 300 ?_)
      simp only [go_sem]
      exact aret [2] rfl ⟨rfl, rfl⟩
end Go.Proofs.YtkomcdohejibmaaGreatDoor
/- Parts and Deeds, told exactly. Own work of this seat. -/
set_option maxRecDepth 100000
set_option linter.unusedSimpArgs false
set_option linter.unusedVariables false
namespace Go.Proofs.YtkomcdohejibmaaGreatDoor
open Go Go.Av Go.RowKit

theorem dchoice {α : Type} (P : Nat → α → Prop) (R : Nat → α → α → Prop) (x0 : α) (h0 : P 0 x0) (hs : ∀ i x, P i x → ∃ y, P (i + 1) y ∧ R i x y) : ∃ f : Nat → α, f 0 = x0 ∧ ∀ i, P i (f i) ∧ R i (f i) (f (i + 1)) := by
  let g : (i : Nat) → { x // P i x } := fun i => Nat.rec ⟨x0, h0⟩ (fun i x => ⟨Classical.choose (hs i x.1 x.2), (Classical.choose_spec (hs i x.1 x.2)).1⟩) i
  exact ⟨fun i => (g i).1, rfl, fun i => ⟨(g i).2, (Classical.choose_spec (hs i (g i).1 (g i).2)).2⟩⟩
/-- a round of Parts -/
def RoundX (S : Std) (L : List Int) (ps ps' : List (List De)) (kk kk' : Int) : Prop :=
  (flipF L (kk + 1) 3 = true ∧ kk' = kk + 1 + 1 + 1 ∧ ∃ (jl : List De) (jok : Prop), JoinX S (ps.getD (nx L kk 3).toNat []) (ps.getD (nx L (kk + 1 + 1) 3).toNat []) jl jok ∧ (jok → ps' = ps.set (nx L kk 3).toNat jl) ∧ (¬ jok → ps' = ps)) ∨
  (flipF L (kk + 1) 3 = false ∧ ∃ (d : De) (pl : List De) (pok : Prop), McH Tryz.prog S 53 2 (str L (kk + 1 + 1)) [.str (deptL.getD (nx L kk 3).toNat [])] (fun r s => r = deA d ∧ s = str L kk') ∧ PutX S (ps.getD (nx L kk 3).toNat []) d pl pok ∧ (pok → ps' = ps.set (nx L kk 3).toNat pl) ∧ (¬ pok → ps' = ps))
theorem psD {ps : List (List De)} {j : Nat} (h : j < ps.length) : ps.getD j [] = ps[j] := by simp [List.getD, h]
theorem round_ex {S : Std} (hS : LibD S) (L : List Int) (i : Nat) (hi : i < 16) (ps : List (List De)) (G : List De) (kk : Int) (h : Hist i G ps) (h0 : 0 ≤ kk) (h1 : kk ≤ 100000) :
    ∃ (ps' : List (List De)) (G' : List De) (kk' : Int), Hist (i + 1) G' ps' ∧ kk ≤ kk' ∧ kk' ≤ kk + 40 ∧ RoundX S L ps ps' kk kk' := by
  have hb := nx_bd L kk 3 (by decide)
  have hjp : (nx L kk 3).toNat < ps.length := by rw [h.len]; omega
  have hmj := List.getElem_mem hjp
  have hszj := h.szl (by omega) hmj
  have hlej := h.le hmj
  have hpj := psD hjp
  cases hf : flipF L (kk + 1) 3 with
  | true =>
    have hb2 := nx_bd L (kk + 1 + 1) 3 (by decide)
    have hjp2 : (nx L (kk + 1 + 1) 3).toNat < ps.length := by rw [h.len]; omega
    have hmj2 := List.getElem_mem hjp2
    have hszj2 := h.szl (by omega) hmj2
    obtain ⟨jl, jok, hj⟩ := joinX hS ps[(nx L kk 3).toNat] ps[(nx L (kk + 1 + 1) 3).toNat] hszj hszj2 (by omega)
    have hj' := hj
    rw [← hpj, ← psD hjp2] at hj'
    by_cases hjok : jok
    · have hc := hj.1 hjok
      exact ⟨_, G, kk + 1 + 1 + 1, (h.join (List.getElem?_eq_getElem hjp) hmj2 hc.1 hc.2).mono (by omega), by omega, by omega, .inl ⟨hf, rfl, jl, jok, hj', fun _ => rfl, fun h2 => absurd hjok h2⟩⟩
    · exact ⟨ps, G, kk + 1 + 1 + 1, h.mono (by omega), by omega, by omega, .inl ⟨hf, rfl, jl, jok, hj', fun h2 => absurd h2 hjok, fun _ => rfl⟩⟩
  | false =>
    have hjd : (nx L kk 3).toNat < deptL.length := by show (nx L kk 3).toNat < 3; omega
    have hdn : deptL[(nx L kk 3).toNat].length ≤ 10 := short_mem (l := deptL) (by decide) (List.getElem_mem hjd)
    have hdj : deptL[(nx L kk 3).toNat]? = some deptL[(nx L kk 3).toNat] := List.getElem?_eq_getElem hjd
    have hdg : deptL.getD (nx L kk 3).toNat [] = deptL[(nx L kk 3).toNat] := by simp [List.getD, hjd]
    obtain ⟨d, k', hsz, hseen, hdd, hk1, hk2, hm⟩ := deedX (S := S) L (kk + 1 + 1) deptL[(nx L kk 3).toNat] hdn (by omega) (by omega)
    obtain ⟨pl, pok, hp⟩ := putX hS ps[(nx L kk 3).toNat] d hszj (by omega) hsz
    have hp' := hp
    rw [← hpj] at hp'
    rw [← hdg] at hm
    by_cases hpok : pok
    · obtain ⟨c0, c1, c2, c3, c4, c5⟩ := hp.1 hpok
      have hdept : d.st.dept = deptL[(nx L kk 3).toNat] := by
        rcases hdd with h | h
        · exact h
        · rw [badD_key _ h] at c2; cases c2
      have hm2 := perm_mem c5
      have hok := add_ok c0 d.st.dept d.kind d.paper d.text d.person
      have hck := add_law c0 hok c1 c2 c3 c4 hm2 (by rw [c5.length_eq]; simp; omega)
      exact ⟨_, _, k', h.put (List.getElem?_eq_getElem hjp) (by rw [hdj, ← hdept]; rfl) hok (fun y hy e => by
          rcases knows_iff.1 (hok.all y hy) with h | ⟨x, hx, h1, h2⟩
          · exact h.2
          · exact absurd (h1.trans e) (hok.sok.own x hx).1) hck hm2 (add_sz c0 c2 hsz), by omega, by omega, .inr ⟨hf, d, pl, pok, hm, hp', fun _ => rfl, fun h2 => absurd hpok h2⟩⟩
    · exact ⟨ps, G, k', h.mono (by omega), by omega, by omega, .inr ⟨hf, d, pl, pok, hm, hp', fun h2 => absurd h2 hpok, fun _ => rfl⟩⟩
theorem jok_in {X : List De} {jok : Prop} : ∃ r : AV, ∃ n : Int, r = .tup [.fz 7 (X.map deA), .int .i64 n] ∧ (n = 0 ↔ jok) := by
  by_cases h : jok
  · exact ⟨_, 0, rfl, by simp [h]⟩
  · exact ⟨_, 1, rfl, by simp [h]⟩
set_option maxHeartbeats 8000000 in
theorem partsX {S : Std} (hS : LibD S) (L : List Int) :
    ∃ (ps : List (List De)) (G : List De) (k' : Int), Hist 15 G ps ∧ 0 ≤ k' ∧ McH Tryz.prog S 14 2 (str L 0) [] (fun r s => r = .fz 1 (ps.map psA) ∧ s = str L k') := by
  have hdp := depts_pc
  have hnv := nextX_mc L 0 16 (by decide) (by decide) (by decide) (by decide)
  have hvb := nx_bd L 0 16 (by decide)
  generalize nx L 0 16 = v at *
  obtain ⟨f, hf0, hfs⟩ := dchoice (α := List (List De) × List De × Int) (fun i x => i ≤ 16 → Hist i x.2.1 x.1 ∧ 1 ≤ x.2.2 ∧ x.2.2 ≤ 1 + 40 * i) (fun i x y => i < 16 → RoundX S L x.1 y.1 x.2.2 y.2.2) ([[], [], []], [], 1) (fun _ => ⟨hist_nil, by decide, by simp⟩) (fun i x hx => by
    by_cases hi : i < 16
    · obtain ⟨hh, hk1, hk2⟩ := hx (by omega)
      obtain ⟨ps', G', kk', e1, e2, e3, e4⟩ := round_ex hS L i hi x.1 x.2.1 x.2.2 hh (by omega) (by omega)
      exact ⟨(ps', G', kk'), fun _ => ⟨e1, by simp only; omega, by simp only; omega⟩, fun _ => e4⟩
    · exact ⟨x, fun h => absurd h (by omega), fun h => absurd h hi⟩)
  have hfin0 := (hfs v.toNat).1 (by omega)
  refine ⟨(f v.toNat).1, (f v.toNat).2.1, (f v.toNat).2.2, hfin0.1.mono (by omega), by omega, ?_⟩
  refine cth_intro Tryz.func14 rfl Tryz.ntmps14 hB14 (by simp) fun h ρ w hg => goB (N := 59) Tryz.ntmps14 300 ?_
  simp only [go_sem]
  repeat refine And.intro (by first | omega | rfl | exact .inl rfl | exact .inl trivial | (simp; done) | (simp; omega)) ?_
  refine mcall (hnv) rfl rfl (id := 0) rfl (N := 59) Tryz.ntmps14 rfl ?_
  rintro _ _ ⟨rfl, rfl⟩
  refine goB (N := 59) Tryz.ntmps14 300 ?_
  simp only [go_sem]
  refine aloop (ι := Nat) (fun y => v.toNat - y) (fun y => [(12, .int .i64 y), (11, .int .i64 v), (3, .sl 1 0 3 3), (0, .ptr 0 1 0 0)])
    (fun y => [.arr 2 [str L (f y).2.2], .arr 1 ((f y).1.map psA)]) (fun y => (y : Int) ≤ v) 0 (by simp; omega) ?_ ?_
  · rw [hf0]
    refine Shift.trans (Shift.cells 1 1 ([[], [], []].map psA) rfl rfl (psA_one _) ⟨.fz, .fz, .fz, trivial⟩) (Shift.low 2 (by simp) (by simp) ?_ ?_)
    · rfl
    · simp only [wkl, lowV, lowC, Av.get, go_sem]
  intro i g1 J hJ
  obtain ⟨hx, hr⟩ := hfs i
  by_cases gi : (i : Int) < v
  · have di : decide ((i : Int) < v) = true := by simpa using gi
    obtain ⟨g2, g3, g4⟩ := hx (by omega)
    have hr := hr (by omega)
    have hfin := hJ (i + 1) (by omega) (by omega)
    clear hJ hfs hx
    generalize f (i + 1) = y at *
    generalize f i = x at *
    obtain ⟨ps, G, kk⟩ := x
    obtain ⟨ps', G', kk'⟩ := y
    simp only at g2 g3 g4 hr hfin ⊢
    have hb := nx_bd L kk 3 (by decide)
    have hn1 := nextX_mc L kk 3 (by decide) (by decide) (by omega) (by omega)
    have hfl := flipX_mc L (kk + 1) 3 (by decide) (by decide) (by omega) (by omega)
    obtain ⟨j, hj⟩ : ∃ j : Nat, nx L kk 3 = (j : Int) := ⟨(nx L kk 3).toNat, by omega⟩
    unfold RoundX at hr
    rw [hj] at hn1 hr hb
    rw [Int.toNat_natCast] at hr
    have hjp : j < ps.length := by rw [g2.len]; omega
    have hga := psA_get ps j hjp
    have hpl : (ps.map psA).length = 3 := by rw [List.length_map, g2.len]
    rw [psD hjp] at hr
    rcases hr with ⟨hf, rfl, jl, jok, hjx, hy1, hy2⟩ | ⟨hf, d, pl, pok, hm, hpx, hy1, hy2⟩
    · rw [hf] at hfl
      have hb2 := nx_bd L (kk + 1 + 1) 3 (by decide)
      have hn2 := nextX_mc L (kk + 1 + 1) 3 (by decide) (by decide) (by omega) (by omega)
      obtain ⟨j2, hj2⟩ : ∃ j : Nat, nx L (kk + 1 + 1) 3 = (j : Int) := ⟨(nx L (kk + 1 + 1) 3).toNat, by omega⟩
      rw [hj2] at hn2 hjx hb2
      rw [Int.toNat_natCast] at hjx
      have hjp2 : j2 < ps.length := by rw [g2.len]; omega
      have hga2 := psA_get ps j2 hjp2
      rw [psD hjp2] at hjx
      have hset := psA_set ps j jl
      refine goB (N := 59) Tryz.ntmps14 300 ?_
      simp only [go_sem, di]
      refine mcall (hn1) rfl rfl (id := 0) rfl (N := 59) Tryz.ntmps14 rfl ?_
      rintro _ _ ⟨rfl, rfl⟩
      refine goB (N := 59) Tryz.ntmps14 300 ?_
      simp only [go_sem]
      refine mcall (hfl) rfl rfl (id := 0) rfl (N := 59) Tryz.ntmps14 rfl ?_
      rintro _ _ ⟨rfl, rfl⟩
      refine goB (N := 59) Tryz.ntmps14 300 ?_
      simp only [go_sem]
      refine adrawC [6, 9] 0 [] mixed (by decide) (N := 59) Tryz.ntmps14 (by decide) 100 ?_
      simp only [go_sem, Go.Av.dxn, Go.Av.dxnc, ↓Go.Av.dbrn_true, ↓Go.Av.dbrn_false, Go.Av.dbrn, hga, hpl]
      repeat refine And.intro (by first | omega | rfl | exact .inl rfl | exact .inl trivial | (simp; done) | (simp; omega)) ?_
      refine icc_mc hn2 rfl rfl rfl ⟨.int .i64 j2, str L (kk + 1 + 1 + 1), ⟨rfl, rfl⟩, rfl⟩ ?_
      rintro _ _ ⟨rfl, rfl⟩
      simp only [go_sem, Go.Av.dxn, Go.Av.dxnc, ↓Go.Av.dbrn_true, ↓Go.Av.dbrn_false, Go.Av.dbrn, hga, hga2, hpl]
      repeat refine And.intro (by first | omega | rfl | exact .inl rfl | exact .inl trivial | (simp; done) | (simp; omega)) ?_
      refine icc_pch hg hjx.2.2 rfl jok_in ?_
      rintro _ ⟨n, rfl, hn⟩
      simp only [go_sem, Go.Av.dxn, Go.Av.dxnc, ↓Go.Av.dbrn_true, ↓Go.Av.dbrn_false, Go.Av.dbrn]
      cases e0 : n == 0 with
      | true =>
        have e1 := hy1 (hn.1 (by simpa using e0))
        subst e1
        refine goB (N := 59) Tryz.ntmps14 300 ?_
        simp only [go_sem, e0, hga, hpl, hset]
        repeat refine And.intro (by first | omega | rfl | exact .inl rfl | exact .inl trivial | (simp; done) | (simp; omega)) ?_
        rw [show (i : Int) + 1 = ((i + 1 : Nat) : Int) by omega]
        refine ainv hfin (Shift.weakS ?_ rfl)
        simp only [wk, go_sem]
      | false =>
        have e1 := hy2 (fun h => by have := hn.2 h; simp at e0; exact e0 this)
        subst e1
        refine goB (N := 59) Tryz.ntmps14 300 ?_
        simp only [go_sem, e0, hpl]
        repeat refine And.intro (by first | omega | rfl | exact .inl rfl | exact .inl trivial | (simp; done) | (simp; omega)) ?_
        rw [show (i : Int) + 1 = ((i + 1 : Nat) : Int) by omega]
        refine ainv hfin (Shift.weakS ?_ rfl)
        simp only [wk, go_sem]
    · rw [hf] at hfl
      have hjd : j < deptL.length := by show j < 3; omega
      have hdl : (deptL.map AV.str).length = 3 := rfl
      have hgd : List.getD (deptL.map AV.str) j .any = .str (deptL.getD j []) := by simp [List.getD, hjd]
      generalize deptL.getD j [] = dn at *
      have hset := psA_set ps j pl
      refine goB (N := 59) Tryz.ntmps14 300 ?_
      simp only [go_sem, di]
      refine mcall (hn1) rfl rfl (id := 0) rfl (N := 59) Tryz.ntmps14 rfl ?_
      rintro _ _ ⟨rfl, rfl⟩
      refine goB (N := 59) Tryz.ntmps14 300 ?_
      simp only [go_sem]
      refine mcall (hfl) rfl rfl (id := 0) rfl (N := 59) Tryz.ntmps14 rfl ?_
      rintro _ _ ⟨rfl, rfl⟩
      refine goB (N := 59) Tryz.ntmps14 300 ?_
      simp only [go_sem]
      refine adrawC [9, 10] 0 [.fz 1 (deptL.map .str)] mixed (by decide) (N := 59) Tryz.ntmps14 (by decide) 100 ?_
      simp only [go_sem, Go.Av.dxn, Go.Av.dxnc, ↓Go.Av.dbrn_true, ↓Go.Av.dbrn_false, Go.Av.dbrn, hga, hpl, hdl, hgd]
      repeat refine And.intro (by first | exact hdp.at | omega | rfl | exact .inl rfl | exact .inl trivial | (simp; done) | (simp; omega)) ?_
      refine icc_mch hg hm rfl rfl rfl ⟨deA d, str L kk', ⟨rfl, rfl⟩, rfl⟩ ?_
      rintro _ _ ⟨rfl, rfl⟩
      simp only [go_sem, Go.Av.dxn, Go.Av.dxnc, ↓Go.Av.dbrn_true, ↓Go.Av.dbrn_false, Go.Av.dbrn]
      refine icc_pch hg hpx.2.2 rfl jok_in ?_
      rintro _ ⟨n, rfl, hn⟩
      simp only [go_sem, Go.Av.dxn, Go.Av.dxnc, ↓Go.Av.dbrn_true, ↓Go.Av.dbrn_false, Go.Av.dbrn]
      cases e0 : n == 0 with
      | true =>
        have e1 := hy1 (hn.1 (by simpa using e0))
        subst e1
        refine goB (N := 59) Tryz.ntmps14 300 ?_
        simp only [go_sem, e0, hga, hpl, hset]
        repeat refine And.intro (by first | omega | rfl | exact .inl rfl | exact .inl trivial | (simp; done) | (simp; omega)) ?_
        rw [show (i : Int) + 1 = ((i + 1 : Nat) : Int) by omega]
        refine ainv hfin (Shift.weakS ?_ rfl)
        simp only [wk, go_sem]
      | false =>
        have e1 := hy2 (fun h => by have := hn.2 h; simp at e0; exact e0 this)
        subst e1
        refine goB (N := 59) Tryz.ntmps14 300 ?_
        simp only [go_sem, e0, hpl]
        repeat refine And.intro (by first | omega | rfl | exact .inl rfl | exact .inl trivial | (simp; done) | (simp; omega)) ?_
        rw [show (i : Int) + 1 = ((i + 1 : Nat) : Int) by omega]
        refine ainv hfin (Shift.weakS ?_ rfl)
        simp only [wk, go_sem]
  · have di : decide ((i : Int) < v) = false := by simp; omega
    have hiv : v.toNat = i := by omega
    rw [hiv] at hfin0 ⊢
    have hlen := hfin0.1.len
    have htk : (((f i).1.map psA).drop 0).take 3 = (f i).1.map psA := by rw [List.drop_zero, List.take_of_length_le (by rw [List.length_map, hlen]; omega)]
    clear hJ
    refine goB (N := 59) Tryz.ntmps14 300 ?_
    simp only [go_sem, di]
    exact ARet.shift (Shift.freeze 2 (id := 1) (l := (f i).1.map psA) rfl rfl (by rw [List.length_map, hlen]) (Nat.le_refl _) (psA_frz _)) (aret [2] rfl ⟨str L (f i).2.2, [.dead], rfl, by simp only [resV, Av.get, Av.put, beq_self_eq_true, cond_true, htk], rfl, rfl, rfl⟩)
end Go.Proofs.YtkomcdohejibmaaGreatDoor
/- Deeds, told exactly; the law DeedsStay. Own work of this seat. -/
set_option maxRecDepth 100000
set_option linter.unusedSimpArgs false
set_option linter.unusedVariables false
namespace Go.Proofs.YtkomcdohejibmaaGreatDoor
open Go Go.Av Go.RowKit

set_option maxHeartbeats 4000000 in
theorem deedsX {S : Std} (hS : LibD S) (L : List Int) : ∃ D : List De, DrawsX S L D := by
  obtain ⟨ps, G, k', hh, hk, hm⟩ := partsX hS L
  obtain ⟨f, hf0, hfs⟩ := dchoice (α := List De) (fun i o => i ≤ 3 → CkOk o ∧ ∀ d ∈ o, d ∈ G) (fun i o o' => i < 3 → ∃ jok : Prop, JoinX S o (ps.getD i []) o' jok) [] (fun _ => ⟨ckOk_nil, by simp⟩) (fun i o ho => by
    by_cases hi : i < 3
    · obtain ⟨g2, g3⟩ := ho (by omega)
      have hszo : SzL o := ⟨by have := g2.len; omega, fun d hd => hh.sz d (g3 d hd)⟩
      have hol := Nat.le_trans (srt_le g2.srt g3) hh.glen
      have hip : i < ps.length := by rw [hh.len]; omega
      have hmi := List.getElem_mem hip
      obtain ⟨jl, jok, hj⟩ := joinX hS o ps[i] hszo (hh.szl (by omega) hmi) (by omega)
      refine ⟨jl, fun _ => ?_, fun _ => ⟨jok, by rw [psD hip]; exact hj⟩⟩
      by_cases h : jok
      · obtain ⟨c1, c2⟩ := hj.1 h
        exact ⟨c1, fun d hd => ((c2 d).1 hd).elim (g3 d) (hh.sub _ hmi d)⟩
      · rw [hj.2.1 h]
        exact ⟨ckOk_nil, by simp⟩
    · exact ⟨o, fun h => absurd h (by omega), fun h => absurd h hi⟩)
  obtain ⟨q2, q3⟩ := (hfs 3).1 (by omega)
  refine ⟨f 3, q2, Nat.le_trans (srt_le q2.srt q3) hh.glen, ⟨by have := q2.len; omega, fun d hd => hh.sz d (q3 d hd)⟩, ?_⟩
  have hpl : (ps.map psA).length = 3 := by rw [List.length_map, hh.len]
  refine cth_intro Tryz.func8 rfl Tryz.ntmps8 hB8 (by simp) fun h ρ w hg => goB (N := 21) Tryz.ntmps8 300 ?_
  simp only [go_sem]
  refine mcallH hg (hm) rfl rfl (id := 0) rfl (N := 21) Tryz.ntmps8 rfl ?_
  rintro _ _ ⟨rfl, rfl⟩
  refine goB (N := 21) Tryz.ntmps8 300 ?_
  simp only [go_sem, hpl]
  refine aloop (ι := Nat) (fun y => 3 - y) (fun y => [(9, .int .i64 y), (8, .int .i64 3), (7, .fz 1 (ps.map psA)), (3, .fz 7 ((f y).map deA)), (0, .ptr 0 1 0 0)]) (fun y => [.arr 2 [str L k']])
    (fun y => y ≤ 3) 0 (by simp) ?_ ?_
  · rw [hf0]
    refine Shift.trans (Shift.nilfz 3 7 rfl) (Shift.weakS ?_ rfl)
    simp only [wk, go_sem]
    try rfl
  intro i g1 J hJ
  by_cases gi : i < 3
  · have di : decide ((i : Int) < 3) = true := by simp; omega
    have hip : i < ps.length := by rw [hh.len]; omega
    have hga := psA_get ps i hip
    obtain ⟨jok, hj⟩ := (hfs i).2 gi
    rw [psD hip] at hj
    have hfin := hJ (i + 1) (by omega) (by omega)
    refine goB (N := 21) Tryz.ntmps8 300 ?_
    simp only [go_sem, di, hga, hpl]
    repeat refine And.intro (by first | omega | rfl | (simp; done) | (simp; omega)) ?_
    refine pcallH hg (hj.2.2) rfl (N := 21) Tryz.ntmps8 rfl ?_
    rintro _ ⟨n, rfl, hn⟩
    refine goB (N := 21) Tryz.ntmps8 300 ?_
    simp only [go_sem]
    repeat refine And.intro (by first | omega | rfl | (simp; done) | (simp; omega)) ?_
    rw [show (i : Int) + 1 = ((i + 1 : Nat) : Int) by omega]
    refine ainv hfin (Shift.weakS ?_ rfl)
    simp only [wk, go_sem]
  · have di : decide ((i : Int) < 3) = false := by simp; omega
    have hi3 : i = 3 := by omega
    subst hi3
    refine goB (N := 21) Tryz.ntmps8 300 ?_
    simp only [go_sem, di]
    exact aret [2] rfl ⟨str L k', [], rfl, ⟨k', rfl, rfl⟩, rfl, rfl⟩
theorem stayLaw {S : Std} (hS : LibD S) (L : List Int) : PcH Tryz.prog S 3 [.fz 1 (L.map (.int .i64))] (· = .bool true) := by
  obtain ⟨D, hD⟩ := deedsX hS L
  exact stay_pch L D hD
end Go.Proofs.YtkomcdohejibmaaGreatDoor
