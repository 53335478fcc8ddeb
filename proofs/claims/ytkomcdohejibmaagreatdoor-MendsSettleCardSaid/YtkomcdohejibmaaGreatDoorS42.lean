/- Merge. Own work of this seat. -/
import Derived.Test.YtkomcdohejibmaaGreatDoorS41
import Derived.Test.YtkomcdohejibmaaGreatDoorS23
set_option maxRecDepth 100000
set_option linter.unusedSimpArgs false
set_option linter.unusedVariables false
namespace Go.Proofs.YtkomcdohejibmaaGreatDoor
open Go Go.Av Go.RowKit


theorem strs_cut (l : List (List UInt8)) (i j : Nat) : (List.take j (strs l)).drop i = strs ((l.drop i).take (j - i)) := by
  rw [List.drop_take]; simp
theorem strs_app (l r : List (List UInt8)) : strs l ++ strs r = strs (l ++ r) := by simp
theorem strs_snoc (l : List (List UInt8)) (x : List UInt8) : strs l ++ [.str x] = strs (l ++ [x]) := by simp
theorem prs_snoc (l : List (Nat × Nat)) (x y : Nat) : prs l ++ [.agg [.int .i64 x, .int .i64 y]] = prs (l ++ [(x, y)]) := by simp [prs]
theorem take1_dry (l : List (List UInt8)) (r : List Blk) : (List.take 1 (Blk.arr 1 (strs l) :: r)).all dry = true := by
  simp only [List.take_succ_cons, List.take_zero, List.all_cons, List.all_nil, Bool.and_true, dry]
  exact strs_frz l
/-- large, of memory of one's own, beside another block -/
theorem large_own2 (l : List (List UInt8)) (B : Blk) : Ct Tryz.prog 125 [.sl 0 0 l.length l.length] [.arr 1 (strs l), B] (fun r s => r = .bool (decide (3000 < l.length)) ∧ s = [.arr 1 (strs l), B]) := by
  refine ct_intro Tryz.func125 rfl Tryz.ntmps125 hB125 (by simp) fun h ρ w => go (N := 6) Tryz.ntmps125 200 ?_
  simp only [go_sem, strs_len]
  refine aret [2] rfl ⟨?_, rfl⟩
  simp [resV, Av.get]
  omega

/-- what Merge gives -/
def MergeN (base a b : List (List UInt8)) (r : AV) : Prop :=
  ∃ (o : List (List UInt8)) (c : List (Nat × Nat)) (n : Int), r = .tup [.fz 1 (strs o), .fz 2 (prs c), .int .i64 n] ∧ (n = 0 → o.length ≤ 3000 ∧ ∀ s ∈ o, s ∈ base ∨ s ∈ a ∨ s ∈ b)
theorem mput_mem {i n : Nat} {old x y out : List (List UInt8)} {cl : List (Nat × Nat)} {s : List UInt8} (h : s ∈ (mput i n old x y out cl).1) : s ∈ out ∨ s ∈ old ∨ s ∈ x ∨ s ∈ y := by
  unfold mput at h
  split at h
  · rcases List.mem_append.1 h with h | h
    · exact .inl h
    · exact .inr (.inr (.inr h))
  · split at h
    · rcases List.mem_append.1 h with h | h
      · exact .inl h
      · exact .inr (.inr (.inl h))
    · rcases List.mem_append.1 h with h | h
      · exact .inl h
      · exact .inr (.inl h)
theorem mrun_mem {base a b : List (List UInt8)} {pa pb : List Int} {s : List UInt8} : ∀ {n : Nat}, s ∈ (mrun base a b pa pb n).out → s ∈ base ∨ s ∈ a ∨ s ∈ b
  | 0, h => by simp [mrun] at h
  | n + 1, h => by
    rw [mrun] at h
    unfold mstep at h
    simp only at h
    by_cases hc : n < base.length ∧ ((if n < base.length then pa.getD n 0 else (a.length : Int)) < 0 ∨ (if n < base.length then pb.getD n 0 else (b.length : Int)) < 0)
    · rw [if_pos hc] at h
      exact mrun_mem h
    · rw [if_neg hc] at h
      simp only [List.mem_append] at h
      rcases h with h | h
      · rcases mput_mem h with h | h | h | h
        · exact mrun_mem h
        · exact .inl (List.mem_of_mem_drop (List.mem_of_mem_take h))
        · exact .inr (.inl (List.mem_of_mem_drop (List.mem_of_mem_take h)))
        · exact .inr (.inr (List.mem_of_mem_drop (List.mem_of_mem_take h)))
      · cases hb : base[n]? with
        | none => rw [hb] at h; simp at h
        | some z =>
          rw [hb] at h
          simp only [Option.toList_some, List.mem_singleton] at h
          subst h
          exact .inl (List.mem_of_getElem? hb)

set_option maxHeartbeats 4000000 in
theorem merge_pc (base a b : List (List UInt8)) (h0 : base.length ≤ 3000) (ha : a.length ≤ 3000) (hb : b.length ≤ 3000) (pa pb : List Int) (epa : pa = partL base (pairsL base a)) (epb : pb = partL base (pairsL base b)) :
    Pc Tryz.prog 73 [.fz 1 (strs base), .fz 1 (strs a), .fz 1 (strs b)] (MergeN base a b) := by
  have qa : Part base a pa := by rw [epa]; exact part_of_rise (pairsL_rise base a)
  have qb : Part base b pb := by rw [epb]; exact part_of_rise (pairsL_rise base b)
  refine pc_intro (ct_intro Tryz.func73 rfl Tryz.ntmps73 hB73 (by simp) fun h ρ w => go (N := 128) Tryz.ntmps73 300 ?_)
  have l0 : decide (3000 < base.length) = false := by simp; omega
  have l1 : decide (3000 < a.length) = false := by simp; omega
  have l2 : decide (3000 < b.length) = false := by simp; omega
  simp only [go_sem, strs_len]
  refine pcall1 (large_pc base) rfl (N := 128) Tryz.ntmps73 rfl (go (N := 128) Tryz.ntmps73 300 ?_)
  simp only [go_sem, l0, strs_len]
  refine pcall1 (large_pc a) rfl (N := 128) Tryz.ntmps73 rfl (go (N := 128) Tryz.ntmps73 300 ?_)
  simp only [go_sem, l1, strs_len]
  refine pcall1 (large_pc b) rfl (N := 128) Tryz.ntmps73 rfl (go (N := 128) Tryz.ntmps73 300 ?_)
  simp only [go_sem, l2, strs_len]
  refine pcall1 (partner_pc base a (by omega) (by omega)) rfl (N := 128) Tryz.ntmps73 rfl (go (N := 128) Tryz.ntmps73 300 ?_)
  rw [← epa]
  simp only [go_sem, strs_len]
  refine pcall1 (partner_pc base b (by omega) (by omega)) rfl (N := 128) Tryz.ntmps73 rfl (go (N := 128) Tryz.ntmps73 300 ?_)
  rw [← epb]
  simp only [go_sem, strs_len]
  refine ⟨by omega, by omega, ?_⟩
  refine AWp.shift (Shift.nilsl 11 1 rfl) ?_
  refine AWp.shift (Shift.nilsl 12 2 rfl) ?_
  refine aloop (ι := Nat) (fun n => base.length + 1 - n)
    (fun n => [(41, .int .i64 n), (40, .int .i64 (base.length + 1)), (15, .int .i64 (mrun base a b pa pb n).k), (14, .int .i64 (mrun base a b pa pb n).j), (13, .int .i64 (mrun base a b pa pb n).i), (12, .sl 1 0 (mrun base a b pa pb n).cl.length (mrun base a b pa pb n).cl.length), (11, .sl 0 0 (mrun base a b pa pb n).out.length (mrun base a b pa pb n).out.length), (10, .fz 1 (ints pb)), (9, .fz 1 (ints pa)), (0, .fz 1 (strs base)), (1, .fz 1 (strs a)), (2, .fz 1 (strs b))])
    (fun n => [.arr 1 (strs (mrun base a b pa pb n).out), .arr 2 (prs (mrun base a b pa pb n).cl)]) (fun n => n ≤ base.length + 1) 0 (by omega) ?_ ?_
  · refine Shift.weak ?_
    simp [wk, go_sem, mrun]
  · rintro n g1 J hJ
    have ok := mok qa qb n g1
    have hJ1 := hJ (n + 1)
    have hstep : mrun base a b pa pb (n + 1) = mstep base a b pa pb n (mrun base a b pa pb n) := rfl
    have hend := (mok qa qb (base.length + 1) (Nat.le_refl _)).out
    rw [hstep] at hJ1
    by_cases hn : (n : Int) < (base.length : Int) + 1
    · clear hJ hstep
      generalize mrun base a b pa pb n = s at ok hJ1 ⊢
      obtain ⟨i, j, k, out, cl⟩ := s
      obtain ⟨oi, oj, okk, oja, okb, oout, ocl, ojm, okm⟩ := ok
      simp only at oi oj okk oja okb oout ocl ojm okm hJ1 ⊢
      refine go (N := 128) Tryz.ntmps73 300 ?_
      by_cases hnl : n < base.length
      · have dn : decide ((n : Int) < base.length) = true := by simp; omega
        have ga := getD_of (l := pa) (n := n) (by rw [qa.len]; exact hnl)
        have gb := getD_of (l := pb) (n := n) (by rw [qb.len]; exact hnl)
        have hga := ints_get (l := pa) (i := n) (by rw [qa.len]; exact hnl)
        have hgb := ints_get (l := pb) (i := n) (by rw [qb.len]; exact hnl)
        have la : pa.length = base.length := qa.len
        have lb : pb.length = base.length := qb.len
        simp only [go_sem, hn, dn, prs_snoc, strs_snoc, ints_len, strs_len, prs_len, strs_cut, strs_app]
        repeat refine And.intro (by omega) ?_
        refine adraw [] mixed (by decide) (N := 128) Tryz.ntmps73 (by decide) 100 ?_
        rcases qa.val n _ ga with e1 | ⟨m, e1, m1, m2⟩
        · rw [e1] at hga
          have hs : mstep base a b pa pb n ⟨i, j, k, out, cl⟩ = ⟨i, j, k, out, cl⟩ := by
            unfold mstep
            simp only [if_pos hnl, e1]
            rw [if_pos (by omega)]
          rw [hs] at hJ1
          simp only [go_sem, hga, hgb, la, lb, prs_snoc, strs_snoc, ints_len, strs_len, prs_len, strs_cut, strs_app]
          repeat refine And.intro (by omega) ?_
          refine go (N := 128) Tryz.ntmps73 300 ?_
          simp only [go_sem, prs_snoc, strs_snoc, ints_len, strs_len, prs_len, strs_cut, strs_app]
          rw [show (n : Int) + 1 = ((n + 1 : Nat) : Int) by omega]
          repeat refine And.intro (by omega) ?_
          refine ainv (hJ1 (by omega) (by omega)) (Shift.weak ?_)
          simp only [wk, go_sem]
        · rw [e1] at hga ga
          rcases qb.val n _ gb with e2 | ⟨m', e2, m1', m2'⟩
          · rw [e2] at hgb
            have dm : decide ((m : Int) < 0) = false := by simp
            have hs : mstep base a b pa pb n ⟨i, j, k, out, cl⟩ = ⟨i, j, k, out, cl⟩ := by
              unfold mstep
              simp only [if_pos hnl, e1, e2]
              rw [if_pos (by omega)]
            rw [hs] at hJ1
            simp only [go_sem, hga, hgb, la, lb, prs_snoc, strs_snoc, ints_len, strs_len, prs_len, strs_cut, strs_app]
            repeat refine And.intro (by omega) ?_
            refine go (N := 128) Tryz.ntmps73 300 ?_
            simp only [go_sem, dm, prs_snoc, strs_snoc, ints_len, strs_len, prs_len, strs_cut, strs_app]
            rw [show (n : Int) + 1 = ((n + 1 : Nat) : Int) by omega]
            repeat refine And.intro (by omega) ?_
            refine ainv (hJ1 (by omega) (by omega)) (Shift.weak ?_)
            simp only [wk, go_sem]
          · rw [e2] at hgb gb
            have hjm := oja n m (Nat.le_refl _) hnl ga
            have hkm := okb n m' (Nat.le_refl _) hnl gb
            simp only [go_sem, hga, hgb, la, lb, prs_snoc, strs_snoc, ints_len, strs_len, prs_len, strs_cut, strs_app]
            repeat refine And.intro (by omega) ?_
            have dm : decide ((m : Int) < 0) = false := by simp
            have dm' : decide ((m' : Int) < 0) = false := by simp
            refine go (N := 128) Tryz.ntmps73 300 ?_
            simp only [go_sem, dm, dm', prs_snoc, strs_snoc, ints_len, strs_len, prs_len, strs_cut, strs_app]
            refine adraw [] mixed (by decide) (N := 128) Tryz.ntmps73 (by decide) 100 ?_
            have c1 : ((n : Int) - i).toNat = n - i := by omega
            have c2 : ((m : Int) - j).toNat = m - j := by omega
            have c3 : ((m' : Int) - k).toNat = m' - k := by omega
            simp only [go_sem, c1, c2, c3, prs_snoc, strs_snoc, ints_len, strs_len, prs_len, strs_cut, strs_app]
            repeat refine And.intro (by omega) ?_
            have hgx := strs_get hnl
            have hs : mstep base a b pa pb n ⟨i, j, k, out, cl⟩ = ⟨n + 1, m + 1, m' + 1, (mput i n ((base.drop i).take (n - i)) ((a.drop j).take (m - j)) ((b.drop k).take (m' - k)) out cl).1 ++ [base[n]], (mput i n ((base.drop i).take (n - i)) ((a.drop j).take (m - j)) ((b.drop k).take (m' - k)) out cl).2⟩ := by
              unfold mstep
              simp only [if_pos hnl, e1, e2]
              rw [if_neg (by omega)]
              simp [upto, hnl]
            generalize base[n] = bn at hs hgx
            rw [hs] at hJ1
            have lO : ((base.drop i).take (n - i)).length ≤ 3000 := by simp; omega
            have lX : ((a.drop j).take (m - j)).length ≤ 3000 := by simp; omega
            have lY : ((b.drop k).take (m' - k)).length ≤ 3000 := by simp; omega
            generalize (base.drop i).take (n - i) = O at lO hJ1 ⊢
            generalize (a.drop j).take (m - j) = X at lX hJ1 ⊢
            generalize (b.drop k).take (m' - k) = Y at lY hJ1 ⊢
            refine go (N := 128) Tryz.ntmps73 300 ?_
            simp only [go_sem, prs_snoc, strs_snoc, ints_len, strs_len, prs_len, strs_cut, strs_app]
            by_cases d1 : X = O
            · have f1 : decide (X = O) = true := by simpa using d1
              simp only [mput, if_pos d1] at hJ1
              refine pcall1 (equal_pc X O (by omega)) rfl (N := 128) Tryz.ntmps73 rfl (go (N := 128) Tryz.ntmps73 300 ?_)
              simp only [go_sem, dn, f1, hgx, prs_snoc, strs_snoc, ints_len, strs_len, prs_len, strs_cut, strs_app]
              simp only [List.length_append, List.length_cons, List.length_nil, Nat.zero_add] at hJ1
              rw [show (n : Int) + 1 = ((n + 1 : Nat) : Int) by omega, show (m : Int) + 1 = ((m + 1 : Nat) : Int) by omega, show (m' : Int) + 1 = ((m' + 1 : Nat) : Int) by omega]
              repeat refine And.intro (by first | omega | rfl | exact .inl trivial) ?_
              refine ainv (hJ1 (by omega) (by omega)) (Shift.only 1 1 (Nat.zero_le _) (Nat.le_refl _) rfl (by simp) (prs_frz _) (take1_dry _ _) ?_)
              simp [wkg, okg, go_sem, Av.frozen]
            have f1 : decide (X = O) = false := by simpa using d1
            refine pcall1 (equal_pc X O (by omega)) rfl (N := 128) Tryz.ntmps73 rfl (go (N := 128) Tryz.ntmps73 300 ?_)
            simp only [go_sem, dn, f1, hgx, prs_snoc, strs_snoc, ints_len, strs_len, prs_len, strs_cut, strs_app]
            by_cases d2 : Y = O
            · have f2 : decide (Y = O) = true := by simpa using d2
              simp only [mput, if_neg d1, if_pos (Or.inl d2 : Y = O ∨ X = Y)] at hJ1
              refine pcall1 (equal_pc Y O (by omega)) rfl (N := 128) Tryz.ntmps73 rfl (go (N := 128) Tryz.ntmps73 300 ?_)
              simp only [go_sem, dn, f2, hgx, prs_snoc, strs_snoc, ints_len, strs_len, prs_len, strs_cut, strs_app]
              simp only [List.length_append, List.length_cons, List.length_nil, Nat.zero_add] at hJ1
              rw [show (n : Int) + 1 = ((n + 1 : Nat) : Int) by omega, show (m : Int) + 1 = ((m + 1 : Nat) : Int) by omega, show (m' : Int) + 1 = ((m' + 1 : Nat) : Int) by omega]
              repeat refine And.intro (by first | omega | rfl | exact .inl trivial) ?_
              refine ainv (hJ1 (by omega) (by omega)) (Shift.only 1 1 (Nat.zero_le _) (Nat.le_refl _) rfl (by simp) (prs_frz _) (take1_dry _ _) ?_)
              simp [wkg, okg, go_sem, Av.frozen]
            have f2 : decide (Y = O) = false := by simpa using d2
            refine pcall1 (equal_pc Y O (by omega)) rfl (N := 128) Tryz.ntmps73 rfl (go (N := 128) Tryz.ntmps73 300 ?_)
            simp only [go_sem, dn, f2, hgx, prs_snoc, strs_snoc, ints_len, strs_len, prs_len, strs_cut, strs_app]
            by_cases d3 : X = Y
            · have f3 : decide (X = Y) = true := by simpa using d3
              simp only [mput, if_neg d1, if_pos (Or.inr d3 : Y = O ∨ X = Y)] at hJ1
              refine pcall1 (equal_pc X Y (by omega)) rfl (N := 128) Tryz.ntmps73 rfl (go (N := 128) Tryz.ntmps73 300 ?_)
              simp only [go_sem, dn, f3, hgx, prs_snoc, strs_snoc, ints_len, strs_len, prs_len, strs_cut, strs_app]
              simp only [List.length_append, List.length_cons, List.length_nil, Nat.zero_add] at hJ1
              rw [show (n : Int) + 1 = ((n + 1 : Nat) : Int) by omega, show (m : Int) + 1 = ((m + 1 : Nat) : Int) by omega, show (m' : Int) + 1 = ((m' + 1 : Nat) : Int) by omega]
              repeat refine And.intro (by first | omega | rfl | exact .inl trivial) ?_
              refine ainv (hJ1 (by omega) (by omega)) (Shift.only 1 1 (Nat.zero_le _) (Nat.le_refl _) rfl (by simp) (prs_frz _) (take1_dry _ _) ?_)
              simp [wkg, okg, go_sem, Av.frozen]
            have f3 : decide (X = Y) = false := by simpa using d3
            have cs : (n : Int) - i = ((n - i : Nat) : Int) := by omega
            simp only [mput, if_neg d1, if_neg (fun h' => h'.elim d2 d3 : ¬(Y = O ∨ X = Y))] at hJ1
            refine pcall1 (equal_pc X Y (by omega)) rfl (N := 128) Tryz.ntmps73 rfl (go (N := 128) Tryz.ntmps73 300 ?_)
            simp only [go_sem, dn, f3, hgx, cs, prs_snoc, strs_snoc, ints_len, strs_len, prs_len, strs_cut, strs_app]
            simp only [List.length_append, List.length_cons, List.length_nil, Nat.zero_add] at hJ1
            rw [show (n : Int) + 1 = ((n + 1 : Nat) : Int) by omega, show (m : Int) + 1 = ((m + 1 : Nat) : Int) by omega, show (m' : Int) + 1 = ((m' + 1 : Nat) : Int) by omega]
            repeat refine And.intro (by first | omega | rfl | exact .inl trivial) ?_
            refine ainv (hJ1 (by omega) (by omega)) (Shift.only 1 1 (Nat.zero_le _) (Nat.le_refl _) rfl (by simp) (prs_frz _) (take1_dry _ _) ?_)
            simp [wkg, okg, go_sem, Av.frozen]
      · have dn : decide ((n : Int) < base.length) = false := by simp; omega
        have hoj := oj (by omega)
        have hok := okk (by omega)
        have he : n = base.length := by omega
        simp only [go_sem, hn, dn, prs_snoc, strs_snoc, ints_len, strs_len, prs_len, strs_cut, strs_app]
        repeat refine And.intro (by omega) ?_
        refine adraw [] mixed (by decide) (N := 128) Tryz.ntmps73 (by decide) 100 ?_
        have c1 : ((n : Int) - i).toNat = n - i := by omega
        have c2 : ((a.length : Int) - j).toNat = a.length - j := by omega
        have c3 : ((b.length : Int) - k).toNat = b.length - k := by omega
        simp only [go_sem, c1, c2, c3, prs_snoc, strs_snoc, ints_len, strs_len, prs_len, strs_cut, strs_app]
        repeat refine And.intro (by omega) ?_
        have hgx : n = n := rfl
        have hnn : base[n]? = none := List.getElem?_eq_none (by omega)
        have hs : mstep base a b pa pb n ⟨i, j, k, out, cl⟩ = ⟨n + 1, a.length + 1, b.length + 1, (mput i n ((base.drop i).take (n - i)) ((a.drop j).take (a.length - j)) ((b.drop k).take (b.length - k)) out cl).1, (mput i n ((base.drop i).take (n - i)) ((a.drop j).take (a.length - j)) ((b.drop k).take (b.length - k)) out cl).2⟩ := by
          unfold mstep
          simp only [if_neg hnl]
          rw [if_neg (by omega)]
          simp [upto, hnn]
        rw [hs] at hJ1
        have lO : ((base.drop i).take (n - i)).length ≤ 3000 := by simp; omega
        have lX : ((a.drop j).take (a.length - j)).length ≤ 3000 := by simp; omega
        have lY : ((b.drop k).take (b.length - k)).length ≤ 3000 := by simp; omega
        generalize (base.drop i).take (n - i) = O at lO hJ1 ⊢
        generalize (a.drop j).take (a.length - j) = X at lX hJ1 ⊢
        generalize (b.drop k).take (b.length - k) = Y at lY hJ1 ⊢
        refine go (N := 128) Tryz.ntmps73 300 ?_
        simp only [go_sem, prs_snoc, strs_snoc, ints_len, strs_len, prs_len, strs_cut, strs_app]
        by_cases d1 : X = O
        · have f1 : decide (X = O) = true := by simpa using d1
          simp only [mput, if_pos d1] at hJ1
          refine pcall1 (equal_pc X O (by omega)) rfl (N := 128) Tryz.ntmps73 rfl (go (N := 128) Tryz.ntmps73 300 ?_)
          simp only [go_sem, dn, f1, hgx, prs_snoc, strs_snoc, ints_len, strs_len, prs_len, strs_cut, strs_app]
          simp only [List.length_append, List.length_cons, List.length_nil, Nat.zero_add] at hJ1
          rw [show (n : Int) + 1 = ((n + 1 : Nat) : Int) by omega, show (a.length : Int) + 1 = ((a.length + 1 : Nat) : Int) by omega, show (b.length : Int) + 1 = ((b.length + 1 : Nat) : Int) by omega]
          repeat refine And.intro (by first | omega | rfl | exact .inl trivial) ?_
          refine ainv (hJ1 (by omega) (by omega)) (Shift.only 1 1 (Nat.zero_le _) (Nat.le_refl _) rfl (by simp) (prs_frz _) (take1_dry _ _) ?_)
          simp [wkg, okg, go_sem, Av.frozen]
        have f1 : decide (X = O) = false := by simpa using d1
        refine pcall1 (equal_pc X O (by omega)) rfl (N := 128) Tryz.ntmps73 rfl (go (N := 128) Tryz.ntmps73 300 ?_)
        simp only [go_sem, dn, f1, hgx, prs_snoc, strs_snoc, ints_len, strs_len, prs_len, strs_cut, strs_app]
        by_cases d2 : Y = O
        · have f2 : decide (Y = O) = true := by simpa using d2
          simp only [mput, if_neg d1, if_pos (Or.inl d2 : Y = O ∨ X = Y)] at hJ1
          refine pcall1 (equal_pc Y O (by omega)) rfl (N := 128) Tryz.ntmps73 rfl (go (N := 128) Tryz.ntmps73 300 ?_)
          simp only [go_sem, dn, f2, hgx, prs_snoc, strs_snoc, ints_len, strs_len, prs_len, strs_cut, strs_app]
          simp only [List.length_append, List.length_cons, List.length_nil, Nat.zero_add] at hJ1
          rw [show (n : Int) + 1 = ((n + 1 : Nat) : Int) by omega, show (a.length : Int) + 1 = ((a.length + 1 : Nat) : Int) by omega, show (b.length : Int) + 1 = ((b.length + 1 : Nat) : Int) by omega]
          repeat refine And.intro (by first | omega | rfl | exact .inl trivial) ?_
          refine ainv (hJ1 (by omega) (by omega)) (Shift.only 1 1 (Nat.zero_le _) (Nat.le_refl _) rfl (by simp) (prs_frz _) (take1_dry _ _) ?_)
          simp [wkg, okg, go_sem, Av.frozen]
        have f2 : decide (Y = O) = false := by simpa using d2
        refine pcall1 (equal_pc Y O (by omega)) rfl (N := 128) Tryz.ntmps73 rfl (go (N := 128) Tryz.ntmps73 300 ?_)
        simp only [go_sem, dn, f2, hgx, prs_snoc, strs_snoc, ints_len, strs_len, prs_len, strs_cut, strs_app]
        by_cases d3 : X = Y
        · have f3 : decide (X = Y) = true := by simpa using d3
          simp only [mput, if_neg d1, if_pos (Or.inr d3 : Y = O ∨ X = Y)] at hJ1
          refine pcall1 (equal_pc X Y (by omega)) rfl (N := 128) Tryz.ntmps73 rfl (go (N := 128) Tryz.ntmps73 300 ?_)
          simp only [go_sem, dn, f3, hgx, prs_snoc, strs_snoc, ints_len, strs_len, prs_len, strs_cut, strs_app]
          simp only [List.length_append, List.length_cons, List.length_nil, Nat.zero_add] at hJ1
          rw [show (n : Int) + 1 = ((n + 1 : Nat) : Int) by omega, show (a.length : Int) + 1 = ((a.length + 1 : Nat) : Int) by omega, show (b.length : Int) + 1 = ((b.length + 1 : Nat) : Int) by omega]
          repeat refine And.intro (by first | omega | rfl | exact .inl trivial) ?_
          refine ainv (hJ1 (by omega) (by omega)) (Shift.only 1 1 (Nat.zero_le _) (Nat.le_refl _) rfl (by simp) (prs_frz _) (take1_dry _ _) ?_)
          simp [wkg, okg, go_sem, Av.frozen]
        have f3 : decide (X = Y) = false := by simpa using d3
        have cs : (n : Int) - i = ((n - i : Nat) : Int) := by omega
        simp only [mput, if_neg d1, if_neg (fun h' => h'.elim d2 d3 : ¬(Y = O ∨ X = Y))] at hJ1
        refine pcall1 (equal_pc X Y (by omega)) rfl (N := 128) Tryz.ntmps73 rfl (go (N := 128) Tryz.ntmps73 300 ?_)
        simp only [go_sem, dn, f3, hgx, cs, prs_snoc, strs_snoc, ints_len, strs_len, prs_len, strs_cut, strs_app]
        simp only [List.length_append, List.length_cons, List.length_nil, Nat.zero_add] at hJ1
        rw [show (n : Int) + 1 = ((n + 1 : Nat) : Int) by omega, show (a.length : Int) + 1 = ((a.length + 1 : Nat) : Int) by omega, show (b.length : Int) + 1 = ((b.length + 1 : Nat) : Int) by omega]
        repeat refine And.intro (by first | omega | rfl | exact .inl trivial) ?_
        refine ainv (hJ1 (by omega) (by omega)) (Shift.only 1 1 (Nat.zero_le _) (Nat.le_refl _) rfl (by simp) (prs_frz _) (take1_dry _ _) ?_)
        simp [wkg, okg, go_sem, Av.frozen]
    · have he : n = base.length + 1 := by omega
      subst he
      clear hJ hJ1 hstep
      have hem := @mrun_end _ _ base a b pa pb
      have hme : ∀ s ∈ (mrun base a b pa pb (base.length + 1)).out, s ∈ base ∨ s ∈ a ∨ s ∈ b := fun s hs => mrun_mem hs
      generalize mrun base a b pa pb (base.length + 1) = s at ok hend hem hme ⊢
      obtain ⟨i, j, k, out, cl⟩ := s
      obtain ⟨oi, oj, okk, oja, okb, oout, ocl, ojm, okm⟩ := ok
      simp only at oi oout ocl hem hend hme ⊢
      refine go (N := 128) Tryz.ntmps73 300 ?_
      simp only [go_sem, hn, prs_snoc, strs_snoc, ints_len, strs_len, prs_len, strs_cut, strs_app]
      refine acall (large_own2 out (.arr 2 (prs cl))) (N := 128) Tryz.ntmps73 rfl ?_
      rintro _ _ ⟨rfl, rfl⟩
      refine go (N := 128) Tryz.ntmps73 300 ?_
      by_cases lo : 3000 < out.length
      · have lo' : decide (3000 < out.length) = true := by simpa using lo
        simp only [go_sem, lo', prs_snoc, strs_snoc, ints_len, strs_len, prs_len, strs_cut, strs_app]
        exact ARet.shift (Shift.nilfz 6 1 rfl) (ARet.shift (Shift.nilfz 7 2 rfl) (aret [6, 7, 8] rfl ⟨⟨[], [], 2, rfl, fun h => by cases h⟩, rfl⟩))
      · have lo' : decide (3000 < out.length) = false := by simpa using lo
        simp only [go_sem, lo', prs_snoc, strs_snoc, ints_len, strs_len, prs_len, strs_cut, strs_app]
        refine ARet.shift (Shift.freeze 6 (id := 0) rfl rfl (by simp) (Nat.le_refl _) (strs_frz _)) ?_
        refine ARet.shift (Shift.freeze 7 (id := 1) rfl rfl (by simp [prs_len]) (Nat.le_refl _) (prs_frz _)) (aret [6, 7, 8] rfl ⟨?_, rfl⟩)
        refine ⟨out, cl, 0, ?_, fun _ => ⟨by omega, hme⟩⟩
        simp [resV, Av.get, Av.put, List.take_of_length_le, prs_len]
end Go.Proofs.YtkomcdohejibmaaGreatDoor
