/- The pairs of lines that are kept. Own work of this seat. -/
import Derived.Test.YtkfpiadgjbhcpaaGreatDoorT47
import Derived.Test.YtkfpiadgjbhcpaaGreatDoorT21
import Derived.Test.YtkfpiadgjbhcpaaGreatDoorT46
namespace Go.Proofs.YtkfpiadgjbhcpaaGreatDoor
open Go Go.Av Go.RowKit
set_option maxRecDepth 100000
set_option linter.unusedSimpArgs false
set_option linter.unusedVariables false


def u16s (l : List Nat) : List AV := l.map fun x => .int .u16 (x : Nat)
def prs (l : List (Nat × Nat)) : List AV := l.map fun p => .agg [.int .i64 p.1, .int .i64 p.2]

/-- what stands in the table, from places (x, y) on -/
def Grid (a b : List (List UInt8)) (x y : Nat) (l : List Nat) : Prop :=
  l.length = (a.length + 1) * (b.length + 1) ∧
  ∀ p q, p ≤ a.length → q ≤ b.length → (p = a.length ∨ q = b.length ∨ x ≤ p ∨ (p + 1 = x ∧ y ≤ q)) → l[p * (b.length + 1) + q]? = some (lcs (a.drop p) (b.drop q))

theorem u16s_rep (n : Nat) : List.replicate n (AV.int .u16 0) = u16s (List.replicate n 0) := by simp [u16s]

theorem place_lt {p q n m : Nat} (hp : p ≤ n) (hq : q ≤ m) : p * (m + 1) + q < (n + 1) * (m + 1) := by
  have := Nat.mul_le_mul_right (m + 1) hp
  rw [Nat.add_mul]; omega
theorem place_inj {p q p' q' m : Nat} (hq : q ≤ m) (hq' : q' ≤ m) (h : p * (m + 1) + q = p' * (m + 1) + q') : p = p' ∧ q = q' := by
  have h1 : (p * (m + 1) + q) / (m + 1) = p := by rw [Nat.add_comm, Nat.add_mul_div_right _ _ (by omega), Nat.div_eq_of_lt (by omega)]; omega
  have h2 : (p' * (m + 1) + q') / (m + 1) = p' := by rw [Nat.add_comm, Nat.add_mul_div_right _ _ (by omega), Nat.div_eq_of_lt (by omega)]; omega
  rw [h, h2] at h1
  subst h1
  exact ⟨rfl, by omega⟩

theorem Grid.start (a b : List (List UInt8)) : Grid a b a.length b.length (List.replicate ((a.length + 1) * (b.length + 1)) 0) := by
  refine ⟨by simp, fun p q hp hq h => ?_⟩
  rw [List.getElem?_replicate, if_pos (place_lt hp hq)]
  rcases h with h | h | h | h
  · subst h; simp
  · subst h; simp
  · have : p = a.length := by omega
    subst this; simp
  · have : q = b.length := by omega
    subst this; simp

theorem u16_get {L : List Nat} {q v : Nat} (h : L[q]? = some v) : (u16s L).getD q .any = .int .u16 (v : Nat) := by simp [u16s, List.getD, h]
theorem u16_set (L : List Nat) (k v : Nat) : (u16s L).set k (.int .u16 (v : Nat)) = u16s (L.set k v) := by simp [u16s]
theorem u16_len (L : List Nat) : (u16s L).length = L.length := by simp [u16s]

theorem Grid.put {a b : List (List UInt8)} {i j : Nat} {L : List Nat} (g : Grid a b (i + 1) (j + 1) L) (hi : i < a.length) (hj : j < b.length) : Grid a b (i + 1) j (L.set (i * (b.length + 1) + j) (lcs (a.drop i) (b.drop j))) := by
  refine ⟨by simp [g.1], fun p q hp hq h => ?_⟩
  rw [List.getElem?_set]
  split
  · rename_i he
    obtain ⟨rfl, rfl⟩ := place_inj (by omega) hq he
    rw [if_pos (by rw [g.1]; exact place_lt (by omega) (by omega))]
  · rename_i hne
    refine g.2 p q hp hq ?_
    rcases h with h | h | h | h
    · exact .inl h
    · exact .inr (.inl h)
    · exact .inr (.inr (.inl h))
    · by_cases hqj : q = j
      · exfalso
        refine hne ?_
        rw [hqj, show p = i by omega]
      · exact .inr (.inr (.inr ⟨h.1, by omega⟩))

theorem prs_len (l : List (Nat × Nat)) : (prs l).length = l.length := by simp [prs]
theorem prs_dry : ∀ l : List (Nat × Nat), (flat (prs l)).all Av.frozen = true
  | [] => rfl
  | p :: l => by simp only [prs, List.map_cons, flat, cellsOf, List.all_append, Bool.and_eq_true]; exact ⟨by simp [Av.frozen], prs_dry l⟩
theorem prs_add (l : List (Nat × Nat)) (x y : Nat) : prs l ++ [.agg [.int .i64 (x : Nat), .int .i64 (y : Nat)]] = prs (l ++ [(x, y)]) := by simp [prs]
theorem strs_drop (l : List (List UInt8)) (j : Nat) : List.drop j (strs l) = strs (l.drop j) := by simp

theorem kept_ct (a b : List (List UInt8)) (ha : a.length ≤ 3000) (hb : b.length ≤ 3000) :
    Ct Tryz.prog 174 [.fz 1 (strs a), .fz 1 (strs b)] [] (fun r s => r = .sl 0 0 (keptL a b 0 0).length (keptL a b 0 0).length ∧ s = [.arr 2 (prs (keptL a b 0 0))]) := by
  refine ct_intro Tryz.func174 rfl Tryz.ntmps174 hB174 (by simp) fun h ρ w => go (N := 141) Tryz.ntmps174 200 ?_
  have hW : ((b.length : Int) + 1) = ((b.length + 1 : Nat) : Int) := by omega
  have hT : ((a.length : Int) + 1) * ((b.length + 1 : Nat) : Int) = (((a.length + 1) * (b.length + 1) : Nat) : Int) := by rw [Int.natCast_mul]; rfl
  have hTb : (a.length + 1) * (b.length + 1) ≤ 3001 * 3001 := Nat.mul_le_mul (by omega) (by omega)
  simp only [go_sem, strs_len, hW, hT]
  generalize hTT : (a.length + 1) * (b.length + 1) = T at *
  repeat refine And.intro (by omega) ?_
  refine go (N := 141) Tryz.ntmps174 200 ?_
  simp only [go_sem]
  refine aloop (ι := Nat × List Nat) (fun x => x.1)
    (fun x => [(9, .int .i64 ((x.1 : Int) - 1)), (8, .sl 0 0 T T), (7, .int .i64 ((b.length + 1 : Nat) : Int)), (6, .int .i64 b.length), (5, .int .i64 a.length), (0, .fz 1 (strs a)), (1, .fz 1 (strs b)), (4, .raw (.slice none 0 0))])
    (fun x => [.arr 1 (u16s x.2)]) (fun x => x.1 ≤ a.length ∧ Grid a b x.1 b.length x.2) (a.length, List.replicate T 0) ⟨Nat.le_refl _, by rw [← hTT]; exact Grid.start a b⟩ ?_ ?_
  · rw [u16s_rep]
    refine Shift.weak ?_
    simp only [wk, go_sem]
  · rintro ⟨x, L⟩ ⟨g1, g2⟩ J hJ
    simp only at g1 g2 hJ ⊢
    refine go (N := 141) Tryz.ntmps174 200 ?_
    cases x with
    | zero =>
      have hT0 : 0 < T := by rw [← hTT]; exact Nat.mul_pos (by omega) (by omega)
      have hLT : L.length = T := by rw [← hTT]; exact g2.1
      have g00 := g2.2 0 0 (by omega) (by omega) (.inr (.inr (.inl (Nat.le_refl _))))
      simp only [Nat.zero_mul, Nat.zero_add, List.drop_zero] at g00
      have u0 := u16_get g00
      simp only [go_sem, u0, u16_len, hLT]
      repeat refine And.intro (by omega) ?_
      refine AWp.shift (Shift.nilsl 11 2 rfl) ?_
      refine aloop (ι := Nat × Nat × List (Nat × Nat)) (fun x => a.length - x.1)
        (fun x => [(14, .int .u16 (lcs (a.drop x.1) (b.drop x.2.1) : Nat)), (13, .int .i64 x.2.1), (12, .int .i64 x.1), (11, .sl 1 0 x.2.2.length x.2.2.length), (8, .sl 0 0 T T), (7, .int .i64 ((b.length + 1 : Nat) : Int)), (0, .fz 1 (strs a)), (1, .fz 1 (strs b))])
        (fun x => [.arr 1 (u16s L), .arr 2 (prs x.2.2)]) (fun x => x.1 ≤ a.length ∧ x.2.1 ≤ b.length ∧ x.2.2.length ≤ x.1 ∧ x.2.2 ++ keptL (a.drop x.1) (b.drop x.2.1) x.1 x.2.1 = keptL a b 0 0) (0, 0, []) ⟨by simp, by simp, by simp, by simp⟩ ?_ ?_
      · refine Shift.weak ?_
        simp [wk, go_sem, prs]
      · rintro ⟨i, j, ps⟩ ⟨k1, k2, k3, k4⟩ J2 hJ2
        simp only at k1 k2 k3 k4 hJ2 ⊢
        refine go (N := 141) Tryz.ntmps174 200 ?_
        by_cases h0 : lcs (a.drop i) (b.drop j) = 0
        · have hd : decide ((lcs (a.drop i) (b.drop j) : Int) > 0) = false := by simp [h0]
          rw [keptL_zero h0, List.append_nil] at k4
          simp only [go_sem, hd]
          subst k4
          refine ARet.shift (Shift.only 0 1 (e' := [(4, .sl 0 0 (keptL a b 0 0).length (keptL a b 0 0).length)]) (Nat.le_refl _) (by omega) rfl (by simp) (prs_dry _) rfl ?_) (aret [4] rfl ⟨rfl, rfl⟩)
          simp [wkg, okg, go_sem]
        · have hd : decide ((lcs (a.drop i) (b.drop j) : Int) > 0) = true := by simp; omega
          simp only [go_sem, hd]
          have hia : i < a.length := by
            rcases Nat.lt_or_ge i a.length with h | h
            · exact h
            · rw [List.drop_eq_nil_of_le h] at h0; simp at h0
          refine adraw [.int .i64 (idxI a[i] (b.drop j))] mixed (by decide) (N := 141) Tryz.ntmps174 (by decide) 100 ?_
          simp only [go_sem, strs_get hia, strs_drop, strs_len]
          have hidx := index_pc (b.drop j) a[i] (by simp; omega)
          repeat refine And.intro (by first | exact hidx.at | exact hia | omega | rfl | (simp; done) | (simp; omega)) ?_
          refine goF (N := 141) Tryz.ntmps174 200 ?_
          have ei := drop_cons hia
          cases hx : lix a[i] (b.drop j) with
          | none =>
            have hl : idxI a[i] (b.drop j) = -1 := by simp [idxI, hx]
            have k5 : lcs (a.drop i) (b.drop j) = lcs (a.drop (i + 1)) (b.drop j) := by rw [ei]; exact lcs_none hx
            have k6 : keptL (a.drop i) (b.drop j) i j = keptL (a.drop (i + 1)) (b.drop j) (i + 1) j := by rw [ei, keptL, hx]
            have hm : decide ((-1 : Int) < 0) = true := rfl
            simp only [go_sem, hl, hm]
            rw [k5, show (i : Int) + 1 = ((i + 1 : Nat) : Int) by omega]
            refine ⟨by omega, by omega, ?_⟩
            refine ainv (hJ2 (i + 1, j, ps) ⟨by simp only; omega, k2, by simp only; omega, by rw [← k4, k6]⟩ (by simp only; omega)) (Shift.weak ?_)
            simp only [wk, go_sem]
          | some k =>
            have hl : idxI a[i] (b.drop j) = k := by simp [idxI, hx]
            have hk := idx_lt hx
            simp only [List.length_drop] at hk
            have hm : decide ((k : Int) < 0) = false := by simp
            have hbd : (b.drop j).drop (k + 1) = b.drop (j + k + 1) := by rw [List.drop_drop]; congr 1
            have gq := g2.2 (i + 1) (j + k + 1) (by omega) (by omega) (.inr (.inr (.inl (by omega))))
            have pl : (i + 1) * (b.length + 1) + (j + k + 1) < T := by rw [← hTT]; exact place_lt (by omega) (by omega)
            have hB : ((i : Int) + 1) * ((b.length + 1 : Nat) : Int) = (((i + 1) * (b.length + 1) : Nat) : Int) := by rw [Int.natCast_mul]; rfl
            have l1 := lcs_le_left (a.drop i) (b.drop j)
            have l2 := lcs_le_left (a.drop (i + 1)) (b.drop (j + k + 1))
            simp only [List.length_drop] at l1 l2
            have ks := lcs_some (a := a.drop (i + 1)) hx
            rw [← ei, hbd] at ks
            have kk : keptL (a.drop i) (b.drop j) i j = if lcs (a.drop (i + 1)) (b.drop (j + k + 1)) + 1 = lcs (a.drop i) (b.drop j) then (i, j + k) :: keptL (a.drop (i + 1)) (b.drop (j + k + 1)) (i + 1) (j + k + 1) else keptL (a.drop (i + 1)) (b.drop j) (i + 1) j := by
              rw [ei, keptL, hx]
              simp only [hbd]
            generalize (i + 1) * (b.length + 1) = B at *
            have q0 : (B : Int) + j = ((B + j : Nat) : Int) := by omega
            have q1 : ((B + j : Nat) : Int) + k = ((B + j + k : Nat) : Int) := by omega
            have q2 : ((B + j + k : Nat) : Int) + 1 = ((B + (j + k + 1) : Nat) : Int) := by omega
            have u1 := u16_get gq
            by_cases he : lcs (a.drop (i + 1)) (b.drop (j + k + 1)) + 1 = lcs (a.drop i) (b.drop j)
            · have hne : ((lcs (a.drop (i + 1)) (b.drop (j + k + 1)) : Int) != (lcs (a.drop i) (b.drop j) : Int) - 1) = false := by simp; omega
              rw [if_pos he] at kk
              simp only [go_sem, hl, hm, hne, u16_len, prs_len, prs_add, hB, q0, q1, q2, u1, hLT]
              rw [show (i : Int) + 1 = ((i + 1 : Nat) : Int) by omega, show (j : Int) + ((k : Int) + 1) = ((j + k + 1 : Nat) : Int) by omega, show (j : Int) + (k : Int) = ((j + k : Nat) : Int) by omega,
                show (lcs (a.drop i) (b.drop j) : Int) - 1 = (lcs (a.drop (i + 1)) (b.drop (j + k + 1)) : Nat) by omega, prs_add, show ps.length + 1 = (ps ++ [(i, j + k)]).length by simp]
              have hps : (ps ++ [(i, j + k)]).length = ps.length + 1 := by simp
              repeat refine And.intro (by first | omega | exact .inl trivial) ?_
              refine ainv (hJ2 (i + 1, j + k + 1, ps ++ [(i, j + k)]) ⟨by simp only; omega, by simp only; omega, by simp only; omega, by simp only; rw [← k4, kk]; simp⟩ (by simp only; omega)) (Shift.weak ?_)
              simp only [wk, go_sem]
            · have hne : ((lcs (a.drop (i + 1)) (b.drop (j + k + 1)) : Int) != (lcs (a.drop i) (b.drop j) : Int) - 1) = true := by simp; omega
              rw [if_neg he] at kk
              have k5 : lcs (a.drop i) (b.drop j) = lcs (a.drop (i + 1)) (b.drop j) := by omega
              simp only [go_sem, hl, hm, hne, u16_len, hB, q0, q1, q2, u1, hLT]
              rw [k5, show (i : Int) + 1 = ((i + 1 : Nat) : Int) by omega]
              repeat refine And.intro (by omega) ?_
              refine ainv (hJ2 (i + 1, j, ps) ⟨by simp only; omega, k2, by simp only; omega, by rw [← k4, kk]⟩ (by simp only; omega)) (Shift.weak ?_)
              simp only [wk, go_sem]
    | succ i =>
      have ei : ((i + 1 : Nat) : Int) - 1 = i := by omega
      have hi0 : decide ((i : Int) ≥ 0) = true := by simp
      simp only [go_sem, ei, hi0]
      refine ⟨by omega, by omega, ?_⟩
      refine go (N := 141) Tryz.ntmps174 200 ?_
      simp only [go_sem]
      refine aloop (ι := Nat × List Nat) (fun y => y.1)
        (fun y => [(10, .int .i64 ((y.1 : Int) - 1)), (9, .int .i64 i), (8, .sl 0 0 T T), (7, .int .i64 ((b.length + 1 : Nat) : Int)), (6, .int .i64 b.length), (5, .int .i64 a.length), (0, .fz 1 (strs a)), (1, .fz 1 (strs b)), (4, .raw (.slice none 0 0))])
        (fun y => [.arr 1 (u16s y.2)]) (fun y => y.1 ≤ b.length ∧ Grid a b (i + 1) y.1 y.2) (b.length, L) ⟨Nat.le_refl _, g2⟩ ?_ ?_
      · refine Shift.weak ?_
        simp only [wk, go_sem]
      · rintro ⟨y, M⟩ ⟨k1, k2⟩ J2 hJ2
        simp only at k1 k2 hJ2 ⊢
        refine go (N := 141) Tryz.ntmps174 200 ?_
        cases y with
        | zero =>
          simp only [go_sem]
          refine ⟨by omega, by omega, ?_⟩
          refine ainv (hJ (i, M) ⟨by omega, k2.1, fun p q hp hq h => k2.2 p q hp hq ?_⟩ (by simp only; omega)) (Shift.weak ?_)
          · simp only at h ⊢
            omega
          · simp only [wk, go_sem]
        | succ j =>
          have ej : ((j + 1 : Nat) : Int) - 1 = j := by omega
          have hj0 : decide ((j : Int) ≥ 0) = true := by simp
          have hia : i < a.length := by omega
          have hjb : j < b.length := by omega
          simp only [go_sem, ej, hj0]
          refine adraw [] mixed (by decide) (N := 141) Tryz.ntmps174 (by decide) 100 ?_
          simp only [go_sem, strs_len, strs_get hia, strs_get hjb]
          refine ⟨by omega, by omega, hia, by omega, by omega, hjb, ?_⟩
          have gd := k2.2 (i + 1) (j + 1) (by omega) (by omega) (.inr (.inr (.inl (Nat.le_refl _))))
          have gr := k2.2 (i + 1) j (by omega) (by omega) (.inr (.inr (.inl (Nat.le_refl _))))
          have gc := k2.2 i (j + 1) (by omega) (by omega) (.inr (.inr (.inr ⟨rfl, Nat.le_refl _⟩)))
          have kn := k2.put hia hjb
          have hM : M.length = T := by rw [← hTT]; exact k2.1
          have pl1 : i * (b.length + 1) + j < T := by rw [← hTT]; exact place_lt (by omega) (by omega)
          have pl2 : (i + 1) * (b.length + 1) + (j + 1) < T := by rw [← hTT]; exact place_lt (by omega) (by omega)
          have pl3 : i * (b.length + 1) + (j + 1) < T := by rw [← hTT]; exact place_lt (by omega) (by omega)
          have hA : (i : Int) * ((b.length + 1 : Nat) : Int) = ((i * (b.length + 1) : Nat) : Int) := by rw [Int.natCast_mul]
          have hB : ((i : Int) + 1) * ((b.length + 1 : Nat) : Int) = (((i + 1) * (b.length + 1) : Nat) : Int) := by rw [Int.natCast_mul]; rfl
          have d0 := drop_cons hia
          have d1 := drop_cons hjb
          have l1 := lcs_le_left (a.drop (i + 1)) (b.drop (j + 1))
          have l2 := lcs_le_left (a.drop (i + 1)) (b.drop j)
          have l3 := lcs_le_left (a.drop i) (b.drop (j + 1))
          simp only [List.length_drop] at l1 l2 l3
          generalize (i + 1) * (b.length + 1) = B at *
          generalize i * (b.length + 1) = A at *
          have q0 : (A : Int) + j = ((A + j : Nat) : Int) := by omega
          have q1 : ((A + j : Nat) : Int) + 1 = ((A + (j + 1) : Nat) : Int) := by omega
          have q2 : (B : Int) + j = ((B + j : Nat) : Int) := by omega
          have q3 : ((B + j : Nat) : Int) + 1 = ((B + (j + 1) : Nat) : Int) := by omega
          have u1 := u16_get gd
          have u2 := u16_get gr
          have u3 := u16_get gc
          have u4 := u16_get (show M[A + j]? = some M[A + j] from List.getElem?_eq_getElem (by omega))
          refine go (N := 141) Tryz.ntmps174 200 ?_
          by_cases he : a[i] = b[j]
          · have hne : (a[i] == b[j]) = true := by simpa using he
            have hv : lcs (a.drop i) (b.drop j) = lcs (a.drop (i + 1)) (b.drop (j + 1)) + 1 := by rw [d0, d1, lcs, if_pos he]
            rw [hv] at kn
            simp only [go_sem, hne, u16_len, hA, hB, q0, q1, q2, q3, u1, u2, u3, u4, hM]
            rw [show (lcs (a.drop (i + 1)) (b.drop (j + 1)) : Int) + 1 = ((lcs (a.drop (i + 1)) (b.drop (j + 1)) + 1 : Nat) : Int) by omega, u16_set]
            repeat refine And.intro (by omega) ?_
            refine ainv (hJ2 (j, M.set (A + j) (lcs (a.drop (i + 1)) (b.drop (j + 1)) + 1)) ⟨by simp only; omega, kn⟩ (by simp only; omega)) (Shift.weak ?_)
            simp only [wk, go_sem]
          · have hne : (a[i] == b[j]) = false := by simpa using he
            have hv : lcs (a.drop i) (b.drop j) = max (lcs (a.drop (i + 1)) (b.drop j)) (lcs (a.drop i) (b.drop (j + 1))) := by rw [d0, d1, lcs, if_neg he]
            rw [hv] at kn
            simp only [go_sem, hne]
            refine adraw [] mixed (by decide) (N := 141) Tryz.ntmps174 (by decide) 100 ?_
            simp only [go_sem, hne, u16_len, hA, hB, q0, q1, q2, q3, u1, u2, u3, u4, hM]
            have hmx : (if (lcs (a.drop (i + 1)) (b.drop j) : Int) < lcs (a.drop i) (b.drop (j + 1)) then (lcs (a.drop i) (b.drop (j + 1)) : Int) else lcs (a.drop (i + 1)) (b.drop j)) = ((max (lcs (a.drop (i + 1)) (b.drop j)) (lcs (a.drop i) (b.drop (j + 1))) : Nat) : Int) := by
              split <;> omega
            rw [hmx, u16_set]
            repeat refine And.intro (by omega) ?_
            refine go (N := 141) Tryz.ntmps174 200 ?_
            simp only [go_sem]
            refine ⟨by omega, by omega, ?_⟩
            refine ainv (hJ2 (j, M.set (A + j) (max (lcs (a.drop (i + 1)) (b.drop j)) (lcs (a.drop i) (b.drop (j + 1))))) ⟨by simp only; omega, kn⟩ (by simp only; omega)) (Shift.weak ?_)
            simp only [wk, go_sem]
set_option maxRecDepth 100000
set_option linter.unusedSimpArgs false
set_option linter.unusedVariables false


def pairsL (a b : List (List UInt8)) : List (Nat × Nat) := if cmpL a b ≤ 0 then keptL a b 0 0 else (keptL b a 0 0).map swpP

def mixP (ps : List (Nat × Nat)) (i : Nat) : List (Nat × Nat) := (ps.take i).map swpP ++ ps.drop i
theorem mixP_len (ps : List (Nat × Nat)) (i : Nat) : (mixP ps i).length = ps.length := by simp [mixP]; omega
theorem mixP_zero (ps : List (Nat × Nat)) : mixP ps 0 = ps := by simp [mixP]
theorem mixP_get {ps : List (Nat × Nat)} {i : Nat} (h : i < ps.length) : (prs (mixP ps i)).getD i .any = .agg [.int .i64 (ps[i].1 : Nat), .int .i64 (ps[i].2 : Nat)] := by
  have : (mixP ps i)[i]? = some ps[i] := by
    rw [mixP, List.getElem?_append_right (by simp; omega)]
    simp [Nat.min_eq_left (Nat.le_of_lt h), h]
  simp [prs, List.getD, this]
theorem mixP_set {ps : List (Nat × Nat)} {i : Nat} (h : i < ps.length) : (prs (mixP ps i)).set i (.agg [.int .i64 (ps[i].2 : Nat), .int .i64 (ps[i].1 : Nat)]) = prs (mixP ps (i + 1)) := by
  have e : (mixP ps i).set i (swpP ps[i]) = mixP ps (i + 1) := by
    have hl : ((ps.take i).map swpP).length = i := by simp; omega
    rw [mixP, List.set_append_right _ _ (by omega), hl, Nat.sub_self, List.drop_eq_getElem_cons h, List.set_cons_zero, mixP, List.take_succ_eq_append_getElem h, List.map_append]
    simp
  rw [← e]
  simp [prs, swpP]

theorem keptL_len : ∀ (a b : List (List UInt8)) (i j : Nat), (keptL a b i j).length ≤ a.length
  | [], _, _, _ => by simp [keptL]
  | x :: a, b, i, j => by
    rw [keptL]
    split
    · have := keptL_len a b (i + 1) j; simp; omega
    · rename_i k _
      split
      · have := keptL_len a (b.drop (k + 1)) (i + 1) (j + k + 1); simp; omega
      · have := keptL_len a b (i + 1) j; simp; omega

theorem pairs_ct (a b : List (List UInt8)) (ha : a.length ≤ 3000) (hb : b.length ≤ 3000) :
    Ct Tryz.prog 108 [.fz 1 (strs a), .fz 1 (strs b)] [] (fun r s => r = .sl 0 0 (pairsL a b).length (pairsL a b).length ∧ s = [.arr 2 (prs (pairsL a b))]) := by
  refine ct_intro Tryz.func108 rfl Tryz.ntmps108 hB108 (by simp) fun h ρ w => go (N := 35) Tryz.ntmps108 200 ?_
  simp only [go_sem]
  refine pcall1 (compare_pc a b (by omega) (by omega)) rfl (N := 35) Tryz.ntmps108 rfl (go (N := 35) Tryz.ntmps108 300 ?_)
  by_cases hc : cmpL a b ≤ 0
  · have hd : decide (cmpL a b ≤ 0) = true := by simpa using hc
    have hp : pairsL a b = keptL a b 0 0 := by simp [pairsL, hc]
    simp only [go_sem, hd]
    refine acall (kept_ct a b ha hb) (N := 35) Tryz.ntmps108 rfl ?_
    rintro _ _ ⟨rfl, rfl⟩
    refine go (N := 35) Tryz.ntmps108 200 ?_
    simp only [go_sem]
    exact aret [4] rfl ⟨by simp [resV, Av.get, hp], by rw [hp]⟩
  · have hd : decide (cmpL a b ≤ 0) = false := by simpa using hc
    have hp : pairsL a b = (keptL b a 0 0).map swpP := by simp [pairsL, hc]
    simp only [go_sem, hd]
    refine acall (kept_ct b a hb ha) (N := 35) Tryz.ntmps108 rfl ?_
    rintro _ _ ⟨rfl, rfl⟩
    have hpl : (keptL b a 0 0).length ≤ 3000 := Nat.le_trans (keptL_len _ _ _ _) hb
    generalize keptL b a 0 0 = ps at hp hpl ⊢
    refine go (N := 35) Tryz.ntmps108 200 ?_
    simp only [go_sem, prs_len]
    refine aloop (ι := Nat) (fun i => ps.length - i)
      (fun i => [(20, .int .i64 i), (19, .int .i64 ps.length), (18, .sl 0 0 ps.length ps.length), (5, .sl 0 0 ps.length ps.length)])
      (fun i => [.arr 2 (prs (mixP ps i))]) (fun i => i ≤ ps.length) 0 (by omega) ?_ ?_
    · rw [mixP_zero]
      refine Shift.weak ?_
      simp only [wk, go_sem]
    · rintro i g1 J hJ
      refine go (N := 35) Tryz.ntmps108 200 ?_
      by_cases hi : (i : Int) < ps.length
      · have hil : i < ps.length := by omega
        simp only [go_sem, hi, prs_len, mixP_len, mixP_get hil]
        rw [mixP_set hil, show (i : Int) + 1 = ((i + 1 : Nat) : Int) by omega]
        repeat refine And.intro (by omega) ?_
        refine ainv (hJ (i + 1) (by omega) (by omega)) (Shift.only 0 0 (Nat.le_refl _) (Nat.le_refl _) rfl (by simp) (prs_dry _) rfl ?_)
        simp [wkg, okg, go_sem, Av.frozen]
      · simp only [go_sem, hi, prs_len, mixP_len]
        have : i = ps.length := by omega
        subst this
        have e : mixP ps ps.length = pairsL a b := by rw [hp]; simp [mixP]
        rw [e]
        exact aret [4] rfl ⟨by simp [resV, Av.get, hp], rfl⟩
set_option maxRecDepth 100000
set_option linter.unusedSimpArgs false
set_option linter.unusedVariables false
theorem pairsL_len (a b : List (List UInt8)) : (pairsL a b).length ≤ a.length + b.length := by
  unfold pairsL
  split
  · have := keptL_len a b 0 0; omega
  · have := keptL_len b a 0 0; simp; omega
theorem pairsL_rise (a b : List (List UInt8)) : Rise a b 0 0 (pairsL a b) := by
  unfold pairsL
  split
  · exact keptL_rise a b a b 0 0 rfl rfl (Nat.zero_le _) (Nat.zero_le _)
  · exact (keptL_rise b a b a 0 0 rfl rfl (Nat.zero_le _) (Nat.zero_le _)).swpP
theorem Pairs_pc (a b : List (List UInt8)) (ha : a.length ≤ 3000) (hb : b.length ≤ 3000) :
    Pc Tryz.prog 49 [.fz 1 (strs a), .fz 1 (strs b)] (· = .tup [.fz 2 (prs (pairsL a b)), .int .i64 0]) := by
  have hp := pairs_ct a b ha hb
  have e1 : decide (3000 < a.length) = false := by simp; omega
  have e2 : decide (3000 < b.length) = false := by simp; omega
  refine pc_intro (ct_intro Tryz.func49 rfl Tryz.ntmps49 hB49 (by simp) fun h ρ w => goB (N := 15) Tryz.ntmps49 300 ?_)
  simp only [go_sem]
  refine pcall1 (large_pc a) rfl (N := 15) Tryz.ntmps49 rfl (goB (N := 15) Tryz.ntmps49 300 ?_)
  simp only [go_sem, e1]
  refine pcall1 (large_pc b) rfl (N := 15) Tryz.ntmps49 rfl (goB (N := 15) Tryz.ntmps49 300 ?_)
  simp only [go_sem, e2]
  refine acall (hp) (N := 15) Tryz.ntmps49 rfl ?_
  rintro _ _ ⟨rfl, rfl⟩
  refine goB (N := 15) Tryz.ntmps49 300 ?_
  simp only [go_sem]
  refine ARet.shift (Shift.freeze 4 (id := 0) (l := prs (pairsL a b)) rfl rfl (by rw [prs_len]; omega) (Nat.le_refl _) (prs_dry _)) ?_
  have htk : List.take (pairsL a b).length (List.drop 0 (prs (pairsL a b))) = prs (pairsL a b) := by rw [List.drop_zero, List.take_of_length_le (by rw [prs_len]; omega)]
  rw [htk]
  exact aret [4, 5] rfl ⟨rfl, rfl⟩
/-- a paragraph as a string -/
def lnP (p : Pa) : List UInt8 := Lib.itoa p.kind ++ [32] ++ p.text
theorem linesP_get (ps : List Pa) (i : Nat) (h : i < ps.length) : List.getD (ps.map paA) i .any = .agg [.int .i64 ps[i].kind, .str ps[i].text] := by simp [List.getD, h, paA]
theorem lnP_len (p : Pa) (h : 0 ≤ p.kind ∧ p.kind ≤ 999) : (lnP p).length ≤ p.text.length + 20 := by
  have := dig3_len p.kind
  rw [lnP, itoa_dig3 h.1 h.2]
  simp; omega
theorem strs_frz (l : List (List UInt8)) : (flat (strs l)).all Av.frozen = true := by
  induction l with
  | nil => rfl
  | cons x r ih => simpa [flat, cellsOf, Av.frozen] using ih
set_option maxHeartbeats 1000000 in
theorem linesP_pch {S : Std} (hS : LibOk S) (y : Sc) (hk : ∀ p ∈ y.paras, 0 ≤ p.kind ∧ p.kind ≤ 999 ∧ p.text.length ≤ 100000) (hl : y.paras.length ≤ 1000) : PcH Tryz.prog S 50 [scA y] (· = .fz 1 (strs (y.paras.map lnP))) := by
  obtain ⟨ps, hps⟩ : ∃ ps, ps = y.paras := ⟨_, rfl⟩
  rw [← hps] at hk hl ⊢
  simp only [scA, ← hps]
  refine pch_intro (cth_intro Tryz.func50 rfl Tryz.ntmps50 hB50 (by simp) fun h ρ w hg => goB (N := 25) Tryz.ntmps50 300 ?_)
  simp only [go_sem, List.length_map]
  refine aloop (ι := Nat) (fun i => ps.length - i)
    (fun i => [(9, .int .i64 i), (8, .int .i64 ps.length), (7, .fz 2 (ps.map paA)), (3, .sl 0 0 i i)])
    (fun i => [.arr 1 (strs ((ps.take i).map lnP))]) (fun i => i ≤ ps.length) 0 (by simp) ?_ ?_
  · refine Shift.trans (Shift.nilsl 3 1 rfl) (Shift.weakS ?_ rfl)
    simp only [wk, go_sem, List.length_map]
  intro i g1 J hJ
  by_cases gi : i < ps.length
  · have di : decide ((i : Int) < (ps.length : Int)) = true := by simp; omega
    have hget := linesP_get ps i gi
    obtain ⟨k0, k1, k2⟩ := hk _ (List.getElem_mem gi)
    have hit := itoa_pch hS ps[i].kind (by omega) (by omega)
    have hfin := hJ (i + 1) (by omega) (by omega)
    have hln := lnP_len ps[i] ⟨k0, k1⟩
    have hadd : strs ((ps.take i).map lnP) ++ [.str (Lib.itoa ps[i].kind ++ [32] ++ ps[i].text)] = strs ((ps.take (i + 1)).map lnP) := by
      rw [List.take_add_one, List.getElem?_eq_getElem gi, List.map_append]
      show _ = List.map AV.str (_ ++ _)
      rw [List.map_append]
      rfl
    have hlen : (strs ((ps.take i).map lnP)).length = i := by simp; omega
    have hil : (Lib.itoa ps[i].kind).length ≤ 20 := by rw [itoa_dig3 k0 k1]; have := dig3_len ps[i].kind; omega
    generalize hp : ps[i] = p at *
    refine goB (N := 25) Tryz.ntmps50 300 ?_
    simp only [go_sem, di, hget, List.length_map]
    repeat refine And.intro (by first | omega | rfl | kernel_rfl | (simp; done) | (simp; omega)) ?_
    refine goB (N := 25) Tryz.ntmps50 300 ?_
    simp only [go_sem]
    refine adrawA (0) [.str (Lib.itoa p.kind)] mixed (by decide) (N := 25) Tryz.ntmps50 (by decide) 100 ?_
    simp only [go_sem, List.length_map, List.length_append, List.length_cons, List.length_nil, cka, isApp, appOk, hadd, hlen]
    repeat refine And.intro (by first | omega | rfl | kernel_rfl | exact hit.at hg | exact .inl rfl | exact .inl trivial | (simp; done) | (simp; omega)) ?_
    refine goB (N := 25) Tryz.ntmps50 300 ?_
    simp only [go_sem]
    repeat refine And.intro (by first | omega | rfl | kernel_rfl | (simp; done) | (simp; omega)) ?_
    rw [show (i : Int) + 1 = ((i + 1 : Nat) : Int) by omega]
    refine ainv hfin ?_
    refine Shift.low 1 (by simp) (by simp) ?_ ?_
    · simp only [List.take_succ_cons, List.take_zero, List.all_cons, List.all_nil, lowB, low_all (strs_frz ((ps.take (i + 1)).map lnP)), Bool.and_self]
    · simp only [wkl, lowV, lowC, Av.get, go_sem]
  · have hi : i = ps.length := by omega
    have di : decide ((i : Int) < (ps.length : Int)) = false := by simp; omega
    rw [show ps.take i = ps from List.take_of_length_le (by omega)]
    clear hJ
    subst hi
    have hlen : (strs (ps.map lnP)).length = ps.length := by simp
    refine AWp.shift (Shift.freeze 3 (id := 0) (l := strs (ps.map lnP)) rfl rfl (by omega) (Nat.le_refl _) (strs_frz _)) ?_
    have htk : List.take ps.length (List.drop 0 (strs (ps.map lnP))) = strs (ps.map lnP) := by rw [List.drop_zero, List.take_of_length_le (by omega)]
    rw [htk]
    refine goB (N := 25) Tryz.ntmps50 300 ?_
    simp only [go_sem, di]
    exact aret [2] rfl ⟨rfl, rfl⟩
end Go.Proofs.YtkfpiadgjbhcpaaGreatDoor
