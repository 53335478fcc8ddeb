/- Codes as numbers: what a code shows leads back to its frame, and rises with it. Own work of this seat. -/
import Derived.Test.YtanmkmfhlngnlaaCs
namespace Go.Proofs.Ytanmkmfhlngnlaa
open Go Go.Av Go.RowKit

theorem dg_toNat {x : Int} (h0 : 0 ≤ x) (h1 : x ≤ 9) : ((dg x).toNat : Int) = 48 + x := by
  unfold dg
  have : (48 + x).toNat < 256 := by omega
  rw [UInt8.toNat_ofNat_of_lt' (by simpa using this)]
  omega
theorem dg_is {x : Int} (h0 : 0 ≤ x) (h1 : x ≤ 9) : isDg (dg x) := by
  unfold isDg; rw [dg_toNat h0 h1]; omega
theorem val2_two {x : Int} (h0 : 0 ≤ x) (h1 : x ≤ 99) : val2 (dg (x / 10)) (dg (x % 10)) = x := by
  unfold val2; rw [dg_toNat (by omega) (by omega), dg_toNat (by omega) (by omega)]; omega

theorem lt_of_toNat {p q : UInt8} (h : (p.toNat : Int) < q.toNat) : p < q := by
  rw [UInt8.lt_iff_toNat_lt]; omega
theorem bl_lt {x y : Int} {r r' : List UInt8} (h0 : 0 ≤ x) (h1 : x < y) (h2 : y ≤ 99) : bytesLess (dg (x / 10) :: dg (x % 10) :: r) (dg (y / 10) :: dg (y % 10) :: r') = true := by
  by_cases h : x / 10 < y / 10
  · have : dg (x / 10) < dg (y / 10) := lt_of_toNat (by rw [dg_toNat (by omega) (by omega), dg_toNat (by omega) (by omega)]; omega)
    simp [bytesLess, this]
  · have e : x / 10 = y / 10 := by omega
    have : dg (x % 10) < dg (y % 10) := lt_of_toNat (by rw [dg_toNat (by omega) (by omega), dg_toNat (by omega) (by omega)]; omega)
    simp [bytesLess, e, this]
theorem bl_eq {p : UInt8} {r r' : List UInt8} (h : bytesLess r r' = true) : bytesLess (p :: r) (p :: r') = true := by
  simp [bytesLess, h]

/-- the four numbers of a code -/
def nA (m f : Int) : Int := m / f / 3600
def nB (m f : Int) : Int := m / f / 60 % 60
def nC (m f : Int) : Int := m / f % 60
def nD (m f : Int) : Int := m % f
theorem codeL_eq (r n : Int) : codeL r n = [dg (nA (shown r n) (cnt r) / 10), dg (nA (shown r n) (cnt r) % 10), 58, dg (nB (shown r n) (cnt r) / 10), dg (nB (shown r n) (cnt r) % 10), 58,
    dg (nC (shown r n) (cnt r) / 10), dg (nC (shown r n) (cnt r) % 10), if r = 4 then 59 else 58, dg (nD (shown r n) (cnt r) / 10), dg (nD (shown r n) (cnt r) % 10)] := rfl

theorem code_less {r n k m m' : Int} (f : Int) (hf : f = 24 ∨ f = 25 ∨ f = 30) (hr : cnt r = f) (hm : shown r n = m) (hm' : shown r k = m') (h0 : 0 ≤ m) (h1 : m < m') (h2 : m' < f * 86400) : bytesLess (codeL r n) (codeL r k) = true := by
  rw [codeL_eq, codeL_eq, hr, hm, hm']
  unfold nA nB nC nD
  rcases hf with rfl | rfl | rfl
  · by_cases ha : m / 24 / 3600 = m' / 24 / 3600
    · rw [ha]
      refine bl_eq (bl_eq (bl_eq ?_))
      by_cases hb : m / 24 / 60 % 60 = m' / 24 / 60 % 60
      · rw [hb]
        refine bl_eq (bl_eq (bl_eq ?_))
        by_cases hc : m / 24 % 60 = m' / 24 % 60
        · rw [hc]
          refine bl_eq (bl_eq (bl_eq ?_))
          exact bl_lt (by omega) (by omega) (by omega)
        · exact bl_lt (by omega) (by omega) (by omega)
      · exact bl_lt (by omega) (by omega) (by omega)
    · exact bl_lt (by omega) (by omega) (by omega)
  · by_cases ha : m / 25 / 3600 = m' / 25 / 3600
    · rw [ha]
      refine bl_eq (bl_eq (bl_eq ?_))
      by_cases hb : m / 25 / 60 % 60 = m' / 25 / 60 % 60
      · rw [hb]
        refine bl_eq (bl_eq (bl_eq ?_))
        by_cases hc : m / 25 % 60 = m' / 25 % 60
        · rw [hc]
          refine bl_eq (bl_eq (bl_eq ?_))
          exact bl_lt (by omega) (by omega) (by omega)
        · exact bl_lt (by omega) (by omega) (by omega)
      · exact bl_lt (by omega) (by omega) (by omega)
    · exact bl_lt (by omega) (by omega) (by omega)
  · by_cases ha : m / 30 / 3600 = m' / 30 / 3600
    · rw [ha]
      refine bl_eq (bl_eq (bl_eq ?_))
      by_cases hb : m / 30 / 60 % 60 = m' / 30 / 60 % 60
      · rw [hb]
        refine bl_eq (bl_eq (bl_eq ?_))
        by_cases hc : m / 30 % 60 = m' / 30 % 60
        · rw [hc]
          refine bl_eq (bl_eq (bl_eq ?_))
          exact bl_lt (by omega) (by omega) (by omega)
        · exact bl_lt (by omega) (by omega) (by omega)
      · exact bl_lt (by omega) (by omega) (by omega)
    · exact bl_lt (by omega) (by omega) (by omega)

theorem shown_lt (r n : Int) (h1 : 1 ≤ r) (h2 : r ≤ 4) (h0 : 0 ≤ n) (h : n < last r) : 0 ≤ shown r n ∧ shown r n < cnt r * 86400 := by
  unfold shown last cnt at *
  obtain rfl | rfl | rfl | rfl : r = 1 ∨ r = 2 ∨ r = 3 ∨ r = 4 := by omega
  all_goals simp at h ⊢
  case inr.inr.inr => split <;> omega
  all_goals omega
theorem shown_rise (r n : Int) (h1 : 1 ≤ r) (h2 : r ≤ 4) (h0 : 0 ≤ n) : shown r n < shown r (n + 1) := by
  unfold shown
  split
  · by_cases ha : n % 17982 = 17981
    · have e1 : (n + 1) % 17982 = 0 := by omega
      have e2 : (n + 1) / 17982 = n / 17982 + 1 := by omega
      rw [e1, e2, ha]; simp; omega
    · have e1 : (n + 1) % 17982 = n % 17982 + 1 := by omega
      have e2 : (n + 1) / 17982 = n / 17982 := by omega
      rw [e1, e2]
      split <;> split <;> omega
  · omega

theorem read_pc (r n : Int) (h1 : 1 ≤ r) (h2 : r ≤ 4) (h3 : 0 ≤ n) (h4 : n < last r) : Pc Try.prog 12 [.int .i64 r, .str (codeL r n)] (· = .tup [.int .i64 n, .bool true]) := by
  obtain ⟨hs0, hs1⟩ := shown_lt r n h1 h2 h3 h4
  have hcd := codeL_eq r n
  obtain rfl | rfl | rfl | rfl : r = 1 ∨ r = 2 ∨ r = 3 ∨ r = 4 := by omega
  case inr.inr.inr =>
    simp only [cnt] at hs1 hcd
    simp at hs1
    have hfr : (60 * (60 * nA (shown 4 n) 30 + nB (shown 4 n) 30) + nC (shown 4 n) 30) * 30 + nD (shown 4 n) 30 - 2 * (60 * nA (shown 4 n) 30 + nB (shown 4 n) 30 - (60 * nA (shown 4 n) 30 + nB (shown 4 n) 30) / 10) = n := by
      have hn : n < 2589408 := by simpa [last] using h4
      have e1 : 60 * nA (shown 4 n) 30 + nB (shown 4 n) 30 = shown 4 n / 1800 := by unfold nA nB; omega
      have e2 : (60 * (shown 4 n / 1800) + nC (shown 4 n) 30) * 30 + nD (shown 4 n) 30 = shown 4 n := by unfold nC nD; omega
      rw [e1, e2]
      have hsh : shown 4 n = n + 18 * (n / 17982) + (if 1800 ≤ n % 17982 then 2 + 2 * ((n % 17982 - 1800) / 1798) else 0) := rfl
      by_cases hc : 1800 ≤ n % 17982
      · rw [if_pos hc] at hsh
        have e3 : shown 4 n / 1800 = 10 * (n / 17982) + 1 + (n % 17982 - 1800) / 1798 := by rw [hsh]; omega
        rw [e3, hsh]; omega
      · rw [if_neg hc] at hsh
        have e3 : shown 4 n / 1800 = 10 * (n / 17982) := by rw [hsh]; omega
        rw [e3, hsh]; omega
    have := readCode_pc4 (dg (nA (shown 4 n) 30 / 10)) (dg (nA (shown 4 n) 30 % 10)) (dg (nB (shown 4 n) 30 / 10)) (dg (nB (shown 4 n) 30 % 10)) (dg (nC (shown 4 n) 30 / 10)) (dg (nC (shown 4 n) 30 % 10)) 59 (dg (nD (shown 4 n) 30 / 10)) (dg (nD (shown 4 n) 30 % 10))
      (nA (shown 4 n) 30) (nB (shown 4 n) 30) (nC (shown 4 n) 30) (nD (shown 4 n) 30)
      (val2_two (by unfold nA; omega) (by unfold nA; omega)) (val2_two (by unfold nB; omega) (by unfold nB; omega)) (val2_two (by unfold nC; omega) (by unfold nC; omega)) (val2_two (by unfold nD; omega) (by unfold nD; omega))
      (dg_is (by unfold nA; omega) (by unfold nA; omega)) (dg_is (by unfold nA; omega) (by unfold nA; omega)) (dg_is (by unfold nB; omega) (by unfold nB; omega)) (dg_is (by unfold nB; omega) (by unfold nB; omega))
      (dg_is (by unfold nC; omega) (by unfold nC; omega)) (dg_is (by unfold nC; omega) (by unfold nC; omega)) (dg_is (by unfold nD; omega) (by unfold nD; omega)) (dg_is (by unfold nD; omega) (by unfold nD; omega))
      (by rw [hfr]; exact h3) (by rw [hfr]; exact h4) (by rw [hfr]; exact hcd)
    rw [hfr] at this
    rw [hcd]; exact this
  case inl =>
    simp only [cnt] at hs1 hcd
    simp at hs1 hcd
    have hfr : (60 * (60 * (nA (shown 1 n) 24) + (nB (shown 1 n) 24)) + (nC (shown 1 n) 24)) * 24 + (nD (shown 1 n) 24) = n := by
      have hsh : shown 1 n = n := rfl
      rw [hsh]; unfold nA nB nC nD; omega
    have := readCode_pc1 (dg ((nA (shown 1 n) 24) / 10)) (dg ((nA (shown 1 n) 24) % 10)) (dg ((nB (shown 1 n) 24) / 10)) (dg ((nB (shown 1 n) 24) % 10)) (dg ((nC (shown 1 n) 24) / 10)) (dg ((nC (shown 1 n) 24) % 10)) 58 (dg ((nD (shown 1 n) 24) / 10)) (dg ((nD (shown 1 n) 24) % 10))
      (nA (shown 1 n) 24) (nB (shown 1 n) 24) (nC (shown 1 n) 24) (nD (shown 1 n) 24)
      (val2_two (by unfold nA; omega) (by unfold nA; omega))
      (val2_two (by unfold nB; omega) (by unfold nB; omega))
      (val2_two (by unfold nC; omega) (by unfold nC; omega))
      (val2_two (by unfold nD; omega) (by unfold nD; omega))
      (dg_is (by unfold nA; omega) (by unfold nA; omega)) (dg_is (by unfold nA; omega) (by unfold nA; omega))
      (dg_is (by unfold nB; omega) (by unfold nB; omega)) (dg_is (by unfold nB; omega) (by unfold nB; omega))
      (dg_is (by unfold nC; omega) (by unfold nC; omega)) (dg_is (by unfold nC; omega) (by unfold nC; omega))
      (dg_is (by unfold nD; omega) (by unfold nD; omega)) (dg_is (by unfold nD; omega) (by unfold nD; omega))
      (by rw [hfr]; exact h3) (by rw [hfr]; exact h4) (by rw [hfr]; exact hcd)
    rw [hfr] at this
    rw [hcd]; exact this
  case inr.inl =>
    simp only [cnt] at hs1 hcd
    simp at hs1 hcd
    have hfr : (60 * (60 * (nA (shown 2 n) 25) + (nB (shown 2 n) 25)) + (nC (shown 2 n) 25)) * 25 + (nD (shown 2 n) 25) = n := by
      have hsh : shown 2 n = n := rfl
      rw [hsh]; unfold nA nB nC nD; omega
    have := readCode_pc2 (dg ((nA (shown 2 n) 25) / 10)) (dg ((nA (shown 2 n) 25) % 10)) (dg ((nB (shown 2 n) 25) / 10)) (dg ((nB (shown 2 n) 25) % 10)) (dg ((nC (shown 2 n) 25) / 10)) (dg ((nC (shown 2 n) 25) % 10)) 58 (dg ((nD (shown 2 n) 25) / 10)) (dg ((nD (shown 2 n) 25) % 10))
      (nA (shown 2 n) 25) (nB (shown 2 n) 25) (nC (shown 2 n) 25) (nD (shown 2 n) 25)
      (val2_two (by unfold nA; omega) (by unfold nA; omega))
      (val2_two (by unfold nB; omega) (by unfold nB; omega))
      (val2_two (by unfold nC; omega) (by unfold nC; omega))
      (val2_two (by unfold nD; omega) (by unfold nD; omega))
      (dg_is (by unfold nA; omega) (by unfold nA; omega)) (dg_is (by unfold nA; omega) (by unfold nA; omega))
      (dg_is (by unfold nB; omega) (by unfold nB; omega)) (dg_is (by unfold nB; omega) (by unfold nB; omega))
      (dg_is (by unfold nC; omega) (by unfold nC; omega)) (dg_is (by unfold nC; omega) (by unfold nC; omega))
      (dg_is (by unfold nD; omega) (by unfold nD; omega)) (dg_is (by unfold nD; omega) (by unfold nD; omega))
      (by rw [hfr]; exact h3) (by rw [hfr]; exact h4) (by rw [hfr]; exact hcd)
    rw [hfr] at this
    rw [hcd]; exact this
  case inr.inr.inl =>
    simp only [cnt] at hs1 hcd
    simp at hs1 hcd
    have hfr : (60 * (60 * (nA (shown 3 n) 30) + (nB (shown 3 n) 30)) + (nC (shown 3 n) 30)) * 30 + (nD (shown 3 n) 30) = n := by
      have hsh : shown 3 n = n := rfl
      rw [hsh]; unfold nA nB nC nD; omega
    have := readCode_pc3 (dg ((nA (shown 3 n) 30) / 10)) (dg ((nA (shown 3 n) 30) % 10)) (dg ((nB (shown 3 n) 30) / 10)) (dg ((nB (shown 3 n) 30) % 10)) (dg ((nC (shown 3 n) 30) / 10)) (dg ((nC (shown 3 n) 30) % 10)) 58 (dg ((nD (shown 3 n) 30) / 10)) (dg ((nD (shown 3 n) 30) % 10))
      (nA (shown 3 n) 30) (nB (shown 3 n) 30) (nC (shown 3 n) 30) (nD (shown 3 n) 30)
      (val2_two (by unfold nA; omega) (by unfold nA; omega))
      (val2_two (by unfold nB; omega) (by unfold nB; omega))
      (val2_two (by unfold nC; omega) (by unfold nC; omega))
      (val2_two (by unfold nD; omega) (by unfold nD; omega))
      (dg_is (by unfold nA; omega) (by unfold nA; omega)) (dg_is (by unfold nA; omega) (by unfold nA; omega))
      (dg_is (by unfold nB; omega) (by unfold nB; omega)) (dg_is (by unfold nB; omega) (by unfold nB; omega))
      (dg_is (by unfold nC; omega) (by unfold nC; omega)) (dg_is (by unfold nC; omega) (by unfold nC; omega))
      (dg_is (by unfold nD; omega) (by unfold nD; omega)) (dg_is (by unfold nD; omega) (by unfold nD; omega))
      (by rw [hfr]; exact h3) (by rw [hfr]; exact h4) (by rw [hfr]; exact hcd)
    rw [hfr] at this
    rw [hcd]; exact this
end Go.Proofs.Ytanmkmfhlngnlaa
