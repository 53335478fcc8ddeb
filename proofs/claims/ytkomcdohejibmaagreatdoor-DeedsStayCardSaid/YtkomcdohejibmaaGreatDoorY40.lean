/- What departments have that work apart: parts of one history. Own work of this seat. -/
import Derived.Test.YtkomcdohejibmaaGreatDoorY36
import Derived.Test.YtkomcdohejibmaaGreatDoorY33
import Derived.Test.YtkomcdohejibmaaGreatDoorY39
import Derived.Test.YtkomcdohejibmaaGreatDoorY22
import Derived.Test.YtkomcdohejibmaaGreatDoorY38
set_option maxRecDepth 100000
set_option linter.unusedSimpArgs false
set_option linter.unusedVariables false
namespace Go.Proofs.YtkomcdohejibmaaGreatDoor
open Go Go.Av Go.RowKit

theorem nodup_le {α : Type} [DecidableEq α] : ∀ (l G : List α), l.Nodup → (∀ x ∈ l, x ∈ G) → l.length ≤ G.length
  | [], _, _, _ => by simp
  | a :: l, G, hn, h => by
    have hn' := List.nodup_cons.1 hn
    have ha := h a (by simp)
    have ih := nodup_le l (G.erase a) hn'.2 fun x hx => by
      have hne : x ≠ a := fun e => hn'.1 (by rw [← e]; exact hx)
      exact (List.mem_erase_of_ne hne).2 (h x (List.mem_cons_of_mem _ hx))
    have := List.length_erase_of_mem ha
    have := List.length_pos_of_mem ha
    simp only [List.length_cons]
    omega
theorem srt_le {l G : List De} (h : Srt l) (hs : ∀ d ∈ l, d ∈ G) : l.length ≤ G.length := nodup_le l G (srt_nodup h) hs
/-- G: all deeds that were made so far; ps: what the three departments have -/
structure Hist (n : Nat) (G : List De) (ps : List (List De)) : Prop where
  len : ps.length = 3
  ok : ∀ p ∈ ps, CkOk p
  sub : ∀ p ∈ ps, ∀ d ∈ p, d ∈ G
  uniq : ∀ x ∈ G, ∀ y ∈ G, x.st = y.st → x = y
  own : ∀ d ∈ G, ∃ (k : Nat) (p : List De), deptL[k]? = some d.st.dept ∧ ps[k]? = some p ∧ d ∈ p
  sz : ∀ d ∈ G, SzD d
  glen : G.length ≤ n
theorem Hist.pos {n : Nat} {G : List De} {ps : List (List De)} (h : Hist n G ps) : ∀ d ∈ G, 1 ≤ d.st.no := fun d hd => by
  obtain ⟨k, p, _, h2, h3⟩ := h.own d hd
  exact (h.ok p (List.mem_of_getElem? h2)).pos h3
theorem Hist.le {n : Nat} {G : List De} {ps : List (List De)} (h : Hist n G ps) {p : List De} (hp : p ∈ ps) : p.length ≤ n := Nat.le_trans (srt_le (h.ok p hp).srt (h.sub p hp)) h.glen
theorem Hist.szl {n : Nat} {G : List De} {ps : List (List De)} (h : Hist n G ps) (hn : n < 1000000) {p : List De} (hp : p ∈ ps) : SzL p := ⟨by have := h.le hp; omega, fun d hd => h.sz d (h.sub p hp d hd)⟩
theorem hist_nil : Hist 0 [] [[], [], []] := ⟨rfl, fun p hp => by
  simp only [List.mem_cons, List.not_mem_nil, or_false, or_self] at hp
  subst hp
  exact ckOk_nil, fun p hp d hd => by
  simp only [List.mem_cons, List.not_mem_nil, or_false, or_self] at hp
  subst hp
  exact hd, by simp, by simp, by simp, by simp⟩
theorem Hist.mono {n m : Nat} {G : List De} {ps : List (List De)} (h : Hist n G ps) (hm : n ≤ m) : Hist m G ps := ⟨h.len, h.ok, h.sub, h.uniq, h.own, h.sz, Nat.le_trans h.glen hm⟩
theorem Hist.join {n : Nat} {G : List De} {ps : List (List De)} (h : Hist n G ps) {k : Nat} {a b l : List De} (hk : ps[k]? = some a) (hb : b ∈ ps) (hl : CkOk l) (hm : ∀ d, d ∈ l ↔ d ∈ a ∨ d ∈ b) : Hist n G (ps.set k l) := by
  have hkl := (List.getElem?_eq_some_iff.1 hk).1
  have hlG : ∀ d ∈ l, d ∈ G := fun d hd => ((hm d).1 hd).elim (h.sub a (List.mem_of_getElem? hk) d) (h.sub b hb d)
  have hps : ∀ p ∈ ps.set k l, p = l ∨ p ∈ ps := fun p hp => (List.mem_or_eq_of_mem_set hp).symm
  refine ⟨by rw [List.length_set]; exact h.len, fun p hp => ?_, fun p hp => ?_, h.uniq, fun d hd => ?_, h.sz, h.glen⟩
  · rcases hps p hp with rfl | hp
    · exact hl
    · exact h.ok p hp
  · rcases hps p hp with rfl | hp
    · exact hlG
    · exact h.sub p hp
  · obtain ⟨j, p, h1, h2, h3⟩ := h.own d hd
    by_cases e : k = j
    · subst e
      rw [hk] at h2
      cases h2
      exact ⟨k, l, h1, by rw [List.getElem?_set_self hkl], (hm d).2 (.inl h3)⟩
    · exact ⟨j, p, h1, by rw [List.getElem?_set_ne e]; exact h2, h3⟩
theorem Hist.put {n : Nat} {G : List De} {ps : List (List De)} (h : Hist n G ps) {k : Nat} {a l : List De} {d : De} (hk : ps[k]? = some a) (hd : deptL[k]? = some d.st.dept) (ha : AddOk a d) (hno : ∀ y ∈ a, y.st.dept = d.st.dept → y.st.no < d.st.no) (hl : CkOk l) (hm : ∀ e, e ∈ l ↔ e ∈ a ∨ e = d) (hz : SzD d) :
    Hist (n + 1) (G ++ [d]) (ps.set k l) := by
  have hkl := (List.getElem?_eq_some_iff.1 hk).1
  have hlG : ∀ e ∈ l, e ∈ G ++ [d] := fun e he => by
    rcases (hm e).1 he with he | rfl
    · exact List.mem_append_left _ (h.sub a (List.mem_of_getElem? hk) e he)
    · simp
  have hps : ∀ p ∈ ps.set k l, p = l ∨ p ∈ ps := fun p hp => (List.mem_or_eq_of_mem_set hp).symm
  have hnew : ∀ x ∈ G, x.st ≠ d.st := fun x hx e => by
    obtain ⟨j, p, h1, h2, h3⟩ := h.own x hx
    have hjk : j = k := by
      have h4 : deptL[j]? = deptL[k]? := by rw [h1, hd, e]
      have hnd : deptL.Nodup := by decide
      have hjl := (List.getElem?_eq_some_iff.1 h1).1
      exact (List.getElem?_inj hjl hnd).1 h4
    subst hjk
    rw [hk] at h2
    cases h2
    exact ha.new x h3 e
  refine ⟨by rw [List.length_set]; exact h.len, fun p hp => ?_, fun p hp => ?_, fun x hx y hy e => ?_, fun e he => ?_, fun e he => ?_, by rw [List.length_append, List.length_singleton]; have := h.glen; omega⟩
  · rcases hps p hp with rfl | hp
    · exact hl
    · exact h.ok p hp
  · rcases hps p hp with rfl | hp
    · exact hlG
    · exact fun e he => List.mem_append_left _ (h.sub p hp e he)
  · rcases List.mem_append.1 hx with hx | hx <;> rcases List.mem_append.1 hy with hy | hy
    · exact h.uniq x hx y hy e
    · rw [List.mem_singleton.1 hy] at e; exact absurd e (hnew x hx)
    · rw [List.mem_singleton.1 hx] at e; exact absurd e.symm (hnew y hy)
    · rw [List.mem_singleton.1 hx, List.mem_singleton.1 hy]
  · rcases List.mem_append.1 he with he | he
    · obtain ⟨j, p, h1, h2, h3⟩ := h.own e he
      by_cases e2 : k = j
      · subst e2
        rw [hk] at h2
        cases h2
        exact ⟨k, l, h1, by rw [List.getElem?_set_self hkl], (hm e).2 (.inl h3)⟩
      · exact ⟨j, p, h1, by rw [List.getElem?_set_ne e2]; exact h2, h3⟩
    · rw [List.mem_singleton.1 he]
      exact ⟨k, l, hd, by rw [List.getElem?_set_self hkl], (hm d).2 (.inr rfl)⟩
  · rcases List.mem_append.1 he with he | he
    · exact h.sz e he
    · rw [List.mem_singleton.1 he]; exact hz
end Go.Proofs.YtkomcdohejibmaaGreatDoor
/- What departments have: Parts, Deeds. Own work of this seat. -/
set_option maxRecDepth 100000
set_option linter.unusedSimpArgs false
set_option linter.unusedVariables false
namespace Go.Proofs.YtkomcdohejibmaaGreatDoor
open Go Go.Av Go.RowKit

def psA (p : List De) : AV := .fz 7 (p.map deA)
theorem psA_frz : ∀ l : List (List De), (flat (l.map psA)).all Av.frozen = true
  | [] => rfl
  | a :: l => by simp only [List.map_cons, flat, psA, cellsOf, List.cons_append, List.nil_append, List.all_cons, Av.frozen, psA_frz l, Bool.and_self]
theorem psA_get (ps : List (List De)) (j : Nat) (h : j < ps.length) : List.getD (ps.map psA) j .any = .fz 7 (ps[j].map deA) := by simp [List.getD, h, psA]
theorem psA_set (ps : List (List De)) (j : Nat) (l : List De) : (ps.map psA).set j (.fz 7 (l.map deA)) = (ps.set j l).map psA := by simp [List.map_set, psA]
theorem psA_one (ps : List (List De)) : ∀ x ∈ ps.map psA, (cellsOf x).length = 1 := by
  intro x hx
  obtain ⟨p, _, rfl⟩ := List.mem_map.1 hx
  rfl
theorem badD_key : ∀ x ∈ badD, keyL x = false := by decide
/-- the sizes of a deed that is added -/
theorem add_sz {l : List De} {d : De} (h : CkOk l) (hk : keyL d.st.dept = true) (hz : SzD d) : SzD (addD l d.st.dept d.kind d.paper d.text d.person) := by
  have hv := vec_ok h.srt
  refine ⟨?_, by have := keyL_le hk; simp only [addD]; omega, hz.paper, hz.text, hz.person, fun s hs => ?_⟩
  · have h1 := vec_len l
    have h2 : (addSeen (vecL l) d.st.dept).length ≤ (vecL l).length := List.length_filter_le _ _
    have := h.len
    simp only [addD]
    omega
  · obtain ⟨x, hx, rfl⟩ := hv.mem s (List.mem_filter.1 hs).1
    have := keyL_le (h.key hx)
    omega
theorem perm_mem {l l' : List De} {d : De} (h : l'.Perm (l ++ [d])) (e : De) : e ∈ l' ↔ e ∈ l ∨ e = d := by
  rw [h.mem_iff, List.mem_append, List.mem_singleton]

end Go.Proofs.YtkomcdohejibmaaGreatDoor
/- What is drawn, told exactly. Own work of this seat. -/
set_option maxRecDepth 100000
set_option linter.unusedSimpArgs false
set_option linter.unusedVariables false
namespace Go.Proofs.YtkomcdohejibmaaGreatDoor
open Go Go.Av Go.RowKit

/-- the number that is drawn -/
def nx (L : List Int) (k n : Int) : Int := if L.length = 0 then (IntKind.i64.wrap ((k + 1) * 7919)) % n else (IntKind.i64.wrap (L.getD (k % L.length).toNat 0 % 1073741824 + IntKind.i64.wrap (k / L.length * IntKind.i64.wrap (7919 + k % L.length)))) % n
theorem nx_bd (L : List Int) (k n : Int) (h : 1 ≤ n) : 0 ≤ nx L k n ∧ nx L k n < n := by
  unfold nx
  split
  · exact ⟨Int.emod_nonneg _ (by omega), Int.emod_lt_of_pos _ (by omega)⟩
  · exact ⟨Int.emod_nonneg _ (by omega), Int.emod_lt_of_pos _ (by omega)⟩
theorem nextX_mc (L : List Int) (k n : Int) (h1 : 1 ≤ n) (h2 : n ≤ 9223372036854775807) (h3 : 0 ≤ k) (h4 : k ≤ 1000000) :
    Mc Tryz.prog 50 2 (str L k) [.int .i64 n] (fun r s => r = .int .i64 (nx L k n) ∧ s = str L (k + 1)) := by
  refine ct_intro Tryz.func50 rfl Tryz.ntmps50 hB50 (by simp) fun h ρ w => goW (N := 64) Tryz.ntmps50 200 ?_
  have hw : IntKind.i64.wrap (k + 1) = k + 1 := IntWalk.i64_in _ ⟨by omega, by omega⟩
  have hk : k + 1 - 1 = k := by omega
  have hwk : IntKind.i64.wrap k = k := IntWalk.i64_in _ ⟨by omega, by omega⟩
  have fin : ∀ x : Int, 0 ≤ x % n ∧ x % n < n := fun x => ⟨Int.emod_nonneg x (by omega), Int.emod_lt_of_pos x (by omega)⟩
  simp only [go_sem, xint, str, hw]
  refine ⟨fun h5 => ?_, fun h5 => ?_⟩
  · refine pcall1 (below_pc _ n h1 h2) rfl (N := 64) Tryz.ntmps50 rfl (goW (N := 64) Tryz.ntmps50 200 ?_)
    simp only [go_sem, xint]
    have hL0 : L.length = 0 := by first | (simpa using h5) | omega
    exact aret [4] rfl ⟨_, _, rfl, by unfold nx; rw [if_pos hL0]; rfl, rfl, rfl, rfl⟩
  · refine adraw [] mixed (by decide) (N := 64) Tryz.ntmps50 (by decide) 100 ?_
    simp only [go_sem, xint, hw, hk, hwk]
    have hm0 : 0 < ((List.map (AV.int .i64) L).length : Int) := by omega
    have hmL : ((List.map (AV.int .i64) L).length : Int) = L.length := by simp
    generalize hM : ((List.map (AV.int .i64) L).length : Int) = M at *
    have d1 : 0 ≤ k / M := Int.ediv_nonneg h3 (by omega)
    have d2 : k / M ≤ k := Int.ediv_le_self _ h3
    have d3 : 0 ≤ k % M := Int.emod_nonneg k (by omega)
    have d4 : k % M < M := Int.emod_lt_of_pos k hm0
    have d5 : k % M ≤ k := by
      have q1 := Int.mul_ediv_add_emod k M
      have q2 : 0 ≤ M * (k / M) := Int.mul_nonneg (by omega) d1
      omega
    have d6 : 0 ≤ k / M * (7919 + k % M) := Int.mul_nonneg d1 (by omega)
    have d7 : k / M * (7919 + k % M) ≤ 1000000 * 1007919 := Int.mul_le_mul (by omega) (by omega) (by omega) (by omega)
    refine ⟨by omega, by omega, by omega, by omega, ?_⟩
    refine goW (N := 64) Tryz.ntmps50 200 ?_
    simp only [go_sem, xint, hw, hk, hwk, hM]
    refine adraw [] mixed (by decide) (N := 64) Tryz.ntmps50 (by decide) 100 ?_
    simp only [go_sem, xint, hw, hk, hwk, hM]
    refine ⟨by omega, by omega, by omega, by omega, by omega, by omega, ?_⟩
    have hx : ∃ x, (List.map (AV.int .i64) L).getD (k % M).toNat .any = .int .i64 x := by
      have : (k % M).toNat < L.length := by omega
      exact ⟨L[(k % M).toNat], by simp [List.getD, this]⟩
    have hxv : (List.map (AV.int .i64) L).getD (k % M).toNat .any = .int .i64 (L.getD (k % M).toNat 0) := by
      have : (k % M).toNat < L.length := by omega
      simp [List.getD, this]
    clear hx
    have hx := hxv
    have hnx : nx L k n = (IntKind.i64.wrap (L.getD (k % M).toNat 0 % 1073741824 + IntKind.i64.wrap (k / M * IntKind.i64.wrap (7919 + k % M)))) % n := by
      unfold nx
      rw [if_neg (by omega), ← hmL]
    generalize L.getD (k % M).toNat 0 = x at *
    have f1 : 0 ≤ x % 1073741824 := Int.emod_nonneg x (by omega)
    have f2 : x % 1073741824 < 1073741824 := Int.emod_lt_of_pos x (by omega)
    refine goW (N := 64) Tryz.ntmps50 200 ?_
    simp only [go_sem, xint, hw, hk, hwk, hM, hx]
    refine ⟨by omega, by omega, by simp; omega, ?_⟩
    refine pcall1 (below_pc _ _ (by omega) (by omega)) rfl (N := 64) Tryz.ntmps50 rfl (goW (N := 64) Tryz.ntmps50 200 ?_)
    simp only [go_sem, xint]
    refine pcall1 (below_pc _ n h1 h2) rfl (N := 64) Tryz.ntmps50 rfl (goW (N := 64) Tryz.ntmps50 200 ?_)
    simp only [go_sem, xint]
    exact aret [4] rfl ⟨_, _, rfl, by rw [hnx]; rfl, rfl, rfl, rfl⟩

def oneF (L : List Int) (k : Int) (ls : List (List UInt8)) : List UInt8 := ls.getD (nx L k ls.length).toNat []
def flipF (L : List Int) (k n : Int) : Bool := nx L k n == 0
def pickF (L : List Int) (k : Int) (ls : List Int) : Int := ls.getD (nx L k ls.length).toNat 0
def rangeF (L : List Int) (k a b : Int) : Int := a + nx L k (b - a + 1)
theorem oneF_mem {L : List Int} {k : Int} {ls : List (List UInt8)} (h : 1 ≤ ls.length) : oneF L k ls ∈ ls := by
  have := nx_bd L k ls.length (by omega)
  have hv : (nx L k ls.length).toNat < ls.length := by omega
  unfold oneF
  simp only [List.getD, List.getElem?_eq_getElem hv, Option.getD_some]
  exact List.getElem_mem hv
theorem pickF_mem {L : List Int} {k : Int} {ls : List Int} (h : 1 ≤ ls.length) : pickF L k ls ∈ ls := by
  have := nx_bd L k ls.length (by omega)
  have hv : (nx L k ls.length).toNat < ls.length := by omega
  unfold pickF
  simp only [List.getD, List.getElem?_eq_getElem hv, Option.getD_some]
  exact List.getElem_mem hv
theorem oneX_mc (L : List Int) (k : Int) (ls : List (List UInt8)) (h1 : 1 ≤ ls.length) (h2 : ls.length ≤ 1000) (h3 : 0 ≤ k) (h4 : k ≤ 1000000) :
    Mc Tryz.prog 60 2 (str L k) [.fz 1 (ls.map .str)] (fun r s => r = .str (oneF L k ls) ∧ s = str L (k + 1)) := by
  have hlen : ((List.map AV.str ls).length : Int) = ls.length := by simp
  have hb := nx_bd L k ls.length (by omega)
  refine ct_intro Tryz.func60 rfl Tryz.ntmps60 hB60 (by simp) fun h ρ w => go (N := 12) Tryz.ntmps60 300 ?_
  simp only [go_sem]
  refine mcall (nextX_mc L k _ (by omega) (by omega) h3 h4) rfl rfl (id := 0) rfl (N := 12) Tryz.ntmps60 rfl ?_
  rintro _ _ ⟨rfl, rfl⟩
  rw [hlen]
  have hv : (nx L k ls.length).toNat < ls.length := by omega
  have hx : (List.map AV.str ls).getD (nx L k ls.length).toNat .any = .str (oneF L k ls) := by
    unfold oneF
    simp [List.getD, hv]
  refine go (N := 12) Tryz.ntmps60 300 ?_
  simp only [go_sem, hx]
  refine ⟨by omega, by omega, by simpa using hv, ?_⟩
  exact aret [4] rfl ⟨_, _, rfl, rfl, rfl, rfl, rfl⟩
theorem flipX_mc (L : List Int) (k n : Int) (h1 : 1 ≤ n) (h2 : n ≤ 1000) (h3 : 0 ≤ k) (h4 : k ≤ 1000000) :
    Mc Tryz.prog 51 2 (str L k) [.int .i64 n] (fun r s => r = .bool (flipF L k n) ∧ s = str L (k + 1)) := by
  refine ct_intro Tryz.func51 rfl Tryz.ntmps51 hB51 (by simp) fun h ρ w => go (N := 9) Tryz.ntmps51 300 ?_
  simp only [go_sem]
  refine mcall (nextX_mc L k _ (by omega) (by omega) h3 h4) rfl rfl (id := 0) rfl (N := 9) Tryz.ntmps51 rfl ?_
  rintro _ _ ⟨rfl, rfl⟩
  refine go (N := 9) Tryz.ntmps51 300 ?_
  simp only [go_sem]
  exact aret [4] rfl ⟨_, _, rfl, rfl, rfl, rfl, rfl⟩
theorem rangeX_mc (L : List Int) (k a b : Int) (h1 : 0 ≤ a) (h2 : a ≤ b) (hb : b ≤ 1000) (h3 : 0 ≤ k) (h4 : k ≤ 1000000) :
    Mc Tryz.prog 110 2 (str L k) [.int .i64 a, .int .i64 b] (fun r s => r = .int .i64 (rangeF L k a b) ∧ s = str L (k + 1)) := by
  have d : decide (b < a) = false := by simp; omega
  have hbd := nx_bd L k (b - a + 1) (by omega)
  refine ct_intro Tryz.func110 rfl Tryz.ntmps110 hB110 (by simp) fun h ρ w => go (N := 19) Tryz.ntmps110 300 ?_
  simp only [go_sem, d]
  refine ⟨by omega, by omega, by omega, by omega, ?_⟩
  refine mcall (nextX_mc L k _ (by omega) (by omega) h3 h4) rfl rfl (id := 0) rfl (N := 19) Tryz.ntmps110 rfl ?_
  rintro _ _ ⟨rfl, rfl⟩
  refine go (N := 19) Tryz.ntmps110 300 ?_
  simp only [go_sem]
  refine ⟨by omega, by omega, ?_⟩
  exact aret [6] rfl ⟨_, _, rfl, rfl, rfl, rfl, rfl⟩
theorem pickX_mc (L : List Int) (k : Int) (ls : List Int) (h1 : 1 ≤ ls.length) (h2 : ls.length ≤ 1000) (h3 : 0 ≤ k) (h4 : k ≤ 1000000) :
    Mc Tryz.prog 66 2 (str L k) [.fz 1 (ls.map (.int .i64))] (fun r s => r = .int .i64 (pickF L k ls) ∧ s = str L (k + 1)) := by
  have hlen : ((List.map (AV.int .i64) ls).length : Int) = ls.length := by simp
  have hb := nx_bd L k ls.length (by omega)
  refine ct_intro Tryz.func66 rfl Tryz.ntmps66 hB66 (by simp) fun h ρ w => go (N := 12) Tryz.ntmps66 300 ?_
  simp only [go_sem]
  refine mcall (nextX_mc L k _ (by omega) (by omega) h3 h4) rfl rfl (id := 0) rfl (N := 12) Tryz.ntmps66 rfl ?_
  rintro _ _ ⟨rfl, rfl⟩
  rw [hlen]
  have hv : (nx L k ls.length).toNat < ls.length := by omega
  have hx : (List.map (AV.int .i64) ls).getD (nx L k ls.length).toNat .any = .int .i64 (pickF L k ls) := by
    unfold pickF
    simp [List.getD, hv]
  refine go (N := 12) Tryz.ntmps66 300 ?_
  simp only [go_sem, hx]
  refine ⟨by omega, by omega, by simpa using hv, ?_⟩
  exact aret [4] rfl ⟨_, _, rfl, rfl, rfl, rfl, rfl⟩
def linesF (L : List Int) (k : Int) (c : Nat) : List (List UInt8) := (List.range c).map fun (i : Nat) => oneF L (k + 1 + (i : Int)) lineL
theorem linesF_step (L : List Int) (k : Int) (i : Nat) : linesF L k (i + 1) = linesF L k i ++ [oneF L (k + 1 + i) lineL] := by simp [linesF, List.range_succ]
theorem linesF_len (L : List Int) (k : Int) (i : Nat) : (linesF L k i).length = i := by simp [linesF]
theorem linesX_mc (L : List Int) (k m : Int) (h1 : 0 ≤ m) (h2 : m ≤ 1000) (h3 : 0 ≤ k) (h4 : k ≤ 900000) :
    Mc Tryz.prog 162 2 (str L k) [.int .i64 m] (fun r s => r = .fz 1 ((linesF L k (nx L k (m + 1)).toNat).map .str) ∧ s = str L (k + 1 + (nx L k (m + 1)).toNat)) := by
  have hb := nx_bd L k (m + 1) (by omega)
  refine ct_intro Tryz.func162 rfl Tryz.ntmps162 hB162 (by simp) fun h ρ w => goB (N := 20) Tryz.ntmps162 300 ?_
  simp only [go_sem]
  refine ⟨by omega, by omega, ?_⟩
  refine mcall (nextX_mc L k _ (by omega) (by omega) h3 (by omega)) rfl rfl (id := 0) rfl (N := 20) Tryz.ntmps162 rfl ?_
  rintro _ _ ⟨rfl, rfl⟩
  generalize nx L k (m + 1) = v at *
  refine goB (N := 20) Tryz.ntmps162 300 ?_
  simp only [go_sem]
  refine aloop (ι := Nat) (fun y => v.toNat - y) (fun y => [(10, .int .i64 y), (9, .int .i64 v), (5, .sl 1 0 y y), (0, .ptr 0 1 0 0)]) (fun y => [.arr 2 [str L (k + 1 + y)], .arr 1 ((linesF L k y).map .str)])
    (fun y => (y : Int) ≤ v) 0 (by simp; omega) ?_ ?_
  · refine Shift.trans (Shift.nilsl 5 1 rfl) (Shift.weakS ?_ ?_)
    · simp only [wk, go_sem]
    · simp [linesF]
  intro i g1 J hJ
  have hll := linesF_len L k i
  by_cases gi : (i : Int) < v
  · have di : decide ((i : Int) < v) = true := by simpa using gi
    have ho := oneX_mc L (k + 1 + i) lineL (by decide) (by decide) (by omega) (by omega)
    have hfin := hJ (i + 1) (by omega) (by omega)
    rw [linesF_step, List.map_append, List.map_cons, List.map_nil, show k + 1 + ((i + 1 : Nat) : Int) = k + 1 + (i : Int) + 1 by omega] at hfin
    generalize oneF L (k + 1 + i) lineL = x at *
    simp only [lineL, List.map_cons, List.map_nil] at ho
    refine goB (N := 20) Tryz.ntmps162 300 ?_
    simp only [go_sem, di]
    refine mcall (ho) rfl rfl (id := 0) rfl (N := 20) Tryz.ntmps162 rfl ?_
    rintro _ _ ⟨rfl, rfl⟩
    refine goB (N := 20) Tryz.ntmps162 300 ?_
    simp only [go_sem, List.length_map, hll]
    repeat refine And.intro (by first | omega | rfl | exact .inl rfl | exact .inl trivial | (simp; done) | (simp; omega)) ?_
    rw [show (i : Int) + 1 = ((i + 1 : Nat) : Int) by omega]
    refine ainv hfin (Shift.weakS ?_ rfl)
    simp only [wk, go_sem]
  · have di : decide ((i : Int) < v) = false := by simp; omega
    have hi : v.toNat = i := by omega
    clear hJ
    refine AWp.shift (Shift.freeze 5 (id := 1) (l := (linesF L k i).map .str) rfl rfl (by simp [hll]) (Nat.le_refl _) (strs_frz _)) ?_
    have htk : List.take i (List.drop 0 ((linesF L k i).map AV.str)) = (linesF L k i).map .str := by rw [List.drop_zero, List.take_of_length_le (by simp [hll])]
    rw [htk]
    refine goB (N := 20) Tryz.ntmps162 300 ?_
    simp only [go_sem, di]
    exact aret [4] rfl ⟨str L (k + 1 + i), [.dead], rfl, by rw [hi]; rfl, by rw [hi], rfl, rfl⟩
end Go.Proofs.YtkomcdohejibmaaGreatDoor
