/- Join, whose result may be written. Own work of this seat. -/
import Derived.Test.YtkomcdohejibmaaGreatDoorY49
import Derived.Test.YtkomcdohejibmaaGreatDoorY33
import Derived.Test.YtkomcdohejibmaaGreatDoorY22
import Derived.Test.YtkomcdohejibmaaGreatDoorY37
import Derived.Test.YtkomcdohejibmaaGreatDoorY29
set_option maxRecDepth 100000
set_option linter.unusedSimpArgs false
set_option linter.unusedVariables false
namespace Go.Proofs.YtkomcdohejibmaaGreatDoor
open Go Go.Av Go.RowKit

theorem own_bor {s : List Blk} {id : Nat} {rows : List (Nat × De)} (h : OwnD s id rows) : borC 2 s (.sl id 0 rows.length rows.length) = .fz 7 ((rows.map (·.2)).map deA) := by
  rw [show borC 2 s (.sl id 0 rows.length rows.length) = bor (1 + 1) s (.sl id 0 rows.length rows.length) from rfl, bor_sl, h.blk]
  simp only [Nat.zero_add, List.length_map, decide_true, Nat.le_refl, Bool.and_self, cond_true, List.drop_zero, AV.fz.injEq, true_and]
  rw [List.take_of_length_le (by simp), List.map_map, List.map_map]
  refine List.map_congr_left fun x hx => ?_
  have h2 := h.seen x hx
  simp only [Function.comp_apply, rowH, deH, deA, borC, List.map_cons, List.map_nil, bor_sl, h2, blkS, Nat.zero_add, List.length_map, decide_true, Nat.le_refl, Bool.and_self, cond_true, List.drop_zero]
  rw [List.take_of_length_le (by simp), List.map_map]
  have : ((borC 0 s) ∘ stA) = stA := by funext t; rfl
  rw [this]
  rfl
theorem own_lift {s : List Blk} {id : Nat} {rows : List (Nat × De)} (h : OwnD s id rows) (t : List Blk) : OwnD (t ++ s.map (shB t.length)) (id + t.length) (rows.map fun x => (x.1 + t.length, x.2)) := by
  have key : ∀ j b, s.getD j .dead = b → b ≠ .dead → (t ++ s.map (shB t.length)).getD (j + t.length) .dead = shB t.length b := fun j b e hb => by
    rw [List.getD_eq_getElem?_getD] at e ⊢
    rw [List.getElem?_append_right (by omega), Nat.add_sub_cancel, List.getElem?_map]
    cases hq : s[j]? with
    | none => rw [hq] at e; exact absurd e.symm hb
    | some c => rw [hq] at e; cases e; rfl
  refine ⟨?_, fun x hx => ?_, fun x hx => ?_⟩
  · rw [key _ _ h.blk (by simp), shB, List.map_map, List.map_map]
    rfl
  · obtain ⟨y, hy, rfl⟩ := List.mem_map.1 hx
    have := key _ _ (h.seen y hy) (by simp [blkS])
    rw [this, shB_blkS]
  · obtain ⟨y, hy, rfl⟩ := List.mem_map.1 hx
    exact h.bnd y hy

/-- rows with three blocks for each deed -/
def zDe : Blk := .arr 7 [.agg [.str [], .int .i64 0, .raw (.slice none 0 0), .int .i64 0, .str [], .str [], .str []]]
def hdf : Nat → List De → List AV
  | _, [] => []
  | j, d :: r => deH j d :: hdf (j + 3) r
def tlF : List De → List Blk
  | [] => []
  | d :: r => .arr 7 [deA d] :: zDe :: blkS d :: tlF r
theorem hdf_len : ∀ (l : List De) (j : Nat), (hdf j l).length = l.length
  | [], _ => rfl
  | _ :: r, j => by simp [hdf, hdf_len r (j + 3)]
theorem hdf_snoc : ∀ (l : List De) (j : Nat) (x : De), hdf j (l ++ [x]) = hdf j l ++ [deH (j + 3 * l.length) x]
  | [], j, x => rfl
  | y :: r, j, x => by
    have := hdf_snoc r (j + 3) x
    simp only [List.cons_append, hdf, this, List.length_cons]
    rw [show j + 3 + 3 * r.length = j + 3 * (r.length + 1) by omega]
theorem low_hdf (n : Nat) : ∀ (l : List De) (j : Nat), j + 3 * l.length ≤ n + 2 → (flat (hdf j l)).all (lowC n) = true
  | [], _, _ => rfl
  | x :: r, j, h => by
    simp only [List.length_cons] at h
    have ih := low_hdf n r (j + 3) (by omega)
    have hj : decide (j < n) = true := by simp; omega
    simp only [hdf, flat, deH, cellsOf, List.cons_append, List.nil_append, List.all_cons, ih, lowC, hj]
    rfl
theorem tlF_len : ∀ l, (tlF l).length = 3 * l.length
  | [] => rfl
  | d :: r => by simp only [tlF, List.length_cons, tlF_len r]; omega
theorem tlF_snoc (d : De) : ∀ l, tlF (l ++ [d]) = tlF l ++ [.arr 7 [deA d], zDe, blkS d]
  | [] => rfl
  | x :: r => by simp only [List.cons_append, tlF, tlF_snoc d r]
theorem tlF_get (l : List De) (r : List Blk) (k : Nat) : (tlF l ++ r).getD (3 * l.length + k) .dead = r.getD k .dead := by
  rw [List.getD_eq_getElem?_getD, List.getElem?_append_right (by rw [tlF_len]; omega), tlF_len, Nat.add_sub_cancel_left, ← List.getD_eq_getElem?_getD]
theorem tlF_get0 (l : List De) (b : Blk) (r : List Blk) : (tlF l ++ b :: r).getD (3 * l.length) .dead = b := tlF_get l (b :: r) 0
theorem tlF_set (l : List De) (r : List Blk) (k : Nat) (b : Blk) : (tlF l ++ r).set (3 * l.length + k) b = tlF l ++ r.set k b := by
  rw [List.set_append_right _ _ (by rw [tlF_len]; omega), tlF_len, Nat.add_sub_cancel_left]
theorem tlF_set0 (l : List De) (b c : Blk) (r : List Blk) : (tlF l ++ b :: r).set (3 * l.length) c = tlF l ++ c :: r := tlF_set l (b :: r) 0 c
theorem low_tlF (n : Nat) : ∀ l, (tlF l).all (lowB n) = true
  | [] => rfl
  | d :: r => by
    simp only [tlF, List.all_cons, low_de, low_blkS, low_tlF n r, Bool.and_self]
    rfl
theorem mpOk_tlF : ∀ l, (tlF l).all mpOk = true
  | [] => rfl
  | d :: r => by simp only [tlF, List.all_cons, mpOk_tlF r]; rfl
theorem rows_hdf : ∀ (l : List De) (j : Nat), ∃ rows : List (Nat × De), hdf j l = rows.map rowH ∧ rows.map (·.2) = l ∧ ∀ x ∈ rows, ∃ i, i < l.length ∧ x.1 = j + 3 * i ∧ l[i]? = some x.2
  | [], _ => ⟨[], rfl, rfl, by simp⟩
  | d :: r, j => by
    obtain ⟨rows, h1, h2, h3⟩ := rows_hdf r (j + 3)
    refine ⟨(j, d) :: rows, by simp [hdf, h1, rowH], by simp [h2], fun x hx => ?_⟩
    rcases List.mem_cons.1 hx with rfl | hx
    · exact ⟨0, by simp, by simp, by simp⟩
    · obtain ⟨i, hi, h4, h5⟩ := h3 x hx
      exact ⟨i + 1, by simp; omega, by omega, by simpa using h5⟩
theorem tlF_seen : ∀ (l : List De) (i : Nat) (d : De), l[i]? = some d → (tlF l)[3 * i + 2]? = some (blkS d)
  | [], _, _, h => by simp at h
  | x :: r, 0, d, h => by
    simp at h
    subst h
    rfl
  | x :: r, i + 1, d, h => by
    have := tlF_seen r i d (by simpa using h)
    rw [show 3 * (i + 1) + 2 = (3 * i + 2) + 1 + 1 + 1 by omega]
    simpa [tlF] using this
theorem tabF_step (m q : Blk) (o : List De) (d : De) (jk lit : Blk) : (m :: q :: Blk.arr 7 (hdf 5 (o ++ [d])) :: tlF (o ++ [d])) = (m :: q :: Blk.arr 7 (hdf 5 o ++ [deH (3 * o.length + 5) d]) :: (tlF o ++ [.arr 7 [deA d], zDe, blkS d, jk, lit])).take (3 * o.length + 6) := by
  rw [hdf_snoc, tlF_snoc, show 3 * o.length + 6 = (3 * o.length + 3) + 1 + 1 + 1 by omega, List.take_succ_cons, List.take_succ_cons, List.take_succ_cons, List.take_append, tlF_len, List.take_of_length_le (by rw [tlF_len]; omega), show 3 * o.length + 3 - 3 * o.length = 3 by omega, show 5 + 3 * o.length = 3 * o.length + 5 by omega]
  rfl
theorem tabF_low (m q : Blk) (o : List De) (d : De) (jk lit : Blk) (hm : lowB (3 * o.length + 6) m = true) (hq : lowB (3 * o.length + 6) q = true) : ((m :: q :: Blk.arr 7 (hdf 5 o ++ [deH (3 * o.length + 5) d]) :: (tlF o ++ [.arr 7 [deA d], zDe, blkS d, jk, lit])).take (3 * o.length + 6)).all (lowB (3 * o.length + 6)) = true := by
  rw [← tabF_step]
  simp only [List.all_cons, low_tlF, hm, hq, Bool.and_true, Bool.true_and]
  exact low_hdf _ _ _ (by simp; omega)
theorem tabF_same (m q : Blk) (o : List De) (r : List Blk) : (m :: q :: Blk.arr 7 (hdf 5 o) :: tlF o) = (m :: q :: Blk.arr 7 (hdf 5 o) :: (tlF o ++ r)).take (3 * o.length + 3) := by
  rw [show 3 * o.length + 3 = 3 * o.length + 1 + 1 + 1 by omega, List.take_succ_cons, List.take_succ_cons, List.take_succ_cons, List.take_append, tlF_len, List.take_of_length_le (by rw [tlF_len]; omega), Nat.sub_self, List.take_zero, List.append_nil]
theorem tabF_low0 (m q : Blk) (o : List De) (r : List Blk) (hm : lowB (3 * o.length + 3) m = true) (hq : lowB (3 * o.length + 3) q = true) : ((m :: q :: Blk.arr 7 (hdf 5 o) :: (tlF o ++ r)).take (3 * o.length + 3)).all (lowB (3 * o.length + 3)) = true := by
  rw [← tabF_same]
  simp only [List.all_cons, low_tlF, hm, hq, Bool.and_true, Bool.true_and]
  exact low_hdf _ _ _ (by omega)
set_option maxHeartbeats 8000000 in
theorem joinS_ct (a b : List De) (ha : SzL a) (hb : SzL b) (hla : a.length < 100000) (hcan : CanJoin a b) : Ct Tryz.prog 10 [.fz 7 (a.map deA), .fz 7 (b.map deA)] []
    (fun r s => ∃ id rows, r = .tup [.sl id 0 rows.length rows.length, .int .i64 0] ∧ OwnD s id rows ∧ s.all mpOk = true ∧ Srt (rows.map (·.2)) ∧ CkOk (rows.map (·.2)) ∧ ∀ d, d ∈ rows.map (·.2) ↔ d ∈ a ∨ d ∈ b) := by
  have hfa := check_pc a ha
  refine ct_intro Tryz.func10 rfl Tryz.ntmps10 hB10 (by simp) fun h ρ w => goB (N := 66) Tryz.ntmps10 300 ?_
  simp only [go_sem]
  refine pcall (hfa) rfl (N := 66) Tryz.ntmps10 rfl ?_
  rintro _ ⟨n, rfl, hn⟩
  have hn0 : n = 0 := hn.2 hcan.1
  subst hn0
  have d1 : decide ((b.length : Int) > 500) = false := by have := hcan.2.1; simp; omega
  have hcc := concat_ct a b hla (by have := hcan.2.1; omega) [.mp []]
  have hin : ∀ d, d ∈ a ++ b ↔ d ∈ a ∨ d ∈ b := fun d => List.mem_append
  have hlen : (a ++ b).length = a.length + b.length := List.length_append
  have hbl := hcan.2.1
  have hszab : ∀ d ∈ a ++ b, SzD d := fun d hd => ((hin d).1 hd).elim (ha.all d) (hb.all d)
  generalize hq : a ++ b = q at *
  refine goB (N := 66) Tryz.ntmps10 300 ?_
  simp only [go_sem, d1, List.length_map]
  refine acall (hcc) (N := 66) Tryz.ntmps10 rfl ?_
  rintro _ _ ⟨rfl, rfl⟩
  refine goB (N := 66) Tryz.ntmps10 300 ?_
  simp only [go_sem, List.length_map]
  repeat refine And.intro (by first | omega | rfl | (simp; done)) ?_
  refine aloop (ι := Nat × List De) (fun y => q.length - y.1) (fun y => [(28, .int .i64 y.1), (27, .int .i64 q.length), (26, .sl 1 0 q.length q.length), (8, .sl 2 0 y.2.length y.2.length), (7, .mp 0)]) (fun y => .mp (hM y.2) :: .arr 7 (q.map deA) :: .arr 7 (hdf 5 y.2) :: tlF y.2)
    (fun y => y.1 ≤ q.length ∧ y.2.length ≤ y.1 ∧ (∀ d, d ∈ y.2 ↔ d ∈ q.take y.1) ∧ y.2.Pairwise fun x y => x.st ≠ y.st) (0, []) ⟨by simp, by simp, by simp, .nil⟩ ?_ ?_
  · refine Shift.trans (Shift.nilsl 8 7 rfl) (Shift.weakS ?_ rfl)
    simp only [wk, go_sem]
  rintro ⟨i, o⟩ ⟨g1, g2, g3, g4⟩ J hJ
  simp only at g1 g2 g3 g4 hJ ⊢
  have hol := hdf_len o 5
  by_cases gi : i < q.length
  · have di : decide ((i : Int) < (q.length : Int)) = true := by simp; omega
    have hst := mem_step gi
    have p1 := deA_get q i gi
    have hszi : SzD q[i] := hszab _ (List.getElem_mem gi)
    have hzo : ∀ d ∈ o, d ∈ q := fun d hd => List.take_subset _ _ ((g3 d).1 hd)
    rcases hM_find q[i].st o with ⟨m1, m2⟩ | ⟨k, v, m1, m2, m3⟩
    · have happ := hJ (i + 1, o ++ [q[i]]) ⟨by simp only; omega, by simp; omega, fun d => by rw [hst, List.mem_append, List.mem_singleton, g3], by
        rw [List.pairwise_append]
        exact ⟨g4, List.pairwise_singleton .., fun x hx y hy => by rw [List.mem_singleton.1 hy]; exact m2 x hx⟩⟩ (by simp only; omega)
      have hcp := (copiedS_ct0 q[i] hszi.seen).liftN rfl (by rintro _ _ ⟨_, rfl⟩; rfl)
      have hlow1 := low_hM (3 * o.length + 6) (o ++ [q[i]])
      have hlow3 := low_des (3 * o.length + 6) q
      rw [← hM_push] at happ hlow1
      simp only [List.length_append, List.length_cons, List.length_nil, Nat.zero_add] at happ
      have hap2 := fun jk lit => (tabF_step (.mp (hM o ++ [(stA q[i].st, deA q[i])])) (.arr 7 (q.map deA)) o q[i] jk lit) ▸ happ
      have hlo2 := fun jk lit => tabF_low (.mp (hM o ++ [(stA q[i].st, deA q[i])])) (.arr 7 (q.map deA)) o q[i] jk lit hlow1 hlow3
      clear happ hJ
      simp only [deA, stA] at m1 hcp
      refine goB (N := 66) Tryz.ntmps10 300 ?_
      simp only [go_sem, di, p1, List.length_map, m1, tlF_len, tlF_get, tlF_get0, tlF_set, tlF_set0, List.cons_append, List.nil_append, List.append_assoc, List.set_cons_succ, List.getD_cons_succ]
      repeat refine And.intro (by first | omega | rfl | kernel_rfl | exact .inl rfl | exact .inl trivial | (simp; done) | (simp; omega)) ?_
      refine acall (hcp _) (N := 66) Tryz.ntmps10 rfl ?_
      rintro _ _ ⟨_, _, ⟨rfl, rfl⟩, rfl, rfl⟩
      simp only [shB_two, List.length_cons, List.length_append, List.length_nil, shV_deH, List.append_assoc, List.cons_append, List.nil_append, tlF_len]
      simp only [deH]
      refine go (N := 66) Tryz.ntmps10 300 ?_
      simp only [go_sem, tlF_len, tlF_get, tlF_get0, tlF_set, tlF_set0, List.cons_append, List.nil_append, List.append_assoc, List.set_cons_succ, List.getD_cons_succ, hol]
      repeat refine And.intro (by first | omega | rfl | exact .inl rfl | exact .inl trivial | (simp; done) | (simp; omega)) ?_
      rw [show (i : Int) + 1 = ((i + 1 : Nat) : Int) by omega]
      refine ainv (hap2 _ _) (Shift.low (3 * o.length + 6) (by simp) (by simp [tlF_len]) (hlo2 _ _) ?_)
      simp only [wkl, lowV, lowC, Av.get, go_sem]
      repeat first | omega | refine And.intro (by omega) ?_
    · have hv := hzo v m2
      have hsm := same_pc v q[i] (hszab v hv).seen hszi.seen
      simp only [deA, stA] at hsm m1
      have hs2 : sameP v q[i] = true := sameP_iff.2 (hcan.2.2.1 v (by rw [hq]; exact hv) q[i] (by rw [hq]; exact List.getElem_mem gi) m3)
      have hvq := sameP_iff.1 hs2
      have hfin := hJ (i + 1, o) ⟨by simp only; omega, by simp only; omega, fun d => by
        rw [hst, ← g3]
        refine ⟨.inl, fun h => h.elim id fun h => ?_⟩
        rw [h, ← hvq]
        exact m2, g4⟩ (by simp only; omega)
      rw [hs2] at hsm
      have hap2 := fun r => (tabF_same (.mp (hM o)) (.arr 7 (q.map deA)) o r) ▸ hfin
      have hlo2 := fun r => tabF_low0 (.mp (hM o)) (.arr 7 (q.map deA)) o r (low_hM _ _) (low_des _ _)
      clear hfin hJ
      refine goB (N := 66) Tryz.ntmps10 300 ?_
      simp only [go_sem, di, p1, List.length_map, m1, tlF_len, tlF_get, tlF_get0, tlF_set, tlF_set0, List.cons_append, List.nil_append, List.append_assoc, List.set_cons_succ, List.getD_cons_succ]
      repeat refine And.intro (by first | omega | rfl | kernel_rfl | exact .inl rfl | exact .inl trivial | (simp; done) | (simp; omega)) ?_
      refine pcall1 (hsm) rfl (N := 66) Tryz.ntmps10 rfl (goB (N := 66) Tryz.ntmps10 300 ?_)
      simp only [go_sem, List.length_map, tlF_len, tlF_get, tlF_get0, tlF_set, tlF_set0, List.cons_append, List.nil_append, List.append_assoc, List.set_cons_succ, List.getD_cons_succ]
      repeat refine And.intro (by first | omega | rfl | kernel_rfl | exact .inl rfl | exact .inl trivial | (simp; done) | (simp; omega)) ?_
      rw [show (i : Int) + 1 = ((i + 1 : Nat) : Int) by omega]
      refine ainv (hap2 _) (Shift.low (3 * o.length + 3) (by simp) (by simp [tlF_len]) (hlo2 _) ?_)
      simp only [wkl, lowV, lowC, Av.get, go_sem]
      repeat first | omega | refine And.intro (by omega) ?_
  · have di : decide ((i : Int) < (q.length : Int)) = false := by simp; omega
    have ho : ∀ d, d ∈ o ↔ d ∈ a ∨ d ∈ b := fun d => by
      rw [g3, List.take_of_length_le (by omega), hin]
    obtain ⟨rows, w1, w2, w3⟩ := rows_hdf o 5
    have hrl : rows.length = o.length := by rw [← w2, List.length_map]
    have hss := sortH_ct (g := 46) hB46 join1H_calls (s := .mp (hM o) :: .arr 7 (q.map deA) :: .arr 7 (hdf 5 o) :: tlF o) (bid := 2) (l := rows) (by rw [w1]; rfl) (by omega)
    rw [hrl] at hss
    refine goB (N := 66) Tryz.ntmps10 300 ?_
    simp only [go_sem, di]
    refine acall (hss) (N := 66) Tryz.ntmps10 rfl ?_
    rintro _ _ ⟨rfl, o', rfl, hp, hs⟩
    have hp2 : (o'.map (·.2)).Perm o := by rw [← w2]; exact hp.map _
    have hsr := srt_sorted hp2 (List.pairwise_map.2 hs) g4
    have ho' : ∀ d, d ∈ o'.map (·.2) ↔ d ∈ a ∨ d ∈ b := fun d => by rw [hp2.mem_iff, ho]
    have hol' := hp.length_eq
    have hck := check_pc (o'.map (·.2)) ⟨by simp; omega, fun d hd => hszab _ ((hin d).2 ((ho' d).1 hd))⟩
    clear hJ
    simp only [List.set_cons_succ, List.set_cons_zero]
    have hown : OwnD (.mp (hM o) :: .arr 7 (q.map deA) :: .arr 7 (o'.map rowH) :: tlF o) 2 o' := ⟨rfl, fun x hx => by
      obtain ⟨i, h1, h2, h3⟩ := w3 x (hp.mem_iff.1 hx)
      rw [h2, List.getD_eq_getElem?_getD, show 5 + 3 * i = (3 * i + 2) + 1 + 1 + 1 by omega, List.getElem?_cons_succ, List.getElem?_cons_succ, List.getElem?_cons_succ, tlF_seen o i x.2 h3]
      rfl, fun x hx => by
      have := (hszab _ ((hin _).2 ((ho' x.2).1 (List.mem_map.2 ⟨x, hx, rfl⟩)))).seen
      omega⟩
    have hbor := Ct.borrow (args := [.sl 2 0 o'.length o'.length]) 2 (.mp (hM o) :: .arr 7 (q.map deA) :: .arr 7 (o'.map rowH) :: tlF o) (by simp only [List.map_cons, List.map_nil]; rw [own_bor hown]; exact hck) (by rintro r ⟨n, rfl, _⟩; rfl)
    rw [hol', hrl] at hbor
    refine goB (N := 66) Tryz.ntmps10 300 ?_
    simp only [go_sem]
    refine acall (hbor) (N := 66) Tryz.ntmps10 rfl ?_
    rintro _ _ ⟨⟨n2, rfl, hn2⟩, rfl⟩
    have hn0 : n2 = 0 := hn2.2 (hcan.2.2.2 _ hsr ho')
    subst hn0
    refine goB (N := 66) Tryz.ntmps10 300 ?_
    simp only [go_sem]
    refine aret [4, 5] rfl ⟨2, o', by simp [resV, Av.get, Av.put, hol', hrl], hown, ?_, hsr, hn2.1 rfl, ho'⟩
    simp only [List.all_cons, mpOk_tlF]
    rfl
end Go.Proofs.YtkomcdohejibmaaGreatDoor
/- Names of papers, papers: the office; papers compared. Own work of this seat. -/
set_option maxRecDepth 100000
set_option linter.unusedSimpArgs false
set_option linter.unusedVariables false
namespace Go.Proofs.YtkomcdohejibmaaGreatDoor
open Go Go.Av Go.RowKit

instance : DecidableEq Pp := fun a b => decidable_of_iff (a.name = b.name ∧ a.vers = b.vers) (by cases a; cases b; simp)
theorem keysN_ct (m : Nat) (s : List Blk) (es : List (AV × AV)) (hm : s[m]? = some (.mp es)) : Ct Tryz.prog 100 [.mp m] s (fun r s' => r = .fn (.func 154) [.ptr s.length 1 0 0] ∧ s' = s ++ [.arr 1 [.mp m]]) := by
  refine ct_intro Tryz.func100 rfl Tryz.ntmps100 hB100 (by simp) fun h ρ w => goF (N := 4) Tryz.ntmps100 300 ?_
  simp only [go_sem]
  repeat refine And.intro (by first | omega | rfl | exact .inl rfl | exact .inl trivial | (simp; done) | (simp; omega)) ?_
  exact aret [2] rfl ⟨rfl, rfl⟩
/-- names that are there -/
def nM (ks : List (List UInt8)) : List (AV × AV) := ks.map fun k => (.str k, .bool true)
theorem nM_find (k : List UInt8) : ∀ (ks : List (List UInt8)) (n : Nat), (mfind .string (.str k) (nM ks) n = some none ∧ k ∉ ks) ∨ ∃ i, mfind .string (.str k) (nM ks) n = some (some (n + i, .bool true)) ∧ ks[i]? = some k
  | [], n => .inl ⟨rfl, by simp⟩
  | g :: r, n => by
    simp only [nM, List.map_cons, mfind, keyEq]
    cases hb : k == g with
    | true =>
      have : k = g := by simpa using hb
      exact .inr ⟨0, by simp, by simp [this]⟩
    | false =>
      have hne : k ≠ g := by simpa using hb
      rcases nM_find k r (n + 1) with ⟨h, h0⟩ | ⟨i, h1, h2⟩
      · exact .inl ⟨h, by simp [hne, h0]⟩
      · refine .inr ⟨i + 1, ?_, by simpa using h2⟩
        simp only
        rw [show n + (i + 1) = n + 1 + i by omega]
        exact h1
theorem nM_push (ks : List (List UInt8)) (k : List UInt8) : nM ks ++ [(.str k, .bool true)] = nM (ks ++ [k]) := by simp [nM]
theorem nM_set (ks : List (List UInt8)) (i : Nat) (k : List UInt8) (h : ks[i]? = some k) : (nM ks).set i (.str k, .bool true) = nM ks := by
  apply List.ext_getElem?
  intro j
  rw [List.getElem?_set]
  split
  · rename_i e
    subst e
    have h2 := (List.getElem?_eq_some_iff.1 h).2
    simp [nM, h, (List.getElem?_eq_some_iff.1 h).1, h2]
  · rfl
theorem low_nM (n : Nat) (ks : List (List UInt8)) : lowB n (.mp (nM ks)) = true := by
  show (nM ks).all _ = true
  rw [nM, List.all_map, List.all_eq_true]
  intro x hx
  rfl
def namesL (l : List De) : List (List UInt8) := srtK (dd (l.map (·.paper)))
set_option maxHeartbeats 4000000 in
theorem names_pc (l : List De) (hl : SzL l) (hlen : l.length ≤ 1000) : Pc Tryz.prog 47 [.fz 7 (l.map deA)] (· = .fz 1 ((namesL l).map .str)) := by
  refine pc_intro (ct_intro Tryz.func47 rfl Tryz.ntmps47 hB47 (by simp) fun h ρ w => goB (N := 20) Tryz.ntmps47 300 ?_)
  simp only [go_sem, List.length_map]
  refine aloop (ι := Nat × List (List UInt8)) (fun y => l.length - y.1) (fun y => [(9, .int .i64 y.1), (8, .int .i64 l.length), (7, .fz 7 (l.map deA)), (3, .mp 0)])
    (fun y => [.mp (nM y.2)]) (fun y => y.1 ≤ l.length ∧ y.2.Nodup ∧ y.2.length ≤ y.1 ∧ ∀ k, k ∈ y.2 ↔ k ∈ (l.take y.1).map (·.paper)) (0, []) ⟨by simp, .nil, by simp, by simp⟩ ?_ ?_
  · refine Shift.weakS ?_ rfl
    simp only [wk, go_sem]
  rintro ⟨i, ks⟩ ⟨g1, g2, g3, g4⟩ J hJ
  simp only at g1 g2 g3 g4 hJ ⊢
  by_cases gi : i < l.length
  · have di : decide ((i : Int) < (l.length : Int)) = true := by simp; omega
    have hst := map_step l i gi
    have hlow : ∀ x : Blk, ([Blk.mp (nM ks), x].take 1).all (lowB 1) = true := fun x => by
      simp only [List.take_succ_cons, List.take_zero, List.all_cons, List.all_nil, low_nM, Bool.and_self]
    rcases nM_find l[i].paper ks 0 with ⟨m1, m2⟩ | ⟨q, m1, m2⟩
    · have hfin := hJ (i + 1, ks ++ [l[i].paper]) ⟨by simp only; omega, by
        rw [List.nodup_append]
        exact ⟨g2, by simp, fun a ha b hb e => m2 (by rw [List.mem_singleton.1 hb] at e; rw [← e]; exact ha)⟩, by simp; omega, fun k => by
        simp only
        rw [hst, List.map_append, List.mem_append, List.mem_append, g4]
        simp⟩ (by simp only; omega)
      rw [← nM_push] at hfin
      refine goB (N := 20) Tryz.ntmps47 300 ?_
      simp only [go_sem, di, deA_get l i gi, List.length_map, m1]
      repeat refine And.intro (by first | omega | rfl | kernel_rfl | exact .inl rfl | exact .inl trivial | (simp; done) | (simp; omega)) ?_
      rw [show (i : Int) + 1 = ((i + 1 : Nat) : Int) by omega]
      refine ainv hfin (Shift.low 1 (by simp) (by simp) ?_ ?_)
      · have := low_nM 1 (ks ++ [l[i].paper])
        rw [← nM_push] at this
        simp only [List.take_succ_cons, List.take_zero, List.all_cons, List.all_nil, this, Bool.and_self]
      · simp only [wkl, lowV, lowC, Av.get, go_sem]
    · have m3 : l[i].paper ∈ ks := List.mem_of_getElem? m2
      have hfin := hJ (i + 1, ks) ⟨by simp only; omega, g2, by simp only; omega, fun k => by
        simp only
        rw [hst, List.map_append, List.mem_append, ← g4]
        exact ⟨.inl, fun h => h.elim id fun h => by simp at h; rw [h]; exact m3⟩⟩ (by simp only; omega)
      have hset := nM_set ks _ _ m2
      rw [Nat.zero_add] at m1
      refine goB (N := 20) Tryz.ntmps47 300 ?_
      simp only [go_sem, di, deA_get l i gi, List.length_map, m1, hset]
      repeat refine And.intro (by first | omega | rfl | kernel_rfl | exact .inl rfl | exact .inl trivial | (simp; done) | (simp; omega)) ?_
      rw [show (i : Int) + 1 = ((i + 1 : Nat) : Int) by omega]
      refine ainv hfin (Shift.low 1 (by simp) (by simp) (hlow _) ?_)
      simp only [wkl, lowV, lowC, Av.get, go_sem]
  have di : decide ((i : Int) < (l.length : Int)) = false := by simp; omega
  have hi : i = l.length := by omega
  rw [hi, List.take_length] at g4
  clear hJ
  have hks : (nM ks).map (·.1) = ks.map .str := by simp [nM]
  have hkl : ∀ k ∈ ks, k.length ≤ 1000000 := fun k hk => by
    rw [g4, List.mem_map] at hk
    obtain ⟨d, hd, rfl⟩ := hk
    have := (hl.all d hd).paper
    omega
  have hkc := keysN_ct 0 [.mp (nM ks)] _ rfl
  have hsc := sorted_ct givesN (enters_of Tryz.func154 (by kernel_rfl) rfl) (s := [.mp (nM ks), .arr 1 [.mp 0]]) (j := 1) (m := 0) ks rfl rfl hks (by omega) hkl
  have hnl : namesL l = srtK ks := (srtK_dd g2 g4).symm
  rw [hnl]
  refine goB (N := 20) Tryz.ntmps47 300 ?_
  simp only [go_sem, di]
  refine acall (hkc) (N := 20) Tryz.ntmps47 rfl ?_
  rintro _ _ ⟨rfl, rfl⟩
  refine goB (N := 20) Tryz.ntmps47 300 ?_
  simp only [go_sem]
  refine acall (hsc) (N := 20) Tryz.ntmps47 rfl ?_
  rintro _ _ ⟨rfl, rfl⟩
  refine goB (N := 20) Tryz.ntmps47 300 ?_
  simp only [go_sem]
  exact aret [2] rfl ⟨rfl, rfl⟩
theorem names_len (l : List De) : (namesL l).length ≤ l.length := by
  have h2 := (srtK_perm (dd (l.map (·.paper)))).length_eq
  have h3 := dd_len (l.map (·.paper))
  unfold namesL
  rw [List.length_map] at h3
  omega
end Go.Proofs.YtkomcdohejibmaaGreatDoor
