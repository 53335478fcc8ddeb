/- Copies of deeds that may be written. Own work of this seat. -/
import Derived.Test.YtkomcdohejibmaaGreatDoorY46
import Derived.Test.YtkomcdohejibmaaGreatDoorY48
import Derived.Test.YtkomcdohejibmaaGreatDoorY22
import Derived.Test.YtkomcdohejibmaaGreatDoorY18
set_option maxRecDepth 100000
set_option linter.unusedSimpArgs false
set_option linter.unusedVariables false
namespace Go.Proofs.YtkomcdohejibmaaGreatDoor
open Go Go.Av Go.RowKit

theorem cloneS_ct (l : List St) (hl : l.length < 1000000) : Ct Tryz.prog 99 [.fz 2 (l.map stA)] [] (fun r s => r = .sl 0 0 l.length l.length ∧ s = [.arr 2 (l.map stA)]) := by
  refine ct_intro Tryz.func99 rfl Tryz.ntmps99 hB99 (by simp) fun h ρ w => go (N := 8) Tryz.ntmps99 300 ?_
  cases hq : l.map stA with
  | nil =>
    have h0 : l.length = 0 := by simpa using congrArg List.length hq
    rw [h0]
    simp only [go_sem, hq]
    intro b
    cases b with
    | true =>
      refine go (N := 8) Tryz.ntmps99 300 ?_
      simp only [go_sem]
      refine ARet.shift (Shift.nilsl 2 2 rfl) ?_
      exact aret [2] rfl ⟨rfl, rfl⟩
    | false =>
      refine go (N := 8) Tryz.ntmps99 300 ?_
      simp only [go_sem]
      repeat refine And.intro (by first | omega | rfl | exact .inl rfl | exact .inl trivial | (simp; done)) ?_
      exact aret [2] rfl ⟨rfl, rfl⟩
  | cons a r =>
    have hlen : (a :: r).length < 1000000 := by rw [← hq]; simpa using hl
    have hll : l.length = (a :: r).length := by rw [← hq]; simp
    rw [hll]
    simp only [List.length_cons] at hlen ⊢
    simp only [go_sem]
    repeat refine And.intro (by first | omega | rfl | exact .inl rfl | exact .inl trivial | (simp; done) | (simp; omega)) ?_
    exact aret [2] rfl ⟨by simp [resV, Av.get, Av.put], rfl⟩

/-- a deed whose list of stamps lies in the block j -/
def deH (j : Nat) (d : De) : AV := .agg [.str d.st.dept, .int .i64 d.st.no, .sl j 0 d.seen.length d.seen.length, .int .i64 d.kind, .str d.paper, .str d.text, .str d.person]
def hde : Nat → List De → List AV
  | _, [] => []
  | j, d :: r => deH j d :: hde (j + 2) r
def blkS (d : De) : Blk := .arr 2 (d.seen.map stA)
theorem hde_len : ∀ (l : List De) (j : Nat), (hde j l).length = l.length
  | [], _ => rfl
  | _ :: r, j => by simp [hde, hde_len r (j + 2)]
theorem hde_snoc : ∀ (l : List De) (j : Nat) (x : De), hde j (l ++ [x]) = hde j l ++ [deH (j + 2 * l.length) x]
  | [], j, x => rfl
  | y :: r, j, x => by
    have := hde_snoc r (j + 2) x
    simp only [List.cons_append, hde, this, List.length_cons]
    rw [show j + 2 + 2 * r.length = j + 2 * (r.length + 1) by omega]
theorem shC_st (n : Nat) (l : List St) : (l.map stA).map (shC n) = l.map stA := by
  rw [List.map_map]
  exact List.map_congr_left fun s _ => rfl
theorem shB_blkS (n : Nat) (d : De) : shB n (blkS d) = blkS d := by
  unfold blkS
  rw [shB, shC_st]
theorem shC_deH (n j : Nat) (d : De) : shC n (deH j d) = deH (j + n) d := rfl
theorem shV_deH (n : Nat) (d : De) : shV n (deH 0 d) = deH n d := by simp [shV, deH, sh1]
theorem shC_hde (n : Nat) : ∀ (l : List De) (j : Nat), (hde j l).map (shC n) = hde (j + n) l
  | [], _ => rfl
  | d :: r, j => by
    have := shC_hde n r (j + 2)
    simp only [hde, List.map_cons, this, shC_deH]
    rw [show j + 2 + n = j + n + 2 by omega]
theorem low_hde (n : Nat) : ∀ (l : List De) (j : Nat), j + 2 * l.length ≤ n + 1 → (flat (hde j l)).all (lowC n) = true
  | [], _, _ => rfl
  | x :: r, j, h => by
    simp only [List.length_cons] at h
    have ih := low_hde n r (j + 2) (by omega)
    have hj : decide (j < n) = true := by simp; omega
    simp only [hde, flat, deH, cellsOf, List.cons_append, List.nil_append, List.all_cons, ih, lowC, hj]
    rfl
theorem low_blkS (n : Nat) (d : De) : lowB n (blkS d) = true := low_all (stA_frz d.seen)

theorem copiedS_ct0 (d : De) (hl : d.seen.length < 1000000) : Ct Tryz.prog 45 [deA d] [] (fun r s => r = deH 0 d ∧ s = [blkS d, .arr 7 [deH 0 d]]) := by
  have hc := (cloneS_ct d.seen hl).liftN rfl (by rintro _ _ ⟨_, rfl⟩; rfl)
  simp only [deA]
  refine ct_intro Tryz.func45 rfl Tryz.ntmps45 hB45 (by simp) fun h ρ w => go (N := 8) Tryz.ntmps45 300 ?_
  simp only [go_sem]
  refine acall (hc _) (N := 8) Tryz.ntmps45 rfl ?_
  rintro _ _ ⟨_, _, ⟨rfl, rfl⟩, rfl, rfl⟩
  simp only [shV, sh1, shB, List.map_cons, List.map_nil, shC_st]
  refine go (N := 8) Tryz.ntmps45 300 ?_
  simp only [go_sem]
  refine ARet.shift (Shift.ren [2, 1] rfl) ?_
  simp only [renE, renV, ren1, renS, renB, renC, idx, List.map_cons, List.map_nil, Nat.reduceBEq, cond_true, cond_false, Nat.zero_add, Nat.reduceAdd, List.getD_cons_succ, List.getD_cons_zero]
  have hst : (d.seen.map stA).map (renC [2, 1]) = d.seen.map stA := by
    rw [List.map_map]
    exact List.map_congr_left fun s _ => rfl
  rw [hst]
  exact aretc [.cell 2 41] rfl [deH 0 d] (by simp only [ResOk, sideIs, go_sem, deH]) ⟨by simp [resT, deH], rfl⟩

theorem shB_two (n : Nat) (d : De) : [blkS d, Blk.arr 7 [deH 0 d]].map (shB n) = [blkS d, .arr 7 [deH n d]] := by
  simp only [List.map_cons, List.map_nil, shB_blkS]
  simp [shB, shC_deH]
/-- the table of copies -/
def tlS : List De → List Blk
  | [] => []
  | d :: r => .arr 7 [deA d] :: blkS d :: tlS r
def tabS (l : List De) : List Blk := .arr 7 (hde 2 l) :: tlS l
theorem tlS_len : ∀ l, (tlS l).length = 2 * l.length
  | [] => rfl
  | d :: r => by simp only [tlS, List.length_cons, tlS_len r]; omega
theorem tlS_snoc (d : De) : ∀ l, tlS (l ++ [d]) = tlS l ++ [.arr 7 [deA d], blkS d]
  | [] => rfl
  | x :: r => by simp only [List.cons_append, tlS, tlS_snoc d r]
theorem tlS_get (l : List De) (r : List Blk) (k : Nat) : (tlS l ++ r).getD (2 * l.length + k) .dead = r.getD k .dead := by
  rw [List.getD_eq_getElem?_getD, List.getElem?_append_right (by rw [tlS_len]; omega), tlS_len, Nat.add_sub_cancel_left, ← List.getD_eq_getElem?_getD]
theorem tlS_get0 (l : List De) (b : Blk) (r : List Blk) : (tlS l ++ b :: r).getD (2 * l.length) .dead = b := tlS_get l (b :: r) 0
theorem tlS_set (l : List De) (r : List Blk) (k : Nat) (b : Blk) : (tlS l ++ r).set (2 * l.length + k) b = tlS l ++ r.set k b := by
  rw [List.set_append_right _ _ (by rw [tlS_len]; omega), tlS_len, Nat.add_sub_cancel_left]
theorem tlS_set0 (l : List De) (b c : Blk) (r : List Blk) : (tlS l ++ b :: r).set (2 * l.length) c = tlS l ++ c :: r := tlS_set l (b :: r) 0 c
theorem low_tlS (n : Nat) : ∀ l, (tlS l).all (lowB n) = true
  | [] => rfl
  | d :: r => by simp only [tlS, List.all_cons, low_de, low_blkS, low_tlS n r, Bool.and_self]
theorem shB_tlS (n : Nat) : ∀ l, (tlS l).map (shB n) = tlS l
  | [] => rfl
  | d :: r => by
    simp only [tlS, List.map_cons, shB_blkS, shB_tlS n r]
    rfl
theorem mpOk_tlS : ∀ l, (tlS l).all mpOk = true
  | [] => rfl
  | d :: r => by simp only [tlS, List.all_cons, mpOk_tlS r]; rfl
theorem tabS_step (o : List De) (d : De) (jk lit : Blk) : (Blk.arr 7 (hde 2 (o ++ [d])) :: tlS (o ++ [d])) = (Blk.arr 7 (hde 2 o ++ [deH (2 * o.length + 1 + 1) d]) :: (tlS o ++ [.arr 7 [deA d], blkS d, jk, lit])).take (2 * o.length + 3) := by
  rw [hde_snoc, tlS_snoc, show 2 * o.length + 3 = (2 * o.length + 2) + 1 by omega, List.take_succ_cons, List.take_append, tlS_len, List.take_of_length_le (by rw [tlS_len]; omega), show 2 * o.length + 2 - 2 * o.length = 2 by omega, show 2 + 2 * o.length = 2 * o.length + 1 + 1 by omega]
  rfl
theorem tabS_same (o : List De) (x : Blk) : (Blk.arr 7 (hde 2 o) :: tlS o) = (Blk.arr 7 (hde 2 o) :: (tlS o ++ [x])).take (2 * o.length + 1) := by
  rw [List.take_succ_cons, List.take_append, tlS_len, List.take_of_length_le (by rw [tlS_len]; omega), Nat.sub_self, List.take_zero, List.append_nil]
theorem tabS_low0 (o : List De) (x : Blk) : ((Blk.arr 7 (hde 2 o) :: (tlS o ++ [x])).take (2 * o.length + 1)).all (lowB (2 * o.length + 1)) = true := by
  rw [← tabS_same, List.all_cons, low_tlS, Bool.and_true]
  exact low_hde _ _ _ (by omega)
theorem tabS_low (o : List De) (d : De) (jk lit : Blk) : ((Blk.arr 7 (hde 2 o ++ [deH (2 * o.length + 1 + 1) d]) :: (tlS o ++ [.arr 7 [deA d], blkS d, jk, lit])).take (2 * o.length + 3)).all (lowB (2 * o.length + 3)) = true := by
  rw [← tabS_step, List.all_cons, low_tlS, Bool.and_true]
  exact low_hde _ _ _ (by simp; omega)
theorem chosenS_ct0 (f : FuncId) (caps : List AV) (hc : caps.all frozen0 = true) (p : De → Bool) (l : List De) (hl : Sz l) (hf : ∀ x ∈ l, Pc Tryz.prog f (deA x :: caps) (· = .bool (p x))) :
    Ct Tryz.prog 38 [.fz 7 (l.map deA), .fn (.func f) caps] [] (fun v s => v = .sl 0 0 (l.filter p).length (l.filter p).length ∧ s = tabS (l.filter p)) := by
  have h1 := hl.1
  refine ct_intro Tryz.func38 rfl Tryz.ntmps38 hB38 (by simp) fun h ρ w => goB (N := 24) Tryz.ntmps38 300 ?_
  simp only [go_sem]
  refine aloop (ι := Nat) (fun i => l.length - i) (fun i => [(10, .int .i64 i), (9, .int .i64 l.length), (8, .fz 7 (l.map deA)), (5, .sl 0 0 ((l.take i).filter p).length ((l.take i).filter p).length), (1, .fn (.func f) caps)])
    (fun i => .arr 7 (hde 2 ((l.take i).filter p)) :: tlS ((l.take i).filter p)) (fun i => i ≤ l.length) 0 (by simp) ?_ ?_
  · refine Shift.trans (Shift.nilsl 5 7 rfl) (Shift.weakS ?_ rfl)
    simp only [wk, go_sem, List.length_map, List.filter_nil]
  · intro i g1 J hJ
    by_cases gi : i < l.length
    · have di : decide ((i : Int) < (l.length : Int)) = true := by simp; omega
      have hfx := hf _ (List.getElem_mem gi)
      have hcp := (copiedS_ct0 l[i] (hl.2 _ (List.getElem_mem gi))).liftN rfl (by rintro _ _ ⟨_, rfl⟩; rfl)
      have hst := filter_step p l i gi
      have hle : ((l.take i).filter p).length ≤ i := Nat.le_trans (List.length_filter_le _ _) (by simp; omega)
      generalize (l.take i).filter p = o at *
      have hol := hde_len o 2
      have hfin := hJ (i + 1) (by omega) (by omega)
      simp only [hst] at hfin
      simp only [deA] at hfx hcp
      cases hp : p l[i] with
      | true =>
        rw [hp] at hfx hfin
        refine goB (N := 24) Tryz.ntmps38 300 ?_
        simp only [go_sem, di, deA_get l i gi, List.length_map, tlS_len, tlS_get, tlS_get0, tlS_set, tlS_set0, List.cons_append, List.set_cons_succ, List.getD_cons_succ]
        repeat refine And.intro (by first | omega | rfl | (simp; omega)) ?_
        refine pcall1 hfx (nr1_cons rfl hc) (N := 24) Tryz.ntmps38 rfl (goB (N := 24) Tryz.ntmps38 300 ?_)
        simp only [go_sem, List.length_map, tlS_len, tlS_get, tlS_get0, tlS_set, tlS_set0, List.cons_append, List.set_cons_succ, List.getD_cons_succ]
        refine acall (hcp _) (N := 24) Tryz.ntmps38 rfl ?_
        rintro _ _ ⟨_, _, ⟨rfl, rfl⟩, rfl, rfl⟩
        simp only [shB_two, List.length_cons, List.length_append, List.length_nil, shV_deH, List.append_assoc, List.cons_append, List.nil_append, tlS_len]
        simp only [deH]
        refine go (N := 24) Tryz.ntmps38 300 ?_
        simp only [go_sem, tlS_len, tlS_get, tlS_get0, tlS_set, tlS_set0, List.cons_append, List.nil_append, List.append_assoc, List.set_cons_succ, List.getD_cons_succ, hol]
        repeat refine And.intro (by first | omega | rfl | exact .inl rfl | exact .inl trivial | (simp; done) | (simp; omega)) ?_
        rw [show (i : Int) + 1 = ((i + 1 : Nat) : Int) by omega]
        simp only [if_true, List.length_append, List.length_cons, List.length_nil, Nat.zero_add] at hfin
        have hfin2 := fun jk lit => (tabS_step o l[i] jk lit) ▸ hfin
        refine ainv (hfin2 _ _) (Shift.low (2 * o.length + 3) (by simp) (by simp [tlS_len]) (tabS_low o l[i] _ _) ?_)
        simp only [wkl, lowV, lowC, Av.get, go_sem, hc, low_caps hc]
        omega
      | false =>
        rw [hp] at hfx hfin
        refine goB (N := 24) Tryz.ntmps38 300 ?_
        simp only [go_sem, di, deA_get l i gi, List.length_map, tlS_len, tlS_get, tlS_get0, tlS_set, tlS_set0, List.cons_append, List.set_cons_succ, List.getD_cons_succ]
        repeat refine And.intro (by first | omega | rfl | (simp; omega)) ?_
        refine pcall1 hfx (nr1_cons rfl hc) (N := 24) Tryz.ntmps38 rfl (goB (N := 24) Tryz.ntmps38 300 ?_)
        simp only [go_sem, List.length_map]
        repeat refine And.intro (by first | omega | rfl | exact .inl rfl | exact .inl trivial | (simp; done) | (simp; omega)) ?_
        rw [show (i : Int) + 1 = ((i + 1 : Nat) : Int) by omega]
        simp only [Bool.false_eq_true, if_false, List.append_nil] at hfin
        have hfin2 := fun x => (tabS_same o x) ▸ hfin
        refine ainv (hfin2 _) (Shift.low (2 * o.length + 1) (by simp) (by simp [tlS_len]) (tabS_low0 o _) ?_)
        simp only [wkl, lowV, lowC, Av.get, go_sem, hc, low_caps hc]
        omega
    · have di : decide ((i : Int) < (l.length : Int)) = false := by simp; omega
      have : i = l.length := by omega
      subst this
      rw [List.take_length]
      refine goB (N := 24) Tryz.ntmps38 300 ?_
      simp only [go_sem, di]
      exact aret [4] rfl ⟨rfl, rfl⟩
end Go.Proofs.YtkomcdohejibmaaGreatDoor
/- Sorting deeds that may be written. Own work of this seat. -/
set_option maxRecDepth 100000
set_option linter.unusedSimpArgs false
set_option linter.unusedVariables false
namespace Go.Proofs.YtkomcdohejibmaaGreatDoor
open Go Go.Av Go.RowKit

def rowH (x : Nat × De) : AV := deH x.1 x.2
theorem rowH_cells {h : Mem} {ρ : Go.Av.Own} {s : List Blk} {x : Nat × De} {vs : List Value} (r : RL h (Lf ρ s) false vs (cellsOf (rowH x))) : ∃ v2 v3 v4 v5 v6, vs = [.string ⟨x.2.st.dept.toArray⟩, .int .i64 x.2.st.no, v2, v3, v4, v5, v6] := by
  obtain ⟨c2, c3, c4, c5, c6, hcc⟩ : ∃ c2 c3 c4 c5 c6, cellsOf (rowH x) = [.str x.2.st.dept, .int .i64 x.2.st.no, c2, c3, c4, c5, c6] := ⟨_, _, _, _, _, rfl⟩
  rw [hcc] at r
  cases r with | cons a0 r =>
  cases r with | cons a1 r =>
  cases r with | cons a2 r =>
  cases r with | cons a3 r =>
  cases r with | cons a4 r =>
  cases r with | cons a5 r =>
  cases r with | cons a6 r =>
  cases r
  have e0 := inv_str a0
  have e1 := inv_int a1
  subst e0 e1
  exact ⟨_, _, _, _, _, rfl⟩
theorem add2H_calls (h : Mem) (ρ : Go.Av.Own) (s : List Blk) (x y : Nat × De) (vs us : List Value) (r1 : RL h (Lf ρ s) false vs (cellsOf (rowH x))) (r2 : RL h (Lf ρ s) false us (cellsOf (rowH y))) (o1 : ∀ v ∈ vs, v.oneCell' = true) (o2 : ∀ v ∈ us, v.oneCell' = true) (W : World) :
    Calls Tryz.prog 41 #[.agg vs.toArray, .agg us.toArray] W fun e w' => e = .returned (.int .i64 (stCmp x.2.st y.2.st)) ∧ @Same trUp W w' := by
  obtain ⟨v2, v3, v4, v5, v6, rfl⟩ := rowH_cells r1
  obtain ⟨u2, u3, u4, u5, u6, rfl⟩ := rowH_cells r2
  simp only [List.mem_cons, List.not_mem_nil, or_false, forall_eq_or_imp, forall_eq] at o1 o2
  have hp := add2_pcu x.2.st y.2.st v2 v3 v4 v5 v6 u2 u3 u4 u5 u6 o1.2.2.1 o1.2.2.2.1 o1.2.2.2.2.1 o1.2.2.2.2.2.1 o1.2.2.2.2.2.2 o2.2.2.1 o2.2.2.2.1 o2.2.2.2.2.1 o2.2.2.2.2.2.1 o2.2.2.2.2.2.2
  have hq := @Pc.calls trUp _ _ _ _ hp W ( [.agg [.string ⟨x.2.st.dept.toArray⟩, .int .i64 x.2.st.no, v2, v3, v4, v5, v6].toArray, .agg [.string ⟨y.2.st.dept.toArray⟩, .int .i64 y.2.st.no, u2, u3, u4, u5, u6].toArray]) fun h => .cons (.agg _ _ (.cons (.str _) (.cons (.int _ _) (.cons (.raw _) (.cons (.raw _) (.cons (.raw _) (.cons (.raw _) (.cons (.raw _) .nil)))))))) (.cons (.agg _ _ (.cons (.str _) (.cons (.int _ _) (.cons (.raw _) (.cons (.raw _) (.cons (.raw _) (.cons (.raw _) (.cons (.raw _) .nil)))))))) .nil)
  refine Calls.mono hq ?_
  rintro e w' ⟨⟨v, h', rfl, rv⟩, hs⟩
  refine ⟨?_, hs⟩
  cases rv with | int => rfl
theorem join1H_calls (h : Mem) (ρ : Go.Av.Own) (s : List Blk) (x y : Nat × De) (vs us : List Value) (r1 : RL h (Lf ρ s) false vs (cellsOf (rowH x))) (r2 : RL h (Lf ρ s) false us (cellsOf (rowH y))) (o1 : ∀ v ∈ vs, v.oneCell' = true) (o2 : ∀ v ∈ us, v.oneCell' = true) (W : World) :
    Calls Tryz.prog 46 #[.agg vs.toArray, .agg us.toArray] W fun e w' => e = .returned (.int .i64 (stCmp x.2.st y.2.st)) ∧ @Same trUp W w' := by
  obtain ⟨v2, v3, v4, v5, v6, rfl⟩ := rowH_cells r1
  obtain ⟨u2, u3, u4, u5, u6, rfl⟩ := rowH_cells r2
  simp only [List.mem_cons, List.not_mem_nil, or_false, forall_eq_or_imp, forall_eq] at o1 o2
  have hp := join1_pcu x.2.st y.2.st v2 v3 v4 v5 v6 u2 u3 u4 u5 u6 o1.2.2.1 o1.2.2.2.1 o1.2.2.2.2.1 o1.2.2.2.2.2.1 o1.2.2.2.2.2.2 o2.2.2.1 o2.2.2.2.1 o2.2.2.2.2.1 o2.2.2.2.2.2.1 o2.2.2.2.2.2.2
  have hq := @Pc.calls trUp _ _ _ _ hp W ( [.agg [.string ⟨x.2.st.dept.toArray⟩, .int .i64 x.2.st.no, v2, v3, v4, v5, v6].toArray, .agg [.string ⟨y.2.st.dept.toArray⟩, .int .i64 y.2.st.no, u2, u3, u4, u5, u6].toArray]) fun h => .cons (.agg _ _ (.cons (.str _) (.cons (.int _ _) (.cons (.raw _) (.cons (.raw _) (.cons (.raw _) (.cons (.raw _) (.cons (.raw _) .nil)))))))) (.cons (.agg _ _ (.cons (.str _) (.cons (.int _ _) (.cons (.raw _) (.cons (.raw _) (.cons (.raw _) (.cons (.raw _) (.cons (.raw _) .nil)))))))) .nil)
  refine Calls.mono hq ?_
  rintro e w' ⟨⟨v, h', rfl, rv⟩, hs⟩
  refine ⟨?_, hs⟩
  cases rv with | int => rfl

/-- slices.SortFunc by stamps, at deeds that may be written -/
theorem sortH_ct {g : FuncId} (hg : hasBody Tryz.prog g = true)
    (hcmp : ∀ (h : Mem) (ρ : Go.Av.Own) (s : List Blk) (x y : Nat × De) (vs us : List Value), RL h (Lf ρ s) false vs (cellsOf (rowH x)) → RL h (Lf ρ s) false us (cellsOf (rowH y)) → (∀ v ∈ vs, v.oneCell' = true) → (∀ v ∈ us, v.oneCell' = true) → ∀ W, Calls Tryz.prog g #[.agg vs.toArray, .agg us.toArray] W fun e w' => e = .returned (.int .i64 (stCmp x.2.st y.2.st)) ∧ @Same trUp W w')
    {s : List Blk} {bid : Nat} {l : List (Nat × De)} (hs : s[bid]? = some (.arr 7 (l.map rowH))) (hl : l.length < 1000000) :
    Ct Tryz.prog 40 [.sl bid 0 l.length l.length, .fn (.func g) []] s (fun r s' => r = .tup [] ∧ ∃ l' : List (Nat × De), s' = s.set bid (.arr 7 (l'.map rowH)) ∧ l'.Perm l ∧ l'.Pairwise (fun x y => ¬ stLt y.2.st x.2.st)) := by
  have hO : Go.Sort.SWO (Go.Proofs.ltOf fun x y : Nat × De => stCmp x.2.st y.2.st) := ⟨fun x => ltOf_st.irrefl x.2, fun x y z => ltOf_st.trans x.2 y.2 z.2, fun x y z => ltOf_st.ntrans x.2 y.2 z.2⟩
  have h := sort_ct Tryz.sortDe Tryz.isAgg41 Tryz.sizeOf41 hB40 rowH (by decide) (fun _ => rfl) (fun x y : Nat × De => stCmp x.2.st y.2.st) hO hg hcmp hs (by omega)
  refine ⟨h.1, fun hh ρ w vs m r => (h.2 hh ρ w vs m r).mono ?_⟩
  rintro e w' ⟨v, r, s1, h', ρ', h1, ⟨h2, l', h3, h4, h5⟩, h6⟩
  exact ⟨v, r, s1, h', ρ', h1, ⟨h2, l', h3, h4, h5.imp fun hh => by rwa [stCmp_lt] at hh⟩, h6⟩

/-- a list of deeds that may be written: its rows lie in the block id, the stamps of each in a block of their own -/
structure OwnD (s : List Blk) (id : Nat) (rows : List (Nat × De)) : Prop where
  blk : s.getD id .dead = .arr 7 (rows.map rowH)
  seen : ∀ x ∈ rows, s.getD x.1 .dead = blkS x.2
  bnd : ∀ x ∈ rows, x.2.seen.length ≤ 1000000
theorem rows_hde : ∀ (l : List De) (j : Nat), ∃ rows : List (Nat × De), hde j l = rows.map rowH ∧ rows.map (·.2) = l ∧ ∀ x ∈ rows, ∃ i, i < l.length ∧ x.1 = j + 2 * i ∧ l[i]? = some x.2
  | [], _ => ⟨[], rfl, rfl, by simp⟩
  | d :: r, j => by
    obtain ⟨rows, h1, h2, h3⟩ := rows_hde r (j + 2)
    refine ⟨(j, d) :: rows, by simp [hde, h1, rowH], by simp [h2], fun x hx => ?_⟩
    rcases List.mem_cons.1 hx with rfl | hx
    · exact ⟨0, by simp, by simp, by simp⟩
    · obtain ⟨i, hi, h4, h5⟩ := h3 x hx
      exact ⟨i + 1, by simp; omega, by omega, by simpa using h5⟩
theorem tlS_seen : ∀ (l : List De) (i : Nat) (d : De), l[i]? = some d → (tlS l)[2 * i + 1]? = some (blkS d)
  | [], _, _, h => by simp at h
  | x :: r, 0, d, h => by
    simp at h
    subst h
    rfl
  | x :: r, i + 1, d, h => by
    have := tlS_seen r i d (by simpa using h)
    rw [show 2 * (i + 1) + 1 = (2 * i + 1) + 1 + 1 by omega]
    simpa [tlS] using this
end Go.Proofs.YtkomcdohejibmaaGreatDoor
/- A statement whose order is open, walked in each order that it can take. Own work of this seat. -/
set_option linter.unusedSimpArgs false
set_option linter.unusedVariables false
set_option linter.unusedSectionVars false
namespace Go.Av
open Go Go.RowKit
variable [Tr]

/-- the orders of a statement, as a tree -/
inductive Ord3 where
  | leaf
  | step (i : Nat) (t : Ord3)
  | both (a b : Ord3)
def rdy (ops : List Oper) (done : List Nat) : List Nat := (List.range ops.length).filter fun i => !done.contains i && (waits ops i).all done.contains
def Ord3.kids : Ord3 → List Nat
  | .leaf => []
  | .step i _ => [i]
  | .both a b => a.kids ++ b.kids
/-- does the tree tell all orders? -/
def Ord3.okC (ops : List Oper) : List Nat → Ord3 → Bool
  | _, .leaf => true
  | done, .step i t => (rdy ops (i :: done) == t.kids) && t.okC ops (i :: done)
  | done, .both a b => a.okC ops done && b.okC ops done

/-- what is to be shown -/
def TP (c : Cx) (ops : List Oper) (k : List It) : Ord3 → Env → List Blk → Prop
  | .leaf, e, s => AWp c k e s
  | .step i t, e, s => ∀ J : Act → World → Prop, (∀ e' s', TP c ops k t e' s' → ∀ a w, Sim c e' s' a w → J a w) → AWp c (.ops ops (ops[i]?.toList) :: .inv J :: k) e s
  | .both a b, e, s => TP c ops k a e s ∧ TP c ops k b e s

section
variable {c : Cx} {ops : List Oper} {k : List It}
theorem tp_leaf : ∀ {t : Ord3} {e : Env} {s : List Blk}, t.kids = [] → TP c ops k t e s → AWp c k e s
  | .leaf, _, _, _, h => h
  | .step i t, _, _, h0, _ => by cases h0
  | .both a b, _, _, h0, h => tp_leaf (List.append_eq_nil_iff.1 h0).1 h.1
theorem tp_kid {done : List Nat} {i : Nat} : ∀ {t : Ord3} {e : Env} {s : List Blk}, i ∈ t.kids → t.okC ops done = true → TP c ops k t e s →
    ∃ t' : Ord3, (rdy ops (i :: done) == t'.kids) = true ∧ t'.okC ops (i :: done) = true ∧ ∀ J : Act → World → Prop, (∀ e' s', TP c ops k t' e' s' → ∀ a w, Sim c e' s' a w → J a w) → AWp c (.ops ops (ops[i]?.toList) :: .inv J :: k) e s
  | .leaf, _, _, h0, _, _ => by cases h0
  | .step j t, _, _, h0, hok, h => by
    have : i = j := by simpa [Ord3.kids] using h0
    subst this
    simp only [Ord3.okC, Bool.and_eq_true] at hok
    exact ⟨t, hok.1, hok.2, h⟩
  | .both a b, _, _, h0, hok, h => by
    simp only [Ord3.okC, Bool.and_eq_true] at hok
    rcases List.mem_append.1 h0 with h0 | h0
    · exact tp_kid h0 hok.1 h.1
    · exact tp_kid h0 hok.2 h.2
theorem wp_exits {P : Program} {o : Oper} {a : Act} {w : World} {K : Act → World → Prop} {Q Q' : Exit → Act → World → Prop} (hp : ∀ ch a w, Q (.panic ch) a w → Q' (.panic ch) a w) (ho : ∀ a w, Q .outgrown a w → Q' .outgrown a w)
    (hh : o.wp P a w K Q) : o.wp P a w K Q' := by
  have hl : LetsOut Q → LetsOut Q' := fun ⟨a, w, h⟩ => ⟨a, w, ho _ _ h⟩
  unfold Oper.wp at *
  generalize (execOp a.eval o).run P w = r at *
  cases r with
  | ok n w' =>
    cases n <;> simp only [Oper.upon] at hh ⊢ <;>
      first
        | exact hh
        | exact Calls.mono hh (fun e w'' he => by cases e <;> first | exact he | exact hp _ _ _ he | exact hl he)
  | halt x w' => cases x <;> simp only [Oper.upon] at hh ⊢ <;> first | exact hp _ _ _ hh | exact hh

theorem any_of_tree (hwt : ∀ i, i < ops.length → ∀ j ∈ waits ops i, j < ops.length) (hgd : ∀ o ∈ ops, dOk c.fn.ntmps o.dst = true) : ∀ (fuel : Nat) (listed : Array Bool) (done : List Nat) (t : Ord3) (e : Env) (s : List Blk) (a : Act) (w : World), listed.size = ops.length →
    (∀ i, i < ops.length → listed.getD i true = done.contains i) → ((List.range ops.length).filter fun i => !listed.getD i true).length = fuel →
    (rdy ops done == t.kids) = true → t.okC ops done = true → TP c ops k t e s → Sim c e s a w → wpAny c.P .any ops.toArray (WQ c k) fuel listed a w := by
  have hready : ∀ (listed : Array Bool) (done : List Nat), listed.size = ops.length → (∀ i, i < ops.length → listed.getD i true = done.contains i) → (∀ i, i < ops.length → ∀ j ∈ waits ops i, j < ops.length) → ∀ (i : Nat), i ∈ Region.ready .any ops.toArray listed ↔ i ∈ rdy ops done := by
    intro listed done hsz hd hw i
    unfold Region.ready rdy
    simp only [List.mem_filter, List.mem_range, List.size_toArray, Bool.and_eq_true, Bool.not_eq_true']
    refine and_congr_right fun hi => ?_
    rw [hd i hi]
    refine and_congr_right fun _ => ?_
    have : ops[i]? = some ops[i] := by simp [hi]
    have hw := hw i hi
    simp only [List.getElem?_toArray, this, Option.map_some, Option.getD_some, waits] at hw ⊢
    rw [Array.all_eq_true_iff_forall_mem, List.all_eq_true]
    constructor
    · intro h j hj
      have hjl := hw j hj
      simp only [List.mem_map, List.mem_filter, Array.mem_toList_iff] at hj
      obtain ⟨ed, ⟨h1, h2⟩, rfl⟩ := hj
      have := h ed h1
      rw [← hd _ hjl]
      have hjs : ed.on < listed.size := by omega
      simpa [h2, Array.getD, hjs] using this
    · intro h ed hed
      by_cases hb : Region.binds .any ed = true
      · have hm : ed.on ∈ (ops[i].after.toList.filter (Region.binds .any)).map (·.on) := by simp only [List.mem_map, List.mem_filter, Array.mem_toList_iff]; exact ⟨ed, ⟨hed, hb⟩, rfl⟩
        have h1 := h _ hm
        rw [← hd _ (hw _ hm)] at h1
        have hjs : ed.on < listed.size := by have := hw _ hm; omega
        have : listed.getD ed.on false = true := by simpa [Array.getD, hjs] using h1
        simp [this]
      · simp [hb]
  intro fuel
  induction fuel with
  | zero =>
    intro listed done t e s a w hsz hd hf hr hok htp hsim
    have hfn : ((List.range ops.length).filter fun i => !listed.getD i true) = [] := List.eq_nil_of_length_eq_zero hf
    have hempty : rdy ops done = [] := by
      unfold rdy
      rw [List.filter_eq_nil_iff] at hfn ⊢
      intro i hi
      have h1 := hfn i hi
      rw [hd i (by simpa using hi)] at h1
      simp only [Bool.and_eq_true, not_and]
      intro h2
      exact absurd h2 h1
    refine ⟨List.eq_nil_iff_forall_not_mem.2 fun i hi => ?_, ?_⟩
    · rw [hready listed done hsz hd hwt i, hempty] at hi
      cases hi
    · have hk : t.kids = [] := by
        have := eq_of_beq hr
        rw [← this]; exact hempty
      exact tp_leaf hk htp a w hsim
  | succ fuel ih =>
    intro listed done t e s a w hsz hd hf hr hok htp hsim
    have hkids := eq_of_beq hr
    refine ⟨fun hr0 => ?_, fun i hi => ?_⟩
    · have hk : t.kids = [] := by
        rw [← hkids]
        refine List.eq_nil_iff_forall_not_mem.2 fun i hi => ?_
        have := (hready listed done hsz hd hwt i).2 hi
        rw [hr0] at this
        cases this
      exact tp_leaf hk htp a w hsim
    · have hir := (hready listed done hsz hd hwt i).1 hi
      have hik : i ∈ t.kids := by rw [← hkids]; exact hir
      obtain ⟨t', h1, h2, h3⟩ := tp_kid hik hok htp
      have hi2 : i < ops.length := by
        unfold rdy at hir
        simpa using (List.mem_filter.1 hir).1
      have hil : listed.getD i true = false := by
        rw [hd i hi2]
        unfold rdy at hir
        have := (List.mem_filter.1 hir).2
        simp only [Bool.and_eq_true, Bool.not_eq_true'] at this
        exact this.1
      have hlist : ∀ j, (listed.setIfInBounds i true).getD j true = if j = i then true else listed.getD j true := by
        intro j
        by_cases hj : j = i
        · subst hj
          have : j < listed.size := by omega
          simp [this]
        · rw [if_neg hj]
          simp [Array.getElem?_setIfInBounds_ne (Ne.symm hj)]
      have hJ := h3 (wpAny c.P .any ops.toArray (WQ c k) fuel (listed.setIfInBounds i true)) (fun e' s' htp' a w hsim' => by
        refine ih _ (i :: done) t' e' s' a w (by simp [hsz]) (fun j hj => ?_) ?_ h1 h2 htp' hsim'
        · rw [hlist, List.contains_cons]
          by_cases hji : j = i
          · simp [hji]
          · rw [if_neg hji, hd j hj]
            have : (j == i) = false := by simpa using hji
            rw [this, Bool.false_or]
        · have e1 : (fun j => !(listed.setIfInBounds i true).getD j true) = fun j => (!listed.getD j true) && decide (j ≠ i) := by
            funext j
            rw [hlist]
            by_cases hj : j = i <;> simp [hj]
          have e2 : ((List.range ops.length).filter fun j => (!listed.getD j true) && decide (j ≠ i)) = ((List.range ops.length).filter fun j => !listed.getD j true).filter fun j => decide (j ≠ i) := by
            rw [List.filter_filter]
            congr 1
            funext j
            rw [Bool.and_comm]
          rw [e1, e2]
          have hm : i ∈ (List.range ops.length).filter fun j => !listed.getD j true := List.mem_filter.2 ⟨by simpa using hi2, by rw [hil]; rfl⟩
          have hn : ((List.range ops.length).filter fun j => !listed.getD j true).Nodup := List.Pairwise.filter _ List.nodup_range
          generalize ((List.range ops.length).filter fun j => !listed.getD j true) = L at hm hn hf
          have := List.length_erase_of_mem hm
          rw [List.Nodup.erase_eq_filter hn] at this
          have e3 : (L.filter fun j => decide (j ≠ i)).length = (L.filter fun x => x != i).length := by
            congr 1
            apply List.filter_congr
            intro x _
            by_cases hx : x = i <;> simp [hx]
          rw [e3, this, hf]
          rfl)
      have ho : ops[i]? = some ops[i] := by simp [hi2]
      rw [ho] at hJ
      have hw := hJ a w hsim
      show wpOp c.P ops.toArray (WQ c k) i _ a w
      unfold wpOp
      have ho' : ops.toArray[i]? = some ops[i] := by simp [hi2]
      rw [ho']
      simp only [Option.toList_some, WQ, wpList] at hw
      simp only
      split
      · rename_i hwd
        rw [if_pos hwd] at hw
        rcases hw with hw | ⟨hw1, hw2⟩
        · exact .inl (wp_exits (fun ch a w h => h) (fun a w h => h) hw)
        · exact .inr ⟨hw1, by obtain ⟨a', w', h⟩ := hw2; exact ⟨a', w', h⟩⟩
      · rename_i hwd
        rw [if_neg hwd] at hw
        exact hw
end
/-- the orders that are told, in the tree t, are all: each of them is walked -/
theorem adrawT {c : Cx} {k : List It} {e : Env} {s : List Blk} (t : Ord3) {id : Nat} {ops : List Oper} (hm : c.P.follows .mixedOrders = true) (hok : ((rdy ops [] == t.kids) && t.okC ops [] && (List.range ops.length).all fun i => (waits ops i).all fun j => decide (j < ops.length)) = true) {N : Nat} (hN : c.fn.ntmps = N) (hdst : ops.all (fun o => dOk N o.dst) = true)
    (h : TP c ops k t e s) : AWp c (.code (.region id ops.toArray true) :: k) e s := by
  intro a w hsim
  simp only [Bool.and_eq_true] at hok
  obtain ⟨⟨h1, h2⟩, h3⟩ := hok
  refine wp_region_any hm ?_
  have hsim' : Sim c e s a { w with drawn := w.drawn + 1 } := by
    obtain ⟨hh, ρ, hmm, hl, he, hdf, hsz, hX⟩ := hsim
    have sm : Same w { w with drawn := w.drawn + 1 } := Same.drew w
    exact ⟨hh, ρ, hmm.same sm, hl.trans (Later.same sm), he, hdf, hsz, c.hx.later hmm (Later.same sm) hX⟩
  have hd : ∀ o ∈ ops, dOk c.fn.ntmps o.dst = true := fun o ho => by rw [hN]; exact (List.all_eq_true.1 hdst) o ho
  refine any_of_tree (fun i hi j hj => ?_) hd ops.length (Array.replicate ops.length false) [] t e s a _ (by simp) (fun i hi => by simp [hi]) ?_ h1 h2 h hsim'
  · have := List.all_eq_true.1 h3 i (by simpa using hi)
    exact of_decide_eq_true (List.all_eq_true.1 this j hj)
  · have : ((List.range ops.length).filter fun i => !(Array.replicate ops.length false).getD i true) = List.range ops.length := by
      rw [List.filter_eq_self]
      intro i hi
      simp at hi
      simp [hi]
    rw [this]
    simp
end Go.Av
