/- Papers, whose result may be written. Own work of this seat. -/
import Derived.Test.YtkomcdohejibmaaGreatDoorY49
import Derived.Test.YtkomcdohejibmaaGreatDoorY51
import Derived.Test.YtkomcdohejibmaaGreatDoorY22
import Derived.Test.YtkomcdohejibmaaGreatDoorY50
set_option maxRecDepth 100000
set_option linter.unusedSimpArgs false
set_option linter.unusedVariables false
namespace Go.Proofs.YtkomcdohejibmaaGreatDoor
open Go Go.Av Go.RowKit

theorem versS_ct (l : List De) (paper : List UInt8) (hl : Sz l) : Ct Tryz.prog 36 [.fz 7 (l.map deA), .str paper] [] (fun r s => r = .sl 0 0 (versL l paper).length (versL l paper).length ∧ s = [.arr 2 ((versL l paper).map stA)]) := by
  have hf := chosen_pc 92 [.pin 1 [.str paper] 0 0] rfl (verP paper) l hl fun x _ => verFn_pc paper x
  have hs := (hl.filter (verP paper)).last
  have h1 := hs.1
  unfold versL
  refine ct_intro Tryz.func36 rfl Tryz.ntmps36 hB36 (by simp) fun h ρ w => goB (N := 24) Tryz.ntmps36 300 ?_
  simp only [go_sem]
  refine pcall1 (hf) rfl (N := 24) Tryz.ntmps36 rfl (goB (N := 24) Tryz.ntmps36 300 ?_)
  simp only [go_sem]
  refine pcall1 (last_pc _ (hl.filter _)) rfl (N := 24) Tryz.ntmps36 rfl (goB (N := 24) Tryz.ntmps36 300 ?_)
  generalize lastL (l.filter (verP paper)) = v at *
  simp only [go_sem, List.length_map]
  refine aloop (ι := Nat) (fun i => v.length - i) (fun i => [(13, .int .i64 i), (12, .int .i64 v.length), (11, .fz 7 (v.map deA)), (5, .sl 0 0 i i)])
    (fun i => [.arr 2 (((v.take i).map (·.st)).map stA)]) (fun i => i ≤ v.length) 0 (by simp) ?_ ?_
  · refine Shift.trans (Shift.nilsl 5 2 rfl) (Shift.weak ?_)
    simp only [wk, go_sem, List.length_map]
  · intro i g1 J hJ
    by_cases gi : i < v.length
    · have di : decide ((i : Int) < (v.length : Int)) = true := by simp; omega
      have hst := map_step v i gi
      have hlen : (v.take i).length = i := by simp; omega
      have hfin := hJ (i + 1) (by omega) (by omega)
      simp only [hst] at hfin
      generalize v.take i = o at *
      refine goB (N := 24) Tryz.ntmps36 300 ?_
      simp only [go_sem, di, deA_get v i gi, List.length_map]
      repeat refine And.intro (by first | omega | rfl | exact .inl rfl | exact .inl trivial | (simp; done) | (simp; omega)) ?_
      rw [show (i : Int) + 1 = ((i + 1 : Nat) : Int) by omega]
      simp only [List.map_append, List.map_cons, List.map_nil, stA] at hfin
      refine ainv hfin (Shift.low 1 (by simp) (by simp) ?_ ?_)
      · have := low_sts 1 (o.map (·.st) ++ [v[i].st])
        simp only [List.map_append, List.map_cons, List.map_nil, stA] at this
        simp only [List.take_succ_cons, List.take_zero, List.all_cons, List.all_nil, this, Bool.and_self]
      · simp only [wkl, lowV, lowC, Av.get, go_sem]
    · have di : decide ((i : Int) < (v.length : Int)) = false := by simp; omega
      have : i = v.length := by omega
      subst this
      rw [List.take_length]
      refine goB (N := 24) Tryz.ntmps36 300 ?_
      simp only [go_sem, di]
      exact aret [4] rfl ⟨by simp [resV, Av.get, Av.put], rfl⟩

def ppH (j : Nat) (p : Pp) : AV := .agg [.str p.name, .sl j 0 p.vers.length p.vers.length]
def blkP (p : Pp) : Blk := .arr 2 (p.vers.map stA)
def rowP (x : Nat × Pp) : AV := ppH x.1 x.2
structure OwnP (s : List Blk) (id : Nat) (rows : List (Nat × Pp)) : Prop where
  blk : s.getD id .dead = .arr 2 (rows.map rowP)
  seen : ∀ x ∈ rows, s.getD x.1 .dead = blkP x.2
  bnd : ∀ x ∈ rows, x.2.vers.length ≤ 1000000
def hpp : Nat → List Pp → List AV
  | _, [] => []
  | j, p :: r => ppH j p :: hpp (j + 1) r
theorem hpp_len : ∀ (l : List Pp) (j : Nat), (hpp j l).length = l.length
  | [], _ => rfl
  | _ :: r, j => by simp [hpp, hpp_len r (j + 1)]
theorem hpp_snoc : ∀ (l : List Pp) (j : Nat) (x : Pp), hpp j (l ++ [x]) = hpp j l ++ [ppH (j + l.length) x]
  | [], j, x => rfl
  | y :: r, j, x => by
    have := hpp_snoc r (j + 1) x
    simp only [List.cons_append, hpp, this, List.length_cons]
    rw [show j + 1 + r.length = j + (r.length + 1) by omega]
theorem low_hpp (n : Nat) : ∀ (l : List Pp) (j : Nat), j + l.length ≤ n → (flat (hpp j l)).all (lowC n) = true
  | [], _, _ => rfl
  | x :: r, j, h => by
    simp only [List.length_cons] at h
    have ih := low_hpp n r (j + 1) (by omega)
    have hj : decide (j < n) = true := by simp; omega
    simp only [hpp, flat, ppH, cellsOf, List.cons_append, List.nil_append, List.all_cons, ih, lowC, hj]
    rfl
theorem low_blkP (n : Nat) (p : Pp) : lowB n (blkP p) = true := low_all (stA_frz p.vers)
theorem low_tlP (n : Nat) (l : List Pp) : (l.map blkP).all (lowB n) = true := by
  rw [List.all_map, List.all_eq_true]
  exact fun x _ => low_blkP n x
theorem mpOk_tlP (l : List Pp) : (l.map blkP).all mpOk = true := by
  rw [List.all_map, List.all_eq_true]
  exact fun x _ => rfl
theorem rows_hpp : ∀ (l : List Pp) (j : Nat), ∃ rows : List (Nat × Pp), hpp j l = rows.map rowP ∧ rows.length = l.length ∧ ∀ x ∈ rows, ∃ i, i < l.length ∧ x.1 = j + i ∧ l[i]? = some x.2
  | [], _ => ⟨[], rfl, rfl, by simp⟩
  | d :: r, j => by
    obtain ⟨rows, h1, h2, h3⟩ := rows_hpp r (j + 1)
    refine ⟨(j, d) :: rows, by simp [hpp, h1, rowP], by simp [h2], fun x hx => ?_⟩
    rcases List.mem_cons.1 hx with rfl | hx
    · exact ⟨0, by simp, by simp, by simp⟩
    · obtain ⟨i, hi, h4, h5⟩ := h3 x hx
      exact ⟨i + 1, by simp; omega, by omega, by simpa using h5⟩
theorem shB_blkP (n : Nat) (p : Pp) : shB n (blkP p) = blkP p := by
  unfold blkP
  rw [shB, shC_st]
theorem ownP_lift {s : List Blk} {id : Nat} {rows : List (Nat × Pp)} (h : OwnP s id rows) (t : List Blk) : OwnP (t ++ s.map (shB t.length)) (id + t.length) (rows.map fun x => (x.1 + t.length, x.2)) := by
  have key : ∀ j b, s.getD j .dead = b → b ≠ .dead → (t ++ s.map (shB t.length)).getD (j + t.length) .dead = shB t.length b := fun j b e hb => by
    rw [List.getD_eq_getElem?_getD] at e ⊢
    rw [List.getElem?_append_right (by omega), Nat.add_sub_cancel, List.getElem?_map]
    cases hq : s[j]? with
    | none => rw [hq] at e; exact absurd e.symm hb
    | some c => rw [hq] at e; cases e; rfl
  refine ⟨?_, fun x hx => ?_, fun x hx => ?_⟩
  · rw [key _ _ h.blk (by simp), shB, List.map_map, List.map_map]
    rfl
  · obtain ⟨y, hy, rfl⟩ := List.mem_map.1 hx
    have := key _ _ (h.seen y hy) (by simp [blkP])
    rw [this, shB_blkP]
  · obtain ⟨y, hy, rfl⟩ := List.mem_map.1 hx
    exact h.bnd y hy
theorem bl_get (l : List Pp) (r : List Blk) (k : Nat) : (l.map blkP ++ r).getD (l.length + k) .dead = r.getD k .dead := by
  rw [List.getD_eq_getElem?_getD, List.getElem?_append_right (by simp), List.length_map, Nat.add_sub_cancel_left, ← List.getD_eq_getElem?_getD]
theorem bl_get0 (l : List Pp) (b : Blk) (r : List Blk) : (l.map blkP ++ b :: r).getD l.length .dead = b := bl_get l (b :: r) 0
theorem tabP_step (o : List Pp) (d : Pp) (lit : Blk) : (Blk.arr 2 (hpp 1 (o ++ [d])) :: (o ++ [d]).map blkP) = (Blk.arr 2 (hpp 1 o ++ [ppH (o.length + 1) d]) :: (o.map blkP ++ [blkP d, lit])).take (o.length + 2) := by
  rw [hpp_snoc, show o.length + 2 = (o.length + 1) + 1 by omega, List.take_succ_cons, List.take_append, List.length_map, List.take_of_length_le (by simp), show o.length + 1 - o.length = 1 by omega, Nat.add_comm 1]
  simp
theorem tabP_low (o : List Pp) (d : Pp) (lit : Blk) : ((Blk.arr 2 (hpp 1 o ++ [ppH (o.length + 1) d]) :: (o.map blkP ++ [blkP d, lit])).take (o.length + 2)).all (lowB (o.length + 2)) = true := by
  rw [← tabP_step, List.all_cons, low_tlP, Bool.and_true]
  exact low_hpp _ _ _ (by simp; omega)
theorem tabP_same (o : List Pp) (r : List Blk) : (Blk.arr 2 (hpp 1 o) :: o.map blkP) = (Blk.arr 2 (hpp 1 o) :: (o.map blkP ++ r)).take (o.length + 1) := by
  rw [List.take_succ_cons, List.take_append, List.length_map, List.take_of_length_le (by simp), Nat.sub_self, List.take_zero, List.append_nil]
theorem tabP_low0 (o : List Pp) (r : List Blk) : ((Blk.arr 2 (hpp 1 o) :: (o.map blkP ++ r)).take (o.length + 1)).all (lowB (o.length + 1)) = true := by
  rw [← tabP_same, List.all_cons, low_tlP, Bool.and_true]
  exact low_hpp _ _ _ (by omega)
theorem bor_sts (X : List AV) (o : List Pp) (p : Pp) : borC 1 (.arr 2 X :: (o.map blkP ++ [blkP p])) (.sl (o.length + 1) 0 p.vers.length p.vers.length) = .fz 2 (p.vers.map stA) := by
  rw [show borC 1 (.arr 2 X :: (o.map blkP ++ [blkP p])) (.sl (o.length + 1) 0 p.vers.length p.vers.length) = bor (0 + 1) (.arr 2 X :: (o.map blkP ++ [blkP p])) (.sl (o.length + 1) 0 p.vers.length p.vers.length) from rfl, bor_sl, List.getD_cons_succ, bl_get0]
  simp only [blkP, Nat.zero_add, List.length_map, decide_true, Nat.le_refl, Bool.and_self, cond_true, List.drop_zero]
  rw [List.take_of_length_le (by simp), List.map_map]
  exact congrArg (AV.fz 2) (List.map_congr_left fun x _ => rfl)
set_option maxHeartbeats 4000000 in
theorem papersS_ct (l : List De) (hl : SzL l) (hlen : l.length ≤ 1000) (hok : CkOk l) : Ct Tryz.prog 11 [.fz 7 (l.map deA)] [] (fun r s => ∃ id rows, r = .tup [.sl id 0 rows.length rows.length, .int .i64 0] ∧ OwnP s id rows ∧ s.all mpOk = true ∧ rows.length ≤ 1000) := by
  have hck := check_pc l hl
  have hna := names_pc l hl hlen
  have hnl := names_len l
  have hvl : ∀ q, (versL l q).length ≤ l.length := fun q => by
    unfold versL lastL
    rw [List.length_map]
    exact Nat.le_trans (List.length_filter_le _ _) (List.length_filter_le _ _)
  refine ct_intro Tryz.func11 rfl Tryz.ntmps11 hB11 (by simp) fun h ρ w => goB (N := 35) Tryz.ntmps11 300 ?_
  simp only [go_sem]
  refine pcall (hck) rfl (N := 35) Tryz.ntmps11 rfl ?_
  rintro _ ⟨n, rfl, hn⟩
  have hn0 : n = 0 := hn.2 hok
  subst hn0
  refine goB (N := 35) Tryz.ntmps11 300 ?_
  simp only [go_sem]
  refine pcall1 (hna) rfl (N := 35) Tryz.ntmps11 rfl (goB (N := 35) Tryz.ntmps11 300 ?_)
  simp only [go_sem, List.length_map]
  generalize namesL l = q at *
  refine aloop (ι := Nat × List Pp) (fun y => q.length - y.1)
    (fun y => [(17, .int .i64 y.1), (16, .int .i64 q.length), (15, .fz 1 (q.map .str)), (5, .sl 0 0 y.2.length y.2.length), (3, .int .i64 0), (0, .fz 7 (l.map deA))])
    (fun y => .arr 2 (hpp 1 y.2) :: y.2.map blkP) (fun y => y.1 ≤ q.length ∧ y.2.length ≤ y.1 ∧ ∀ p ∈ y.2, p.vers.length ≤ 1000) (0, []) ⟨by simp, by simp, by simp⟩ ?_ ?_
  · refine Shift.trans (Shift.nilsl 5 2 rfl) (Shift.weakS ?_ rfl)
    simp only [wk, go_sem]
  rintro ⟨i, o⟩ ⟨g1, g2, g5⟩ J hJ
  simp only at g1 g2 g5 hJ ⊢
  have hol := hpp_len o 1
  by_cases gi : i < q.length
  · have di : decide ((i : Int) < (q.length : Int)) = true := by simp; omega
    have p1 : List.getD (List.map AV.str q) i .any = .str q[i] := by simp [List.getD, gi]
    have hve := (versS_ct l q[i] hl.sz).liftN rfl (by rintro _ _ ⟨_, rfl⟩; rfl)
    have hth := isThere_pc l (versL l q[i]) hl.len (by have := hvl q[i]; omega)
    have hvlq := hvl q[i]
    obtain ⟨p, hp⟩ : ∃ p : Pp, p = ⟨q[i], versL l q[i]⟩ := ⟨_, rfl⟩
    have hpn : p.name = q[i] := by rw [hp]
    have hpv : p.vers = versL l q[i] := by rw [hp]
    have hyes := hJ (i + 1, o ++ [p]) ⟨by simp only; omega, by simp; omega, fun y hy => by
      rcases List.mem_append.1 hy with hy | hy
      · exact g5 y hy
      · rw [List.mem_singleton.1 hy, hpv]; omega⟩ (by simp only; omega)
    have hnot := hJ (i + 1, o) ⟨by simp only; omega, by simp only; omega, g5⟩ (by simp only; omega)
    clear hJ hp
    simp only [List.length_append, List.length_cons, List.length_nil, Nat.zero_add] at hyes
    have hy2 := fun lit => (tabP_step o p lit) ▸ hyes
    have hy3 := fun lit => tabP_low o p lit
    have hn2 := fun r => (tabP_same o r) ▸ hnot
    clear hyes hnot
    rw [← hpv] at hve hth hvlq
    refine goB (N := 35) Tryz.ntmps11 300 ?_
    simp only [go_sem, di, p1, List.length_map]
    repeat refine And.intro (by first | omega | rfl | kernel_rfl | (simp; done) | (simp; omega)) ?_
    refine acall (hve _) (N := 35) Tryz.ntmps11 rfl ?_
    rintro _ _ ⟨_, _, ⟨rfl, rfl⟩, rfl, rfl⟩
    have hsh : [Blk.arr 2 (p.vers.map stA)].map (shB (Blk.arr 2 (hpp 1 o) :: o.map blkP).length) = [blkP p] := by
      rw [List.map_cons, List.map_nil]
      exact congrArg (fun x => [x]) (shB_blkP _ p)
    rw [hsh]
    have hbor := Ct.borrow (P := Tryz.prog) (f := 35) (args := [.fz 7 (l.map deA), .sl (o.length + 1) 0 p.vers.length p.vers.length]) 1 (.arr 2 (hpp 1 o) :: (o.map blkP ++ [blkP p])) (post := (· = .bool ((p.vers).any (isPutL l)))) (by simp only [List.map_cons, List.map_nil]; rw [bor_sts]; exact hth) (by rintro r rfl; rfl)
    simp only [List.length_cons, List.length_map, shV, sh1, Nat.zero_add, List.cons_append]
    refine goB (N := 35) Tryz.ntmps11 300 ?_
    simp only [go_sem]
    refine acall (hbor) (N := 35) Tryz.ntmps11 rfl ?_
    rintro _ _ ⟨rfl, rfl⟩
    cases hb : p.vers.any (isPutL l) with
    | true =>
      simp only [ppH, hpn] at hy2 hy3
      refine go (N := 35) Tryz.ntmps11 300 ?_
      simp only [go_sem, List.cons_append, List.nil_append, List.append_assoc, hol, List.length_map, bl_get, bl_get0, List.getD_cons_succ, List.set_cons_succ]
      repeat refine And.intro (by first | omega | rfl | exact .inl rfl | exact .inl trivial | (simp; done) | (simp; omega)) ?_
      rw [show (i : Int) + 1 = ((i + 1 : Nat) : Int) by omega]
      refine ainv (hy2 _) (Shift.low (o.length + 2) (by simp) (by simp) (hy3 _) ?_)
      simp only [wkl, lowV, lowC, Av.get, go_sem]
      repeat first | omega | refine And.intro (by omega) ?_
    | false =>
      refine go (N := 35) Tryz.ntmps11 300 ?_
      simp only [go_sem]
      repeat refine And.intro (by first | omega | rfl | exact .inl rfl | exact .inl trivial | (simp; done) | (simp; omega)) ?_
      rw [show (i : Int) + 1 = ((i + 1 : Nat) : Int) by omega]
      refine ainv (hn2 _) (Shift.low (o.length + 1) (by simp) (by simp) (tabP_low0 o _) ?_)
      simp only [wkl, lowV, lowC, Av.get, go_sem]
      repeat first | omega | refine And.intro (by omega) ?_
  · have di : decide ((i : Int) < (q.length : Int)) = false := by simp; omega
    obtain ⟨rows, w1, w2, w3⟩ := rows_hpp o 1
    clear hJ
    refine go (N := 35) Tryz.ntmps11 300 ?_
    simp only [go_sem, di]
    refine aret [2, 3] rfl ⟨0, rows, by simp [resV, Av.get, Av.put, w2], ⟨by rw [w1]; rfl, fun x hx => ?_, fun x hx => ?_⟩, ?_⟩
    · obtain ⟨j, h1, h2, h3⟩ := w3 x hx
      rw [h2, List.getD_eq_getElem?_getD, Nat.add_comm 1 j, List.getElem?_cons_succ, List.getElem?_map, h3]
      rfl
    · obtain ⟨j, h1, h2, h3⟩ := w3 x hx
      have := g5 x.2 (List.mem_of_getElem? h3)
      omega
    · refine ⟨?_, by omega⟩
      rw [List.all_cons, mpOk_tlP]
      rfl
end Go.Proofs.YtkomcdohejibmaaGreatDoor
/- Lists that are spoilt. Own work of this seat. -/
set_option maxRecDepth 100000
set_option linter.unusedSimpArgs false
set_option linter.unusedVariables false
namespace Go.Proofs.YtkomcdohejibmaaGreatDoor
open Go Go.Av Go.RowKit

theorem getD_set {T : List Blk} {j i : Nat} {b : Blk} (hj : j < T.length) : (T.set j b).getD i .dead = if i = j then b else T.getD i .dead := by
  simp only [List.getD_eq_getElem?_getD]
  by_cases h : i = j
  · subst h
    simp [hj]
  · rw [List.getElem?_set_ne (Ne.symm h), if_neg h]
theorem getD_lt {T : List Blk} {j : Nat} {b : Blk} (h : T.getD j .dead = b) (hb : b ≠ .dead) : j < T.length := by
  rw [List.getD_eq_getElem?_getD] at h
  cases hq : T[j]? with
  | none => rw [hq] at h; exact absurd h.symm hb
  | some c => exact (List.getElem?_eq_some_iff.1 hq).1
theorem getD_app {T t : List Blk} {j : Nat} {b : Blk} (h : T.getD j .dead = b) (hb : b ≠ .dead) : (T ++ t).getD j .dead = b := by
  have hl := getD_lt h hb
  rw [List.getD_eq_getElem?_getD] at h ⊢
  rw [List.getElem?_append_left hl, h]

/-- a row of deeds, where the block of its stamps lies -/
def RowOk (T : List Blk) (a : AV) : Prop := ∃ (d : List UInt8) (no : Int) (j m : Nat) (kd : Int) (p t pe : List UInt8) (l : List St), m ≤ 1000000 ∧ a = .agg [.str d, .int .i64 no, .sl j 0 m m, .int .i64 kd, .str p, .str t, .str pe] ∧ T.getD j .dead = .arr 2 (l.map stA) ∧ l.length = m
def PapOk (T : List Blk) (a : AV) : Prop := ∃ (nm : List UInt8) (j m : Nat) (l : List St), m ≤ 1000000 ∧ a = .agg [.str nm, .sl j 0 m m] ∧ T.getD j .dead = .arr 2 (l.map stA) ∧ l.length = m
def Sh7 (T : List Blk) (id n : Nat) : Prop := ∃ rows : List AV, T.getD id .dead = .arr 7 rows ∧ rows.length = n ∧ ∀ a ∈ rows, RowOk T a
def ShP (T : List Blk) (id n : Nat) : Prop := ∃ rows : List AV, T.getD id .dead = .arr 2 rows ∧ rows.length = n ∧ ∀ a ∈ rows, PapOk T a
theorem sh7_of {T : List Blk} {id : Nat} {rows : List (Nat × De)} (h : OwnD T id rows) : Sh7 T id rows.length :=
  ⟨_, h.blk, by simp, fun a ha => by
    obtain ⟨x, hx, rfl⟩ := List.mem_map.1 ha
    exact ⟨_, _, _, _, _, _, _, _, x.2.seen, h.bnd x hx, rfl, h.seen x hx, rfl⟩⟩
theorem shP_of {T : List Blk} {id : Nat} {rows : List (Nat × Pp)} (h : OwnP T id rows) : ShP T id rows.length :=
  ⟨_, h.blk, by simp, fun a ha => by
    obtain ⟨x, hx, rfl⟩ := List.mem_map.1 ha
    exact ⟨_, _, _, x.2.vers, h.bnd x hx, rfl, h.seen x hx, rfl⟩⟩
theorem RowOk.app {T t : List Blk} {a : AV} : RowOk T a → RowOk (T ++ t) a := fun ⟨d, no, j, m, kd, p, x, pe, l, h0, h1, h2, h3⟩ => ⟨d, no, j, m, kd, p, x, pe, l, h0, h1, getD_app h2 (by simp), h3⟩
theorem PapOk.app {T t : List Blk} {a : AV} : PapOk T a → PapOk (T ++ t) a := fun ⟨nm, j, m, l, h0, h1, h2, h3⟩ => ⟨nm, j, m, l, h0, h1, getD_app h2 (by simp), h3⟩
theorem Sh7.app {T : List Blk} {id n : Nat} (h : Sh7 T id n) (t : List Blk) : Sh7 (T ++ t) id n := by
  obtain ⟨rows, h1, h2, h3⟩ := h
  exact ⟨rows, getD_app h1 (by simp), h2, fun a ha => (h3 a ha).app⟩
theorem ShP.app {T : List Blk} {id n : Nat} (h : ShP T id n) (t : List Blk) : ShP (T ++ t) id n := by
  obtain ⟨rows, h1, h2, h3⟩ := h
  exact ⟨rows, getD_app h1 (by simp), h2, fun a ha => (h3 a ha).app⟩

/-- a stamp is written -/
theorem RowOk.w2 {T : List Blk} {a : AV} {j : Nat} {l l' : List St} (hj : T.getD j .dead = .arr 2 (l.map stA)) (hl : l'.length = l.length) : RowOk T a → RowOk (T.set j (.arr 2 (l'.map stA))) a := fun ⟨d, no, j', m, kd, p, x, pe, l0, h0, h1, h2, h3⟩ => by
  have hlt := getD_lt hj (by simp)
  by_cases e : j' = j
  · subst e
    rw [hj] at h2
    have e2 : l.length = l0.length := by have := congrArg (fun b => match b with | Blk.arr _ r => r.length | _ => 0) h2; simpa using this
    exact ⟨d, no, j', m, kd, p, x, pe, l', h0, h1, by rw [getD_set hlt, if_pos rfl], by omega⟩
  · exact ⟨d, no, j', m, kd, p, x, pe, l0, h0, h1, by rw [getD_set hlt, if_neg e]; exact h2, h3⟩
theorem PapOk.w2 {T : List Blk} {a : AV} {j : Nat} {l l' : List St} (hj : T.getD j .dead = .arr 2 (l.map stA)) (hl : l'.length = l.length) : PapOk T a → PapOk (T.set j (.arr 2 (l'.map stA))) a := fun ⟨nm, j', m, l0, h0, h1, h2, h3⟩ => by
  have hlt := getD_lt hj (by simp)
  by_cases e : j' = j
  · subst e
    rw [hj] at h2
    have e2 : l.length = l0.length := by have := congrArg (fun b => match b with | Blk.arr _ r => r.length | _ => 0) h2; simpa using this
    exact ⟨nm, j', m, l', h0, h1, by rw [getD_set hlt, if_pos rfl], by omega⟩
  · exact ⟨nm, j', m, l0, h0, h1, by rw [getD_set hlt, if_neg e]; exact h2, h3⟩
theorem Sh7.w2 {T : List Blk} {id n j : Nat} {l l' : List St} (h : Sh7 T id n) (hj : T.getD j .dead = .arr 2 (l.map stA)) (hl : l'.length = l.length) : Sh7 (T.set j (.arr 2 (l'.map stA))) id n := by
  obtain ⟨rows, h1, h2, h3⟩ := h
  have hlt := getD_lt hj (by simp)
  refine ⟨rows, ?_, h2, fun a ha => (h3 a ha).w2 hj hl⟩
  rw [getD_set hlt, if_neg (fun e => by subst e; rw [h1] at hj; simp at hj)]
  exact h1
theorem ShP.w2 {T : List Blk} {id n j : Nat} {l l' : List St} (h : ShP T id n) (hj : T.getD j .dead = .arr 2 (l.map stA)) (hn : l ≠ []) (hl : l'.length = l.length) : ShP (T.set j (.arr 2 (l'.map stA))) id n := by
  obtain ⟨rows, h1, h2, h3⟩ := h
  have hlt := getD_lt hj (by simp)
  refine ⟨rows, ?_, h2, fun a ha => (h3 a ha).w2 hj hl⟩
  rw [getD_set hlt, if_neg (fun e => ?_)]
  · exact h1
  · subst e
    rw [hj] at h1
    have e2 : l.map stA = rows := by injection h1
    cases l with
    | nil => exact hn rfl
    | cons s l =>
      obtain ⟨nm, j', m, l0, _, k1, _, _⟩ := h3 (stA s) (by rw [← e2]; simp)
      simp [stA] at k1
/-- a paper is written -/
theorem RowOk.w7 {T : List Blk} {a : AV} {id : Nat} {rows rows' : List AV} (hj : T.getD id .dead = .arr 7 rows) : RowOk T a → RowOk (T.set id (.arr 7 rows')) a := fun ⟨d, no, j', m, kd, p, x, pe, l0, h0, h1, h2, h3⟩ => by
  have hlt := getD_lt hj (by simp)
  refine ⟨d, no, j', m, kd, p, x, pe, l0, h0, h1, ?_, h3⟩
  rw [getD_set hlt, if_neg (fun e => by subst e; rw [hj] at h2; simp at h2)]
  exact h2
theorem PapOk.w7 {T : List Blk} {a : AV} {id : Nat} {rows rows' : List AV} (hj : T.getD id .dead = .arr 7 rows) : PapOk T a → PapOk (T.set id (.arr 7 rows')) a := fun ⟨nm, j', m, l0, h0, h1, h2, h3⟩ => by
  have hlt := getD_lt hj (by simp)
  refine ⟨nm, j', m, l0, h0, h1, ?_, h3⟩
  rw [getD_set hlt, if_neg (fun e => by subst e; rw [hj] at h2; simp at h2)]
  exact h2
theorem Sh7.w7 {T : List Blk} {id id' n : Nat} {rows rows' : List AV} (h : Sh7 T id' n) (hj : T.getD id .dead = .arr 7 rows) (hl : rows'.length = rows.length) (hr : ∀ a ∈ rows', RowOk T a) : Sh7 (T.set id (.arr 7 rows')) id' n := by
  obtain ⟨r0, h1, h2, h3⟩ := h
  have hlt := getD_lt hj (by simp)
  by_cases e : id' = id
  · subst e
    rw [hj] at h1
    have e2 : rows = r0 := by injection h1
    subst e2
    exact ⟨rows', by rw [getD_set hlt, if_pos rfl], by omega, fun a ha => (hr a ha).w7 hj⟩
  · exact ⟨r0, by rw [getD_set hlt, if_neg e]; exact h1, h2, fun a ha => (h3 a ha).w7 hj⟩
theorem ShP.w7 {T : List Blk} {id id' n : Nat} {rows rows' : List AV} (h : ShP T id' n) (hj : T.getD id .dead = .arr 7 rows) : ShP (T.set id (.arr 7 rows')) id' n := by
  obtain ⟨r0, h1, h2, h3⟩ := h
  have hlt := getD_lt hj (by simp)
  exact ⟨r0, by rw [getD_set hlt, if_neg (fun e => by subst e; rw [hj] at h1; simp at h1)]; exact h1, h2, fun a ha => (h3 a ha).w7 hj⟩
/-- what stands while the lists are spoilt -/
structure SpI (T : List Blk) (z id1 n1 id2 n2 id3 n3 : Nat) : Prop where
  s1 : Sh7 T id1 n1
  s2 : Sh7 T id2 n2
  s3 : ShP T id3 n3
  zz : T.getD z .dead = .arr 1 [.sl id1 0 n1 n1, .sl id2 0 n2 n2]
theorem SpI.app {T : List Blk} {z id1 n1 id2 n2 id3 n3 : Nat} (h : SpI T z id1 n1 id2 n2 id3 n3) (t : List Blk) : SpI (T ++ t) z id1 n1 id2 n2 id3 n3 := ⟨h.s1.app t, h.s2.app t, h.s3.app t, getD_app h.zz (by simp)⟩
theorem SpI.w2 {T : List Blk} {z id1 n1 id2 n2 id3 n3 j : Nat} {l l' : List St} (h : SpI T z id1 n1 id2 n2 id3 n3) (hj : T.getD j .dead = .arr 2 (l.map stA)) (hn : l ≠ []) (hl : l'.length = l.length) : SpI (T.set j (.arr 2 (l'.map stA))) z id1 n1 id2 n2 id3 n3 :=
  ⟨h.s1.w2 hj hl, h.s2.w2 hj hl, h.s3.w2 hj hn hl, by rw [getD_set (getD_lt hj (by simp)), if_neg (fun e => by subst e; rw [h.zz] at hj; simp at hj)]; exact h.zz⟩
theorem SpI.w7 {T : List Blk} {z id1 n1 id2 n2 id3 n3 id : Nat} {rows rows' : List AV} (h : SpI T z id1 n1 id2 n2 id3 n3) (hj : T.getD id .dead = .arr 7 rows) (hl : rows'.length = rows.length) (hr : ∀ a ∈ rows', RowOk T a) : SpI (T.set id (.arr 7 rows')) z id1 n1 id2 n2 id3 n3 :=
  ⟨h.s1.w7 hj hl hr, h.s2.w7 hj hl hr, h.s3.w7 hj, by rw [getD_set (getD_lt hj (by simp)), if_neg (fun e => by subst e; rw [h.zz] at hj; simp at hj)]; exact h.zz⟩
theorem stA_set (l : List St) (i : Nat) (d : List UInt8) (n : Int) : (l.map stA).set i (.agg [.str d, .int .i64 n]) = (l.set i ⟨d, n⟩).map stA := by rw [List.map_set]; rfl
end Go.Proofs.YtkomcdohejibmaaGreatDoor
