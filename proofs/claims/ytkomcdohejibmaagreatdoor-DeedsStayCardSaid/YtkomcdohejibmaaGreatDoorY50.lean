/- Add, whose result may be written. Own work of this seat. -/
import Derived.Test.YtkomcdohejibmaaGreatDoorY49
import Derived.Test.YtkomcdohejibmaaGreatDoorY22
set_option maxRecDepth 100000
set_option linter.unusedSimpArgs false
set_option linter.unusedVariables false
namespace Go.Proofs.YtkomcdohejibmaaGreatDoor
open Go Go.Av Go.RowKit

theorem chosenAllS_ct (l : List De) (hl : Sz l) (s : List Blk) : Ct Tryz.prog 38 [.fz 7 (l.map deA), .fn (.func 39) []] s (fun v s' => v = .sl s.length 0 l.length l.length ∧ s' = s ++ (.arr 7 (hde (2 + s.length) l) :: tlS l)) := by
  have h := (chosenS_ct0 39 [] rfl (fun _ => true) l hl fun x _ => addAll_pc x).liftN rfl (by rintro _ _ ⟨_, rfl⟩; rw [tabS, List.all_cons, mpOk_tlS]; rfl) s
  rw [List.filter_eq_self.2 (fun _ _ => rfl)] at h
  refine ⟨h.1, fun hh ρ w vs m r => (h.2 hh ρ w vs m r).mono ?_⟩
  rintro e w' ⟨v, r, s1, h', ρ', h1, ⟨_, _, ⟨rfl, rfl⟩, rfl, rfl⟩, h6⟩
  refine ⟨v, _, _, h', ρ', h1, ⟨?_, ?_⟩, h6⟩
  · simp [shV, sh1]
  · rw [tabS, List.map_cons, shB, shC_hde, shB_tlS]

/-- what stands behind the open-order statement of Add (b: was the literal made first?) -/
def addE (n : Nat) (b : Bool) : Env := match b with
  | true => [(20, .sl 3 0 (n + 1) (n + 1))]
  | false => [(20, .sl 2 0 (n + 1) (n + 1))]
def addT (b0 b1 : Blk) (row : AV) (l : List De) (b : Bool) : List Blk := match b with
  | true => b0 :: b1 :: .arr 7 [row] :: .arr 7 (hde 5 l ++ [row]) :: tlS l
  | false => b0 :: b1 :: .arr 7 (hde 4 l ++ [row]) :: tlS l
theorem addT_step (b0 b1 : Blk) (row : AV) (l : List De) (lit : Blk) : (b0 :: b1 :: .arr 7 (hde 4 l ++ [row]) :: tlS l) = (b0 :: b1 :: .arr 7 (hde 4 l ++ [row]) :: (tlS l ++ [lit])).take (2 * l.length + 3) := by
  rw [show 2 * l.length + 3 = 2 * l.length + 1 + 1 + 1 by omega, List.take_succ_cons, List.take_succ_cons, List.take_succ_cons, List.take_append, tlS_len, List.take_of_length_le (by rw [tlS_len]; omega), Nat.sub_self, List.take_zero, List.append_nil]
theorem own_tab (pre : List Blk) (X : Blk) (l : List De) (l' : List (Nat × De)) (hX : X = .arr 7 (l'.map rowH)) (h : ∀ x ∈ l', (∃ i, i < l.length ∧ x.1 = pre.length + 2 + 2 * i ∧ l[i]? = some x.2) ∨ (x.1 < pre.length ∧ pre.getD x.1 .dead = blkS x.2)) (hb : ∀ x ∈ l', x.2.seen.length ≤ 1000000) : OwnD (pre ++ X :: tlS l) pre.length l' := by
  refine ⟨?_, fun x hx => ?_, hb⟩
  · rw [List.getD_eq_getElem?_getD, List.getElem?_append_right (Nat.le_refl _), Nat.sub_self, hX]
    rfl
  · rcases h x hx with ⟨i, h1, h2, h3⟩ | ⟨h1, h2⟩
    · rw [h2, List.getD_eq_getElem?_getD, List.getElem?_append_right (by omega), show pre.length + 2 + 2 * i - pre.length = (2 * i + 1) + 1 by omega, List.getElem?_cons_succ, tlS_seen l i x.2 h3]
      rfl
    · rw [List.getD_eq_getElem?_getD] at h2 ⊢
      rw [List.getElem?_append_left h1]
      exact h2
theorem flat_app : ∀ a b : List AV, flat (a ++ b) = flat a ++ flat b
  | [], _ => rfl
  | x :: a, b => by simp only [List.cons_append, flat, flat_app a b, List.append_assoc]
set_option maxHeartbeats 8000000 in
theorem addS_ct (l : List De) (dept paper text : List UInt8) (hl : SzL l) (hok : CkOk l) (hlen : l.length < 500) (hk : keyL dept = true) (hb : bodyL 1 paper text [] = 0) (hd : dept.length < 1000000) (hp : paper.length < 1000000) (ht : text.length < 1000000) :
    Ct Tryz.prog 9 [.fz 7 (l.map deA), .str dept, .int .i64 1, .str paper, .str text, .str []] [] (fun r s => ∃ id rows, r = .tup [.sl id 0 rows.length rows.length, .int .i64 0] ∧ OwnD s id rows ∧ s.all mpOk = true ∧ rows.length ≤ 1000) := by
  have hck := check_pc l hl
  have hki := isKey_pc dept hd
  have hbf := bodyFault_pc ⟨⟨dept, 1⟩, [], 1, paper, text, []⟩ hp ht (by simp)
  have hvec := ovec_pc l hl.len
  have hma := may_pc l paper hl (by omega)
  have hco := dcontains_pc (mayL l paper) [] (by have := mayL_len l paper; omega)
  simp only at hbf
  rw [hb] at hbf
  rw [hk] at hki
  have hbf := Pc.rawcell hbf
  have hbig : decide ((l.length : Int) ≥ 500) = false := by simp; omega
  refine ct_intro Tryz.func9 rfl Tryz.ntmps9 hB9 (by simp) fun h ρ w => goF (N := 106) Tryz.ntmps9 300 ?_
  simp only [go_sem]
  refine pcall (hck) rfl (N := 106) Tryz.ntmps9 rfl ?_
  rintro _ ⟨n, rfl, hn⟩
  have hn0 : n = 0 := hn.2 hok
  subst hn0
  clear hn hck
  refine goF (N := 106) Tryz.ntmps9 300 ?_
  simp only [go_sem]
  refine pcall1 (hki) rfl (N := 106) Tryz.ntmps9 rfl (goF (N := 106) Tryz.ntmps9 300 ?_)
  simp only [go_sem, hbig, List.length_map]
  repeat refine And.intro (by first | omega | rfl | exact .inl rfl | exact .inl trivial | (simp; done) | (simp; omega)) ?_
  refine pcall1 (hbf) rfl (N := 106) Tryz.ntmps9 rfl (goF (N := 106) Tryz.ntmps9 300 ?_)
  simp only [go_sem]
  refine pcall1 (hma) rfl (N := 106) Tryz.ntmps9 rfl (goF (N := 106) Tryz.ntmps9 300 ?_)
  simp only [go_sem]
  refine pcall1 (hco) rfl (N := 106) Tryz.ntmps9 rfl (goF (N := 106) Tryz.ntmps9 300 ?_)
  generalize decide ([] ∈ mayL l paper) = hv
  simp only [go_sem]
  clear hbf hki hma hco
  have hvo := vec_ok hok.srt
  have hvno : ∀ s ∈ vecL l, 1 ≤ s.no ∧ s.no ≤ 500 := fun s hs => by
    obtain ⟨x, hx, rfl⟩ := hvo.mem s hs
    exact ⟨hok.pos hx, hok.no_le hx⟩
  have hvl := vec_len l
  clear hvo
  generalize vecL l = v at *
  refine pcall1 (hvec) rfl (N := 106) Tryz.ntmps9 rfl (goF (N := 106) Tryz.ntmps9 300 ?_)
  simp only [go_sem, List.length_map]
  repeat refine And.intro (by first | omega | rfl | exact .inl rfl | exact .inl trivial | (simp; done) | (simp; omega)) ?_
  refine aloop (ι := Nat) (fun i => v.length - i) (fun i => [(78, .int .i64 i), (77, .int .i64 v.length), (76, .fz 2 (v.map stA)), (15, .ptr 0 1 0 0), (1, .str dept), (0, .fz 7 (l.map deA))])
    (fun i => [.arr 7 [.agg [.str dept, .int .i64 (addNo (v.take i) dept), .sl 1 0 (addSeen (v.take i) dept).length (addSeen (v.take i) dept).length, .int .i64 1, .str paper, .str text, .str []]], .arr 2 ((addSeen (v.take i) dept).map stA)]) (fun i => i ≤ v.length) 0 (by simp) ?_ ?_
  · refine Shift.trans (Shift.cells 0 2 [.agg [.str dept, .int .i64 1, .sl 1 0 0 0, .int .i64 1, .str paper, .str text, .str []]] rfl rfl (by simp [cellsOf]) ⟨.refl, .refl, .sl, .refl, .refl, .refl, .refl, trivial⟩) (Shift.weakS ?_ rfl)
    simp only [wk, go_sem]
  intro i g1 J hJ
  by_cases gi : i < v.length
  · have di : decide ((i : Int) < (v.length : Int)) = true := by simp; omega
    have p1 := stA_get v i gi
    have hfin := hJ (i + 1) (by omega) (by omega)
    rw [addNo_step v dept i gi, addSeen_step v dept i gi] at hfin
    have hle : (addSeen (v.take i) dept).length ≤ i := Nat.le_trans (List.length_filter_le _ _) (by simp; omega)
    generalize addNo (v.take i) dept = n0 at *
    generalize addSeen (v.take i) dept = o at *
    have hbb := hvno v[i] (List.getElem_mem gi)
    have hlow0 : ∀ n m k, lowB 2 (.arr 7 [.agg [.str dept, .int .i64 n, .sl 1 0 m k, .int .i64 1, .str paper, .str text, .str []]]) = true := fun _ _ _ => rfl
    by_cases dp : v[i].dept = dept
    · have dd : (v[i].dept == dept) = true := by simpa using dp
      rw [if_pos dp, if_pos dp] at hfin
      refine goF (N := 106) Tryz.ntmps9 300 ?_
      simp only [go_sem, di, p1, dd, List.length_map]
      repeat refine And.intro (by first | omega | rfl | exact .inl rfl | exact .inl trivial | (simp; done) | (simp; omega)) ?_
      rw [show (i : Int) + 1 = ((i + 1 : Nat) : Int) by omega]
      refine ainv hfin (Shift.low 2 (by simp) (by simp) ?_ ?_)
      · simp only [List.take_succ_cons, List.take_zero, List.all_cons, List.all_nil, low_sts, hlow0, Bool.and_self]
      · simp only [wkl, lowV, lowC, Av.get, go_sem]
    · have dd : (v[i].dept == dept) = false := by simpa using dp
      rw [if_neg dp, if_neg dp] at hfin
      have hlow1 := low_sts 2 (o ++ [v[i]])
      simp only [List.length_append, List.length_cons, List.length_nil, List.map_append, List.map_cons, List.map_nil, Nat.zero_add, stA] at hfin hlow1
      refine goF (N := 106) Tryz.ntmps9 300 ?_
      simp only [go_sem, di, p1, dd, List.length_map]
      repeat refine And.intro (by first | omega | rfl | exact .inl rfl | exact .inl trivial | (simp; done) | (simp; omega)) ?_
      rw [show (i : Int) + 1 = ((i + 1 : Nat) : Int) by omega]
      refine ainv hfin (Shift.low 2 (by simp) (by simp) ?_ ?_)
      · simp only [List.take_succ_cons, List.take_zero, List.all_cons, List.all_nil, hlow1, hlow0, Bool.and_self]
      · simp only [wkl, lowV, lowC, Av.get, go_sem]
  have di : decide ((i : Int) < (v.length : Int)) = false := by simp; omega
  have hi : i = v.length := by omega
  subst hi
  rw [List.take_length]
  clear hJ
  have hob : (addSeen v dept).length ≤ v.length := List.length_filter_le _ _
  generalize addNo v dept = n0 at *
  generalize addSeen v dept = o at *
  refine goF (N := 106) Tryz.ntmps9 300 ?_
  simp only [go_sem, di]
  have hol2 := hde_len l 4
  have hol3 := hde_len l 5
  obtain ⟨b0, hb0⟩ : ∃ b0, Blk.arr 7 [AV.agg [.str dept, .int .i64 n0, .sl 1 0 o.length o.length, .int .i64 1, .str paper, .str text, .str []]] = b0 := ⟨_, rfl⟩
  refine acut (ι := Bool) (addE l.length) (addT (.arr 7 [.agg [.str dept, .int .i64 n0, .sl 1 0 o.length o.length, .int .i64 1, .str paper, .str text, .str []]]) (.arr 2 (o.map stA)) (.agg [.str dept, .int .i64 n0, .sl 1 0 o.length o.length, .int .i64 1, .str paper, .str text, .str []]) l) (fun _ => True) ?_ ?_
  · intro J0 hfin
    refine adrawT (.both (.step 0 (.both (.step 1 (.step 2 (.step 3 (.step 4 (.step 5 .leaf))))) (.step 2 (.both (.step 1 (.step 3 (.step 4 (.step 5 .leaf)))) (.step 3 (.step 1 (.step 4 (.step 5 .leaf)))))))) (.step 2 (.both (.step 0 (.both (.step 1 (.step 3 (.step 4 (.step 5 .leaf)))) (.step 3 (.step 1 (.step 4 (.step 5 .leaf)))))) (.step 3 (.step 0 (.step 1 (.step 4 (.step 5 .leaf)))))))) mixed (by decide) (N := 106) Tryz.ntmps9 (by decide) ?_
    have hlow2 : ∀ lit, (((.arr 7 [.agg [.str dept, .int .i64 n0, .sl 1 0 o.length o.length, .int .i64 1, .str paper, .str text, .str []]]) :: (.arr 2 (o.map stA)) :: .arr 7 (hde 4 l ++ [(.agg [.str dept, .int .i64 n0, .sl 1 0 o.length o.length, .int .i64 1, .str paper, .str text, .str []])]) :: (tlS l ++ [lit])).take (2 * l.length + 3)).all (lowB (2 * l.length + 3)) = true := fun lit => by
      rw [← addT_step]
      have h1 : decide (1 < 2 * l.length + 3) = true := by simp
      have h2 := low_hde (2 * l.length + 3) l 4 (by omega)
      have h3 : (flat (o.map stA)).all (lowC (2 * l.length + 3)) = true := low_sts _ o
      simp only [List.all_cons, low_tlS, h3, lowB, flat_app, List.all_append, h2, flat, cellsOf, List.append_nil, lowC, Av.frozen, h1, List.all_nil, Bool.and_true, Bool.and_self]
    refine ⟨?_, ?_⟩
    · intro J0 hJ0
      refine go (N := 106) Tryz.ntmps9 300 ?_
      simp only [go_sem, List.getElem?_cons_zero, List.getElem?_cons_succ, Option.toList_some, List.length_cons, List.length_nil, List.cons_append, List.nil_append, tlS_len, tlS_get, tlS_get0, tlS_set, tlS_set0, List.set_cons_succ, List.getD_cons_succ, hol2, hol3, Nat.reduceAdd]
      repeat refine And.intro (by first | omega | rfl | exact .inl rfl | exact .inl trivial | (simp; done) | (simp; omega)) ?_
      refine ainv (hJ0 _ _ ?_) Shift.refl
      refine ⟨?_, ?_⟩
      · intro J1 hJ1
        refine go (N := 106) Tryz.ntmps9 300 ?_
        simp only [go_sem, List.getElem?_cons_zero, List.getElem?_cons_succ, Option.toList_some, List.length_cons, List.length_nil, List.cons_append, List.nil_append, tlS_len, tlS_get, tlS_get0, tlS_set, tlS_set0, List.set_cons_succ, List.getD_cons_succ, hol2, hol3, Nat.reduceAdd]
        refine acall (chosenAllS_ct l hl.sz _) (N := 106) Tryz.ntmps9 rfl ?_
        rintro _ _ ⟨rfl, rfl⟩
        refine go (N := 106) Tryz.ntmps9 300 ?_
        simp only [go_sem, List.getElem?_cons_zero, List.getElem?_cons_succ, Option.toList_some, List.length_cons, List.length_nil, List.cons_append, List.nil_append, tlS_len, tlS_get, tlS_get0, tlS_set, tlS_set0, List.set_cons_succ, List.getD_cons_succ, hol2, hol3, Nat.reduceAdd]
        repeat refine And.intro (by first | omega | rfl | exact .inl rfl | exact .inl trivial | (simp; done) | (simp; omega)) ?_
        refine ainv (hJ1 _ _ ?_) Shift.refl
        intro J2 hJ2
        refine go (N := 106) Tryz.ntmps9 300 ?_
        simp only [go_sem, List.getElem?_cons_zero, List.getElem?_cons_succ, Option.toList_some, List.length_cons, List.length_nil, List.cons_append, List.nil_append, tlS_len, tlS_get, tlS_get0, tlS_set, tlS_set0, List.set_cons_succ, List.getD_cons_succ, hol2, hol3, Nat.reduceAdd]
        repeat refine And.intro (by first | omega | rfl | exact .inl rfl | exact .inl trivial | (simp; done) | (simp; omega)) ?_
        refine ainv (hJ2 _ _ ?_) Shift.refl
        intro J3 hJ3
        refine go (N := 106) Tryz.ntmps9 300 ?_
        simp only [go_sem, List.getElem?_cons_zero, List.getElem?_cons_succ, Option.toList_some, List.length_cons, List.length_nil, List.cons_append, List.nil_append, tlS_len, tlS_get, tlS_get0, tlS_set, tlS_set0, List.set_cons_succ, List.getD_cons_succ, hol2, hol3, Nat.reduceAdd]
        repeat refine And.intro (by first | omega | rfl | exact .inl rfl | exact .inl trivial | (simp; done) | (simp; omega)) ?_
        refine ainv (hJ3 _ _ ?_) Shift.refl
        intro J4 hJ4
        refine go (N := 106) Tryz.ntmps9 300 ?_
        simp only [go_sem, List.getElem?_cons_zero, List.getElem?_cons_succ, Option.toList_some, List.length_cons, List.length_nil, List.cons_append, List.nil_append, tlS_len, tlS_get, tlS_get0, tlS_set, tlS_set0, List.set_cons_succ, List.getD_cons_succ, hol2, hol3, Nat.reduceAdd]
        repeat refine And.intro (by first | omega | rfl | exact .inl rfl | exact .inl trivial | (simp; done) | (simp; omega)) ?_
        refine ainv (hJ4 _ _ ?_) Shift.refl
        intro J5 hJ5
        refine go (N := 106) Tryz.ntmps9 300 ?_
        simp only [go_sem, List.getElem?_cons_zero, List.getElem?_cons_succ, Option.toList_some, List.length_cons, List.length_nil, List.cons_append, List.nil_append, tlS_len, tlS_get, tlS_get0, tlS_set, tlS_set0, List.set_cons_succ, List.getD_cons_succ, hol2, hol3, Nat.reduceAdd]
        repeat refine And.intro (by first | omega | rfl | exact .inl rfl | exact .inl trivial | (simp; done) | (simp; omega)) ?_
        refine ainv (hJ5 _ _ ?_) Shift.refl
        have hf := hfin false trivial
        simp only [addE, addT] at hf
        have hf2 := fun lit => (addT_step (.arr 7 [.agg [.str dept, .int .i64 n0, .sl 1 0 o.length o.length, .int .i64 1, .str paper, .str text, .str []]]) (.arr 2 (o.map stA)) (.agg [.str dept, .int .i64 n0, .sl 1 0 o.length o.length, .int .i64 1, .str paper, .str text, .str []]) l lit) ▸ hf
        refine ainv (hf2 _) (Shift.low (2 * l.length + 3) (by simp) (by simp [tlS_len]) (hlow2 _) ?_)
        simp only [wkl, lowV, lowC, Av.get, go_sem]
        omega
      · intro J1 hJ1
        refine go (N := 106) Tryz.ntmps9 300 ?_
        simp only [go_sem, List.getElem?_cons_zero, List.getElem?_cons_succ, Option.toList_some, List.length_cons, List.length_nil, List.cons_append, List.nil_append, tlS_len, tlS_get, tlS_get0, tlS_set, tlS_set0, List.set_cons_succ, List.getD_cons_succ, hol2, hol3, Nat.reduceAdd]
        repeat refine And.intro (by first | omega | rfl | exact .inl rfl | exact .inl trivial | (simp; done) | (simp; omega)) ?_
        refine ainv (hJ1 _ _ ?_) Shift.refl
        refine ⟨?_, ?_⟩
        · intro J2 hJ2
          refine go (N := 106) Tryz.ntmps9 300 ?_
          simp only [go_sem, List.getElem?_cons_zero, List.getElem?_cons_succ, Option.toList_some, List.length_cons, List.length_nil, List.cons_append, List.nil_append, tlS_len, tlS_get, tlS_get0, tlS_set, tlS_set0, List.set_cons_succ, List.getD_cons_succ, hol2, hol3, Nat.reduceAdd]
          refine acall (chosenAllS_ct l hl.sz _) (N := 106) Tryz.ntmps9 rfl ?_
          rintro _ _ ⟨rfl, rfl⟩
          refine go (N := 106) Tryz.ntmps9 300 ?_
          simp only [go_sem, List.getElem?_cons_zero, List.getElem?_cons_succ, Option.toList_some, List.length_cons, List.length_nil, List.cons_append, List.nil_append, tlS_len, tlS_get, tlS_get0, tlS_set, tlS_set0, List.set_cons_succ, List.getD_cons_succ, hol2, hol3, Nat.reduceAdd]
          repeat refine And.intro (by first | omega | rfl | exact .inl rfl | exact .inl trivial | (simp; done) | (simp; omega)) ?_
          refine ainv (hJ2 _ _ ?_) Shift.refl
          intro J3 hJ3
          refine go (N := 106) Tryz.ntmps9 300 ?_
          simp only [go_sem, List.getElem?_cons_zero, List.getElem?_cons_succ, Option.toList_some, List.length_cons, List.length_nil, List.cons_append, List.nil_append, tlS_len, tlS_get, tlS_get0, tlS_set, tlS_set0, List.set_cons_succ, List.getD_cons_succ, hol2, hol3, Nat.reduceAdd]
          repeat refine And.intro (by first | omega | rfl | exact .inl rfl | exact .inl trivial | (simp; done) | (simp; omega)) ?_
          refine ainv (hJ3 _ _ ?_) Shift.refl
          intro J4 hJ4
          refine go (N := 106) Tryz.ntmps9 300 ?_
          simp only [go_sem, List.getElem?_cons_zero, List.getElem?_cons_succ, Option.toList_some, List.length_cons, List.length_nil, List.cons_append, List.nil_append, tlS_len, tlS_get, tlS_get0, tlS_set, tlS_set0, List.set_cons_succ, List.getD_cons_succ, hol2, hol3, Nat.reduceAdd]
          repeat refine And.intro (by first | omega | rfl | exact .inl rfl | exact .inl trivial | (simp; done) | (simp; omega)) ?_
          refine ainv (hJ4 _ _ ?_) Shift.refl
          intro J5 hJ5
          refine go (N := 106) Tryz.ntmps9 300 ?_
          simp only [go_sem, List.getElem?_cons_zero, List.getElem?_cons_succ, Option.toList_some, List.length_cons, List.length_nil, List.cons_append, List.nil_append, tlS_len, tlS_get, tlS_get0, tlS_set, tlS_set0, List.set_cons_succ, List.getD_cons_succ, hol2, hol3, Nat.reduceAdd]
          repeat refine And.intro (by first | omega | rfl | exact .inl rfl | exact .inl trivial | (simp; done) | (simp; omega)) ?_
          refine ainv (hJ5 _ _ ?_) Shift.refl
          have hf := hfin false trivial
          simp only [addE, addT] at hf
          have hf2 := fun lit => (addT_step (.arr 7 [.agg [.str dept, .int .i64 n0, .sl 1 0 o.length o.length, .int .i64 1, .str paper, .str text, .str []]]) (.arr 2 (o.map stA)) (.agg [.str dept, .int .i64 n0, .sl 1 0 o.length o.length, .int .i64 1, .str paper, .str text, .str []]) l lit) ▸ hf
          refine ainv (hf2 _) (Shift.low (2 * l.length + 3) (by simp) (by simp [tlS_len]) (hlow2 _) ?_)
          simp only [wkl, lowV, lowC, Av.get, go_sem]
          omega
        · intro J2 hJ2
          refine go (N := 106) Tryz.ntmps9 300 ?_
          simp only [go_sem, List.getElem?_cons_zero, List.getElem?_cons_succ, Option.toList_some, List.length_cons, List.length_nil, List.cons_append, List.nil_append, tlS_len, tlS_get, tlS_get0, tlS_set, tlS_set0, List.set_cons_succ, List.getD_cons_succ, hol2, hol3, Nat.reduceAdd]
          repeat refine And.intro (by first | omega | rfl | exact .inl rfl | exact .inl trivial | (simp; done) | (simp; omega)) ?_
          refine ainv (hJ2 _ _ ?_) Shift.refl
          intro J3 hJ3
          refine go (N := 106) Tryz.ntmps9 300 ?_
          simp only [go_sem, List.getElem?_cons_zero, List.getElem?_cons_succ, Option.toList_some, List.length_cons, List.length_nil, List.cons_append, List.nil_append, tlS_len, tlS_get, tlS_get0, tlS_set, tlS_set0, List.set_cons_succ, List.getD_cons_succ, hol2, hol3, Nat.reduceAdd]
          refine acall (chosenAllS_ct l hl.sz _) (N := 106) Tryz.ntmps9 rfl ?_
          rintro _ _ ⟨rfl, rfl⟩
          refine go (N := 106) Tryz.ntmps9 300 ?_
          simp only [go_sem, List.getElem?_cons_zero, List.getElem?_cons_succ, Option.toList_some, List.length_cons, List.length_nil, List.cons_append, List.nil_append, tlS_len, tlS_get, tlS_get0, tlS_set, tlS_set0, List.set_cons_succ, List.getD_cons_succ, hol2, hol3, Nat.reduceAdd]
          repeat refine And.intro (by first | omega | rfl | exact .inl rfl | exact .inl trivial | (simp; done) | (simp; omega)) ?_
          refine ainv (hJ3 _ _ ?_) Shift.refl
          intro J4 hJ4
          refine go (N := 106) Tryz.ntmps9 300 ?_
          simp only [go_sem, List.getElem?_cons_zero, List.getElem?_cons_succ, Option.toList_some, List.length_cons, List.length_nil, List.cons_append, List.nil_append, tlS_len, tlS_get, tlS_get0, tlS_set, tlS_set0, List.set_cons_succ, List.getD_cons_succ, hol2, hol3, Nat.reduceAdd]
          repeat refine And.intro (by first | omega | rfl | exact .inl rfl | exact .inl trivial | (simp; done) | (simp; omega)) ?_
          refine ainv (hJ4 _ _ ?_) Shift.refl
          intro J5 hJ5
          refine go (N := 106) Tryz.ntmps9 300 ?_
          simp only [go_sem, List.getElem?_cons_zero, List.getElem?_cons_succ, Option.toList_some, List.length_cons, List.length_nil, List.cons_append, List.nil_append, tlS_len, tlS_get, tlS_get0, tlS_set, tlS_set0, List.set_cons_succ, List.getD_cons_succ, hol2, hol3, Nat.reduceAdd]
          repeat refine And.intro (by first | omega | rfl | exact .inl rfl | exact .inl trivial | (simp; done) | (simp; omega)) ?_
          refine ainv (hJ5 _ _ ?_) Shift.refl
          have hf := hfin true trivial
          simp only [addE, addT] at hf
          refine ainv hf (Shift.weakS ?_ (by simp))
          simp only [wk, go_sem]
    · intro J0 hJ0
      refine go (N := 106) Tryz.ntmps9 300 ?_
      simp only [go_sem, List.getElem?_cons_zero, List.getElem?_cons_succ, Option.toList_some, List.length_cons, List.length_nil, List.cons_append, List.nil_append, tlS_len, tlS_get, tlS_get0, tlS_set, tlS_set0, List.set_cons_succ, List.getD_cons_succ, hol2, hol3, Nat.reduceAdd]
      repeat refine And.intro (by first | omega | rfl | exact .inl rfl | exact .inl trivial | (simp; done) | (simp; omega)) ?_
      refine ainv (hJ0 _ _ ?_) Shift.refl
      refine ⟨?_, ?_⟩
      · intro J1 hJ1
        refine go (N := 106) Tryz.ntmps9 300 ?_
        simp only [go_sem, List.getElem?_cons_zero, List.getElem?_cons_succ, Option.toList_some, List.length_cons, List.length_nil, List.cons_append, List.nil_append, tlS_len, tlS_get, tlS_get0, tlS_set, tlS_set0, List.set_cons_succ, List.getD_cons_succ, hol2, hol3, Nat.reduceAdd]
        repeat refine And.intro (by first | omega | rfl | exact .inl rfl | exact .inl trivial | (simp; done) | (simp; omega)) ?_
        refine ainv (hJ1 _ _ ?_) Shift.refl
        refine ⟨?_, ?_⟩
        · intro J2 hJ2
          refine go (N := 106) Tryz.ntmps9 300 ?_
          simp only [go_sem, List.getElem?_cons_zero, List.getElem?_cons_succ, Option.toList_some, List.length_cons, List.length_nil, List.cons_append, List.nil_append, tlS_len, tlS_get, tlS_get0, tlS_set, tlS_set0, List.set_cons_succ, List.getD_cons_succ, hol2, hol3, Nat.reduceAdd]
          refine acall (chosenAllS_ct l hl.sz _) (N := 106) Tryz.ntmps9 rfl ?_
          rintro _ _ ⟨rfl, rfl⟩
          refine go (N := 106) Tryz.ntmps9 300 ?_
          simp only [go_sem, List.getElem?_cons_zero, List.getElem?_cons_succ, Option.toList_some, List.length_cons, List.length_nil, List.cons_append, List.nil_append, tlS_len, tlS_get, tlS_get0, tlS_set, tlS_set0, List.set_cons_succ, List.getD_cons_succ, hol2, hol3, Nat.reduceAdd]
          repeat refine And.intro (by first | omega | rfl | exact .inl rfl | exact .inl trivial | (simp; done) | (simp; omega)) ?_
          refine ainv (hJ2 _ _ ?_) Shift.refl
          intro J3 hJ3
          refine go (N := 106) Tryz.ntmps9 300 ?_
          simp only [go_sem, List.getElem?_cons_zero, List.getElem?_cons_succ, Option.toList_some, List.length_cons, List.length_nil, List.cons_append, List.nil_append, tlS_len, tlS_get, tlS_get0, tlS_set, tlS_set0, List.set_cons_succ, List.getD_cons_succ, hol2, hol3, Nat.reduceAdd]
          repeat refine And.intro (by first | omega | rfl | exact .inl rfl | exact .inl trivial | (simp; done) | (simp; omega)) ?_
          refine ainv (hJ3 _ _ ?_) Shift.refl
          intro J4 hJ4
          refine go (N := 106) Tryz.ntmps9 300 ?_
          simp only [go_sem, List.getElem?_cons_zero, List.getElem?_cons_succ, Option.toList_some, List.length_cons, List.length_nil, List.cons_append, List.nil_append, tlS_len, tlS_get, tlS_get0, tlS_set, tlS_set0, List.set_cons_succ, List.getD_cons_succ, hol2, hol3, Nat.reduceAdd]
          repeat refine And.intro (by first | omega | rfl | exact .inl rfl | exact .inl trivial | (simp; done) | (simp; omega)) ?_
          refine ainv (hJ4 _ _ ?_) Shift.refl
          intro J5 hJ5
          refine go (N := 106) Tryz.ntmps9 300 ?_
          simp only [go_sem, List.getElem?_cons_zero, List.getElem?_cons_succ, Option.toList_some, List.length_cons, List.length_nil, List.cons_append, List.nil_append, tlS_len, tlS_get, tlS_get0, tlS_set, tlS_set0, List.set_cons_succ, List.getD_cons_succ, hol2, hol3, Nat.reduceAdd]
          repeat refine And.intro (by first | omega | rfl | exact .inl rfl | exact .inl trivial | (simp; done) | (simp; omega)) ?_
          refine ainv (hJ5 _ _ ?_) Shift.refl
          have hf := hfin false trivial
          simp only [addE, addT] at hf
          have hf2 := fun lit => (addT_step (.arr 7 [.agg [.str dept, .int .i64 n0, .sl 1 0 o.length o.length, .int .i64 1, .str paper, .str text, .str []]]) (.arr 2 (o.map stA)) (.agg [.str dept, .int .i64 n0, .sl 1 0 o.length o.length, .int .i64 1, .str paper, .str text, .str []]) l lit) ▸ hf
          refine ainv (hf2 _) (Shift.low (2 * l.length + 3) (by simp) (by simp [tlS_len]) (hlow2 _) ?_)
          simp only [wkl, lowV, lowC, Av.get, go_sem]
          omega
        · intro J2 hJ2
          refine go (N := 106) Tryz.ntmps9 300 ?_
          simp only [go_sem, List.getElem?_cons_zero, List.getElem?_cons_succ, Option.toList_some, List.length_cons, List.length_nil, List.cons_append, List.nil_append, tlS_len, tlS_get, tlS_get0, tlS_set, tlS_set0, List.set_cons_succ, List.getD_cons_succ, hol2, hol3, Nat.reduceAdd]
          repeat refine And.intro (by first | omega | rfl | exact .inl rfl | exact .inl trivial | (simp; done) | (simp; omega)) ?_
          refine ainv (hJ2 _ _ ?_) Shift.refl
          intro J3 hJ3
          refine go (N := 106) Tryz.ntmps9 300 ?_
          simp only [go_sem, List.getElem?_cons_zero, List.getElem?_cons_succ, Option.toList_some, List.length_cons, List.length_nil, List.cons_append, List.nil_append, tlS_len, tlS_get, tlS_get0, tlS_set, tlS_set0, List.set_cons_succ, List.getD_cons_succ, hol2, hol3, Nat.reduceAdd]
          refine acall (chosenAllS_ct l hl.sz _) (N := 106) Tryz.ntmps9 rfl ?_
          rintro _ _ ⟨rfl, rfl⟩
          refine go (N := 106) Tryz.ntmps9 300 ?_
          simp only [go_sem, List.getElem?_cons_zero, List.getElem?_cons_succ, Option.toList_some, List.length_cons, List.length_nil, List.cons_append, List.nil_append, tlS_len, tlS_get, tlS_get0, tlS_set, tlS_set0, List.set_cons_succ, List.getD_cons_succ, hol2, hol3, Nat.reduceAdd]
          repeat refine And.intro (by first | omega | rfl | exact .inl rfl | exact .inl trivial | (simp; done) | (simp; omega)) ?_
          refine ainv (hJ3 _ _ ?_) Shift.refl
          intro J4 hJ4
          refine go (N := 106) Tryz.ntmps9 300 ?_
          simp only [go_sem, List.getElem?_cons_zero, List.getElem?_cons_succ, Option.toList_some, List.length_cons, List.length_nil, List.cons_append, List.nil_append, tlS_len, tlS_get, tlS_get0, tlS_set, tlS_set0, List.set_cons_succ, List.getD_cons_succ, hol2, hol3, Nat.reduceAdd]
          repeat refine And.intro (by first | omega | rfl | exact .inl rfl | exact .inl trivial | (simp; done) | (simp; omega)) ?_
          refine ainv (hJ4 _ _ ?_) Shift.refl
          intro J5 hJ5
          refine go (N := 106) Tryz.ntmps9 300 ?_
          simp only [go_sem, List.getElem?_cons_zero, List.getElem?_cons_succ, Option.toList_some, List.length_cons, List.length_nil, List.cons_append, List.nil_append, tlS_len, tlS_get, tlS_get0, tlS_set, tlS_set0, List.set_cons_succ, List.getD_cons_succ, hol2, hol3, Nat.reduceAdd]
          repeat refine And.intro (by first | omega | rfl | exact .inl rfl | exact .inl trivial | (simp; done) | (simp; omega)) ?_
          refine ainv (hJ5 _ _ ?_) Shift.refl
          have hf := hfin true trivial
          simp only [addE, addT] at hf
          refine ainv hf (Shift.weakS ?_ (by simp))
          simp only [wk, go_sem]
      · intro J1 hJ1
        refine go (N := 106) Tryz.ntmps9 300 ?_
        simp only [go_sem, List.getElem?_cons_zero, List.getElem?_cons_succ, Option.toList_some, List.length_cons, List.length_nil, List.cons_append, List.nil_append, tlS_len, tlS_get, tlS_get0, tlS_set, tlS_set0, List.set_cons_succ, List.getD_cons_succ, hol2, hol3, Nat.reduceAdd]
        repeat refine And.intro (by first | omega | rfl | exact .inl rfl | exact .inl trivial | (simp; done) | (simp; omega)) ?_
        refine ainv (hJ1 _ _ ?_) Shift.refl
        intro J2 hJ2
        refine go (N := 106) Tryz.ntmps9 300 ?_
        simp only [go_sem, List.getElem?_cons_zero, List.getElem?_cons_succ, Option.toList_some, List.length_cons, List.length_nil, List.cons_append, List.nil_append, tlS_len, tlS_get, tlS_get0, tlS_set, tlS_set0, List.set_cons_succ, List.getD_cons_succ, hol2, hol3, Nat.reduceAdd]
        repeat refine And.intro (by first | omega | rfl | exact .inl rfl | exact .inl trivial | (simp; done) | (simp; omega)) ?_
        refine ainv (hJ2 _ _ ?_) Shift.refl
        intro J3 hJ3
        refine go (N := 106) Tryz.ntmps9 300 ?_
        simp only [go_sem, List.getElem?_cons_zero, List.getElem?_cons_succ, Option.toList_some, List.length_cons, List.length_nil, List.cons_append, List.nil_append, tlS_len, tlS_get, tlS_get0, tlS_set, tlS_set0, List.set_cons_succ, List.getD_cons_succ, hol2, hol3, Nat.reduceAdd]
        refine acall (chosenAllS_ct l hl.sz _) (N := 106) Tryz.ntmps9 rfl ?_
        rintro _ _ ⟨rfl, rfl⟩
        refine go (N := 106) Tryz.ntmps9 300 ?_
        simp only [go_sem, List.getElem?_cons_zero, List.getElem?_cons_succ, Option.toList_some, List.length_cons, List.length_nil, List.cons_append, List.nil_append, tlS_len, tlS_get, tlS_get0, tlS_set, tlS_set0, List.set_cons_succ, List.getD_cons_succ, hol2, hol3, Nat.reduceAdd]
        repeat refine And.intro (by first | omega | rfl | exact .inl rfl | exact .inl trivial | (simp; done) | (simp; omega)) ?_
        refine ainv (hJ3 _ _ ?_) Shift.refl
        intro J4 hJ4
        refine go (N := 106) Tryz.ntmps9 300 ?_
        simp only [go_sem, List.getElem?_cons_zero, List.getElem?_cons_succ, Option.toList_some, List.length_cons, List.length_nil, List.cons_append, List.nil_append, tlS_len, tlS_get, tlS_get0, tlS_set, tlS_set0, List.set_cons_succ, List.getD_cons_succ, hol2, hol3, Nat.reduceAdd]
        repeat refine And.intro (by first | omega | rfl | exact .inl rfl | exact .inl trivial | (simp; done) | (simp; omega)) ?_
        refine ainv (hJ4 _ _ ?_) Shift.refl
        intro J5 hJ5
        refine go (N := 106) Tryz.ntmps9 300 ?_
        simp only [go_sem, List.getElem?_cons_zero, List.getElem?_cons_succ, Option.toList_some, List.length_cons, List.length_nil, List.cons_append, List.nil_append, tlS_len, tlS_get, tlS_get0, tlS_set, tlS_set0, List.set_cons_succ, List.getD_cons_succ, hol2, hol3, Nat.reduceAdd]
        repeat refine And.intro (by first | omega | rfl | exact .inl rfl | exact .inl trivial | (simp; done) | (simp; omega)) ?_
        refine ainv (hJ5 _ _ ?_) Shift.refl
        have hf := hfin true trivial
        simp only [addE, addT] at hf
        refine ainv hf (Shift.weakS ?_ (by simp))
        simp only [wk, go_sem]
  · have hdr : (.agg [.str dept, .int .i64 n0, .sl 1 0 o.length o.length, .int .i64 1, .str paper, .str text, .str []]) = rowH (1, (⟨⟨dept, n0⟩, o, 1, paper, text, []⟩ : De)) := rfl
    rintro ⟨⟩ _
    · obtain ⟨rows, w1, w2, w3⟩ := rows_hde l 4
      have hrl : rows.length = l.length := by rw [← w2, List.length_map]
      have e1 : hde 4 l ++ [(.agg [.str dept, .int .i64 n0, .sl 1 0 o.length o.length, .int .i64 1, .str paper, .str text, .str []])] = (rows ++ [(1, (⟨⟨dept, n0⟩, o, 1, paper, text, []⟩ : De))]).map rowH := by rw [w1, List.map_append]; rfl
      have hss := sortH_ct (g := 41) hB41 add2H_calls (s := (.arr 7 [.agg [.str dept, .int .i64 n0, .sl 1 0 o.length o.length, .int .i64 1, .str paper, .str text, .str []]]) :: (.arr 2 (o.map stA)) :: .arr 7 (hde 4 l ++ [(.agg [.str dept, .int .i64 n0, .sl 1 0 o.length o.length, .int .i64 1, .str paper, .str text, .str []])]) :: tlS l) (bid := 2) (l := rows ++ [(1, (⟨⟨dept, n0⟩, o, 1, paper, text, []⟩ : De))]) (by rw [e1]; rfl) (by simp; omega)
      have hrw : (rows ++ [((1, (⟨⟨dept, n0⟩, o, 1, paper, text, []⟩ : De)) : Nat × De)]).length = l.length + 1 := by simp [hrl]
      rw [hrw] at hss
      simp only [addE, addT]
      refine go (N := 106) Tryz.ntmps9 300 ?_
      simp only [go_sem]
      refine acall (hss) (N := 106) Tryz.ntmps9 rfl ?_
      rintro _ _ ⟨rfl, l', rfl, hp', _⟩
      have hl' := hp'.length_eq
      simp only [List.length_append, List.length_cons, List.length_nil, Nat.zero_add, hrl] at hl'
      refine go (N := 106) Tryz.ntmps9 300 ?_
      simp only [go_sem]
      refine aret [12, 13] rfl ⟨2, l', by simp [resV, Av.get, Av.put, hl'], own_tab [(.arr 7 [.agg [.str dept, .int .i64 n0, .sl 1 0 o.length o.length, .int .i64 1, .str paper, .str text, .str []]]), (.arr 2 (o.map stA))] _ l l' rfl (fun x hx => ?_) (fun x hx => ?_), ?_⟩
      · rcases List.mem_append.1 (hp'.mem_iff.1 hx) with h | h
        · exact .inl (w3 x h)
        · rw [List.mem_singleton.1 h]
          exact .inr ⟨by simp, rfl⟩
      · rcases List.mem_append.1 (hp'.mem_iff.1 hx) with h | h
        · have : x.2 ∈ l := by rw [← w2]; exact List.mem_map.2 ⟨x, h, rfl⟩
          have := (hl.all _ this).seen
          omega
        · rw [List.mem_singleton.1 h]
          simp only
          omega
      · refine ⟨?_, by omega⟩
        simp only [List.set_cons_succ, List.set_cons_zero, List.all_cons, mpOk_tlS]
        rfl
    · obtain ⟨rows, w1, w2, w3⟩ := rows_hde l 5
      have hrl : rows.length = l.length := by rw [← w2, List.length_map]
      have e1 : hde 5 l ++ [(.agg [.str dept, .int .i64 n0, .sl 1 0 o.length o.length, .int .i64 1, .str paper, .str text, .str []])] = (rows ++ [(1, (⟨⟨dept, n0⟩, o, 1, paper, text, []⟩ : De))]).map rowH := by rw [w1, List.map_append]; rfl
      have hss := sortH_ct (g := 41) hB41 add2H_calls (s := (.arr 7 [.agg [.str dept, .int .i64 n0, .sl 1 0 o.length o.length, .int .i64 1, .str paper, .str text, .str []]]) :: (.arr 2 (o.map stA)) :: .arr 7 [(.agg [.str dept, .int .i64 n0, .sl 1 0 o.length o.length, .int .i64 1, .str paper, .str text, .str []])] :: .arr 7 (hde 5 l ++ [(.agg [.str dept, .int .i64 n0, .sl 1 0 o.length o.length, .int .i64 1, .str paper, .str text, .str []])]) :: tlS l) (bid := 3) (l := rows ++ [(1, (⟨⟨dept, n0⟩, o, 1, paper, text, []⟩ : De))]) (by rw [e1]; rfl) (by simp; omega)
      have hrw : (rows ++ [((1, (⟨⟨dept, n0⟩, o, 1, paper, text, []⟩ : De)) : Nat × De)]).length = l.length + 1 := by simp [hrl]
      rw [hrw] at hss
      simp only [addE, addT]
      refine go (N := 106) Tryz.ntmps9 300 ?_
      simp only [go_sem]
      refine acall (hss) (N := 106) Tryz.ntmps9 rfl ?_
      rintro _ _ ⟨rfl, l', rfl, hp', _⟩
      have hl' := hp'.length_eq
      simp only [List.length_append, List.length_cons, List.length_nil, Nat.zero_add, hrl] at hl'
      refine go (N := 106) Tryz.ntmps9 300 ?_
      simp only [go_sem]
      refine aret [12, 13] rfl ⟨3, l', by simp [resV, Av.get, Av.put, hl'], own_tab [(.arr 7 [.agg [.str dept, .int .i64 n0, .sl 1 0 o.length o.length, .int .i64 1, .str paper, .str text, .str []]]), (.arr 2 (o.map stA)), .arr 7 [(.agg [.str dept, .int .i64 n0, .sl 1 0 o.length o.length, .int .i64 1, .str paper, .str text, .str []])]] _ l l' rfl (fun x hx => ?_) (fun x hx => ?_), ?_⟩
      · rcases List.mem_append.1 (hp'.mem_iff.1 hx) with h | h
        · exact .inl (w3 x h)
        · rw [List.mem_singleton.1 h]
          exact .inr ⟨by simp, rfl⟩
      · rcases List.mem_append.1 (hp'.mem_iff.1 hx) with h | h
        · have : x.2 ∈ l := by rw [← w2]; exact List.mem_map.2 ⟨x, h, rfl⟩
          have := (hl.all _ this).seen
          omega
        · rw [List.mem_singleton.1 h]
          simp only
          omega
      · refine ⟨?_, by omega⟩
        simp only [List.set_cons_succ, List.set_cons_zero, List.all_cons, mpOk_tlS]
        rfl
end Go.Proofs.YtkomcdohejibmaaGreatDoor
