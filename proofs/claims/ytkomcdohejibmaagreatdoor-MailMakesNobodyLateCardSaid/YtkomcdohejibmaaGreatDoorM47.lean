/- What a person has of a paper; who is late. Own work of this seat. -/
import Derived.Test.YtkomcdohejibmaaGreatDoorM46
import Derived.Test.YtkomcdohejibmaaGreatDoorM23
set_option maxRecDepth 100000
set_option linter.unusedSimpArgs false
set_option linter.unusedVariables false
namespace Go.Proofs.YtkomcdohejibmaaGreatDoor
open Go Go.Av Go.RowKit

def carriedL (l : List De) (paper : List UInt8) (ms : List De) : List St := ms.flatMap fun m => versL (knownL l m) paper
def hadL (l : List De) (paper person : List UInt8) : List St := (lastL (l.filter fun d => decide (d.st ∈ carriedL l paper (lastL (l.filter (mailP l paper person)))))).map (·.st)
theorem vers_len (l : List De) (paper : List UInt8) : (versL l paper).length ≤ l.length := by
  unfold versL lastL
  rw [List.length_map]
  exact Nat.le_trans (List.length_filter_le _ _) (List.length_filter_le _ _)
theorem had_len (l : List De) (paper person : List UInt8) : (hadL l paper person).length ≤ l.length := by
  unfold hadL lastL
  rw [List.length_map]
  exact Nat.le_trans (List.length_filter_le _ _) (List.length_filter_le _ _)
set_option maxHeartbeats 8000000 in
theorem had_pc (l : List De) (paper person : List UInt8) (hl : SzL l) (hlen : l.length ≤ 1000) : Pc Tryz.prog 62 [.fz 7 (l.map deA), .str paper, .str person] (· = .fz 2 ((hadL l paper person).map stA)) := by
  have hch := chosen_pc 117 [.pin 1 [.str paper] 0 0, .pin 1 [.fz 7 (l.map deA)] 0 0, .pin 1 [.str person] 0 0] rfl (mailP l paper person) l hl.sz fun x hx => hadFn_pc l paper person hl hlen x hx
  have hla := last_pc _ (hl.sz.filter (mailP l paper person))
  obtain ⟨ms, hms⟩ : ∃ ms, lastL (l.filter (mailP l paper person)) = ms := ⟨_, rfl⟩
  have hmm : ∀ m ∈ ms, m ∈ l := fun m hm => by
    rw [← hms] at hm
    exact (List.mem_filter.1 (last_mem.1 hm).1).1
  have hml : ms.length ≤ l.length := by
    rw [← hms]
    unfold lastL
    exact Nat.le_trans (List.length_filter_le _ _) (List.length_filter_le _ _)
  unfold hadL
  rw [hms] at hla ⊢
  refine pc_intro (ct_intro Tryz.func62 rfl Tryz.ntmps62 hB62 (by simp) fun h ρ w => goB (N := 57) Tryz.ntmps62 300 ?_)
  simp only [go_sem]
  refine pcall1 (hch) rfl (N := 57) Tryz.ntmps62 rfl (goB (N := 57) Tryz.ntmps62 300 ?_)
  simp only [go_sem]
  refine pcall1 (hla) rfl (N := 57) Tryz.ntmps62 rfl (goB (N := 57) Tryz.ntmps62 300 ?_)
  simp only [go_sem, List.length_map]
  repeat refine And.intro (by first | omega | rfl | exact .inl rfl | exact .inl trivial | (simp; done) | (simp; omega)) ?_
  refine aloop (ι := Nat × List St) (fun y => ms.length - y.1)
    (fun y => [(23, .int .i64 y.1), (22, .int .i64 ms.length), (21, .fz 7 (ms.map deA)), (8, .ptr 1 1 0 0), (4, .pin 1 [.str paper] 0 0), (3, .pin 1 [.fz 7 (l.map deA)] 0 0)])
    (fun y => [.mp (thM y.2), .arr 1 [.mp 0]]) (fun y => y.1 ≤ ms.length ∧ ∀ s, s ∈ y.2 ↔ s ∈ carriedL l paper (ms.take y.1)) (0, []) ⟨by simp, by simp [carriedL]⟩ ?_ ?_
  · refine Shift.weakS ?_ rfl
    simp only [wk, go_sem]
  rintro ⟨i, ks⟩ ⟨g1, g2⟩ J hJ
  simp only at g1 g2 hJ ⊢
  by_cases gi : i < ms.length
  · have di : decide ((i : Int) < (ms.length : Int)) = true := by simp; omega
    have p1 := deA_get ms i gi
    have hkn := known_pc l ms[i] hl.sz (hl.all _ (hmm _ (List.getElem_mem gi))).seen
    have hkl : SzL (knownL l ms[i]) := hl.filter _
    have hve := vers_pc (knownL l ms[i]) paper hkl.sz
    have hvl := vers_len (knownL l ms[i]) paper
    have hkll : (knownL l ms[i]).length ≤ l.length := List.length_filter_le _ _
    have hst : carriedL l paper (ms.take (i + 1)) = carriedL l paper (ms.take i) ++ versL (knownL l ms[i]) paper := by
      unfold carriedL
      rw [List.take_succ_eq_append_getElem gi, List.flatMap_append]
      simp
    generalize hvs : versL (knownL l ms[i]) paper = vs at *
    generalize hkm : knownL l ms[i] = km at *
    simp only [deA] at hkn
    refine goB (N := 57) Tryz.ntmps62 300 ?_
    simp only [go_sem, di, p1, List.length_map]
    repeat refine And.intro (by first | omega | rfl | exact .inl rfl | exact .inl trivial | (simp; done) | (simp; omega)) ?_
    refine adraw [.fz 7 (km.map deA), .fz 2 (vs.map stA)] mixed (by decide) (N := 57) Tryz.ntmps62 (by decide) 100 ?_
    simp only [go_sem, List.length_map]
    repeat refine And.intro (by first | exact hkn.at | exact hve.at | omega | rfl | kernel_rfl | exact .inl rfl | exact .inl trivial | (simp; done) | (simp; omega)) ?_
    refine goB (N := 57) Tryz.ntmps62 300 ?_
    simp only [go_sem, List.length_map]
    refine aloop (ι := Nat × List St) (fun y => vs.length - y.1)
      (fun y => [(33, .int .i64 y.1), (32, .int .i64 vs.length), (31, .fz 2 (vs.map stA)), (23, .int .i64 i), (22, .int .i64 ms.length), (21, .fz 7 (ms.map deA)), (8, .ptr 1 1 0 0), (4, .pin 1 [.str paper] 0 0), (3, .pin 1 [.fz 7 (l.map deA)] 0 0)])
      (fun y => [.mp (thM y.2), .arr 1 [.mp 0]]) (fun y => y.1 ≤ vs.length ∧ ∀ s, s ∈ y.2 ↔ s ∈ carriedL l paper (ms.take i) ∨ s ∈ vs.take y.1) (0, ks) ⟨by simp, by simpa using g2⟩ ?_ ?_
    · refine Shift.low 2 (by simp) (by simp) ?_ ?_
      · simp only [List.take_succ_cons, List.take_zero, List.all_cons, List.all_nil, low_thM, Bool.true_and]
        rfl
      · simp only [wkl, lowV, lowC, Av.get, go_sem]
    rintro ⟨j, ks2⟩ ⟨h1, h2⟩ K hK
    simp only at h1 h2 hK ⊢
    by_cases gj : j < vs.length
    · have dj : decide ((j : Int) < (vs.length : Int)) = true := by simp; omega
      have p2 := stA_get vs j gj
      have hst2 : ∀ s, s ∈ vs.take (j + 1) ↔ s ∈ vs.take j ∨ s = vs[j] := fun s => by
        rw [List.take_succ_eq_append_getElem gj, List.mem_append, List.mem_singleton]
      have hlow : ∀ (x : List St) (y : Blk), ([Blk.mp (thM x), .arr 1 [.mp 0], y].take 2).all (lowB 2) = true := fun x y => by
        simp only [List.take_succ_cons, List.take_zero, List.all_cons, List.all_nil, low_thM, Bool.true_and]
        rfl
      rcases thM_find vs[j] ks2 with ⟨m1, m2⟩ | ⟨q, m1, m2⟩
      · have hfin := hK (j + 1, ks2 ++ [vs[j]]) ⟨by simp only; omega, fun s => by
          simp only
          rw [List.mem_append, List.mem_singleton, h2, hst2, or_assoc]⟩ (by simp only; omega)
        have hl3 := hlow (ks2 ++ [vs[j]])
        simp only [stA] at m1
        rw [← thM_push] at hfin hl3
        simp only [stA] at hfin hl3
        refine goB (N := 57) Tryz.ntmps62 300 ?_
        simp only [go_sem, dj, p2, List.length_map, m1]
        repeat refine And.intro (by first | omega | rfl | kernel_rfl | exact .inl rfl | exact .inl trivial | (simp; done) | (simp; omega)) ?_
        rw [show (j : Int) + 1 = ((j + 1 : Nat) : Int) by omega]
        refine ainv hfin (Shift.low 2 (by simp) (by simp) (hl3 _) ?_)
        simp only [wkl, lowV, lowC, Av.get, go_sem]
      · have m3 : vs[j] ∈ ks2 := List.mem_of_getElem? m2
        have hfin := hK (j + 1, ks2) ⟨by simp only; omega, fun s => by
          simp only
          rw [hst2, ← or_assoc, ← h2]
          exact ⟨.inl, fun h => h.elim id fun h => by rw [h]; exact m3⟩⟩ (by simp only; omega)
        have hset := thM_set ks2 _ _ m2
        simp only [stA] at m1 hset
        refine goB (N := 57) Tryz.ntmps62 300 ?_
        simp only [go_sem, dj, p2, List.length_map, m1, hset]
        repeat refine And.intro (by first | omega | rfl | kernel_rfl | exact .inl rfl | exact .inl trivial | (simp; done) | (simp; omega)) ?_
        rw [show (j : Int) + 1 = ((j + 1 : Nat) : Int) by omega]
        refine ainv hfin (Shift.low 2 (by simp) (by simp) (hlow _ _) ?_)
        simp only [wkl, lowV, lowC, Av.get, go_sem]
    · have dj : decide ((j : Int) < (vs.length : Int)) = false := by simp; omega
      have hj : j = vs.length := by omega
      have hfin := hJ (i + 1, ks2) ⟨by simp only; omega, fun s => by
        simp only
        rw [h2, hst, List.mem_append, hj, List.take_length]⟩ (by simp only; omega)
      refine goB (N := 57) Tryz.ntmps62 300 ?_
      simp only [go_sem, dj]
      repeat refine And.intro (by first | omega | rfl | (simp; done) | (simp; omega)) ?_
      rw [show (i : Int) + 1 = ((i + 1 : Nat) : Int) by omega]
      refine ainv hfin (Shift.weakS ?_ rfl)
      simp only [wk, go_sem]
  have di : decide ((i : Int) < (ms.length : Int)) = false := by simp; omega
  have hi : i = ms.length := by omega
  rw [hi, List.take_length] at g2
  have hco := chosenHad_ct ks l hl.sz
  have hfe : (l.filter fun d => decide (d.st ∈ ks)) = l.filter fun d => decide (d.st ∈ carriedL l paper ms) := by
    apply List.filter_congr
    intro d _
    rw [decide_eq_decide]
    exact g2 d.st
  rw [hfe] at hco
  have hla2 := last_pc _ (hl.sz.filter fun d => decide (d.st ∈ carriedL l paper ms))
  have hxl : (lastL (l.filter fun d => decide (d.st ∈ carriedL l paper ms))).length ≤ l.length := by
    unfold lastL
    exact Nat.le_trans (List.length_filter_le _ _) (List.length_filter_le _ _)
  generalize lastL (l.filter fun d => decide (d.st ∈ carriedL l paper ms)) = xs at *
  generalize (l.filter fun d => decide (d.st ∈ carriedL l paper ms)) = fs at *
  clear hJ
  refine goB (N := 57) Tryz.ntmps62 300 ?_
  simp only [go_sem, di]
  refine acall (hco) (N := 57) Tryz.ntmps62 rfl ?_
  rintro _ s2 ⟨rfl, hs2⟩
  refine AWp.shift (Shift.low 0 (e' := [(43, .fz 7 (fs.map deA)), (13, .raw (.slice none 0 0))]) (by simp) (by simp) (by simp) (by simp only [wkl, lowV, lowC, Av.get, go_sem])) ?_
  rw [List.take_zero]
  refine goB (N := 57) Tryz.ntmps62 300 ?_
  simp only [go_sem]
  refine pcall1 (hla2) rfl (N := 57) Tryz.ntmps62 rfl (goB (N := 57) Tryz.ntmps62 300 ?_)
  simp only [go_sem, List.length_map]
  refine aloop (ι := Nat) (fun i => xs.length - i) (fun i => [(46, .int .i64 i), (45, .int .i64 xs.length), (44, .fz 7 (xs.map deA)), (13, .sl 0 0 i i)])
    (fun i => [.arr 2 (((xs.take i).map (·.st)).map stA)]) (fun i => i ≤ xs.length) 0 (by simp) ?_ ?_
  · refine Shift.trans (Shift.nilsl 13 2 rfl) (Shift.weakS ?_ rfl)
    simp only [wk, go_sem, List.length_map]
  intro t g3 T hT
  by_cases gt : t < xs.length
  · have dt : decide ((t : Int) < (xs.length : Int)) = true := by simp; omega
    have hst := map_step xs t gt
    have hlent : (xs.take t).length = t := by simp; omega
    have hfin := hT (t + 1) (by omega) (by omega)
    simp only [hst] at hfin
    generalize xs.take t = o at *
    refine goB (N := 57) Tryz.ntmps62 300 ?_
    simp only [go_sem, dt, deA_get xs t gt, List.length_map]
    repeat refine And.intro (by first | omega | rfl | exact .inl rfl | exact .inl trivial | (simp; done) | (simp; omega)) ?_
    rw [show (t : Int) + 1 = ((t + 1 : Nat) : Int) by omega]
    simp only [List.map_append, List.map_cons, List.map_nil, stA] at hfin
    refine ainv hfin (Shift.low 1 (by simp) (by simp) ?_ ?_)
    · have := low_sts 1 (o.map (·.st) ++ [xs[t].st])
      simp only [List.map_append, List.map_cons, List.map_nil, stA] at this
      simp only [List.take_succ_cons, List.take_zero, List.all_cons, List.all_nil, this, Bool.and_self]
    · simp only [wkl, lowV, lowC, Av.get, go_sem]
  · have dt : decide ((t : Int) < (xs.length : Int)) = false := by simp; omega
    have : t = xs.length := by omega
    subst this
    rw [List.take_length]
    refine goB (N := 57) Tryz.ntmps62 300 ?_
    simp only [go_sem, dt]
    exact ARet.shift (Shift.freeze 6 (id := 0) (l := (xs.map (·.st)).map stA) rfl rfl (by simp) (Nat.le_refl _) (stA_frz _)) (aret [6] rfl ⟨by simp only [resV, Av.get, Av.put, beq_self_eq_true, cond_true, List.drop_zero]; rw [List.take_of_length_le (by simp)], rfl⟩)
/-- who is late with a paper -/
def lateL (l : List De) (paper : List UInt8) : List (List UInt8) := (mayL l paper).filter fun k => !decide (hadL l paper k = versL l paper)
set_option maxHeartbeats 4000000 in
theorem late_pc (l : List De) (paper : List UInt8) (hl : SzL l) (hlen : l.length ≤ 1000) : Pc Tryz.prog 21 [.fz 7 (l.map deA), .str paper] (fun r => ∃ (o : List (List UInt8)) (n : Int), r = .tup [.fz 1 (o.map .str), .int .i64 n] ∧ (CkOk l → l.any (putOn paper) = true → n = 0 ∧ o = lateL l paper)) := by
  have hpf := paperFault_pc l paper hl
  have hve := vers_pc l paper hl.sz
  have hma := may_pc l paper hl hlen
  have hml := mayL_len l paper
  have hvl := vers_len l paper
  refine pc_intro (ct_intro Tryz.func21 rfl Tryz.ntmps21 hB21 (by simp) fun h ρ w => goB (N := 41) Tryz.ntmps21 300 ?_)
  simp only [go_sem]
  refine pcall (hpf) rfl (N := 41) Tryz.ntmps21 rfl ?_
  rintro _ ⟨n, rfl, hn⟩
  cases e0 : n != 0 with
  | true =>
    have e0' : n ≠ 0 := by simpa using e0
    refine goB (N := 41) Tryz.ntmps21 300 ?_
    simp only [go_sem, e0]
    exact ARet.shift (Shift.nilfz 4 1 rfl) (aret [4, 5] rfl ⟨⟨[], n, rfl, fun h1 h2 => absurd (hn.2 ⟨h1, h2⟩) e0'⟩, rfl⟩)
  | false =>
  have e0' : n = 0 := by simpa using e0
  refine goB (N := 41) Tryz.ntmps21 300 ?_
  simp only [go_sem, e0]
  refine pcall1 (hve) rfl (N := 41) Tryz.ntmps21 rfl (goB (N := 41) Tryz.ntmps21 300 ?_)
  simp only [go_sem]
  refine pcall1 (hma) rfl (N := 41) Tryz.ntmps21 rfl (goB (N := 41) Tryz.ntmps21 300 ?_)
  simp only [go_sem, List.length_map]
  unfold lateL
  generalize mayL l paper = q at *
  generalize hvs : versL l paper = vs at *
  refine aloop (ι := Nat) (fun i => q.length - i)
    (fun i => [(24, .int .i64 i), (23, .int .i64 q.length), (22, .fz 1 (q.map .str)), (8, .sl 0 0 ((q.take i).filter fun k => !decide (hadL l paper k = vs)).length ((q.take i).filter fun k => !decide (hadL l paper k = vs)).length), (7, .fz 2 (vs.map stA)), (5, .int .i64 0), (1, .str paper), (0, .fz 7 (l.map deA))])
    (fun i => [.arr 1 (((q.take i).filter fun k => !decide (hadL l paper k = vs)).map .str)]) (fun i => i ≤ q.length) 0 (by simp) ?_ ?_
  · refine Shift.trans (Shift.nilsl 8 1 rfl) (Shift.weakS ?_ rfl)
    simp only [wk, go_sem, List.take_zero, List.filter_nil, List.length_nil]
  intro i g1 J hJ
  by_cases gi : i < q.length
  · have di : decide ((i : Int) < (q.length : Int)) = true := by simp; omega
    have p1 := dstr_get gi
    have hha := had_pc l paper q[i] hl hlen
    have hhl := had_len l paper q[i]
    have heq := eqSts_pc (hadL l paper q[i]) vs (by omega) (by omega)
    have hst := filter_step (fun k => !decide (hadL l paper k = vs)) q i gi
    have hfin := hJ (i + 1) (by omega) (by omega)
    rw [hst] at hfin
    have hol : ((q.take i).filter fun k => !decide (hadL l paper k = vs)).length ≤ i := Nat.le_trans (List.length_filter_le _ _) (by simp; omega)
    generalize ((q.take i).filter fun k => !decide (hadL l paper k = vs)) = o at *
    generalize hq : q[i] = qi at *
    refine goB (N := 41) Tryz.ntmps21 300 ?_
    simp only [go_sem, di, p1, List.length_map]
    repeat refine And.intro (by first | omega | rfl | kernel_rfl | (simp; done) | (simp; omega)) ?_
    refine pcall1 (hha) rfl (N := 41) Tryz.ntmps21 rfl (goB (N := 41) Tryz.ntmps21 300 ?_)
    simp only [go_sem]
    refine pcall1 (heq) rfl (N := 41) Tryz.ntmps21 rfl (goB (N := 41) Tryz.ntmps21 300 ?_)
    cases hb : decide (hadL l paper qi = vs) with
    | true =>
      rw [hb] at hfin
      simp only [Bool.not_true, Bool.false_eq_true, if_false, List.append_nil] at hfin
      simp only [go_sem]
      repeat refine And.intro (by first | omega | rfl | exact .inl rfl | exact .inl trivial | (simp; done) | (simp; omega)) ?_
      rw [show (i : Int) + 1 = ((i + 1 : Nat) : Int) by omega]
      refine ainv hfin (Shift.weakS ?_ rfl)
      simp only [wk, go_sem]
    | false =>
      rw [hb] at hfin
      simp only [Bool.not_false, if_true, List.length_append, List.length_cons, List.length_nil, List.map_append, List.map_cons, List.map_nil, Nat.zero_add] at hfin
      simp only [go_sem, List.length_map]
      repeat refine And.intro (by first | omega | rfl | exact .inl rfl | exact .inl trivial | (simp; done) | (simp; omega)) ?_
      rw [show (i : Int) + 1 = ((i + 1 : Nat) : Int) by omega]
      refine ainv hfin (Shift.weakS ?_ rfl)
      simp only [wk, go_sem]
  have di : decide ((i : Int) < (q.length : Int)) = false := by simp; omega
  have hi2 : i = q.length := by omega
  subst hi2
  rw [List.take_length]
  clear hJ
  generalize (q.filter fun k => !decide (hadL l paper k = vs)) = o at *
  refine goB (N := 41) Tryz.ntmps21 300 ?_
  simp only [go_sem, di]
  exact ARet.shift (Shift.freeze 4 (id := 0) (l := o.map .str) rfl rfl (by simp) (Nat.le_refl _) (strs_frz _)) (aret [4, 5] rfl ⟨⟨o, 0, by simp only [resV, Av.get, Av.put, beq_self_eq_true, cond_true, cond_false, List.drop_zero, take_map, Nat.reduceBEq, List.map_cons, List.map_nil], fun _ _ => ⟨rfl, rfl⟩⟩, rfl⟩)
end Go.Proofs.YtkomcdohejibmaaGreatDoor
